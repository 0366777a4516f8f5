/- CONTRACT of the reference's Near. -/
import Derived.Test.YtkgoojilmnkgiaaLine
import Derived.Test.YtkgoojilmnkgiaaNear
import Derived.Test.YtkgoojilmnkgiaaOutl
namespace Go.Proofs.Ytkgoojilmnkgiaa
open Go.RowKit Go.Proofs

set_option maxRecDepth 100000 in
set_option maxHeartbeats 1000000 in
theorem Near_c {l : List (Int × Int)} {A : Option Addr} {n c a b : Nat} {s : Int} {w : World} (h : Rd enc2 2 w A n l) (hok : SerOk l) (hab : a < b) (hbn : b < n) (hs : 0 ≤ s ∧ s ≤ 1000000000) :
    Calls Try.prog 70 #[.slice A n c, .int .i64 a, .int .i64 b, .int .i64 s] w fun e w' => e = .returned (.bool (nearB l a b s)) ∧ Below w.heap.size w w' := by
  have hn60 : n ≤ 60 := by rw [← h.len]; exact hok.len
  have HOK := Lib.hid hok; clear hok
  obtain ⟨bl, ol, xa, hA, hbll, ha, ca1, ca2⟩ := h.at2 (i := a) (by omega)
  subst hA
  obtain ⟨bl', ol', xb, hA, _, hb, cb1, cb2⟩ := h.at2 (i := b) hbn
  cases hA
  have hlt := HOK.out.mono hab ha hb
  have pa := HOK.out.pt ha; have pb := HOK.out.pt hb
  have hiff := nearB_iff (s := s) ha hb
  have HIFF := Lib.hid hiff
  have HPA := Lib.hid pa; have HPB := Lib.hid pb; have HXA := Lib.hid ha
  have HCA := Lib.hid (And.intro ca1 ca2); have HCB := Lib.hid (And.intro cb1 cb2)
  clear hiff pa pb ha hb ca1 ca2 cb1 cb2
  have w1 : IntKind.i64.wrap ((a : Int) + 1) = (a : Int) + 1 := wi (by omega)
  have wns : IntKind.i64.wrap (-s) = -s := wi (by omega)
  go_enter Try.func70, Try.ntmps70
  go_wp2_with fail
  go_loopw [9] (fun i wr => ∃ k : Nat, a + 1 ≤ k ∧ k ≤ b ∧ i = .int .i64 k ∧ Below w.heap.size w wr ∧ ∀ (j : Nat) (z : Int × Int), a < j → j < k → l[j]? = some z → nearP xa xb s z = true) (fun i _ => b - (intOf i).toNat)
  case atStart => exact ⟨a + 1, Nat.le_refl _, by omega, by go_num, Below.refl _ _, fun j z h1 h2 => by omega⟩
  case round =>
    obtain ⟨k, hk1, hk2, rfl, hbw, hall⟩ := hrel
    have HALL := Lib.hid hall; have HB := Lib.hid hbw
    clear hall hbw
    by_cases hlt2 : k < b
    · obtain ⟨bl', ol', z, hA, _, hz, cz1', cz2'⟩ := h.at2 (i := k) (by omega)
      cases hA
      have hpz := ptB_iff.1 (HOK.out.pt hz)
      have hlc := fun (W : World) => Line_c xa xb z.1 W HPA.out HPB.out hlt hpz.1
      have hlb := line_bd HPA.out HPB.out hlt hpz.1
      have hpa := ptB_iff.1 HPA.out
      have hlv : lineV xa xb z.1 = xa.2 + (xb.2 - xa.2) * (z.1 - xa.1) / (xb.1 - xa.1) := rfl
      have ca1 := (HB.out.cell (p := ⟨bl, ol + a * 2, none⟩) hbll).trans HCA.out.1
      have ca2 := (HB.out.cell (p := ⟨bl, ol + a * 2 + 1, none⟩) hbll).trans HCA.out.2
      have cb1 := (HB.out.cell (p := ⟨bl, ol + b * 2, none⟩) hbll).trans HCB.out.1
      have cb2 := (HB.out.cell (p := ⟨bl, ol + b * 2 + 1, none⟩) hbll).trans HCB.out.2
      have cz1 := (HB.out.cell (p := ⟨bl, ol + k * 2, none⟩) hbll).trans cz1'
      have cz2 := (HB.out.cell (p := ⟨bl, ol + k * 2 + 1, none⟩) hbll).trans cz2'
      have hnp : nearP xa xb s z = inB (z.2 - lineV xa xb z.1) (-s) s := rfl
      generalize lineV xa xb z.1 = L at hlc hlv hnp
      have wz : IntKind.i64.wrap (z.2 - L) = z.2 - L := wi (by omega)
      have HLC := Lib.hid hlc; have HZ := Lib.hid hz; have HNP := Lib.hid hnp
      clear hlc hz cz1' cz2' hlv hlb hnp
      have jl : (k : Int) < (b : Int) := by omega
      have jn : (k : Int) < (n : Int) := by omega
      have j0 : (0 : Int) ≤ (k : Int) := by omega
      have un : (a : Int) < (n : Int) := by omega
      have u0 : (0 : Int) ≤ (a : Int) := by omega
      have vn : (b : Int) < (n : Int) := by omega
      have v0 : (0 : Int) ≤ (b : Int) := by omega
      have lbl : bl < wr.heap.size := Nat.lt_of_lt_of_le hbll HB.out.size
      have wk : IntKind.i64.wrap ((k : Int) + 1) = (k : Int) + 1 := wi (by omega)
      by_cases hc1 : s < z.2 - L
      · have HF : Hid (nearB l a b s = false) := by
          show nearB l a b s = false
          rw [Bool.eq_false_iff]
          intro ht
          have := HIFF.out.1 ht k z (by omega) hlt2 HZ.out
          rw [HNP.out, inB_iff] at this; omega
        go_wp2_with fail
        refine wp_region_ext (by kernel_rfl) (by kernel_rfl) ?_
        repeat (go_big_quiet_step ((go_at_call 42; exact ext_call (HLC.out _))))
        refine wpQuiet_nil ?_
        rintro _ ⟨q, rfl⟩
        go_wp2
        go_ret
        exact ⟨by rw [HF.out]; rfl, below_tr HB.out q.below⟩
      · by_cases hc2 : z.2 - L < -s
        · have HF : Hid (nearB l a b s = false) := by
            show nearB l a b s = false
            rw [Bool.eq_false_iff]
            intro ht
            have := HIFF.out.1 ht k z (by omega) hlt2 HZ.out
            rw [HNP.out, inB_iff] at this; omega
          go_wp2_with fail
          refine wp_region_ext (by kernel_rfl) (by kernel_rfl) ?_
          repeat (go_big_quiet_step ((go_at_call 42; exact ext_call (HLC.out _))))
          refine wpQuiet_nil ?_
          rintro _ ⟨q, rfl⟩
          go_wp2
          go_ret
          exact ⟨by rw [HF.out]; rfl, below_tr HB.out q.below⟩
        · have HT : Hid (nearP xa xb s z = true) := by
            show nearP xa xb s z = true
            rw [HNP.out, inB_iff]; omega
          go_wp2_with fail
          refine wp_region_ext (by kernel_rfl) (by kernel_rfl) ?_
          repeat (go_big_quiet_step ((go_at_call 42; exact ext_call (HLC.out _))))
          refine wpQuiet_nil ?_
          rintro _ ⟨q, rfl⟩
          go_wp2
          go_roundw
          case rel => exact ⟨k + 1, by omega, by omega, by go_num, below_tr HB.out q.below, fun j y h1 h2 hy => by
            rcases Nat.lt_or_ge j k with hjk | hjk
            · exact HALL.out j y h1 hjk hy
            · obtain rfl : j = k := by omega
              rw [HZ.out] at hy; cases hy; exact HT.out⟩
          case measure => simp [intOf] <;> omega
    · obtain rfl : b = k := by omega
      have HT : Hid (nearB l a b s = true) := HIFF.out.2 fun i z h1 h2 hz => by
        rcases Nat.lt_or_ge a i with hai | hai
        · exact HALL.out i z hai h2 hz
        · obtain rfl : i = a := by omega
          rw [HXA.out] at hz; cases hz
          unfold nearP
          rw [show lineV xa xb xa.1 = xa.2 by simp [lineV], inB_iff]; omega
      go_wp2
      go_ret
      exact ⟨by rw [HT.out]; rfl, HB.out⟩
end Go.Proofs.Ytkgoojilmnkgiaa
