/- THE WALK of Thin's inner function rest. -/
import Derived.Test.YtkgoojilmnkgiaaThin
namespace Go.Proofs.Ytkgoojilmnkgiaa
open Go.RowKit Go.Proofs Go.Maps

set_option maxRecDepth 100000 in
set_option maxHeartbeats 1000000 in
theorem rest_c {l : List (Int × Int)} {s : Int} {last n c : Nat} {A : Option Addr} {b1 b2 b3 b4 b5 M : Nat} (hok : SerOk l) (hs : 0 ≤ s ∧ s ≤ 1000000000) (hn : last + 1 = n) (hc : n ≤ c) :
    ∀ (d : Nat) (w : World) (a : Nat), a + d = last → RestSt w l s last n c A b1 b2 b3 b4 b5 M →
    Calls Try.prog 67 #[.int .i64 a, .pointer (some ⟨b1, 0, none⟩), .pointer (some ⟨b2, 0, none⟩), .pointer (some ⟨b3, 0, none⟩), .pointer (some ⟨b4, 0, none⟩), .pointer (some ⟨b5, 0, none⟩)] w fun e w' =>
      ∃ r : Nat, e = .returned (.int .i64 r) ∧ IsRest l s last a r ∧ w.grownBy w' (some M) ∧ Memo w' M l s last := by
  intro d
  induction d using Nat.strongRecOn with
  | ind d ih =>
  intro w a had h
  have hl := h.rd.len
  have h60 := hok.len
  have HH := Lib.hid h
  have C1 := Lib.hid h.c1
  have C2 := Lib.hid h.c2
  have C3 := Lib.hid h.c3
  have C4 := Lib.hid h.c4
  have C5 := Lib.hid h.c5
  have IH := Lib.hid ih
  have HOK := Lib.hid hok
  have HL := Lib.hid hl
  have HS := Lib.hid hs
  clear h ih hok hl hs
  have c1 := C1.out
  by_cases hal : a = last
  · subst hal
    go_enter Try.func67, Try.ntmps67
    go_wp2_with fail
    go_ret
    exact ⟨0, rfl, isRest_last _ _ _, World.grownBy.refl _ _, HH.out.memo⟩
  · have halt : a < last := by omega
    have hne : ¬ ((a : Int) = (last : Int)) := by omega
    have hkey := keyOf_int_mk Try.underlying3 (wf_small (a := a) (by have := HL.out; omega))
    obtain ⟨nn, D, hown, hle, hsz, hD, hall⟩ := HH.out.memo
    have HALL := Lib.hid hall; clear hall
    have HD := Lib.hid hD; clear hD
    have c2 := C2.out
    by_cases hh : Maps.has D (keyI a) = true
    · obtain ⟨r, hr1, hr2⟩ := HALL.out a (.lit (.int .i64 0)) (by omega) hh
      have HR1 := Lib.hid hr1; clear hr1
      have HR2 := Lib.hid hr2; clear hr2
      unfold keyI at hh
      go_enter Try.func67, Try.ntmps67
      go_wp2_with (at_lookup; refine wpList_lookup_own_ok_int _ rfl _ _ 123 rfl 3 3 .i64 (int_keyed Try.underlying3) Try.underlying123 Try.underlying3 (zero_int _) M nn D rfl hown _ _ rfl hkey ?_; intro cc hat hwc; rw [hh])
      go_ret
      rw [show DataW.atKey D (Lit.int .i64 (a : Int)) (.lit (.int .i64 0)) = _ from HR1.out] at hat
      injection hat with hat
      injection hat with _ hat
      exact ⟨r, ret_int hat.symm, HR2.out, World.grownBy.refl _ _, HH.out.memo⟩
    · have hh' : Maps.has D (keyI a) = false := by simpa using hh
      unfold keyI at hh'
      clear hh
      have c3 := C3.out
      go_enter Try.func67, Try.ntmps67
      go_wp2_with (at_lookup; refine wpList_lookup_own_ok_int _ rfl _ _ 123 rfl 3 3 .i64 (int_keyed Try.underlying3) Try.underlying123 Try.underlying3 (zero_int _) M nn D rfl hown _ _ rfl hkey ?_; intro cc hat hwc; rw [hh'])
      go_loopw [10, 11] (fun x y wr => ∃ m k : Nat, a + 1 ≤ k ∧ k ≤ n ∧ x = .int .i64 m ∧ y = .int .i64 k ∧ m ≤ 60 ∧ MinTo l s last a k m ∧ w.grownBy wr (some M) ∧ RestSt wr l s last n c A b1 b2 b3 b4 b5 M) (fun _ y _ => n - (intOf y).toNat)
      case atStart => exact ⟨l.length, a + 1, by omega, by omega, by rw [HL.out], vint_succ (by have := HL.out; omega), by omega, MinTo.start l s last a, World.grownBy.refl _ _, HH.out⟩
      case round =>
        obtain ⟨m, k, hk1, hk2, rfl, rfl, hm, hmt, hg, hst⟩ := hrel
        have HM := Lib.hid hmt; clear hmt
        have HG := Lib.hid hg; clear hg
        have HST := Lib.hid hst; clear hst
        clear c1 c2 c3 hown
        have c1 := HST.out.c1
        have c2 := HST.out.c2
        have c3 := HST.out.c3
        have c4 := HST.out.c4
        have c5 := HST.out.c5
        by_cases hkl : k ≤ last
        · have hkl' : (k : Int) ≤ (last : Int) := by omega
          have hk6 : k < 1000 := by have := HL.out; omega
          have hcall := near_c (a := a) (b := k) HST.out.rd hc HOK.out (by omega) (by omega) HS.out
          cases hnr : nearB l a k s <;> rw [hnr] at hcall <;> have HC := Lib.hid hcall <;> clear hcall
          · go_wp2_with fail
            refine HC.out.mono ?_
            rintro e w1 ⟨rfl, hb⟩
            go_wp2_with fail
            go_roundw
            case rel => exact ⟨m, k + 1, by omega, by omega, rfl, rfl, hm, HM.out.far hnr, HG.out.trans (only_of_below hb _), HST.out.below hb⟩
            case measure => simp only [intOf]; omega
          · go_wp2_with fail
            refine HC.out.mono ?_
            rintro e w1 ⟨rfl, hb⟩
            have HB := Lib.hid hb; clear hb
            have HST1 := Lib.hid (HST.out.below HB.out)
            clear c1 c2 c3 c4 c5
            have c1 := HST1.out.c1
            have c3 := HST1.out.c3
            have c5 := HST1.out.c5
            go_wp2_with fail
            refine (IH.out (last - k) (by omega) w1 k (by omega) HST1.out).mono ?_
            rintro e w2 ⟨r, rfl, hr, hg2, hm2⟩
            have hrle := hr.le (by have := HL.out; omega) HS.out.1 hkl
            have HR := Lib.hid hr; clear hr
            have HG2 := Lib.hid hg2; clear hg2
            have HM2 := Lib.hid hm2; clear hm2
            have hrn : 0 ≤ (1 : Int) + (r : Int) ∧ (1 : Int) + (r : Int) ≤ 61 := by have := HL.out; omega
            go_wp2_with fail
            go_roundw
            case rel => exact ⟨min m (1 + r), k + 1, by omega, by omega, congrArg _ (by split <;> omega), rfl, by omega, HM.out.near (by omega) hkl hnr HR.out, HG.out.trans ((only_of_below HB.out _).trans HG2.out), HST1.out.grown HG2.out HM2.out⟩
            case measure => simp only [intOf]; omega
        · have hkl' : ¬ (k : Int) ≤ (last : Int) := by omega
          obtain rfl : k = last + 1 := by omega
          have hres := HM.out.done (by have := HL.out; omega) HS.out.1 halt
          have HRES := Lib.hid hres; clear hres
          obtain ⟨n2, D2, hown2, hle2, hsz2, hD2, hall2⟩ := HST.out.memo
          have hn2 : n2 < maxLen := by unfold maxLen; omega
          have HALL2 := Lib.hid hall2; clear hall2
          have hval : plainElem Try.prog 3 (Value.int .i64 (m : Int)) = some ((DataW.lit (.int .i64 (m : Int)) : DataW Unit), []) := plainElem_int Try.underlying3 (wf_small (by omega))
          go_wp2_with (at_mapUpdate; refine wpList_mapUpdate_own _ rfl _ _ _ 123 rfl 3 3 (int_keyed Try.underlying3) Try.underlying123 _ M n2 D2 rfl hown2 hn2 _ _ _ rfl rfl hkey _ [] hval ?_; intro w3 hown3 hg3)
          go_ret
          exact ⟨m, rfl, HRES.out, HG.out.trans hg3, Memo.put hsz2 hD2 hown2.isMap HALL2.out (by have := HL.out; omega) HRES.out hown3⟩
end Go.Proofs.Ytkgoojilmnkgiaa
