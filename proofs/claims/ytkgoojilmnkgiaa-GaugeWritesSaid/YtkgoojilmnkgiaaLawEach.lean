/- THE WALK of the law GaugeEach. -/
import Derived.Test.YtkgoojilmnkgiaaEachLaw
import Derived.Test.YtkgoojilmnkgiaaAppRd
import Derived.Test.YtkgoojilmnkgiaaConvRead
import Derived.Test.YtkgoojilmnkgiaaFault
import Derived.Test.YtkgoojilmnkgiaaWakes
import Derived.BigQuiet
import Derived.Deep.DeepCutAuto
namespace Go.Proofs.Ytkgoojilmnkgiaa
open Go.RowKit Go.Proofs

theorem oneB (x : UInt8) : ∀ u ∈ encB x, u.oneCell' = true := by intro u hu; simp [encB] at hu; subst hu; rfl
theorem oneR (r : Rdg) : ∀ u ∈ encR r, u.oneCell' = true := by intro u hu; simp [encR] at hu; rcases hu with rfl | rfl | rfl | rfl <;> rfl

set_option maxRecDepth 100000 in
set_option maxHeartbeats 1000000 in
theorem GaugeEach_w {bs : List UInt8} {rs : List Rdg} {A A' : Option Addr} {n c n' c' : Nat} {w : World} (h : Rd encB 1 w A n bs) (h' : Rd encR 4 w A' n' rs) (hc' : n' ≤ c') :
    Calls Try.prog 5 #[.slice A n c, .slice A' n' c'] w fun e w' => e = .returned (.bool true) ∧ Below w.heap.size w w' := by
  by_cases hbig : 2000 < n ∨ 100 < n'
  · have hor : (2000 < (n : Int)) ∨ (¬ 2000 < (n : Int) ∧ 100 < (n' : Int)) := by omega
    rcases hor with hn | ⟨hn, hn'⟩
    all_goals
      clear hbig
      go_enter Try.func5, Try.ntmps5
      go_wp2_with fail
      refine (wakes_ok _).mono ?_
      rintro e w2 ⟨rfl, hb2⟩
      go_wp2_with fail
      go_ret
      exact ⟨rfl, hb2⟩
  · have hn : n ≤ 2000 := by omega
    have hn' : n' ≤ 100 := by omega
    have hg1 : ¬ 2000 < (n : Int) := by omega
    have hg2 : ¬ 100 < (n' : Int) := by omega
    clear hbig
    obtain ⟨i0, hi0, hz0, hz1, hz2⟩ := info_parts infoU8
    obtain ⟨j0, hj0, hy0, hy1, hy2⟩ := info_parts infoRdg
    have HI := Lib.hid hi0; have HZ0 := Lib.hid hz0; have HZ1 := Lib.hid hz1; have HZ2 := Lib.hid hz2
    have HJ := Lib.hid hj0; have HY0 := Lib.hid hy0; have HY1 := Lib.hid hy1; have HY2 := Lib.hid hy2
    have HLEN := Lib.hid h.len
    have hro := read_ok (bs := bs) (by rw [h.len]; exact hn)
    have hmg := read_mg bs
    have hml := hmg.len
    rw [bytesOf_len, h.len] at hml
    have HRO := Lib.hid hro; have HMG := Lib.hid hmg; have HML := Lib.hid hml
    clear hi0 hz0 hz1 hz2 hj0 hy0 hy1 hy2 hro hmg hml
    go_enter Try.func5, Try.ntmps5
    go_wp2_with (at_builtin; go_must (refine wpList_append_rd rfl _ _ 23 rfl w.heap.size 5 i0 (.int .u8 0) 1 1 Try.underlying23 HI.out HZ0.out HZ1.out HZ2.out rfl (by decide) _ _ _ rfl (own_empty w 5 1) encB_len oneB A n c bs rfl (h.below ((Below.refl _ w).alloc (Nat.le_refl _) _)) (by unfold maxLen; omega) (by omega) (by simp) ?_; intro v1 w1 hown hgrow))
    have HB1 : Hid (Below w.heap.size w w1) := ((Below.refl _ w).alloc (Nat.le_refl _) _).grown hgrow (by simp) (fun g hg => ((own_empty w 5 1).lt g hg).1)
    rw [Nat.zero_add, List.nil_append] at hown
    obtain ⟨A1, c1, rfl, hc1⟩ := own_form hown
    have HR := Lib.hid (Read_c (Rd.of_own encB_len hown HLEN.out) hc1 (by omega))
    clear hown hgrow
    refine HR.out.mono ?_
    rintro e w2 ⟨A2, n2, c2, A3, n3, c3, rfl, hc2, hc3, hr2, hr3, hb⟩
    have HB2 := Lib.hid (below_tr HB1.out hb)
    have HR2 := Lib.hid hr2; have HR3 := Lib.hid hr3
    have hn2 : n2 ≤ 125 := by rw [← hr2.len]; exact HRO.out.1
    have hsum : n3 + n2 * 16 = n := by have h1 := hr3.len; have h2 := hr2.len; rw [List.length_map] at h1; have h3 := HML.out; rw [h1, h2] at h3; omega
    have hg3 : ¬ 125 < (n2 : Int) := by omega
    have HSUM := Lib.hid hsum
    clear hb hr2 hr3 HR HB1 hsum
    go_wp2_with (at_builtin; go_must (refine wpList_append_rd rfl _ _ 28 rfl w2.heap.size 53 j0 (.agg #[.int .i64 0, .int .i64 0, .int .i64 0, .int .i64 0]) 4 32 Try.underlying28 HJ.out HY0.out HY1.out HY2.out rfl (by decide) _ _ _ rfl (own_empty w2 53 4) encR_len oneR A2 n2 c2 (readOf bs) rfl (HR2.out.below ((Below.refl _ w2).alloc (Nat.le_refl _) _)) (by unfold maxLen; omega) (by omega) (by simp) ?_; intro v3 w3 hown hgrow))
    have hb3 : Below w2.heap.size w2 w3 := ((Below.refl _ w2).alloc (Nat.le_refl _) _).grown hgrow (by simp) (fun g hg => ((own_empty w2 53 4).lt g hg).1)
    rw [Nat.zero_add, List.nil_append] at hown
    obtain ⟨A4, c4, rfl, hc4⟩ := own_form hown
    have HW := Lib.hid (Write_c (Rd.of_own encR_len hown HR2.out.len) (by unfold maxLen; omega) hc4)
    have HB3 := Lib.hid (below_tr HB2.out hb3)
    have HR4 := Lib.hid (HR3.out.below hb3)
    rw [HRO.out.2] at HW
    clear hown hgrow hb3 HR3 HB2
    refine HW.out.mono ?_
    rintro e w4 ⟨⟨A5, m, c5, rfl, hm5, _, hok⟩, hb⟩
    obtain ⟨hm, hown⟩ := hok rfl
    have HB4 := Lib.hid (below_tr HB3.out hb)
    have HR5 := Lib.hid (HR4.out.below hb)
    have HWB : Hid (Rd encB 1 w4 A5 m (bytesOf (readOf bs))) := Rd.of_own encB_len hown (by rw [bytesOf_len, HR2.out.len, hm])
    have hsum2 : (m : Int) + (n3 : Int) = (n : Int) := by have := HSUM.out; omega
    have hs1 : IntKind.i64.wrap ((m : Int) + (n3 : Int)) = (n : Int) := by rw [hsum2]; exact wi (by omega)
    have hmn : m ≤ n := by have := HSUM.out; omega
    have hn3 : n3 ≤ n := by have := HSUM.out; omega
    have HS1 := Lib.hid hsum2
    clear hb hok hown HR4 HB3 HW hm hsum2
    go_wp2_with fail
    have hb0 := h.below HB4.out
    have HBS := Lib.hid hb0; clear hb0
    go_loopw [10, 11, 12] (fun a k i wr => ∃ a' k' i' : Nat, a = .int .i64 a' ∧ k = .int .i64 k' ∧ i = .int .i64 i' ∧ a' ≤ n3 ∧ k' ≤ m ∧ i' ≤ n ∧ Mg bs i' ((lostOf bs).drop a') ((bytesOf (readOf bs)).drop k') ∧ Below w4.heap.size w4 wr) (fun _ _ i _ => n - (intOf i).toNat)
    case atStart => exact ⟨0, 0, 0, rfl, rfl, rfl, Nat.zero_le _, Nat.zero_le _, Nat.zero_le _, HMG.out, Below.refl _ _⟩
    case round =>
      obtain ⟨a', k', i', rfl, rfl, rfl, ha, hk, hi, hmg, hb⟩ := hrel
      have HL5 := Lib.hid (HR5.out.below hb); have HW5 := Lib.hid (HWB.out.below hb); have HB5 := Lib.hid (HBS.out.below hb)
      have HB := Lib.hid hb; clear hb
      by_cases hlt : i' < n
      · have i1 : (i' : Int) < (n : Int) := by omega
        have i0' : (0 : Int) ≤ (i' : Int) := by omega
        rcases hmg.step (by rw [HLEN.out]; exact hlt) with ⟨hl, hmg'⟩ | ⟨x, hx, hwx, hno, hmg'⟩
        · have HM := Lib.hid hmg'
          have ha1 : a' < n3 := by have h1 := HR5.out.len; have h2 := (List.getElem?_eq_some_iff.1 hl).1; rw [List.length_map] at h1; omega
          obtain ⟨bl, ol, u, hA, _, hu, hcl⟩ := HL5.out.at1 ha1
          subst hA
          rw [List.getElem?_map, hl] at hu
          cases hu
          have hcl' : wr.cell? ⟨bl, ol + a', none⟩ = some (.int .i64 (i' : Int)) := hcl
          have a1 : (a' : Int) < (n3 : Int) := by omega
          have a0 : (0 : Int) ≤ (a' : Int) := by omega
          clear hmg hmg' hl hcl
          go_wp2
          go_roundw
          case rel => exact ⟨a' + 1, k', i' + 1, by go_num, rfl, by go_num, by omega, hk, by omega, HM.out, HB.out⟩
          case measure => simp [intOf] <;> omega
        · have HM := Lib.hid hmg'
          have hk1 : k' < m := by have h1 := HWB.out.len; have h2 := (List.getElem?_eq_some_iff.1 hwx).1; omega
          obtain ⟨bw, ow, y, hA, _, hy, hcw⟩ := HW5.out.atB hk1
          subst hA
          rw [hwx] at hy
          cases hy
          obtain ⟨bb, ob, y, hA, _, hy, hcb⟩ := HB5.out.atB hlt
          subst hA
          rw [hx] at hy
          cases hy
          have k1 : (k' : Int) < (m : Int) := by omega
          have k2 : ¬ (m : Int) ≤ (k' : Int) := by omega
          have k0 : (0 : Int) ≤ (k' : Int) := by omega
          have HNO := Lib.hid hno
          clear hmg hmg' hx hwx hno
          by_cases ha1 : a' < n3
          · obtain ⟨bl, ol, u, hA, _, hu, hcl⟩ := HL5.out.at1 ha1
            subst hA
            rw [List.getElem?_map] at hu
            obtain ⟨U, hU, rfl⟩ := Option.map_eq_some_iff.1 hu
            have hUi : U ≠ i' := fun e => HNO.out (by rw [hU, e])
            have hcl' : wr.cell? ⟨bl, ol + a', none⟩ = some (.int .i64 (U : Int)) := hcl
            have hne : ((U : Int) == (i' : Int)) = false := by rw [beq_eq_false_iff_ne]; omega
            have hne2 : ¬ (U : Int) = (i' : Int) := by omega
            have a1 : (a' : Int) < (n3 : Int) := by omega
            have a0 : (0 : Int) ≤ (a' : Int) := by omega
            clear hu hU hcl
            go_wp2
            go_quiet (fail)
            go_wp2
            go_roundw
            case rel => exact ⟨a', k' + 1, i' + 1, rfl, by go_num, by go_num, ha, by omega, by omega, HM.out, below_drewN HB.out _⟩
            case measure => simp [intOf] <;> omega
          · have a1 : ¬ (a' : Int) < (n3 : Int) := by omega
            go_wp2
            go_quiet (fail)
            go_wp2
            go_roundw
            case rel => exact ⟨a', k' + 1, i' + 1, rfl, by go_num, by go_num, ha, by omega, by omega, HM.out, below_drewN HB.out _⟩
            case measure => simp [intOf] <;> omega
      · obtain rfl : n = i' := by omega
        obtain rfl : n3 = a' := by
          have h1 := hmg.len; have h2 := HR5.out.len; have h3 := HLEN.out
          simp only [List.length_drop, List.length_map] at h1 h2
          omega
        have hbx := Lib.hid (below_tr HB4.out HB.out)
        clear hmg HL5 HW5 HB5 HBS HR5 HWB HB
        have hh' := h'.below hbx.out
        have HH := Lib.hid hh'; clear hh'
        go_wp2_with fail
        refine (Readings_c HH.out (by omega)).mono ?_
        rintro e w6 ⟨A6, c6, rfl, hc6, hr6, hb6⟩
        have HB6 := Lib.hid (below_tr hbx.out hb6)
        have HWR := Lib.hid (Write_c hr6 (by unfold maxLen; omega) hc6)
        clear hb6 hr6 hbx HH
        go_wp2_with fail
        refine HWR.out.mono ?_
        rintro e w7 ⟨⟨A7, m7, c7, rfl, hm7, _, hok⟩, hb⟩
        have HB7 := Lib.hid (below_tr HB6.out hb)
        have HOK := Lib.hid hok
        have hl7 := h'.len
        have HL7 := Lib.hid hl7
        clear hb hok hl7 HWR HB6
        cases hv : allB validB rs
        · have he : errR rs = 1 := by unfold errR; rw [if_neg (by have := HL7.out; omega), if_pos hv]
          have HE := Lib.hid he
          clear hv he HOK
          rw [HE.out]
          have h7 := h'.below HB7.out
          have HR7 := Lib.hid h7
          clear h7
          have hll : RdLL (w7.alloc (.cells #[.slice A' n' c'] 22)) (some ⟨w7.heap.size, 0, none⟩) 1 [⟨A', n', c', rs⟩] := by
            refine ⟨Rd.of_blk encL_len (heap_alloc_new w7 _) (fun (j : Nat) (v : Value) hv => by simpa [encL] using hv) rfl, fun i x hx => ?_⟩
            have hxe : x = ⟨A', n', c', rs⟩ := by have := List.mem_of_getElem? hx; simpa using this
            subst hxe
            exact ⟨HR7.out.below ((Below.refl _ w7).alloc (Nat.le_refl _) _), (show n' ≤ maxLen by unfold maxLen; omega), hc'⟩
          have hfc := Fault_c (c := 1) hll (by unfold maxLen; omega)
          rw [errL_one HL7.out, HE.out] at hfc
          have HFC := Lib.hid hfc
          clear hll hfc
          go_wp2_with fail
          refine HFC.out.mono ?_
          rintro e w8 ⟨rfl, hb8⟩
          have HB8 := Lib.hid (below_tr (HB7.out.alloc HB7.out.size (.cells #[.slice A' n' c'] 22)) hb8)
          clear hb8 HFC
          go_wp2_with fail
          refine (wakes_ok _).mono ?_
          rintro e w9 ⟨rfl, hb9⟩
          go_wp2_with fail
          go_ret
          exact ⟨rfl, below_tr HB8.out hb9⟩
        · have he : errR rs = 0 := errR_zero.2 ⟨by have := HL7.out; omega, hv⟩
          obtain ⟨hm, hown⟩ := HOK.out he
          have hrd := Read_c (Rd.of_own encB_len hown (by rw [bytesOf_len, HL7.out, hm])) hm7 (by omega)
          have hrb := read_bytes hv
          rw [hrb.1, hrb.2] at hrd
          rw [he]
          have HRD := Lib.hid hrd
          clear hv he hm hown hrd hrb HOK
          go_wp2_with fail
          refine HRD.out.mono ?_
          rintro e w8 ⟨A8, n8, c8, A9, n9, c9, rfl, hc8, hc9, hr8, hr9, hb⟩
          obtain rfl : n9 = 0 := by have := hr9.len; simpa using this.symm
          have HR8 := Lib.hid hr8
          have HB8 := Lib.hid (below_tr HB7.out hb)
          have h8 := h'.below HB8.out
          have H8 := Lib.hid h8
          clear hb hr8 hr9 HRD HB7 h8
          go_wp2_with fail
          refine (Readings_c H8.out (by omega)).mono ?_
          rintro e w9 ⟨A10, c10, rfl, hc10, hr10, hb9⟩
          have hn8 : n8 = n' := by have h1 := HR8.out.len; have h2 := HL7.out; omega
          have hsm := same_c (c := c8) (c' := c10) (HR8.out.below hb9) hr10 (by omega)
          rw [decide_eq_true rfl] at hsm
          have HSM := Lib.hid hsm
          have HB9 := Lib.hid (below_tr HB8.out hb9)
          clear hb9 hr10 hsm HB8 hn8
          go_wp2_with fail
          refine HSM.out.mono ?_
          rintro e w10 ⟨rfl, hb10⟩
          have HB10 := Lib.hid (below_tr HB9.out hb10)
          clear hb10
          go_wp2_with fail
          refine (wakes_ok _).mono ?_
          rintro e w11 ⟨rfl, hb11⟩
          go_wp2_with fail
          go_ret
          exact ⟨rfl, below_tr HB10.out hb11⟩
end Go.Proofs.Ytkgoojilmnkgiaa
