/- THE WALK of the law GaugeOutliers. -/
import Derived.Test.YtkgoojilmnkgiaaOutl
import Derived.Test.YtkgoojilmnkgiaaRefSeries
import Derived.Test.YtkgoojilmnkgiaaWakes
namespace Go.Proofs.Ytkgoojilmnkgiaa
open Go.RowKit Go.Proofs

set_option maxRecDepth 100000 in
set_option maxHeartbeats 1000000 in
theorem GaugeOutliers_w {l : List (Int × Int)} {A : Option Addr} {n c : Nat} {far : Int} {w : World} (h : Rd enc2 2 w A n l) :
    Calls Try.prog 8 #[.slice A n c, .int .i64 far] w fun e w' => e = .returned (.bool true) ∧ Below w.heap.size w w' := by
  have hl := h.len
  have HL := Lib.hid hl; clear hl
  by_cases h65 : n ≤ 65
  · go_enter Try.func8, Try.ntmps8
    go_wp2_with fail
    refine (Points_c h (by omega)).mono ?_
    rintro e w1 ⟨A', c', rfl, hc', hown, hb1⟩
    have hr1 := Rd.of_own enc2_len hown HL.out
    clear hown
    have HO := Lib.hid (Outliers_c (c := c') (far := far) hr1)
    have HB1 := Lib.hid hb1
    clear hr1 hb1
    go_wp2_with fail
    refine HO.out.mono ?_
    rintro e w2 ⟨B, m, d, rfl, hmd, hb2, hno, hyes⟩
    have HB2 := Lib.hid (below_tr HB1.out hb2)
    have HNO := Lib.hid hno; have HYES := Lib.hid hyes
    clear HO HB1 hb2 hno hyes
    have HA := Lib.hid (asked2_c (c := c) (s := far) (h.below HB2.out))
    go_wp2_with fail
    refine HA.out.mono ?_
    rintro e w3 ⟨rfl, hb3⟩
    have HB3 := Lib.hid (below_tr HB2.out hb3)
    by_cases he : askedE l far = 0
    · have HR := Lib.hid ((HYES.out he).below hb3)
      obtain ⟨hser, hin⟩ := askedE_zero.1 he
      rw [inB_iff] at hin
      have HSER := Lib.hid hser
      have h3 := h.below HB3.out
      rw [he]
      clear hb3 hser HB2 HNO HYES he HA
      obtain ⟨i0, hi0, hz0, hz1, hz2⟩ := info_parts infoI
      have HI := Lib.hid hi0; have HZ0 := Lib.hid hz0; have HZ1 := Lib.hid hz1; have HZ2 := Lib.hid hz2
      clear hi0 hz0 hz1 hz2
      go_wp2_with fail
      go_loopw [8, 9] (fun v i wr => ∃ k : Nat, k ≤ n ∧ i = .int .i64 k ∧ wr.ownsRow w3.heap.size 3 1 v (outTo l far k).length (natV (outTo l far k)) ∧ Below w3.heap.size w3 wr) (fun _ i _ => n - (intOf i).toNat)
      case atStart => exact ⟨0, Nat.zero_le _, rfl, World.ownsRow_nil _ _ _ _, Below.refl _ _⟩
      case round =>
        obtain ⟨k, hk, rfl, hown, hb⟩ := hrel
        have HO := Lib.hid hown; have HB := Lib.hid hb; clear hown hb
        by_cases hlt : k < n
        · have hkn : (k : Int) < (n : Int) := by omega
          have hsc := Stands_c (c := c) (h3.below HB.out) HSER.out hin hlt
          have hlen := outTo_len l far k
          have hszr := HB.out.size
          cases hs : stAt l far k <;> rw [hs] at hsc <;> have HSC := Lib.hid hsc <;> clear hsc
          · go_wp2_with fail
            refine HSC.out.mono ?_
            rintro e w4 ⟨rfl, hb4⟩
            go_wp2_with fail
            go_roundw
            case rel => exact ⟨k + 1, by omega, by go_num, by rw [outTo_no hs]; exact own_mono HO.out hb4, below_tr HB.out hb4⟩
            case measure => simp [intOf] <;> omega
          · go_wp2_with fail
            refine HSC.out.mono ?_
            rintro e w4 ⟨rfl, hb4⟩
            have HQ := Lib.hid (own_mono HO.out hb4)
            have HB4 := Lib.hid (below_tr HB.out hb4)
            have hsz4 := HB4.out.size
            clear hb4
            go_wp2_with (at_builtin; go_must (refine wpList_append_own_at _ rfl _ _ 33 rfl w3.heap.size 3 i0 (.int .i64 0) 1 8 Try.underlying33 HI.out HZ0.out HZ1.out HZ2.out rfl (by decide) _ _ _ rfl (HQ.out.alloc _) ⟨w4.heap.size, 0, none⟩ 1 1 [.int .i64 (k : Int)] rfl rfl (cell_one_new _ _ _) (by simp [Value.oneCell']) (by unfold maxLen; omega) (by omega) (by simp; omega) ?_; intro v' w5 hown' hgrow _ _))
            have hown2 : Hid (w5.ownsRow w3.heap.size 3 1 v' (outTo l far (k + 1)).length (natV (outTo l far (k + 1)))) := by
              rw [outTo_yes hs, natV_append, List.length_append]
              exact hown'
            have hb5 : Hid (Below w3.heap.size w3 w5) := (HB4.out.alloc (by omega) _).grown hgrow (by simp; omega) (fun g hg => (HQ.out.lt g hg).1)
            clear hown' hgrow
            go_roundw
            case rel => exact ⟨k + 1, by omega, by go_num, hown2.out, hb5.out⟩
            case measure => simp [intOf] <;> omega
        · obtain rfl : k = n := by omega
          obtain ⟨A4, c4, rfl, hc4⟩ := own_form HO.out
          have hout : outTo l far k = outl l far := by rw [outl, HL.out]
          have hr4 : Rd enc1 1 wr A4 (outTo l far k).length ((outl l far).map Int.ofNat) := by
            have ho := HO.out
            rw [natV_enc] at ho
            rw [← hout]
            exact Rd.of_own enc1_len ho (by simp)
          have hm : m ≤ 1000000000 := by
            have := HR.out.len
            have h2 := outTo_len l far l.length
            simp only [List.length_map] at this
            rw [← this, outl]; have := HL.out; omega
          have hic := ints_c (c := d) (c' := c4) (HR.out.below HB.out) hr4 hm
          rw [decide_eq_true rfl] at hic
          have HIC := Lib.hid hic
          clear hr4 hic hout
          go_wp2_with fail
          refine HIC.out.mono ?_
          rintro e w5 ⟨rfl, hb5⟩
          go_wp2_with fail
          refine (wakes_ok _).mono ?_
          rintro e w6 ⟨rfl, hb6⟩
          go_wp2_with fail
          go_ret
          exact ⟨rfl, below_tr (below_tr (below_tr HB3.out HB.out) hb5) hb6⟩
    · have hm0 := HNO.out he
      subst hm0
      generalize askedE l far = q at *
      have hb0 : (q == 0) = false := by simpa using he
      have HE := Lib.hid he; clear he hb3
      go_wp2_with fail
      refine (wakes_ok _).mono ?_
      rintro e w6 ⟨rfl, hb6⟩
      go_wp2_with fail
      go_ret
      exact ⟨rfl, below_tr HB3.out hb6⟩
  · go_enter Try.func8, Try.ntmps8
    go_wp2_with fail
    refine (wakes_ok _).mono ?_
    rintro e w6 ⟨rfl, hb6⟩
    go_wp2_with fail
    go_ret
    exact ⟨rfl, hb6⟩
end Go.Proofs.Ytkgoojilmnkgiaa
