/- THE WALK of the law GaugeMerges. -/
import Derived.Test.YtkgoojilmnkgiaaLists
import Derived.Test.YtkgoojilmnkgiaaFault
import Derived.Test.YtkgoojilmnkgiaaWakes
namespace Go.Proofs.Ytkgoojilmnkgiaa
open Go.RowKit Go.Proofs

theorem fewB_n {ls : List Lst} (h : fewB ls = true) : ls.length ≤ 8 ∧ ∀ x ∈ ls, x.n ≤ 205 := by
  unfold fewB at h
  rw [Bool.and_eq_true, List.all_eq_true] at h
  refine ⟨by simpa using h.2, fun x hx => ?_⟩
  have := h.1 x hx
  simp at this
  omega

set_option maxRecDepth 100000 in
set_option maxHeartbeats 2000000 in
theorem GaugeMerges_w {ls : List Lst} {A : Option Addr} {n c : Nat} {w : World} (h : RdLL w A n ls) (hn : n ≤ maxLen) :
    Calls Try.prog 14 #[.slice A n c] w fun e w' => e = .returned (.bool true) ∧ Below w.heap.size w w' := by
  have HFW := Lib.hid (few_c (c := c) h hn)
  have HH := Lib.hid h
  have HL := Lib.hid h.1.len
  clear h
  cases hf : fewB ls
  · rw [hf] at HFW
    go_enter Try.func14, Try.ntmps14
    go_wp2_with fail
    refine HFW.out.mono ?_
    rintro e w1 ⟨rfl, hb1⟩
    have HB1 := Lib.hid hb1
    clear hb1 HFW
    go_wp2_with fail
    refine (wakes_ok _).mono ?_
    rintro e w2 ⟨rfl, hb2⟩
    go_wp2_with fail
    go_ret
    exact ⟨rfl, below_tr HB1.out hb2⟩
  · rw [hf] at HFW
    have hfn := fewB_n hf
    have hn8 : n ≤ 8 := by have := HL.out; omega
    have HX := Lib.hid hfn.2
    clear hf hfn
    go_enter Try.func14, Try.ntmps14
    go_wp2_with fail
    refine HFW.out.mono ?_
    rintro e w1 ⟨rfl, hb1⟩
    have HB1 := Lib.hid hb1
    clear hb1 HFW
    have HLC := Lib.hid (Lists_c (c := c) (HH.out.below HB1.out) (by omega) (fun x hx => by have := HX.out x hx; omega))
    go_wp2_with fail
    refine HLC.out.mono ?_
    rintro e w2 ⟨A2, c2, ls2, rfl, hc2, hr2, hal, hb2⟩
    have HB2 := Lib.hid (below_tr HB1.out hb2)
    have hmc := Merge_c (c := c2) hr2 (by unfold maxLen; omega)
    rw [hal.err, hal.cat] at hmc
    have HMC := Lib.hid hmc
    clear hr2 hal hb2 hmc HLC hc2
    go_wp2_with fail
    refine HMC.out.mono ?_
    rintro e w3 ⟨⟨A3, n3, c3, A4, n4, c4, rfl, hc3, hc4, hn3, hn4, hz, hok⟩, hb3⟩
    have HB3 := Lib.hid (below_tr HB2.out hb3)
    have HZ := Lib.hid hz; have HOK := Lib.hid hok
    have HFC := Lib.hid (Fault_c (c := c) (HH.out.below HB3.out) hn)
    clear hb3 hz hok HMC
    obtain ⟨E, hE⟩ : ∃ E, E = errL ls := ⟨_, rfl⟩
    rw [← hE] at HZ HOK HFC ⊢
    have HE := Lib.hid hE
    clear hE
    go_wp2_with fail
    refine HFC.out.mono ?_
    rintro e w4 ⟨rfl, hb4⟩
    have HB34 := Lib.hid hb4
    have HB4 := Lib.hid (below_tr HB3.out hb4)
    clear hb4 HFC
    by_cases he : E = 0
    · subst he
      obtain ⟨hr3, hr4⟩ := HOK.out (by first | exact rfl | trivial)
      have HR3 := Lib.hid (hr3.below HB34.out); have HR4 := Lib.hid (hr4.below HB34.out)
      have HRM := Lib.hid (RMerge_c (c := c) (HH.out.below HB4.out) (by omega) (fun x hx => by have := HX.out x hx; omega))
      clear hr3 hr4 HOK HZ
      obtain ⟨M, hM⟩ : ∃ M, M = mergedOf (sortedR (catL ls)) := ⟨_, rfl⟩
      obtain ⟨K, hK⟩ : ∃ K, K = contraOf (sortedR (catL ls)) := ⟨_, rfl⟩
      rw [← hM] at HR3 HRM
      rw [← hK] at HR4 HRM
      clear hM hK
      go_wp2_with fail
      refine HRM.out.mono ?_
      rintro e w5 ⟨A5, n5, c5, A6, n6, c6, rfl, hc5, hc6, hn5, hn6, hr5, hr6, hb5⟩
      have HB5 := Lib.hid (below_tr HB4.out hb5)
      have HR3' := Lib.hid (HR3.out.below hb5); have HR4' := Lib.hid (HR4.out.below hb5)
      have HR6 := Lib.hid hr6
      have HRC := Lib.hid (Readings_c (c := c5) hr5 (by omega))
      clear hr5 hr6 hb5 HR3 HR4 HRM
      go_wp2_with fail
      refine HRC.out.mono ?_
      rintro e w6 ⟨A7, c7, rfl, hc7, hr7, hb6⟩
      have HB6 := Lib.hid (below_tr HB5.out hb6)
      have hsm := same_c (c := c3) (c' := c7) (HR3'.out.below hb6) hr7 (by omega)
      rw [decide_eq_true rfl] at hsm
      have HSM := Lib.hid hsm
      have HR4'' := Lib.hid (HR4'.out.below hb6); have HR6' := Lib.hid (HR6.out.below hb6)
      clear hb6 hr7 hsm HR3' HR4' HR6 HRC
      go_wp2_with fail
      refine HSM.out.mono ?_
      rintro e w7 ⟨rfl, hb7⟩
      have HB7 := Lib.hid (below_tr HB6.out hb7)
      have HR4 := Lib.hid (HR4''.out.below hb7)
      have HRC := Lib.hid (Readings_c (c := c6) (HR6'.out.below hb7) (by omega))
      clear hb7 HSM HR4'' HR6'
      go_wp2_with fail
      refine HRC.out.mono ?_
      rintro e w8 ⟨A8, c8, rfl, hc8, hr8, hb8⟩
      have HB8 := Lib.hid (below_tr HB7.out hb8)
      have hsm := same_c (c := c4) (c' := c8) (HR4.out.below hb8) hr8 (by omega)
      rw [decide_eq_true rfl] at hsm
      have HSM := Lib.hid hsm
      clear hb8 hr8 hsm HR4 HRC
      go_wp2_with fail
      refine HSM.out.mono ?_
      rintro e w9 ⟨rfl, hb9⟩
      have HB9 := Lib.hid (below_tr HB8.out hb9)
      clear hb9
      go_wp2_with fail
      refine (wakes_ok _).mono ?_
      rintro e w10 ⟨rfl, hb10⟩
      go_wp2_with fail
      go_ret
      exact ⟨rfl, below_tr HB9.out hb10⟩
    · have e1 : (E == 0) = false := by rw [beq_eq_false_iff_ne]; exact he
      have e2 : (E != 0) = true := by rw [bne_iff_ne]; exact he
      have e3 : (E == E) = true := by simp
      obtain ⟨rfl, rfl⟩ := HZ.out he
      go_wp2_with fail
      refine (wakes_ok _).mono ?_
      rintro e w10 ⟨rfl, hb10⟩
      go_wp2_with fail
      go_ret
      exact ⟨rfl, below_tr HB4.out hb10⟩
end Go.Proofs.Ytkgoojilmnkgiaa
