/- THE WALK of LakeRises. -/
import Derived.Test.YtpijmfbpdglchaaKFew
import Derived.Test.YtpijmfbpdglchaaKFault2
import Derived.Test.YtpijmfbpdglchaaKConv
import Derived.Test.YtpijmfbpdglchaaKAwake
import Derived.Test.YtpijmfbpdglchaaKValid
import Derived.Test.YtpijmfbpdglchaaKRHours
set_option linter.unusedVariables false
set_option linter.unusedSimpArgs false
namespace Go.Proofs.Ytpijmfbpdglchaa
open Go.RowKit Go.Proofs
attribute [local go_sem ↓] Go.wp_at_zero Go.wp_at_succ
theorem run_neq_stt2 (a : Bool) (b c d : Int) (a' : Bool) (b' c' d' : Int) (W : World) : (binOp .neq 66 (.agg #[.bool a, .int .i64 b, .int .i64 c, .int .i64 d]) (.agg #[.bool a', .int .i64 b', .int .i64 c', .int .i64 d'])).run Try.prog W = .ok (.bool (!decide (a = a' ∧ b = b' ∧ c = c' ∧ d = d'))) W := by
  rw [run_neq_struct]
  have : (Op.equalIn 10000 66 (.agg #[.bool a, .int .i64 b, .int .i64 c, .int .i64 d]) (.agg #[.bool a', .int .i64 b', .int .i64 c', .int .i64 d'])).run Try.prog W = .ok (decide (a = a' ∧ b = b' ∧ c = c' ∧ d = d')) W := by
    simp [go_sem, Try.underlying66]
    by_cases h1 : a = a' <;> by_cases h2 : b = b' <;> by_cases h3 : c = c' <;> by_cases h4 : d = d' <;> simp [h1, h2, h3, h4]
  rw [this]; rfl
theorem brkRes_bad {l : Lak} {ws : List Wrk} {c : List Int} (h : errA l ws c ≠ 0) : brkRes l ws c = (0, 0, errA l ws c) := by
  unfold brkRes; rw [if_pos h]
section
variable {VA IA WA CA : Option Addr} {nV nI cV cI nW cW nC cC : Nat} {l : Lak} {ws : List Wrk} {c : List Int} {w : World}
set_option linter.unusedSimpArgs false in
set_option maxRecDepth 100000 in
set_option maxHeartbeats 8000000 in
theorem LakeRises_w (h : RdL w VA nV IA nI l) (hw : Rd encW 3 w WA nW ws) (hc : Rd enc1 1 w CA nC c) (hnV : nV ≤ maxLen) (hnI : nI ≤ maxLen) (hnW : nW ≤ maxLen) (hnC : nC ≤ maxLen) :
    Calls Try.prog 6 #[.agg (lA VA nV cV IA nI cI l), .slice WA nW cW, .slice CA nC cC] w fun e w' => e = .returned (.bool true) ∧ Below w.heap.size w w' := by
  have hb0 := (Below.refl w.heap.size w).alloc (Nat.le_refl _) (.cells (lA VA nV cV IA nI cI l) 27)
  have HB := Lib.hid hb0
  have HFW := Lib.hid (fun (U : World) (hU : Below w.heap.size w U) => Few_c (cV := cV) (cI := cI) (cW := cW) (cC := cC) (h.below hU) (hw.below hU) (hc.below hU) hnV hnI hnW hnC)
  have HFA := Lib.hid (fun (U : World) (hU : Below w.heap.size w U) => fault_c (cV := cV) (cI := cI) (cW := cW) (cC := cC) (h.below hU) (hw.below hU) (hc.below hU) hnV hnI hnW hnC)
  have HRF := Lib.hid (fun (U : World) (hU : Below w.heap.size w U) => rFault_c (cV := cV) (cI := cI) (h.below hU) hnV hnI)
  have HXX := Lib.hid (fun U hU => lA_cells (VA := VA) (IA := IA) (nV := nV) (nI := nI) (cV := cV) (cI := cI) (l := l) w (U := U) hU)
  have HL := Lib.hid h; have HW := Lib.hid hw; have HC := Lib.hid hc
  have HAW := Lib.hid (fun (U : World) => awake_c U)
  have HQ := Lib.hid (Below.refl (w.alloc (.cells (lA VA nV cV IA nI cI l) 27)).heap.size (w.alloc (.cells (lA VA nV cV IA nI cI l) 27)))
  rw [faultA_eq] at HFA
  clear h hw hc hb0
  go_enter Try.func6, Try.ntmps6
  go_wp2_with fail
  go_at_call 16
  refine (HFW.out _ HB.out).mono ?_
  rintro e w1 ⟨b, rfl, hbt, hb9⟩
  have t0 := below_tr HB.out hb9; have t1 := below_tr HQ.out hb9
  clear HB HQ
  have HB := Lib.hid t0; have HQ := Lib.hid t1
  clear t0 t1
  clear hb9 
  cases b
  · as_aux_lemma =>
    go_wp2_with fail
    go_at_call 18
    refine (HAW.out _).mono ?_
    rintro e w1 ⟨rfl, hb9⟩
    have t0 := below_tr HB.out hb9; have t1 := below_tr HQ.out hb9
    clear HB HQ
    have HB := Lib.hid t0; have HQ := Lib.hid t1
    clear t0 t1
    clear hb9 
    go_wp2_with fail
    go_ret
    exact ⟨rfl, HB.out⟩
  · as_aux_lemma =>
    obtain ⟨g1, g2, g3, g4⟩ := thin_len (hbt rfl)
    have hvl := HL.out.vols.len; have hil := HL.out.infl.len; have hwl := HW.out.len; have hcl := HC.out.len
    have HLK := Lib.hid (fun (U : World) (hU : Below w.heap.size w U) => LakeR_c (cV := cV) (cI := cI) (HL.out.below hU) (by omega) (by omega))
    have HWK := Lib.hid (fun (U : World) (hU : Below w.heap.size w U) => WorksR_c (c := cW) (HW.out.below hU) (by omega))
    have HLI := Lib.hid (fun (U : World) (hU : Below w.heap.size w U) => listR_c (c := cC) (HC.out.below hU) (by omega))
    have HIL := Lib.hid hil
    clear g1 g2 g3 g4 hbt hvl hwl hcl hil
    obtain ⟨EL, hEL⟩ : ∃ EL, EL = errL l := ⟨_, rfl⟩
    have HEL := Lib.hid hEL
    rw [← hEL] at HRF
    have hee : (EL != EL) = false := by simp
    obtain ⟨x0, x1, x2, x3, x4, x5, x6, x7, x8, x9⟩ := HXX.out _ HQ.out
    go_wp2_with fail
    go_at_call 20
    refine (HLK.out _ HB.out).mono ?_
    rintro e w1 ⟨VA', cV', IA', cI', rfl, hcv, hci, hrl, hb9⟩
    have t0 := below_tr HB.out hb9; have t1 := below_tr HQ.out hb9
    clear HB HQ
    have HB := Lib.hid t0; have HQ := Lib.hid t1
    clear t0 t1
    have HRL := Lib.hid hrl
    have HCV := Lib.hid hcv
    have HCI := Lib.hid hci
    clear hb9 hrl hcv hci
    clear x0 x1 x2 x3 x4 x5 x6 x7 x8 x9
    go_wp2_with fail
    go_at_call 31
    refine (CheckLake_c HRL.out HCV.out HCI.out hnV hnI).mono ?_
    rintro e w1 ⟨rfl, hb9⟩
    have t0 := below_tr HB.out hb9; have t1 := below_tr HQ.out hb9; have t2 := HRL.out.below hb9
    clear HB HQ HRL
    have HB := Lib.hid t0; have HQ := Lib.hid t1; have HRL := Lib.hid t2
    clear t0 t1 t2
    clear hb9 
    rw [← hEL]
    clear hEL
    clear HRL HCV HCI
    obtain ⟨x0, x1, x2, x3, x4, x5, x6, x7, x8, x9⟩ := HXX.out _ HQ.out
    go_wp2_with fail
    go_at_call 20
    refine (HLK.out _ HB.out).mono ?_
    rintro e w1 ⟨VA', cV', IA', cI', rfl, hcv, hci, hrl, hb9⟩
    have t0 := below_tr HB.out hb9; have t1 := below_tr HQ.out hb9
    clear HB HQ
    have HB := Lib.hid t0; have HQ := Lib.hid t1
    clear t0 t1
    have HRL := Lib.hid hrl
    have HCV := Lib.hid hcv
    have HCI := Lib.hid hci
    clear hb9 hrl hcv hci
    clear x0 x1 x2 x3 x4 x5 x6 x7 x8 x9
    go_wp2_with fail
    go_at_call 21
    refine (HWK.out _ HB.out).mono ?_
    rintro e w1 ⟨WA', cW', rfl, hcw, hrw, hb9⟩
    have t0 := below_tr HB.out hb9; have t1 := below_tr HQ.out hb9; have t2 := HRL.out.below hb9
    clear HB HQ HRL
    have HB := Lib.hid t0; have HQ := Lib.hid t1; have HRL := Lib.hid t2
    clear t0 t1 t2
    have HRW := Lib.hid hrw
    have HCW := Lib.hid hcw
    clear hb9 hrw hcw
    go_wp2_with fail
    go_at_call 27
    refine (HLI.out _ HB.out).mono ?_
    rintro e w1 ⟨CA', cC', rfl, hcc, hrc, hb9⟩
    have t0 := below_tr HB.out hb9; have t1 := below_tr HQ.out hb9; have t2 := HRL.out.below hb9; have t3 := HRW.out.below hb9
    clear HB HQ HRL HRW
    have HB := Lib.hid t0; have HQ := Lib.hid t1; have HRL := Lib.hid t2; have HRW := Lib.hid t3
    clear t0 t1 t2 t3
    have HRC := Lib.hid hrc
    have HCC := Lib.hid hcc
    clear hb9 hrc hcc
    by_cases hE : errA l ws c = 0
    · as_aux_lemma =>
      obtain ⟨hok, hwk, hcho⟩ := errA_zero.1 hE
      obtain rfl : EL = 0 := by rw [HEL.out]; exact errL_zero.2 hok
      have HOK := Lib.hid hok; have HWO := Lib.hid hwk; have HCO := Lib.hid hcho
      rw [hE] at HFA
      clear hE
      obtain ⟨F1, F2, F3, hF⟩ : ∃ F1 F2 F3, brkRes l ws c = (F1, F2, F3) := ⟨_, _, _, rfl⟩
      have hbr := brkRes_v hok hwk hcho
      rw [hF] at hbr
      have HBR := Lib.hid hbr; have HF := Lib.hid hF
      obtain ⟨L, hL⟩ : ∃ L, L = aftL l (netL l ws c) := ⟨_, rfl⟩
      have hLl : L.length = nI := by rw [hL, aftL_len, netL_len]; exact HIL.out
      have hnI60 : nI ≤ 60 := by have := hok.h; have := HIL.out; omega
      have HHO := Lib.hid (fun (U : World) (hU : Below w.heap.size w U) => rHours_c (cV := cV) (cI := cI) (cW := cW) (cC := cC) (HL.out.below hU) (HW.out.below hU) (HC.out.below hU) hok hwk hcho)
      have HBK := Lib.hid (fun (U : World) (hU : Below w.heap.size w U) (O : Option Addr) (cp m : Nat) (Hd Bk : Nat → Nat → Bool) (hr : RdHr U O nI m Hd Bk) (H : HrOk l L m Hd Bk) => rBreak_c (cV := cV) (cI := cI) (c := cp) (HL.out.below hU) hok hr H hLl.symm (by omega))
      have HAT := Lib.hid (fun (U : World) (hU : Below w.heap.size w U) (x : Nat × Nat) (m : Nat) (P : Nat → Bool) (hm : m ≤ 100000000) => rAt_c (b := x) (m := m) (P := P) (cV := cV) (cI := cI) (HL.out.below hU) hok hm)
      have HST := Lib.hid (show sttL l ws c = L.map (sttOf l.vols) by rw [hL]; rfl)
      have HLL := Lib.hid hLl
      rw [← hL] at HHO HBR
      clear hok hwk hcho hbr hF hL hLl
      go_wp2_with fail
      go_at_call 32
      refine (Rise_v HRL.out HRW.out HRC.out HCV.out HCI.out HOK.out HWO.out HCO.out).mono ?_
      rintro e w1 ⟨SA, cS, rfl, hcs, hrs, hb9⟩
      have t0 := below_tr HB.out hb9; have t1 := below_tr HQ.out hb9; have t2 := HRL.out.below hb9; have t3 := HRW.out.below hb9; have t4 := HRC.out.below hb9
      clear HB HQ HRL HRW HRC
      have HB := Lib.hid t0; have HQ := Lib.hid t1; have HRL := Lib.hid t2; have HRW := Lib.hid t3; have HRC := Lib.hid t4
      clear t0 t1 t2 t3 t4
      have HRS := Lib.hid hrs
      have HCS := Lib.hid hcs
      clear hb9 hrs hcs
      clear HRL HRW HRC HCV HCI HCW HCC
      obtain ⟨x0, x1, x2, x3, x4, x5, x6, x7, x8, x9⟩ := HXX.out _ HQ.out
      go_wp2_with fail
      go_at_call 20
      refine (HLK.out _ HB.out).mono ?_
      rintro e w1 ⟨VA', cV', IA', cI', rfl, hcv, hci, hrl, hb9⟩
      have t0 := below_tr HB.out hb9; have t1 := below_tr HQ.out hb9; have t2 := HRS.out.below hb9
      clear HB HQ HRS
      have HB := Lib.hid t0; have HQ := Lib.hid t1; have HRS := Lib.hid t2
      clear t0 t1 t2
      have HRL := Lib.hid hrl
      have HCV := Lib.hid hcv
      have HCI := Lib.hid hci
      clear hb9 hrl hcv hci
      clear x0 x1 x2 x3 x4 x5 x6 x7 x8 x9
      go_wp2_with fail
      go_at_call 21
      refine (HWK.out _ HB.out).mono ?_
      rintro e w1 ⟨WA', cW', rfl, hcw, hrw, hb9⟩
      have t0 := below_tr HB.out hb9; have t1 := below_tr HQ.out hb9; have t2 := HRS.out.below hb9; have t3 := HRL.out.below hb9
      clear HB HQ HRS HRL
      have HB := Lib.hid t0; have HQ := Lib.hid t1; have HRS := Lib.hid t2; have HRL := Lib.hid t3
      clear t0 t1 t2 t3
      have HRW := Lib.hid hrw
      have HCW := Lib.hid hcw
      clear hb9 hrw hcw
      go_wp2_with fail
      go_at_call 27
      refine (HLI.out _ HB.out).mono ?_
      rintro e w1 ⟨CA', cC', rfl, hcc, hrc, hb9⟩
      have t0 := below_tr HB.out hb9; have t1 := below_tr HQ.out hb9; have t2 := HRS.out.below hb9; have t3 := HRL.out.below hb9; have t4 := HRW.out.below hb9
      clear HB HQ HRS HRL HRW
      have HB := Lib.hid t0; have HQ := Lib.hid t1; have HRS := Lib.hid t2; have HRL := Lib.hid t3; have HRW := Lib.hid t4
      clear t0 t1 t2 t3 t4
      have HRC := Lib.hid hrc
      have HCC := Lib.hid hcc
      clear hb9 hrc hcc
      go_wp2_with fail
      go_at_call 33
      refine (Break_3 HF.out HRL.out HRW.out HRC.out HCV.out HCI.out HOK.out HWO.out HCO.out).mono ?_
      rintro e w1 ⟨rfl, hb9⟩
      have t0 := below_tr HB.out hb9; have t1 := below_tr HQ.out hb9; have t2 := HRS.out.below hb9; have t3 := HRL.out.below hb9; have t4 := HRW.out.below hb9; have t5 := HRC.out.below hb9
      clear HB HQ HRS HRL HRW HRC
      have HB := Lib.hid t0; have HQ := Lib.hid t1; have HRS := Lib.hid t2; have HRL := Lib.hid t3; have HRW := Lib.hid t4; have HRC := Lib.hid t5
      clear t0 t1 t2 t3 t4 t5
      clear hb9 
      clear HRL HRW HRC HCV HCI HCW HCC
      obtain ⟨x0, x1, x2, x3, x4, x5, x6, x7, x8, x9⟩ := HXX.out _ HQ.out
      go_wp2_with fail
      go_at_call 34
      refine (HRF.out _ HB.out).mono ?_
      rintro e w1 ⟨rfl, hb9⟩
      have t0 := below_tr HB.out hb9; have t1 := below_tr HQ.out hb9; have t2 := HRS.out.below hb9
      clear HB HQ HRS
      have HB := Lib.hid t0; have HQ := Lib.hid t1; have HRS := Lib.hid t2
      clear t0 t1 t2
      clear hb9 
      clear x0 x1 x2 x3 x4 x5 x6 x7 x8 x9
      obtain ⟨x0, x1, x2, x3, x4, x5, x6, x7, x8, x9⟩ := HXX.out _ HQ.out
      go_wp2_with fail
      go_at_call 17
      refine (HFA.out _ HB.out).mono ?_
      rintro e w1 ⟨rfl, hb9⟩
      have t0 := below_tr HB.out hb9; have t1 := below_tr HQ.out hb9; have t2 := HRS.out.below hb9
      clear HB HQ HRS
      have HB := Lib.hid t0; have HQ := Lib.hid t1; have HRS := Lib.hid t2
      clear t0 t1 t2
      clear hb9 
      clear x0 x1 x2 x3 x4 x5 x6 x7 x8 x9
      obtain ⟨x0, x1, x2, x3, x4, x5, x6, x7, x8, x9⟩ := HXX.out _ HQ.out
      go_wp2_with fail
      go_at_call 35
      refine (HHO.out _ HB.out).mono ?_
      rintro e w1 ⟨O, cp, m, Hd, Bk, rfl, hrr, hro, hb9⟩
      have t0 := below_tr HB.out hb9; have t1 := below_tr HQ.out hb9; have t2 := HRS.out.below hb9
      clear HB HQ HRS
      have HB := Lib.hid t0; have HQ := Lib.hid t1; have HRS := Lib.hid t2
      clear t0 t1 t2
      have HRR := Lib.hid hrr
      have HRO := Lib.hid hro
      clear hb9 hrr hro
      clear x0 x1 x2 x3 x4 x5 x6 x7 x8 x9
      have hnn : ((nI : Int) != (nI : Int)) = false := by simp
      obtain ⟨V, hV⟩ : ∃ V, V = w1 := ⟨_, rfl⟩
      rw [← hV] at HB HQ HRS HRR ⊢
      clear hV hee
      go_wp2_with fail
      clear hnn
      go_loopw [15] (fun iv wr => ∃ k : Nat, k ≤ nI ∧ iv = .int .i64 k ∧ Below V.heap.size V wr) (fun iv _ => nI - (intOf iv).toNat)
      case atStart => exact ⟨0, Nat.zero_le _, rfl, Below.refl _ _⟩
      case round =>
        obtain ⟨k, hk, rfl, hbr⟩ := hrel
        obtain ⟨W5, hW5⟩ : ∃ W5, W5 = wr := ⟨_, rfl⟩
        rw [← hW5] at hbr ⊢
        clear hW5
        by_cases hlt : k < nI
        · obtain ⟨bo, oo, x, hO, c0, c1, hbh, hbb⟩ := (HRR.out.below hbr).atR hlt
          subst hO
          obtain ⟨a, ha⟩ : ∃ a, L[k]? = some a := ⟨_, List.getElem?_eq_getElem (by have := HLL.out; omega)⟩
          obtain ⟨bs, os, s, hSA, hbs, hs, s0, s1, s2, s3⟩ := (HRS.out.below hbr).atT hlt
          subst hSA
          rw [HST.out] at hs
          simp only [List.getElem?_map, ha, Option.map_some, Option.some.injEq] at hs
          have HAT2 := Lib.hid (fun (U : World) (hU : Below w.heap.size w U) (hP : Blk U x.1 4 (boolA m (Hd k))) => HAT.out U hU x m (Hd k) HRO.out.ml hP (HRO.out.st k a ha) (HRO.out.lev k a ha) (HRO.out.hi k a ha))
          rw [hs] at HAT2
          have hkn : (k : Int) < (nI : Int) := by omega
          have hk0 : (0 : Int) ≤ (k : Int) := by omega
          have HB5 := Lib.hid (Below.refl W5.heap.size W5)
          have HBR2 := Lib.hid hbr; have HB1 := Lib.hid (below_tr HB.out hbr); have HQ1 := Lib.hid (below_tr HQ.out hbr); have HBH := Lib.hid hbh
          have HC := Lib.hid (fun (U : World) (hU : Below W5.heap.size W5 U) => show U.cell? ⟨bo, oo + k * 2, none⟩ = some (.slice (some ⟨x.1, 0, none⟩) m m) ∧ U.cell? ⟨bo, oo + k * 2 + 1, none⟩ = some (.slice (some ⟨x.2, 0, none⟩) m m) from ⟨bel_keep hU c0, bel_keep hU c1⟩)
          have HS4 := Lib.hid (And.intro s0 (And.intro s1 (And.intro s2 s3)))
          have heq : ∀ W, (binOp .neq 66 (.agg #[.bool s.holds, .int .i64 s.lo, .int .i64 s.hi, .int .i64 s.lev]) (.agg #[.bool s.holds, .int .i64 s.lo, .int .i64 s.hi, .int .i64 s.lev])).run Try.prog W = .ok (.bool false) W := fun W => by rw [run_neq_stt2]; simp
          have HEQ := Lib.hid heq
          clear hbr hbh hbb ha hs c0 c1 s0 s1 s2 s3 heq
          go_upto_region 17 with fail
          go_cut [16] (fun pv wx => ∃ gS, pv = .pointer (some ⟨gS, 0, none⟩) ∧ Blk wx gS 61 (stA s.holds s.lo s.hi s.lev) ∧ Below W5.heap.size W5 wx)
          case first =>
            refine wp_region_till [7] (fun U => U.cell? ⟨w.heap.size, 0, none⟩ = some (.slice VA nV cV) ∧ U.cell? ⟨w.heap.size, 1, none⟩ = some (.int .i64 l.crest) ∧ U.cell? ⟨w.heap.size, 2, none⟩ = some (.int .i64 l.weak) ∧ U.cell? ⟨w.heap.size, 3, none⟩ = some (.int .i64 l.soft.1) ∧ U.cell? ⟨w.heap.size, 4, none⟩ = some (.int .i64 l.soft.2) ∧ U.cell? ⟨w.heap.size, 5, none⟩ = some (.int .i64 l.start.1) ∧ U.cell? ⟨w.heap.size, 6, none⟩ = some (.int .i64 l.start.2) ∧ U.cell? ⟨w.heap.size, 7, none⟩ = some (.int .i64 l.seep.1) ∧ U.cell? ⟨w.heap.size, 8, none⟩ = some (.int .i64 l.seep.2) ∧ U.cell? ⟨w.heap.size, 9, none⟩ = some (.slice IA nI cI) ∧ U.cell? ⟨bo, oo + k * 2, none⟩ = some (.slice (some ⟨x.1, 0, none⟩) m m) ∧ U.cell? ⟨bo, oo + k * 2 + 1, none⟩ = some (.slice (some ⟨x.2, 0, none⟩) m m)) (by kernel_rfl) (by exact and10 (HXX.out _ HQ1.out.drew) (HC.out _ HB5.out.drew)) (fun hHeld => ?_)
            have hb9 := (Below.refl W5.heap.size W5).drew
            have t0 := below_tr HBR2.out hb9; have t1 := below_tr HB1.out hb9; have t2 := below_tr HQ1.out hb9; have t3 := below_tr HB5.out hb9; have t4 := HBH.out.below hb9 HBH.out.lt
            clear HBR2 HB1 HQ1 HB5 HBH
            have HBR2 := Lib.hid t0; have HB1 := Lib.hid t1; have HQ1 := Lib.hid t2; have HB5 := Lib.hid t3; have HBH := Lib.hid t4
            clear t0 t1 t2 t3 t4
            clear hb9
            revert hHeld HBR2 HB1 HQ1 HB5 HBH
            generalize W5.drew = w0
            intro hHeld HBR2 HB1 HQ1 HB5 HBH
            (refine wpAnyL_take (n := 0) (i := 0) (oi := ?ox38) (v := ?vx38) ?hix38 ?k1x38 ?k2x38 ?k3x38 ?k4x38 ?k5x38 ?k6x38 ?hQx38 ?hYx38 ?hSx38 ?restx38; (case hix38 => (simp only [List.getElem?_toArray, List.getElem?_cons_succ, List.getElem?_cons_zero]; exact rfl)); (case k1x38 => kernel_rfl); (case k2x38 => kernel_rfl); (case k3x38 => kernel_rfl); (case k4x38 => kernel_rfl); (case k5x38 => kernel_rfl); (case k6x38 => kernel_rfl); (case hSx38 => assumption); (case hYx38 => (refine Or.inl ⟨rfl, ?hyx38⟩; intro w hSw; (try dsimp only at hSw); go_simp; (try with_reducible rfl))); (case hQx38 => exact (fun _ _ _ h => h)); (try simp only [Act.put, List.setIfInBounds_toArray, List.set_cons_zero, List.set_cons_succ]))
            (refine wpAnyL_take (n := 0) (i := 1) (oi := ?ox39) (v := ?vx39) ?hix39 ?k1x39 ?k2x39 ?k3x39 ?k4x39 ?k5x39 ?k6x39 ?hQx39 ?hYx39 ?hSx39 ?restx39; (case hix39 => (simp only [List.getElem?_toArray, List.getElem?_cons_succ, List.getElem?_cons_zero]; exact rfl)); (case k1x39 => kernel_rfl); (case k2x39 => kernel_rfl); (case k3x39 => kernel_rfl); (case k4x39 => kernel_rfl); (case k5x39 => kernel_rfl); (case k6x39 => kernel_rfl); (case hSx39 => assumption); (case hYx39 => (refine Or.inl ⟨rfl, ?hyx39⟩; intro w hSw; (try dsimp only at hSw); go_simp; (try with_reducible rfl))); (case hQx39 => exact (fun _ _ _ h => h)); (try simp only [Act.put, List.setIfInBounds_toArray, List.set_cons_zero, List.set_cons_succ]))
            (refine wpAnyL_take (n := 0) (i := 2) (oi := ?ox40) (v := ?vx40) ?hix40 ?k1x40 ?k2x40 ?k3x40 ?k4x40 ?k5x40 ?k6x40 ?hQx40 ?hYx40 ?hSx40 ?restx40; (case hix40 => (simp only [List.getElem?_toArray, List.getElem?_cons_succ, List.getElem?_cons_zero]; exact rfl)); (case k1x40 => kernel_rfl); (case k2x40 => kernel_rfl); (case k3x40 => kernel_rfl); (case k4x40 => kernel_rfl); (case k5x40 => kernel_rfl); (case k6x40 => kernel_rfl); (case hSx40 => assumption); (case hYx40 => (refine Or.inl ⟨rfl, ?hyx40⟩; intro w hSw; (try dsimp only at hSw); go_simp; (try with_reducible rfl))); (case hQx40 => exact (fun _ _ _ h => h)); (try simp only [Act.put, List.setIfInBounds_toArray, List.set_cons_zero, List.set_cons_succ]))
            (refine wpAnyL_take (n := 0) (i := 3) (oi := ?ox41) (v := ?vx41) ?hix41 ?k1x41 ?k2x41 ?k3x41 ?k4x41 ?k5x41 ?k6x41 ?hQx41 ?hYx41 ?hSx41 ?restx41; (case hix41 => (simp only [List.getElem?_toArray, List.getElem?_cons_succ, List.getElem?_cons_zero]; exact rfl)); (case k1x41 => kernel_rfl); (case k2x41 => kernel_rfl); (case k3x41 => kernel_rfl); (case k4x41 => kernel_rfl); (case k5x41 => kernel_rfl); (case k6x41 => kernel_rfl); (case hSx41 => assumption); (case hYx41 => (refine Or.inl ⟨rfl, ?hyx41⟩; intro w hSw; (try dsimp only at hSw); go_simp; (try with_reducible rfl))); (case hQx41 => exact (fun _ _ _ h => h)); (try simp only [Act.put, List.setIfInBounds_toArray, List.set_cons_zero, List.set_cons_succ]))
            (refine wpAnyL_take (n := 0) (i := 4) (oi := ?ox42) (v := ?vx42) ?hix42 ?k1x42 ?k2x42 ?k3x42 ?k4x42 ?k5x42 ?k6x42 ?hQx42 ?hYx42 ?hSx42 ?restx42; (case hix42 => (simp only [List.getElem?_toArray, List.getElem?_cons_succ, List.getElem?_cons_zero]; exact rfl)); (case k1x42 => kernel_rfl); (case k2x42 => kernel_rfl); (case k3x42 => kernel_rfl); (case k4x42 => kernel_rfl); (case k5x42 => kernel_rfl); (case k6x42 => kernel_rfl); (case hSx42 => assumption); (case hYx42 => (refine Or.inl ⟨rfl, ?hyx42⟩; intro w hSw; (try dsimp only at hSw); go_simp; (try with_reducible rfl))); (case hQx42 => exact (fun _ _ _ h => h)); (try simp only [Act.put, List.setIfInBounds_toArray, List.set_cons_zero, List.set_cons_succ]))
            refine wpAnyL_ready (rs := [5, 6]) (by kernel_rfl) (by simp) ?_
            refine AllReadyL.cons (o := ?o5x43) ?hi5x43 (fun K hK => ?_) (AllReadyL.cons (o := ?o6x43) ?hi6x43 (fun K hK => ?_) AllReadyL.nil)
            (case hi5x43 => (simp only [List.getElem?_toArray, List.getElem?_cons_succ, List.getElem?_cons_zero]; exact rfl))
            (case hi6x43 => (simp only [List.getElem?_toArray, List.getElem?_cons_succ, List.getElem?_cons_zero]; exact rfl))
            · skip
              go_simp
              go_at_call 36
              refine (HAT2.out _ HB1.out HBH.out).mono ?_
              rintro e w1 ⟨rfl, hb9⟩
              have t0 := below_tr HBR2.out hb9; have t1 := below_tr HB1.out hb9; have t2 := below_tr HQ1.out hb9; have t3 := below_tr HB5.out hb9; have t4 := HBH.out.below hb9 HBH.out.lt
              clear HBR2 HB1 HQ1 HB5 HBH
              have HBR2 := Lib.hid t0; have HB1 := Lib.hid t1; have HQ1 := Lib.hid t2; have HB5 := Lib.hid t3; have HBH := Lib.hid t4
              clear t0 t1 t2 t3 t4
              clear hb9 
              (try go_wp2_with fail)
              (try clear hHeld)
              refine hK.out _ _ (by (try dsimp only); exact and10 (HXX.out _ HQ1.out) (HC.out _ HB5.out)) (fun hHeld => ?_)
              clear hK K
              (try simp only [Act.put, List.setIfInBounds_toArray, List.set_cons_zero, List.set_cons_succ])
              refine wpAnyL_ready (rs := [6]) (by kernel_rfl) (by simp) ?_
              refine AllReadyL.cons (o := ?o6x44) ?hi6x44 (fun K hK => ?_) AllReadyL.nil
              (case hi6x44 => (simp only [List.getElem?_toArray, List.getElem?_cons_succ, List.getElem?_cons_zero]; exact rfl))
              go_simp
              have hal := (Below.refl w1.heap.size w1).alloc (Nat.le_refl _) (.cells (stA false 0 0 0) 61)
              have hn := Blk.new w1 61 (stA false 0 0 0)
              have hge := HB5.out.size
              have t0 := below_tr HBR2.out hal; have t1 := below_tr HB1.out hal; have t2 := below_tr HQ1.out hal; have t3 := below_tr HB5.out hal; have t4 := HBH.out.below hal HBH.out.lt
              clear HBR2 HB1 HQ1 HB5 HBH
              have HBR2 := Lib.hid t0; have HB1 := Lib.hid t1; have HQ1 := Lib.hid t2; have HB5 := Lib.hid t3; have HBH := Lib.hid t4
              clear t0 t1 t2 t3 t4
              have HGX := Lib.hid hn
              clear hal hn
              (try clear hHeld)
              refine hK.out _ _ (by (try dsimp only); exact and10 (HXX.out _ HQ1.out) (HC.out _ HB5.out)) (fun hHeld => ?_)
              clear hK K
              (try simp only [Act.put, List.setIfInBounds_toArray, List.set_cons_zero, List.set_cons_succ])
              revert hHeld HBR2 HB1 HQ1 HB5 HBH HGX
              generalize hgS : w1.heap.size = gS
              generalize (World.alloc w1 (.cells (stA false 0 0 0) 61)) = w0
              intro HBR2 HB1 HQ1 HB5 HBH HGX hHeld
              have HGE := Lib.hid (show W5.heap.size ≤ gS from hgS ▸ hge)
              clear hgS hge
              refine wpAnyL_ready (rs := [7]) (by kernel_rfl) (by simp) ?_
              refine AllReadyL.last (o := ?o7x45) ?hi7x45 ?he7x45 (fun K hK => ?_) AllReadyL.nil
              (case hi7x45 => (simp only [List.getElem?_toArray, List.getElem?_cons_succ, List.getElem?_cons_zero]; exact rfl))
              (case he7x45 => kernel_rfl)
              have rc := HGX.out.cell; have rf := HGX.out.frozen
              have r0 := rc 0; have r1 := rc 1; have r2 := rc 2; have r3 := rc 3
              simp at r0 r1 r2 r3
              have q0 := rf 0; have q1 := rf 1; have q2 := rf 2; have q3 := rf 3
              clear rc rf
              go_simp
              (try clear hHeld)
              refine hK.out _ _ ?_
              clear hK K
              (try simp only [Act.put, List.setIfInBounds_toArray, List.set_cons_zero, List.set_cons_succ])
              (refine wpAnyL_done (by kernel_rfl) ?_ _)
              have hg0 := blk_setCells (stA s.holds s.lo s.hi s.lev).toList 0 _ [] _ (by simpa using HGX.out) rfl (by simp)
              have hg1 := below_setCells HGE.out (stA s.holds s.lo s.hi s.lev).toList 0 _ HB5.out
              go_wp2_with fail
              go_meet
              exact ⟨_, rfl, hg0, hg1⟩
            · skip
              go_simp
              have hal := (Below.refl w0.heap.size w0).alloc (Nat.le_refl _) (.cells (stA false 0 0 0) 61)
              have hn := Blk.new w0 61 (stA false 0 0 0)
              have hge := HB5.out.size
              have t0 := below_tr HBR2.out hal; have t1 := below_tr HB1.out hal; have t2 := below_tr HQ1.out hal; have t3 := below_tr HB5.out hal; have t4 := HBH.out.below hal HBH.out.lt
              clear HBR2 HB1 HQ1 HB5 HBH
              have HBR2 := Lib.hid t0; have HB1 := Lib.hid t1; have HQ1 := Lib.hid t2; have HB5 := Lib.hid t3; have HBH := Lib.hid t4
              clear t0 t1 t2 t3 t4
              have HGX := Lib.hid hn
              clear hal hn
              (try clear hHeld)
              refine hK.out _ _ (by (try dsimp only); exact and10 (HXX.out _ HQ1.out) (HC.out _ HB5.out)) (fun hHeld => ?_)
              clear hK K
              (try simp only [Act.put, List.setIfInBounds_toArray, List.set_cons_zero, List.set_cons_succ])
              revert hHeld HBR2 HB1 HQ1 HB5 HBH HGX
              generalize hgS : w0.heap.size = gS
              generalize (World.alloc w0 (.cells (stA false 0 0 0) 61)) = w0
              intro HBR2 HB1 HQ1 HB5 HBH HGX hHeld
              have HGE := Lib.hid (show W5.heap.size ≤ gS from hgS ▸ hge)
              clear hgS hge
              refine wpAnyL_ready (rs := [5]) (by kernel_rfl) (by simp) ?_
              refine AllReadyL.cons (o := ?o5x46) ?hi5x46 (fun K hK => ?_) AllReadyL.nil
              (case hi5x46 => (simp only [List.getElem?_toArray, List.getElem?_cons_succ, List.getElem?_cons_zero]; exact rfl))
              go_simp
              go_at_call 36
              refine (HAT2.out _ HB1.out HBH.out).mono ?_
              rintro e w1 ⟨rfl, hb9⟩
              have t0 := below_tr HBR2.out hb9; have t1 := below_tr HB1.out hb9; have t2 := below_tr HQ1.out hb9; have t3 := below_tr HB5.out hb9; have t4 := HBH.out.below hb9 HBH.out.lt; have t5 := HGX.out.below hb9 HGX.out.lt
              clear HBR2 HB1 HQ1 HB5 HBH HGX
              have HBR2 := Lib.hid t0; have HB1 := Lib.hid t1; have HQ1 := Lib.hid t2; have HB5 := Lib.hid t3; have HBH := Lib.hid t4; have HGX := Lib.hid t5
              clear t0 t1 t2 t3 t4 t5
              clear hb9 
              (try go_wp2_with fail)
              (try clear hHeld)
              refine hK.out _ _ (by (try dsimp only); exact and10 (HXX.out _ HQ1.out) (HC.out _ HB5.out)) (fun hHeld => ?_)
              clear hK K
              (try simp only [Act.put, List.setIfInBounds_toArray, List.set_cons_zero, List.set_cons_succ])
              refine wpAnyL_ready (rs := [7]) (by kernel_rfl) (by simp) ?_
              refine AllReadyL.last (o := ?o7x47) ?hi7x47 ?he7x47 (fun K hK => ?_) AllReadyL.nil
              (case hi7x47 => (simp only [List.getElem?_toArray, List.getElem?_cons_succ, List.getElem?_cons_zero]; exact rfl))
              (case he7x47 => kernel_rfl)
              have rc := HGX.out.cell; have rf := HGX.out.frozen
              have r0 := rc 0; have r1 := rc 1; have r2 := rc 2; have r3 := rc 3
              simp at r0 r1 r2 r3
              have q0 := rf 0; have q1 := rf 1; have q2 := rf 2; have q3 := rf 3
              clear rc rf
              go_simp
              (try clear hHeld)
              refine hK.out _ _ ?_
              clear hK K
              (try simp only [Act.put, List.setIfInBounds_toArray, List.set_cons_zero, List.set_cons_succ])
              (refine wpAnyL_done (by kernel_rfl) ?_ _)
              have hg0 := blk_setCells (stA s.holds s.lo s.hi s.lev).toList 0 _ [] _ (by simpa using HGX.out) rfl (by simp)
              have hg1 := below_setCells HGE.out (stA s.holds s.lo s.hi s.lev).toList 0 _ HB5.out
              go_wp2_with fail
              go_meet
              exact ⟨_, rfl, hg0, hg1⟩
          case rest =>
            obtain ⟨gS, rfl, hbS, hbc⟩ := hcut
            have hb9 := below_tr HBR2.out hbc
            obtain ⟨s0, s1, s2, s3⟩ := HS4.out
            have t0 := hbS.cell 0; have t1 := hbS.cell 1; have t2 := hbS.cell 2; have t3 := hbS.cell 3
            simp at t0 t1 t2 t3
            have HB9 := Lib.hid hb9
            have HS8 := Lib.hid (fun (U : World) (hU : Below wc.heap.size wc U) => show U.cell? ⟨bs, os + k * 4, none⟩ = some (.bool s.holds) ∧ U.cell? ⟨bs, os + k * 4 + 1, none⟩ = some (.int .i64 s.lo) ∧ U.cell? ⟨bs, os + k * 4 + 2, none⟩ = some (.int .i64 s.hi) ∧ U.cell? ⟨bs, os + k * 4 + 3, none⟩ = some (.int .i64 s.lev) ∧ U.cell? ⟨gS, 0, none⟩ = some (.bool s.holds) ∧ U.cell? ⟨gS, 1, none⟩ = some (.int .i64 s.lo) ∧ U.cell? ⟨gS, 2, none⟩ = some (.int .i64 s.hi) ∧ U.cell? ⟨gS, 3, none⟩ = some (.int .i64 s.lev) from
              ⟨bel_keep (below_tr hbc hU) s0, bel_keep (below_tr hbc hU) s1, bel_keep (below_tr hbc hU) s2, bel_keep (below_tr hbc hU) s3, bel_keep hU t0, bel_keep hU t1, bel_keep hU t2, bel_keep hU t3⟩)
            have HBC := Lib.hid (Below.refl wc.heap.size wc)
            have heq := HEQ.out; have HLT := Lib.hid hlt
            clear s0 s1 s2 s3 t0 t1 t2 t3 hbS hbc hb9 hlt HB1 HQ1 HBH HBR2 HB5
            go_upto_region 18 with fail
            refine wp_region_till [] (fun U => U.cell? ⟨bs, os + k * 4, none⟩ = some (.bool s.holds) ∧ U.cell? ⟨bs, os + k * 4 + 1, none⟩ = some (.int .i64 s.lo) ∧ U.cell? ⟨bs, os + k * 4 + 2, none⟩ = some (.int .i64 s.hi) ∧ U.cell? ⟨bs, os + k * 4 + 3, none⟩ = some (.int .i64 s.lev) ∧ U.cell? ⟨gS, 0, none⟩ = some (.bool s.holds) ∧ U.cell? ⟨gS, 1, none⟩ = some (.int .i64 s.lo) ∧ U.cell? ⟨gS, 2, none⟩ = some (.int .i64 s.hi) ∧ U.cell? ⟨gS, 3, none⟩ = some (.int .i64 s.lev)) (by kernel_rfl) (by exact HS8.out _ HBC.out.drew) (fun hHeld => ?_)
            have hb9 := (Below.refl wc.heap.size wc).drew
            have t0 := below_tr HB9.out hb9; have t1 := below_tr HBC.out hb9
            clear HB9 HBC
            have HB9 := Lib.hid t0; have HBC := Lib.hid t1
            clear t0 t1
            clear hb9
            revert hHeld HB9 HBC
            generalize wc.drew = w0
            intro hHeld HB9 HBC
            (refine wpAnyL_take (n := 0) (i := 0) (oi := ?ox48) (v := ?vx48) ?hix48 ?k1x48 ?k2x48 ?k3x48 ?k4x48 ?k5x48 ?k6x48 ?hQx48 ?hYx48 ?hSx48 ?restx48; (case hix48 => (simp only [List.getElem?_toArray, List.getElem?_cons_succ, List.getElem?_cons_zero]; exact rfl)); (case k1x48 => kernel_rfl); (case k2x48 => kernel_rfl); (case k3x48 => kernel_rfl); (case k4x48 => kernel_rfl); (case k5x48 => kernel_rfl); (case k6x48 => kernel_rfl); (case hSx48 => assumption); (case hYx48 => (refine Or.inl ⟨rfl, ?hyx48⟩; intro w hSw; (try dsimp only at hSw); go_simp; (try with_reducible rfl))); (case hQx48 => exact (fun _ _ _ h => h)); (try simp only [Act.put, List.setIfInBounds_toArray, List.set_cons_zero, List.set_cons_succ]))
            (refine wpAnyL_take (n := 0) (i := 1) (oi := ?ox49) (v := ?vx49) ?hix49 ?k1x49 ?k2x49 ?k3x49 ?k4x49 ?k5x49 ?k6x49 ?hQx49 ?hYx49 ?hSx49 ?restx49; (case hix49 => (simp only [List.getElem?_toArray, List.getElem?_cons_succ, List.getElem?_cons_zero]; exact rfl)); (case k1x49 => kernel_rfl); (case k2x49 => kernel_rfl); (case k3x49 => kernel_rfl); (case k4x49 => kernel_rfl); (case k5x49 => kernel_rfl); (case k6x49 => kernel_rfl); (case hSx49 => assumption); (case hYx49 => (refine Or.inl ⟨rfl, ?hyx49⟩; intro w hSw; (try dsimp only at hSw); go_simp; (try with_reducible rfl))); (case hQx49 => exact (fun _ _ _ h => h)); (try simp only [Act.put, List.setIfInBounds_toArray, List.set_cons_zero, List.set_cons_succ]))
            (refine wpAnyL_take (n := 0) (i := 2) (oi := ?ox50) (v := ?vx50) ?hix50 ?k1x50 ?k2x50 ?k3x50 ?k4x50 ?k5x50 ?k6x50 ?hQx50 ?hYx50 ?hSx50 ?restx50; (case hix50 => (simp only [List.getElem?_toArray, List.getElem?_cons_succ, List.getElem?_cons_zero]; exact rfl)); (case k1x50 => kernel_rfl); (case k2x50 => kernel_rfl); (case k3x50 => kernel_rfl); (case k4x50 => kernel_rfl); (case k5x50 => kernel_rfl); (case k6x50 => kernel_rfl); (case hSx50 => assumption); (case hYx50 => (refine Or.inl ⟨rfl, ?hyx50⟩; intro w hSw; (try dsimp only at hSw); go_simp; (try with_reducible rfl))); (case hQx50 => exact (fun _ _ _ h => h)); (try simp only [Act.put, List.setIfInBounds_toArray, List.set_cons_zero, List.set_cons_succ]))
            (refine wpAnyL_take (n := 0) (i := 3) (oi := ?ox51) (v := ?vx51) ?hix51 ?k1x51 ?k2x51 ?k3x51 ?k4x51 ?k5x51 ?k6x51 ?hQx51 ?hYx51 ?hSx51 ?restx51; (case hix51 => (simp only [List.getElem?_toArray, List.getElem?_cons_succ, List.getElem?_cons_zero]; exact rfl)); (case k1x51 => kernel_rfl); (case k2x51 => kernel_rfl); (case k3x51 => kernel_rfl); (case k4x51 => kernel_rfl); (case k5x51 => kernel_rfl); (case k6x51 => kernel_rfl); (case hSx51 => assumption); (case hYx51 => (refine Or.inl ⟨rfl, ?hyx51⟩; intro w hSw; (try dsimp only at hSw); go_simp; (try with_reducible rfl))); (case hQx51 => exact (fun _ _ _ h => h)); (try simp only [Act.put, List.setIfInBounds_toArray, List.set_cons_zero, List.set_cons_succ]))
            (refine wpAnyL_take (n := 0) (i := 4) (oi := ?ox52) (v := ?vx52) ?hix52 ?k1x52 ?k2x52 ?k3x52 ?k4x52 ?k5x52 ?k6x52 ?hQx52 ?hYx52 ?hSx52 ?restx52; (case hix52 => (simp only [List.getElem?_toArray, List.getElem?_cons_succ, List.getElem?_cons_zero]; exact rfl)); (case k1x52 => kernel_rfl); (case k2x52 => kernel_rfl); (case k3x52 => kernel_rfl); (case k4x52 => kernel_rfl); (case k5x52 => kernel_rfl); (case k6x52 => kernel_rfl); (case hSx52 => assumption); (case hYx52 => (refine Or.inl ⟨rfl, ?hyx52⟩; intro w hSw; (try dsimp only at hSw); go_simp; (try with_reducible rfl))); (case hQx52 => exact (fun _ _ _ h => h)); (try simp only [Act.put, List.setIfInBounds_toArray, List.set_cons_zero, List.set_cons_succ]))
            (refine wpAnyL_take (n := 0) (i := 5) (oi := ?ox53) (v := ?vx53) ?hix53 ?k1x53 ?k2x53 ?k3x53 ?k4x53 ?k5x53 ?k6x53 ?hQx53 ?hYx53 ?hSx53 ?restx53; (case hix53 => (simp only [List.getElem?_toArray, List.getElem?_cons_succ, List.getElem?_cons_zero]; exact rfl)); (case k1x53 => kernel_rfl); (case k2x53 => kernel_rfl); (case k3x53 => kernel_rfl); (case k4x53 => kernel_rfl); (case k5x53 => kernel_rfl); (case k6x53 => kernel_rfl); (case hSx53 => assumption); (case hYx53 => (refine Or.inl ⟨rfl, ?hyx53⟩; intro w hSw; (try dsimp only at hSw); go_simp; (try with_reducible rfl))); (case hQx53 => exact (fun _ _ _ h => h)); (try simp only [Act.put, List.setIfInBounds_toArray, List.set_cons_zero, List.set_cons_succ]))
            (refine wpAnyL_take (n := 0) (i := 6) (oi := ?ox54) (v := ?vx54) ?hix54 ?k1x54 ?k2x54 ?k3x54 ?k4x54 ?k5x54 ?k6x54 ?hQx54 ?hYx54 ?hSx54 ?restx54; (case hix54 => (simp only [List.getElem?_toArray, List.getElem?_cons_succ, List.getElem?_cons_zero]; exact rfl)); (case k1x54 => kernel_rfl); (case k2x54 => kernel_rfl); (case k3x54 => kernel_rfl); (case k4x54 => kernel_rfl); (case k5x54 => kernel_rfl); (case k6x54 => kernel_rfl); (case hSx54 => assumption); (case hYx54 => (refine Or.inl ⟨rfl, ?hyx54⟩; intro w hSw; (try dsimp only at hSw); go_simp; (try with_reducible rfl))); (case hQx54 => exact (fun _ _ _ h => h)); (try simp only [Act.put, List.setIfInBounds_toArray, List.set_cons_zero, List.set_cons_succ]))
            (refine wpAnyL_take (n := 0) (i := 7) (oi := ?ox55) (v := ?vx55) ?hix55 ?k1x55 ?k2x55 ?k3x55 ?k4x55 ?k5x55 ?k6x55 ?hQx55 ?hYx55 ?hSx55 ?restx55; (case hix55 => (simp only [List.getElem?_toArray, List.getElem?_cons_succ, List.getElem?_cons_zero]; exact rfl)); (case k1x55 => kernel_rfl); (case k2x55 => kernel_rfl); (case k3x55 => kernel_rfl); (case k4x55 => kernel_rfl); (case k5x55 => kernel_rfl); (case k6x55 => kernel_rfl); (case hSx55 => assumption); (case hYx55 => (refine Or.inl ⟨rfl, ?hyx55⟩; intro w hSw; (try dsimp only at hSw); go_simp; (try with_reducible rfl))); (case hQx55 => exact (fun _ _ _ h => h)); (try simp only [Act.put, List.setIfInBounds_toArray, List.set_cons_zero, List.set_cons_succ]))
            (refine wpAnyL_take (n := 0) (i := 8) (oi := ?ox56) (v := ?vx56) ?hix56 ?k1x56 ?k2x56 ?k3x56 ?k4x56 ?k5x56 ?k6x56 ?hQx56 ?hYx56 ?hSx56 ?restx56; (case hix56 => (simp only [List.getElem?_toArray, List.getElem?_cons_succ, List.getElem?_cons_zero]; exact rfl)); (case k1x56 => kernel_rfl); (case k2x56 => kernel_rfl); (case k3x56 => kernel_rfl); (case k4x56 => kernel_rfl); (case k5x56 => kernel_rfl); (case k6x56 => kernel_rfl); (case hSx56 => assumption); (case hYx56 => (refine Or.inl ⟨rfl, ?hyx56⟩; intro w hSw; (try dsimp only at hSw); go_simp; (try with_reducible rfl))); (case hQx56 => exact (fun _ _ _ h => h)); (try simp only [Act.put, List.setIfInBounds_toArray, List.set_cons_zero, List.set_cons_succ]))
            (refine wpAnyL_take (n := 0) (i := 9) (oi := ?ox57) (v := ?vx57) ?hix57 ?k1x57 ?k2x57 ?k3x57 ?k4x57 ?k5x57 ?k6x57 ?hQx57 ?hYx57 ?hSx57 ?restx57; (case hix57 => (simp only [List.getElem?_toArray, List.getElem?_cons_succ, List.getElem?_cons_zero]; exact rfl)); (case k1x57 => kernel_rfl); (case k2x57 => kernel_rfl); (case k3x57 => kernel_rfl); (case k4x57 => kernel_rfl); (case k5x57 => kernel_rfl); (case k6x57 => kernel_rfl); (case hSx57 => assumption); (case hYx57 => (refine Or.inl ⟨rfl, ?hyx57⟩; intro w hSw; (try dsimp only at hSw); go_simp; (try with_reducible rfl))); (case hQx57 => exact (fun _ _ _ h => h)); (try simp only [Act.put, List.setIfInBounds_toArray, List.set_cons_zero, List.set_cons_succ]))
            (refine wpAnyL_take (n := 0) (i := 10) (oi := ?ox58) (v := ?vx58) ?hix58 ?k1x58 ?k2x58 ?k3x58 ?k4x58 ?k5x58 ?k6x58 ?hQx58 ?hYx58 ?hSx58 ?restx58; (case hix58 => (simp only [List.getElem?_toArray, List.getElem?_cons_succ, List.getElem?_cons_zero]; exact rfl)); (case k1x58 => kernel_rfl); (case k2x58 => kernel_rfl); (case k3x58 => kernel_rfl); (case k4x58 => kernel_rfl); (case k5x58 => kernel_rfl); (case k6x58 => kernel_rfl); (case hSx58 => assumption); (case hYx58 => (refine Or.inl ⟨rfl, ?hyx58⟩; intro w hSw; (try dsimp only at hSw); go_simp; (try with_reducible rfl))); (case hQx58 => exact (fun _ _ _ h => h)); (try simp only [Act.put, List.setIfInBounds_toArray, List.set_cons_zero, List.set_cons_succ]))
            (refine wpAnyL_take (n := 0) (i := 11) (oi := ?ox59) (v := ?vx59) ?hix59 ?k1x59 ?k2x59 ?k3x59 ?k4x59 ?k5x59 ?k6x59 ?hQx59 ?hYx59 ?hSx59 ?restx59; (case hix59 => (simp only [List.getElem?_toArray, List.getElem?_cons_succ, List.getElem?_cons_zero]; exact rfl)); (case k1x59 => kernel_rfl); (case k2x59 => kernel_rfl); (case k3x59 => kernel_rfl); (case k4x59 => kernel_rfl); (case k5x59 => kernel_rfl); (case k6x59 => kernel_rfl); (case hSx59 => assumption); (case hYx59 => (refine Or.inl ⟨rfl, ?hyx59⟩; intro w hSw; (try dsimp only at hSw); go_simp; (try with_reducible rfl))); (case hQx59 => exact (fun _ _ _ h => h)); (try simp only [Act.put, List.setIfInBounds_toArray, List.set_cons_zero, List.set_cons_succ]))
            (refine wpAnyL_take (n := 0) (i := 12) (oi := ?ox60) (v := ?vx60) ?hix60 ?k1x60 ?k2x60 ?k3x60 ?k4x60 ?k5x60 ?k6x60 ?hQx60 ?hYx60 ?hSx60 ?restx60; (case hix60 => (simp only [List.getElem?_toArray, List.getElem?_cons_succ, List.getElem?_cons_zero]; exact rfl)); (case k1x60 => kernel_rfl); (case k2x60 => kernel_rfl); (case k3x60 => kernel_rfl); (case k4x60 => kernel_rfl); (case k5x60 => kernel_rfl); (case k6x60 => kernel_rfl); (case hSx60 => assumption); (case hYx60 => (refine Or.inl ⟨rfl, ?hyx60⟩; intro w hSw; (try dsimp only at hSw); go_simp; (try with_reducible rfl))); (case hQx60 => exact (fun _ _ _ h => h)); (try simp only [Act.put, List.setIfInBounds_toArray, List.set_cons_zero, List.set_cons_succ]))
            (refine wpAnyL_take (n := 0) (i := 13) (oi := ?ox61) (v := ?vx61) ?hix61 ?k1x61 ?k2x61 ?k3x61 ?k4x61 ?k5x61 ?k6x61 ?hQx61 ?hYx61 ?hSx61 ?restx61; (case hix61 => (simp only [List.getElem?_toArray, List.getElem?_cons_succ, List.getElem?_cons_zero]; exact rfl)); (case k1x61 => kernel_rfl); (case k2x61 => kernel_rfl); (case k3x61 => kernel_rfl); (case k4x61 => kernel_rfl); (case k5x61 => kernel_rfl); (case k6x61 => kernel_rfl); (case hSx61 => assumption); (case hYx61 => (refine Or.inl ⟨rfl, ?hyx61⟩; intro w hSw; (try dsimp only at hSw); go_simp; (try with_reducible rfl))); (case hQx61 => exact (fun _ _ _ h => h)); (try simp only [Act.put, List.setIfInBounds_toArray, List.set_cons_zero, List.set_cons_succ]))
            (refine wpAnyL_done (by kernel_rfl) ?_ _)
            clear heq
            go_wp2_with fail
            go_roundw
            case rel => exact ⟨k + 1, by have := HLT.out; omega, by go_num, HB9.out⟩
            case measure => have := HLT.out; simp [intOf] <;> omega
        · obtain rfl : nI = k := by omega
          have t0 := below_tr HB.out hbr; have t1 := below_tr HQ.out hbr; have t2 := HRR.out.below hbr
          clear HB HQ HRR
          have HB := Lib.hid t0; have HQ := Lib.hid t1; have HRR := Lib.hid t2
          clear t0 t1 t2
          clear hbr hlt hk HRS
          obtain ⟨x0, x1, x2, x3, x4, x5, x6, x7, x8, x9⟩ := HXX.out _ HQ.out
          go_wp2_with fail
          go_at_call 37
          refine (HBK.out _ HB.out _ _ _ _ _ HRR.out HRO.out).mono ?_
          rintro e w1 ⟨rfl, hb9⟩
          have t0 := below_tr HB.out hb9; have t1 := below_tr HQ.out hb9; have t2 := HRR.out.below hb9
          clear HB HQ HRR
          have HB := Lib.hid t0; have HQ := Lib.hid t1; have HRR := Lib.hid t2
          clear t0 t1 t2
          clear hb9 
          clear x0 x1 x2 x3 x4 x5 x6 x7 x8 x9
          rcases HBR.out with ⟨g1, g2⟩ | ⟨g1, g2⟩
          · obtain ⟨rfl, rfl, rfl⟩ : F1 = 0 ∧ F2 = 0 ∧ F3 = 7 := by simpa using g2
            clear g2
            go_wp2_with fail
            go_at_call 18
            refine (HAW.out _).mono ?_
            rintro e w1 ⟨rfl, hb9⟩
            have t0 := below_tr HB.out hb9
            clear HB
            have HB := Lib.hid t0
            clear t0
            clear hb9 
            go_wp2_with fail
            go_ret
            exact ⟨rfl, HB.out⟩
          · obtain ⟨rfl, rfl, rfl⟩ : F1 = brkF L ∧ F2 = brkE L ∧ F3 = 0 := by simpa using g2
            have hg3 : ¬ brkF L < 0 := by omega
            clear g2
            go_wp2_with fail
            go_at_call 18
            refine (HAW.out _).mono ?_
            rintro e w1 ⟨rfl, hb9⟩
            have t0 := below_tr HB.out hb9
            clear HB
            have HB := Lib.hid t0
            clear t0
            clear hb9 
            go_wp2_with fail
            go_ret
            exact ⟨rfl, HB.out⟩
    · as_aux_lemma =>
      obtain ⟨E, hEE⟩ : ∃ E, E = errA l ws c := ⟨_, rfl⟩
      have hE0 : E ≠ 0 := by rw [hEE]; exact hE
      have HBB := Lib.hid (show brkRes l ws c = (0, 0, E) by rw [hEE]; exact brkRes_bad hE)
      rw [← hEE] at HFA
      have HRI := Lib.hid (fun (U : World) (VA IA WA CA : Option Addr) (cV cI cW cC : Nat) (hP : RdP U VA nV IA nI l WA nW ws CA nC c) (h1 : nV ≤ cV) (h2 : nI ≤ cI) => Rise_c (cW := cW) (cC := cC) hP h1 h2 hnV hnI hnW hnC)
      rw [← hEE] at HRI
      have hn1 : (E != 0) = true := by simpa using hE0
      have hn2 : (E == E) = true := by simp
      clear hEE hE
      go_wp2_with fail
      go_at_call 32
      refine (HRI.out _ _ _ _ _ _ _ _ _ ⟨HRL.out, HRW.out, HRC.out⟩ HCV.out HCI.out).mono ?_
      rintro e w1 ⟨SA, n, cS, rfl, hcs, hz, hrs, hb9⟩
      have t0 := below_tr HB.out hb9; have t1 := below_tr HQ.out hb9; have t2 := HRL.out.below hb9; have t3 := HRW.out.below hb9; have t4 := HRC.out.below hb9
      clear HB HQ HRL HRW HRC
      have HB := Lib.hid t0; have HQ := Lib.hid t1; have HRL := Lib.hid t2; have HRW := Lib.hid t3; have HRC := Lib.hid t4
      clear t0 t1 t2 t3 t4
      clear hb9 
      obtain rfl : n = 0 := hz hE0
      clear hcs hz hrs
      clear HRL HRW HRC
      clear HCV HCI HCW HCC
      obtain ⟨x0, x1, x2, x3, x4, x5, x6, x7, x8, x9⟩ := HXX.out _ HQ.out
      go_wp2_with fail
      go_at_call 20
      refine (HLK.out _ HB.out).mono ?_
      rintro e w1 ⟨VA', cV', IA', cI', rfl, hcv, hci, hrl, hb9⟩
      have t0 := below_tr HB.out hb9; have t1 := below_tr HQ.out hb9
      clear HB HQ
      have HB := Lib.hid t0; have HQ := Lib.hid t1
      clear t0 t1
      have HRL := Lib.hid hrl
      have HCV := Lib.hid hcv
      have HCI := Lib.hid hci
      clear hb9 hrl hcv hci
      clear x0 x1 x2 x3 x4 x5 x6 x7 x8 x9
      go_wp2_with fail
      go_at_call 21
      refine (HWK.out _ HB.out).mono ?_
      rintro e w1 ⟨WA', cW', rfl, hcw, hrw, hb9⟩
      have t0 := below_tr HB.out hb9; have t1 := below_tr HQ.out hb9; have t2 := HRL.out.below hb9
      clear HB HQ HRL
      have HB := Lib.hid t0; have HQ := Lib.hid t1; have HRL := Lib.hid t2
      clear t0 t1 t2
      have HRW := Lib.hid hrw
      have HCW := Lib.hid hcw
      clear hb9 hrw hcw
      go_wp2_with fail
      go_at_call 27
      refine (HLI.out _ HB.out).mono ?_
      rintro e w1 ⟨CA', cC', rfl, hcc, hrc, hb9⟩
      have t0 := below_tr HB.out hb9; have t1 := below_tr HQ.out hb9; have t2 := HRL.out.below hb9; have t3 := HRW.out.below hb9
      clear HB HQ HRL HRW
      have HB := Lib.hid t0; have HQ := Lib.hid t1; have HRL := Lib.hid t2; have HRW := Lib.hid t3
      clear t0 t1 t2 t3
      have HRC := Lib.hid hrc
      have HCC := Lib.hid hcc
      clear hb9 hrc hcc
      go_wp2_with fail
      go_at_call 33
      refine (HBB.out ▸ Break_c ⟨HRL.out, HRW.out, HRC.out⟩ HCV.out HCI.out hnV hnI hnW hnC).mono ?_
      rintro e w1 ⟨rfl, hb9⟩
      have t0 := below_tr HB.out hb9; have t1 := below_tr HQ.out hb9; have t2 := HRL.out.below hb9; have t3 := HRW.out.below hb9; have t4 := HRC.out.below hb9
      clear HB HQ HRL HRW HRC
      have HB := Lib.hid t0; have HQ := Lib.hid t1; have HRL := Lib.hid t2; have HRW := Lib.hid t3; have HRC := Lib.hid t4
      clear t0 t1 t2 t3 t4
      clear hb9 
      clear HRL HRW HRC HCV HCI HCW HCC
      obtain ⟨x0, x1, x2, x3, x4, x5, x6, x7, x8, x9⟩ := HXX.out _ HQ.out
      go_wp2_with fail
      go_at_call 34
      refine (HRF.out _ HB.out).mono ?_
      rintro e w1 ⟨rfl, hb9⟩
      have t0 := below_tr HB.out hb9; have t1 := below_tr HQ.out hb9
      clear HB HQ
      have HB := Lib.hid t0; have HQ := Lib.hid t1
      clear t0 t1
      clear hb9 
      clear x0 x1 x2 x3 x4 x5 x6 x7 x8 x9
      obtain ⟨x0, x1, x2, x3, x4, x5, x6, x7, x8, x9⟩ := HXX.out _ HQ.out
      go_wp2_with fail
      go_at_call 17
      refine (HFA.out _ HB.out).mono ?_
      rintro e w1 ⟨rfl, hb9⟩
      have t0 := below_tr HB.out hb9; have t1 := below_tr HQ.out hb9
      clear HB HQ
      have HB := Lib.hid t0; have HQ := Lib.hid t1
      clear t0 t1
      clear hb9 
      clear x0 x1 x2 x3 x4 x5 x6 x7 x8 x9
      go_wp2_with fail
      go_at_call 18
      refine (HAW.out _).mono ?_
      rintro e w1 ⟨rfl, hb9⟩
      have t0 := below_tr HB.out hb9
      clear HB
      have HB := Lib.hid t0
      clear t0
      clear hb9 
      go_wp2_with fail
      go_ret
      exact ⟨rfl, HB.out⟩
end
end Go.Proofs.Ytpijmfbpdglchaa
