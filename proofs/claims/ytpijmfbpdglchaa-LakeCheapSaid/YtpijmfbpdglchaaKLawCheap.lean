/- THE WALK of LakeCheap. -/
import Derived.Test.YtpijmfbpdglchaaKReady
import Derived.Test.YtpijmfbpdglchaaKConv
import Derived.Test.YtpijmfbpdglchaaKRef3
import Derived.Test.YtpijmfbpdglchaaKAwake
import Derived.Test.YtpijmfbpdglchaaKMoreLaw
namespace Go.Proofs.Ytpijmfbpdglchaa
open Go.RowKit Go.Proofs
attribute [local go_sem ↓] Go.wp_at_zero Go.wp_at_succ
section
variable {VA IA WA CA : Option Addr} {nV nI cV cI nW cW nC cC : Nat} {l : Lak} {ws : List Wrk} {c : List Int} {w : World}
theorem proveE (hL : RdL w VA nV IA nI l) (hW : Rd encW 3 w WA nW ws) (hC : Rd enc1 1 w CA nC c) (hcV : nV ≤ cV) (hcI : nI ≤ cI) (hok : LOk l) (hwk : WOk ws) (hcho : choB ws.length c = true) :
    Calls Try.prog 26 #[.agg (lA VA nV cV IA nI cI l), .slice WA nW cW, .slice CA nC cC] w fun e w' => e = .returned (.bool (enB l ws c)) ∧ Below w.heap.size w w' := by
  have h1 := hL.vols.len; have h2 := hL.infl.len; have h3 := hW.len; have h4 := hC.len
  have h5 := hok.n; have h6 := hok.h; have h7 := hwk.n; have h8 := cho_len hcho
  refine (prove_c ⟨hL, hW, hC⟩ hcV hcI (by unfold maxLen; omega) (by unfold maxLen; omega) (by unfold maxLen; omega) (by unfold maxLen; omega)).mono ?_
  rintro e w' ⟨rfl, hb⟩
  refine ⟨?_, hb⟩
  have he : errA l ws c = 0 := errA_zero.2 ⟨hok, hwk, hcho⟩
  unfold proveB
  rw [he]
  cases hen : enB l ws c
  · have := enB_not.1 hen
    simp; omega
  · have := enB_iff.1 hen
    simp; omega
set_option maxRecDepth 100000 in
set_option maxHeartbeats 4000000 in
theorem LakeCheap_w (h : RdL w VA nV IA nI l) (hw : Rd encW 3 w WA nW ws) (hc : Rd enc1 1 w CA nC c) (hnV : nV ≤ maxLen) (hnI : nI ≤ maxLen) (hnW : nW ≤ maxLen) (hnC : nC ≤ maxLen) :
    Calls Try.prog 5 #[.agg (lA VA nV cV IA nI cI l), .slice WA nW cW, .slice CA nC cC] w fun e w' => e = .returned (.bool true) ∧ Below w.heap.size w w' := by
  have hb0 := (Below.refl w.heap.size w).alloc (Nat.le_refl _) (.cells (lA VA nV cV IA nI cI l) 27)
  have HB := Lib.hid hb0
  have HRY := Lib.hid (fun (U : World) (hU : Below w.heap.size w U) => ready_c (cV := cV) (cI := cI) (cW := cW) (cC := cC) (h.below hU) (hw.below hU) (hc.below hU) hnV hnI hnW hnC)
  have HXX := Lib.hid (fun U hU => lA_cells (VA := VA) (IA := IA) (nV := nV) (nI := nI) (cV := cV) (cI := cI) (l := l) w (U := U) hU)
  have HL := Lib.hid h; have HW := Lib.hid hw; have HC := Lib.hid hc
  have HAW := Lib.hid (fun (U : World) => awake_c U)
  clear h hw hc hb0
  cases hr : readyB l ws c
  · rw [hr] at HRY
    go_enter Try.func5, Try.ntmps5
    go_wp2_with (first | (go_at_call 28; refine (HRY.out _ HB.out).mono ?_; rintro e w1 ⟨rfl, hb1⟩; have HB1 := Lib.hid (below_tr HB.out hb1); clear hb1) | (go_at_call 18; refine (HAW.out _).mono ?_; rintro e w2 ⟨rfl, hb2⟩; have HB2 := Lib.hid (below_tr HB1.out hb2); clear hb2))
    go_ret
    exact ⟨rfl, HB2.out⟩
  · obtain ⟨i0, hi0, hz0, hz1, hz2⟩ := info_parts infoZ
    have HI := Lib.hid hi0; have HZ0 := Lib.hid hz0; have HZ1 := Lib.hid hz1; have HZ2 := Lib.hid hz2
    clear hi0 hz0 hz1 hz2
    rw [hr] at HRY
    obtain ⟨hth, hok, hwk, hcho⟩ := readyB_iff.1 hr
    have h30 := hok.n; have h60 := hok.h; have h10 := hwk.n
    have hvl := HL.out.vols.len; have hil := HL.out.infl.len; have hwl := HW.out.len; have hcl := HC.out.len
    have hclen := cho_len hcho
    have HLK := Lib.hid (fun (U : World) (hU : Below w.heap.size w U) => LakeR_c (cV := cV) (cI := cI) (HL.out.below hU) (by omega) (by omega))
    have HWK := Lib.hid (fun (U : World) (hU : Below w.heap.size w U) => WorksR_c (c := cW) (HW.out.below hU) (by omega))
    have HOK := Lib.hid hok; have HWO := Lib.hid hwk; have HCO := Lib.hid hcho
    have hnw : nW ≤ 10 := by omega
    have hnc : nC ≤ 10 := by omega
    have HVL := Lib.hid hvl; have HWL := Lib.hid hwl; have HCL := Lib.hid hcl
    clear hr hth hok hwk hcho h30 h60 h10 hvl hil hwl hcl hclen hnV hnI hnW hnC
    go_enter Try.func5, Try.ntmps5
    go_wp2_with (first
      | (go_at_call 28; refine (HRY.out _ HB.out).mono ?_; rintro e w1 ⟨rfl, hb1⟩; have hb2 := below_tr HB.out hb1; have hq := hb1; clear HB; have HB := Lib.hid hb2; have HQ := Lib.hid hq; clear hb1 hb2 hq; obtain ⟨x0, x1, x2, x3, x4, x5, x6, x7, x8, x9⟩ := HXX.out _ HQ.out)
      | (go_at_call 20; refine (HLK.out _ HB.out).mono ?_; rintro e w1 ⟨VA', cV', IA', cI', rfl, hcv, hci, hrl, hb1⟩; have HRL := Lib.hid hrl; have HCV := Lib.hid hcv; have HCI := Lib.hid hci; have hb2 := below_tr HB.out hb1; have hq := below_tr HQ.out hb1; clear HB HQ; have HB := Lib.hid hb2; have HQ := Lib.hid hq; clear hb1 hb2 hq hrl hcv hci; obtain ⟨x0, x1, x2, x3, x4, x5, x6, x7, x8, x9⟩ := HXX.out _ HQ.out)
      | (go_at_call 21; refine (HWK.out _ HB.out).mono ?_; rintro e w1 ⟨WA', cW', rfl, hcw, hrw, hb1⟩; have HRW := Lib.hid hrw; have HCW := Lib.hid hcw; have hrl := HRL.out.below hb1; clear HRL; have HRL := Lib.hid hrl; have hb2 := below_tr HB.out hb1; have hq := below_tr HQ.out hb1; clear HB HQ; have HB := Lib.hid hb2; have HQ := Lib.hid hq; clear hb1 hb2 hq hrl hrw hcw; obtain ⟨x0, x1, x2, x3, x4, x5, x6, x7, x8, x9⟩ := HXX.out _ HQ.out))
    go_at_call 19
    refine (Cheapest_c HRL.out HRW.out HCV.out HCI.out HOK.out HWO.out).mono ?_
    rintro e wq ⟨hcase, hbq⟩
    have hb2 := below_tr HB.out hbq; have hq := below_tr HQ.out hbq
    clear HB HQ
    have HB := Lib.hid hb2; have HQ := Lib.hid hq
    clear hb2 hq hbq
    obtain ⟨A9, n9, c9, P, E, b9, rfl, hn9, hr9, hans⟩ : ∃ A n c P E b, e = .returned (.tuple #[.slice A n c, .int .i64 P, .int .i64 E]) ∧ n ≤ 10 ∧ Rd enc1 1 wq A n b ∧ ((E = 0 ∧ P = priceC ws b ∧ Best l ws b) ∨ (E = 9 ∧ ∀ c, choB ws.length c = true → enB l ws c = false)) := by
      rcases hcase with ⟨A9, n9, c9, b9, rfl, hn9, hr9, hbest⟩ | ⟨hno, rfl⟩
      · exact ⟨A9, n9, c9, _, _, b9, rfl, hn9, hr9, .inl ⟨rfl, rfl, hbest⟩⟩
      · exact ⟨none, 0, 0, _, _, [], rfl, by omega, Rd.nil _ _ _ _, .inr ⟨rfl, hno⟩⟩
    have HR9 := Lib.hid hr9; have HANS := Lib.hid hans
    have HQ0 := HQ
    clear hcase hr9 hans HRL HRW HCV HCI HQ x0 x1 x2 x3 x4 x5 x6 x7 x8 x9
    go_wp2_with fail
    go_loopw [10, 11] (fun v i wr => ∃ k : Nat, k ≤ nW ∧ i = .int .i64 k ∧ wr.ownsRow wq.heap.size 3 1 v k ((allW k).flatMap enc1) ∧ Below wq.heap.size wq wr) (fun _ i _ => nW - (intOf i).toNat)
    case atStart => exact ⟨0, Nat.zero_le _, rfl, World.ownsRow_nil _ _ _ _, Below.refl _ _⟩
    case round =>
      obtain ⟨k, hk, rfl, hown, hbr⟩ := hrel
      by_cases hlt : k < nW
      · have HO := Lib.hid hown; have HBR := Lib.hid hbr
        have hszr := hbr.size
        clear hown hbr
        have hkn : (k : Int) < (nW : Int) := by omega
        go_wp2_with (at_builtin; go_must (refine wpList_append_own_at _ rfl _ _ 22 rfl wq.heap.size 3 i0 _ 1 8 Try.underlying22 HI.out HZ0.out HZ1.out HZ2.out rfl (by decide) _ _ _ rfl (HO.out.alloc _) ⟨wr.heap.size, 0, none⟩ 1 1 [.int .i64 k] rfl rfl (fun j u hj => World.news_of_block (cs := #[.int .i64 k]) (t := 3) (fr := (0, 0)) (heap_alloc_new wr _) j u hj) (by simp [Value.oneCell']) (by unfold maxLen; omega) (by omega) (by simp; omega) ?_; intro v1 w1 hown1 hgrow _ _))
        have hO1 : w1.ownsRow wq.heap.size 3 1 v1 (k + 1) ((allW (k + 1)).flatMap enc1) := by
          have : allW (k + 1) = allW k ++ [(k : Int)] := by simp [allW, List.range_succ]
          rw [this, List.flatMap_append]; simpa [enc1] using hown1
        have HO1 := Lib.hid hO1
        have HB1 := Lib.hid ((HBR.out.alloc hszr _).grown hgrow (by simp; omega) (fun g hg => (HO.out.lt g hg).1))
        clear hown1 hgrow hO1
        go_wp2_with fail
        go_roundw
        case rel => exact ⟨k + 1, by omega, by go_num, HO1.out, HB1.out⟩
        case measure => simp [intOf] <;> omega
      · obtain rfl : nW = k := by omega
        obtain ⟨SA, sc, rfl, hsc⟩ := own_form hown
        have HRA := Lib.hid (Rd.of_own enc1_len hown (allW_len nW))
        have hb2 := below_tr HB.out hbr
        have hq := below_tr HQ0.out hbr
        have ha2 := HR9.out.below hbr
        clear HB HR9
        have HB := Lib.hid hb2; have HQ := Lib.hid hq; have HR9 := Lib.hid ha2
        clear hb2 hq ha2 hown hbr hsc
        obtain ⟨x0, x1, x2, x3, x4, x5, x6, x7, x8, x9⟩ := HXX.out _ HQ.out
        have HCA := Lib.hid (show choB ws.length (allW nW) = true by rw [HWL.out]; exact allW_cho nW)
        have HLI := Lib.hid (fun (U : World) (hU : Below w.heap.size w U) => listR_c (c := cC) (HC.out.below hU) (by omega))
        rcases HANS.out with ⟨rfl, rfl, hbest⟩ | ⟨rfl, hno⟩
        · have HCB := Lib.hid hbest.cho
          have HEB := Lib.hid hbest.en
          have HEA := Lib.hid (show enB l ws (allW nW) = true by
            have := en_all HOK.out HWO.out hbest.cho hbest.en
            rw [HWL.out] at this; exact this)
          cases hec : enB l ws c
          · have HEC := Lib.hid hec
            have HLT := Lib.hid (show True from trivial)
            clear hec hbest HANS
            go_wp2_with (first
          | (go_at_call 20; refine (HLK.out _ HB.out).mono ?_; rintro e w1 ⟨VA', cV', IA', cI', rfl, hcv, hci, hrl, hb1⟩; (try clear HRL HCV HCI); have HRL := Lib.hid hrl; have HCV := Lib.hid hcv; have HCI := Lib.hid hci; clear hrl hcv hci; have hb2 := below_tr HB.out hb1; have hq := below_tr HQ.out hb1; clear HB HQ; have HB := Lib.hid hb2; have HQ := Lib.hid hq; clear hb2 hq; have ha2 := HRA.out.below hb1; clear HRA; have HRA := Lib.hid ha2; clear ha2; have ha2 := HR9.out.below hb1; clear HR9; have HR9 := Lib.hid ha2; clear ha2; clear hb1; (try clear x0 x1 x2 x3 x4 x5 x6 x7 x8 x9); obtain ⟨x0, x1, x2, x3, x4, x5, x6, x7, x8, x9⟩ := HXX.out _ HQ.out)
          | (go_at_call 21; refine (HWK.out _ HB.out).mono ?_; rintro e w1 ⟨WA', cW', rfl, hcw, hrw, hb1⟩; (try clear HRW); have HRW := Lib.hid hrw; clear hrw hcw; have hb2 := below_tr HB.out hb1; have hq := below_tr HQ.out hb1; clear HB HQ; have HB := Lib.hid hb2; have HQ := Lib.hid hq; clear hb2 hq; have ha2 := HRA.out.below hb1; clear HRA; have HRA := Lib.hid ha2; clear ha2; have ha2 := HR9.out.below hb1; clear HR9; have HR9 := Lib.hid ha2; clear ha2; have ha2 := HRL.out.below hb1; clear HRL; have HRL := Lib.hid ha2; clear ha2; clear hb1; (try clear x0 x1 x2 x3 x4 x5 x6 x7 x8 x9); obtain ⟨x0, x1, x2, x3, x4, x5, x6, x7, x8, x9⟩ := HXX.out _ HQ.out)
          | (go_at_call 27; (first | (with_reducible refine (HLI.out _ HB.out).mono ?_) | (with_reducible refine (listR_c HR9.out (by omega)).mono ?_)); rintro e w1 ⟨LA', cL', rfl, hcl', hrli, hb1⟩; (try clear HRI); have HRI := Lib.hid hrli; clear hrli hcl'; have hb2 := below_tr HB.out hb1; have hq := below_tr HQ.out hb1; clear HB HQ; have HB := Lib.hid hb2; have HQ := Lib.hid hq; clear hb2 hq; have ha2 := HRA.out.below hb1; clear HRA; have HRA := Lib.hid ha2; clear ha2; have ha2 := HR9.out.below hb1; clear HR9; have HR9 := Lib.hid ha2; clear ha2; have ha2 := HRL.out.below hb1; clear HRL; have HRL := Lib.hid ha2; clear ha2; have ha2 := HRW.out.below hb1; clear HRW; have HRW := Lib.hid ha2; clear ha2; clear hb1; (try clear x0 x1 x2 x3 x4 x5 x6 x7 x8 x9); obtain ⟨x0, x1, x2, x3, x4, x5, x6, x7, x8, x9⟩ := HXX.out _ HQ.out)
          | (go_at_call 26; (first | (with_reducible refine (proveE HRL.out HRW.out HRI.out HCV.out HCI.out HOK.out HWO.out HCO.out).mono ?_) | (with_reducible refine (proveE HRL.out HRW.out HRI.out HCV.out HCI.out HOK.out HWO.out HCB.out).mono ?_) | (with_reducible refine (proveE HRL.out HRW.out HRA.out HCV.out HCI.out HOK.out HWO.out HCA.out).mono ?_)); rintro e w1 ⟨rfl, hb1⟩; have hb2 := below_tr HB.out hb1; have hq := below_tr HQ.out hb1; clear HB HQ; have HB := Lib.hid hb2; have HQ := Lib.hid hq; clear hb2 hq; have ha2 := HRA.out.below hb1; clear HRA; have HRA := Lib.hid ha2; clear ha2; have ha2 := HR9.out.below hb1; clear HR9; have HR9 := Lib.hid ha2; clear ha2; clear hb1; (try clear x0 x1 x2 x3 x4 x5 x6 x7 x8 x9); obtain ⟨x0, x1, x2, x3, x4, x5, x6, x7, x8, x9⟩ := HXX.out _ HQ.out; (try simp only [HEA.out]); (try simp only [HEC.out]); (try simp only [HEB.out]))
          | (go_at_call 18; refine (HAW.out _).mono ?_; rintro e w1 ⟨rfl, hb1⟩; have hb2 := below_tr HB.out hb1; have hq := below_tr HQ.out hb1; clear HB HQ; have HB := Lib.hid hb2; have HQ := Lib.hid hq; clear hb2 hq; clear hb1)
          | (go_at_call 29; refine (rChoice_c (HW.out.below HB.out) HR9.out (by unfold maxLen; omega) (by unfold maxLen; omega)).mono ?_; rintro e w1 ⟨rfl, hb1⟩; have hb2 := below_tr HB.out hb1; have hq := below_tr HQ.out hb1; clear HB HQ; have HB := Lib.hid hb2; have HQ := Lib.hid hq; clear hb2 hq; have ha2 := HRA.out.below hb1; clear HRA; have HRA := Lib.hid ha2; clear ha2; have ha2 := HR9.out.below hb1; clear HR9; have HR9 := Lib.hid ha2; clear ha2; clear hb1; (try clear x0 x1 x2 x3 x4 x5 x6 x7 x8 x9); obtain ⟨x0, x1, x2, x3, x4, x5, x6, x7, x8, x9⟩ := HXX.out _ HQ.out; simp only [HCB.out])
          | (go_at_call 24; refine (rPrice_c (HW.out.below HB.out) HR9.out HWO.out HCB.out hn9).mono ?_; rintro e w1 ⟨rfl, hb1⟩; have hb2 := below_tr HB.out hb1; have hq := below_tr HQ.out hb1; clear HB HQ; have HB := Lib.hid hb2; have HQ := Lib.hid hq; clear hb2 hq; have ha2 := HRA.out.below hb1; clear HRA; have HRA := Lib.hid ha2; clear ha2; have ha2 := HR9.out.below hb1; clear HR9; have HR9 := Lib.hid ha2; clear ha2; clear hb1; (try clear x0 x1 x2 x3 x4 x5 x6 x7 x8 x9); obtain ⟨x0, x1, x2, x3, x4, x5, x6, x7, x8, x9⟩ := HXX.out _ HQ.out)
          | (go_at_call 30; refine (rLess_c (HW.out.below HB.out) (HC.out.below HB.out) HR9.out HWO.out HCO.out HCB.out hnc hn9).mono ?_; rintro e w1 ⟨rfl, hb1⟩; have hb2 := below_tr HB.out hb1; have hq := below_tr HQ.out hb1; clear HB HQ; have HB := Lib.hid hb2; have HQ := Lib.hid hq; clear hb2 hq; have ha2 := HRA.out.below hb1; clear HRA; have HRA := Lib.hid ha2; clear ha2; have ha2 := HR9.out.below hb1; clear HR9; have HR9 := Lib.hid ha2; clear ha2; clear hb1; (try clear x0 x1 x2 x3 x4 x5 x6 x7 x8 x9); obtain ⟨x0, x1, x2, x3, x4, x5, x6, x7, x8, x9⟩ := HXX.out _ HQ.out; (try simp only [HLT.out])))
            go_ret
            exact ⟨rfl, HB.out⟩
          · have HEC := Lib.hid hec
            have HLT := Lib.hid (hbest.le c HCO.out hec)
            clear hec hbest HANS
            go_wp2_with (first
          | (go_at_call 20; refine (HLK.out _ HB.out).mono ?_; rintro e w1 ⟨VA', cV', IA', cI', rfl, hcv, hci, hrl, hb1⟩; (try clear HRL HCV HCI); have HRL := Lib.hid hrl; have HCV := Lib.hid hcv; have HCI := Lib.hid hci; clear hrl hcv hci; have hb2 := below_tr HB.out hb1; have hq := below_tr HQ.out hb1; clear HB HQ; have HB := Lib.hid hb2; have HQ := Lib.hid hq; clear hb2 hq; have ha2 := HRA.out.below hb1; clear HRA; have HRA := Lib.hid ha2; clear ha2; have ha2 := HR9.out.below hb1; clear HR9; have HR9 := Lib.hid ha2; clear ha2; clear hb1; (try clear x0 x1 x2 x3 x4 x5 x6 x7 x8 x9); obtain ⟨x0, x1, x2, x3, x4, x5, x6, x7, x8, x9⟩ := HXX.out _ HQ.out)
          | (go_at_call 21; refine (HWK.out _ HB.out).mono ?_; rintro e w1 ⟨WA', cW', rfl, hcw, hrw, hb1⟩; (try clear HRW); have HRW := Lib.hid hrw; clear hrw hcw; have hb2 := below_tr HB.out hb1; have hq := below_tr HQ.out hb1; clear HB HQ; have HB := Lib.hid hb2; have HQ := Lib.hid hq; clear hb2 hq; have ha2 := HRA.out.below hb1; clear HRA; have HRA := Lib.hid ha2; clear ha2; have ha2 := HR9.out.below hb1; clear HR9; have HR9 := Lib.hid ha2; clear ha2; have ha2 := HRL.out.below hb1; clear HRL; have HRL := Lib.hid ha2; clear ha2; clear hb1; (try clear x0 x1 x2 x3 x4 x5 x6 x7 x8 x9); obtain ⟨x0, x1, x2, x3, x4, x5, x6, x7, x8, x9⟩ := HXX.out _ HQ.out)
          | (go_at_call 27; (first | (with_reducible refine (HLI.out _ HB.out).mono ?_) | (with_reducible refine (listR_c HR9.out (by omega)).mono ?_)); rintro e w1 ⟨LA', cL', rfl, hcl', hrli, hb1⟩; (try clear HRI); have HRI := Lib.hid hrli; clear hrli hcl'; have hb2 := below_tr HB.out hb1; have hq := below_tr HQ.out hb1; clear HB HQ; have HB := Lib.hid hb2; have HQ := Lib.hid hq; clear hb2 hq; have ha2 := HRA.out.below hb1; clear HRA; have HRA := Lib.hid ha2; clear ha2; have ha2 := HR9.out.below hb1; clear HR9; have HR9 := Lib.hid ha2; clear ha2; have ha2 := HRL.out.below hb1; clear HRL; have HRL := Lib.hid ha2; clear ha2; have ha2 := HRW.out.below hb1; clear HRW; have HRW := Lib.hid ha2; clear ha2; clear hb1; (try clear x0 x1 x2 x3 x4 x5 x6 x7 x8 x9); obtain ⟨x0, x1, x2, x3, x4, x5, x6, x7, x8, x9⟩ := HXX.out _ HQ.out)
          | (go_at_call 26; (first | (with_reducible refine (proveE HRL.out HRW.out HRI.out HCV.out HCI.out HOK.out HWO.out HCO.out).mono ?_) | (with_reducible refine (proveE HRL.out HRW.out HRI.out HCV.out HCI.out HOK.out HWO.out HCB.out).mono ?_) | (with_reducible refine (proveE HRL.out HRW.out HRA.out HCV.out HCI.out HOK.out HWO.out HCA.out).mono ?_)); rintro e w1 ⟨rfl, hb1⟩; have hb2 := below_tr HB.out hb1; have hq := below_tr HQ.out hb1; clear HB HQ; have HB := Lib.hid hb2; have HQ := Lib.hid hq; clear hb2 hq; have ha2 := HRA.out.below hb1; clear HRA; have HRA := Lib.hid ha2; clear ha2; have ha2 := HR9.out.below hb1; clear HR9; have HR9 := Lib.hid ha2; clear ha2; clear hb1; (try clear x0 x1 x2 x3 x4 x5 x6 x7 x8 x9); obtain ⟨x0, x1, x2, x3, x4, x5, x6, x7, x8, x9⟩ := HXX.out _ HQ.out; (try simp only [HEA.out]); (try simp only [HEC.out]); (try simp only [HEB.out]))
          | (go_at_call 18; refine (HAW.out _).mono ?_; rintro e w1 ⟨rfl, hb1⟩; have hb2 := below_tr HB.out hb1; have hq := below_tr HQ.out hb1; clear HB HQ; have HB := Lib.hid hb2; have HQ := Lib.hid hq; clear hb2 hq; clear hb1)
          | (go_at_call 29; refine (rChoice_c (HW.out.below HB.out) HR9.out (by unfold maxLen; omega) (by unfold maxLen; omega)).mono ?_; rintro e w1 ⟨rfl, hb1⟩; have hb2 := below_tr HB.out hb1; have hq := below_tr HQ.out hb1; clear HB HQ; have HB := Lib.hid hb2; have HQ := Lib.hid hq; clear hb2 hq; have ha2 := HRA.out.below hb1; clear HRA; have HRA := Lib.hid ha2; clear ha2; have ha2 := HR9.out.below hb1; clear HR9; have HR9 := Lib.hid ha2; clear ha2; clear hb1; (try clear x0 x1 x2 x3 x4 x5 x6 x7 x8 x9); obtain ⟨x0, x1, x2, x3, x4, x5, x6, x7, x8, x9⟩ := HXX.out _ HQ.out; simp only [HCB.out])
          | (go_at_call 24; refine (rPrice_c (HW.out.below HB.out) HR9.out HWO.out HCB.out hn9).mono ?_; rintro e w1 ⟨rfl, hb1⟩; have hb2 := below_tr HB.out hb1; have hq := below_tr HQ.out hb1; clear HB HQ; have HB := Lib.hid hb2; have HQ := Lib.hid hq; clear hb2 hq; have ha2 := HRA.out.below hb1; clear HRA; have HRA := Lib.hid ha2; clear ha2; have ha2 := HR9.out.below hb1; clear HR9; have HR9 := Lib.hid ha2; clear ha2; clear hb1; (try clear x0 x1 x2 x3 x4 x5 x6 x7 x8 x9); obtain ⟨x0, x1, x2, x3, x4, x5, x6, x7, x8, x9⟩ := HXX.out _ HQ.out)
          | (go_at_call 30; refine (rLess_c (HW.out.below HB.out) (HC.out.below HB.out) HR9.out HWO.out HCO.out HCB.out hnc hn9).mono ?_; rintro e w1 ⟨rfl, hb1⟩; have hb2 := below_tr HB.out hb1; have hq := below_tr HQ.out hb1; clear HB HQ; have HB := Lib.hid hb2; have HQ := Lib.hid hq; clear hb2 hq; have ha2 := HRA.out.below hb1; clear HRA; have HRA := Lib.hid ha2; clear ha2; have ha2 := HR9.out.below hb1; clear HR9; have HR9 := Lib.hid ha2; clear ha2; clear hb1; (try clear x0 x1 x2 x3 x4 x5 x6 x7 x8 x9); obtain ⟨x0, x1, x2, x3, x4, x5, x6, x7, x8, x9⟩ := HXX.out _ HQ.out; (try simp only [HLT.out])))
            go_ret
            exact ⟨rfl, HB.out⟩
        · have HEA := Lib.hid (hno _ HCA.out)
          have HEC := Lib.hid (hno _ HCO.out)
          have HCB := Lib.hid (show True from trivial)
          have HEB := Lib.hid (show True from trivial)
          clear hno HANS
          go_wp2_with (first
          | (go_at_call 20; refine (HLK.out _ HB.out).mono ?_; rintro e w1 ⟨VA', cV', IA', cI', rfl, hcv, hci, hrl, hb1⟩; (try clear HRL HCV HCI); have HRL := Lib.hid hrl; have HCV := Lib.hid hcv; have HCI := Lib.hid hci; clear hrl hcv hci; have hb2 := below_tr HB.out hb1; have hq := below_tr HQ.out hb1; clear HB HQ; have HB := Lib.hid hb2; have HQ := Lib.hid hq; clear hb2 hq; have ha2 := HRA.out.below hb1; clear HRA; have HRA := Lib.hid ha2; clear ha2; have ha2 := HR9.out.below hb1; clear HR9; have HR9 := Lib.hid ha2; clear ha2; clear hb1; (try clear x0 x1 x2 x3 x4 x5 x6 x7 x8 x9); obtain ⟨x0, x1, x2, x3, x4, x5, x6, x7, x8, x9⟩ := HXX.out _ HQ.out)
          | (go_at_call 21; refine (HWK.out _ HB.out).mono ?_; rintro e w1 ⟨WA', cW', rfl, hcw, hrw, hb1⟩; (try clear HRW); have HRW := Lib.hid hrw; clear hrw hcw; have hb2 := below_tr HB.out hb1; have hq := below_tr HQ.out hb1; clear HB HQ; have HB := Lib.hid hb2; have HQ := Lib.hid hq; clear hb2 hq; have ha2 := HRA.out.below hb1; clear HRA; have HRA := Lib.hid ha2; clear ha2; have ha2 := HR9.out.below hb1; clear HR9; have HR9 := Lib.hid ha2; clear ha2; have ha2 := HRL.out.below hb1; clear HRL; have HRL := Lib.hid ha2; clear ha2; clear hb1; (try clear x0 x1 x2 x3 x4 x5 x6 x7 x8 x9); obtain ⟨x0, x1, x2, x3, x4, x5, x6, x7, x8, x9⟩ := HXX.out _ HQ.out)
          | (go_at_call 27; (first | (with_reducible refine (HLI.out _ HB.out).mono ?_) | (with_reducible refine (listR_c HR9.out (by omega)).mono ?_)); rintro e w1 ⟨LA', cL', rfl, hcl', hrli, hb1⟩; (try clear HRI); have HRI := Lib.hid hrli; clear hrli hcl'; have hb2 := below_tr HB.out hb1; have hq := below_tr HQ.out hb1; clear HB HQ; have HB := Lib.hid hb2; have HQ := Lib.hid hq; clear hb2 hq; have ha2 := HRA.out.below hb1; clear HRA; have HRA := Lib.hid ha2; clear ha2; have ha2 := HR9.out.below hb1; clear HR9; have HR9 := Lib.hid ha2; clear ha2; have ha2 := HRL.out.below hb1; clear HRL; have HRL := Lib.hid ha2; clear ha2; have ha2 := HRW.out.below hb1; clear HRW; have HRW := Lib.hid ha2; clear ha2; clear hb1; (try clear x0 x1 x2 x3 x4 x5 x6 x7 x8 x9); obtain ⟨x0, x1, x2, x3, x4, x5, x6, x7, x8, x9⟩ := HXX.out _ HQ.out)
          | (go_at_call 26; (first | (with_reducible refine (proveE HRL.out HRW.out HRI.out HCV.out HCI.out HOK.out HWO.out HCO.out).mono ?_) | (with_reducible refine (proveE HRL.out HRW.out HRI.out HCV.out HCI.out HOK.out HWO.out HCB.out).mono ?_) | (with_reducible refine (proveE HRL.out HRW.out HRA.out HCV.out HCI.out HOK.out HWO.out HCA.out).mono ?_)); rintro e w1 ⟨rfl, hb1⟩; have hb2 := below_tr HB.out hb1; have hq := below_tr HQ.out hb1; clear HB HQ; have HB := Lib.hid hb2; have HQ := Lib.hid hq; clear hb2 hq; have ha2 := HRA.out.below hb1; clear HRA; have HRA := Lib.hid ha2; clear ha2; have ha2 := HR9.out.below hb1; clear HR9; have HR9 := Lib.hid ha2; clear ha2; clear hb1; (try clear x0 x1 x2 x3 x4 x5 x6 x7 x8 x9); obtain ⟨x0, x1, x2, x3, x4, x5, x6, x7, x8, x9⟩ := HXX.out _ HQ.out; (try simp only [HEA.out]); (try simp only [HEC.out]); (try simp only [HEB.out]))
          | (go_at_call 18; refine (HAW.out _).mono ?_; rintro e w1 ⟨rfl, hb1⟩; have hb2 := below_tr HB.out hb1; have hq := below_tr HQ.out hb1; clear HB HQ; have HB := Lib.hid hb2; have HQ := Lib.hid hq; clear hb2 hq; clear hb1)
          | (go_at_call 29; refine (rChoice_c (HW.out.below HB.out) HR9.out (by unfold maxLen; omega) (by unfold maxLen; omega)).mono ?_; rintro e w1 ⟨rfl, hb1⟩; have hb2 := below_tr HB.out hb1; have hq := below_tr HQ.out hb1; clear HB HQ; have HB := Lib.hid hb2; have HQ := Lib.hid hq; clear hb2 hq; have ha2 := HRA.out.below hb1; clear HRA; have HRA := Lib.hid ha2; clear ha2; have ha2 := HR9.out.below hb1; clear HR9; have HR9 := Lib.hid ha2; clear ha2; clear hb1; (try clear x0 x1 x2 x3 x4 x5 x6 x7 x8 x9); obtain ⟨x0, x1, x2, x3, x4, x5, x6, x7, x8, x9⟩ := HXX.out _ HQ.out; simp only [HCB.out])
          | (go_at_call 24; refine (rPrice_c (HW.out.below HB.out) HR9.out HWO.out HCB.out hn9).mono ?_; rintro e w1 ⟨rfl, hb1⟩; have hb2 := below_tr HB.out hb1; have hq := below_tr HQ.out hb1; clear HB HQ; have HB := Lib.hid hb2; have HQ := Lib.hid hq; clear hb2 hq; have ha2 := HRA.out.below hb1; clear HRA; have HRA := Lib.hid ha2; clear ha2; have ha2 := HR9.out.below hb1; clear HR9; have HR9 := Lib.hid ha2; clear ha2; clear hb1; (try clear x0 x1 x2 x3 x4 x5 x6 x7 x8 x9); obtain ⟨x0, x1, x2, x3, x4, x5, x6, x7, x8, x9⟩ := HXX.out _ HQ.out)
          | (go_at_call 30; refine (rLess_c (HW.out.below HB.out) (HC.out.below HB.out) HR9.out HWO.out HCO.out HCB.out hnc hn9).mono ?_; rintro e w1 ⟨rfl, hb1⟩; have hb2 := below_tr HB.out hb1; have hq := below_tr HQ.out hb1; clear HB HQ; have HB := Lib.hid hb2; have HQ := Lib.hid hq; clear hb2 hq; have ha2 := HRA.out.below hb1; clear HRA; have HRA := Lib.hid ha2; clear ha2; have ha2 := HR9.out.below hb1; clear HR9; have HR9 := Lib.hid ha2; clear ha2; clear hb1; (try clear x0 x1 x2 x3 x4 x5 x6 x7 x8 x9); obtain ⟨x0, x1, x2, x3, x4, x5, x6, x7, x8, x9⟩ := HXX.out _ HQ.out; (try simp only [HLT.out])))
          go_ret
          exact ⟨rfl, HB.out⟩
end
end Go.Proofs.Ytpijmfbpdglchaa
