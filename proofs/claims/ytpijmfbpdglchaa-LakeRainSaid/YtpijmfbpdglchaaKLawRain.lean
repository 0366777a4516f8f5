/- THE WALK of LakeRain. -/
import Derived.Test.YtpijmfbpdglchaaKReady
import Derived.Test.YtpijmfbpdglchaaKConv
import Derived.Test.YtpijmfbpdglchaaKAwake
import Derived.Test.YtpijmfbpdglchaaKValid
import Derived.Test.YtpijmfbpdglchaaKInts
import Derived.Test.YtpijmfbpdglchaaKHap
import Derived.Test.YtpijmfbpdglchaaKRainLaw
namespace Go.Proofs.Ytpijmfbpdglchaa
open Go.RowKit Go.Proofs
attribute [local go_sem ↓] Go.wp_at_zero Go.wp_at_succ
theorem Rd.pre {α : Type} {enc : α → List Value} {k : Nat} {w : World} {A : Option Addr} {n m : Nat} {l : List α} (h : Rd enc k w A n l) (hm : m ≤ n) : Rd enc k w A m (l.take m) := by
  refine ⟨by have := h.len; simp; omega, fun h0 => ?_⟩
  obtain ⟨b, o, e, hb, hc⟩ := h.2 (by omega)
  refine ⟨b, o, e, hb, fun i x hx j v hv => hc i x ?_ j v hv⟩
  rw [List.getElem?_take] at hx
  split at hx
  · exact hx
  · cases hx
/-- a store over a value that no element holds -/
theorem Rd.setOver {α : Type} {enc : α → List Value} {k : Nat} {w : World} {A : Option Addr} {n : Nat} {l : List α} (h : Rd enc k w A n l) {p : Addr} {s : Value} (hp : w.cell? p = some s) (hs : ∀ x, s ∉ enc x) (u : Value) : Rd enc k (w.setCell p u) A n l := by
  refine ⟨h.1, fun h0 => ?_⟩
  obtain ⟨b, o, e, hb, hc⟩ := h.2 h0
  refine ⟨b, o, e, by simpa [World.setCell] using hb, fun i x hx j v hv => ?_⟩
  have h1 := hc i x hx j v hv
  by_cases hne : p = ⟨b, o + i * k + j, none⟩
  · subst hne
    rw [hp] at h1; cases h1
    exact absurd (List.mem_of_getElem? hv) (hs x)
  · rw [World.cell?_setCell_other w p _ u hne]; exact h1
theorem run_neq_stt (a : Bool) (b c d : Int) (a' : Bool) (b' c' d' : Int) (W : World) : (binOp .neq 66 (.agg #[.bool a, .int .i64 b, .int .i64 c, .int .i64 d]) (.agg #[.bool a', .int .i64 b', .int .i64 c', .int .i64 d'])).run Try.prog W = .ok (.bool (!decide (a = a' ∧ b = b' ∧ c = c' ∧ d = d'))) W := by
  rw [run_neq_struct]
  have : (Op.equalIn 10000 66 (.agg #[.bool a, .int .i64 b, .int .i64 c, .int .i64 d]) (.agg #[.bool a', .int .i64 b', .int .i64 c', .int .i64 d'])).run Try.prog W = .ok (decide (a = a' ∧ b = b' ∧ c = c' ∧ d = d')) W := by
    simp [go_sem, Try.underlying66]
    by_cases h1 : a = a' <;> by_cases h2 : b = b' <;> by_cases h3 : c = c' <;> by_cases h4 : d = d' <;> simp [h1, h2, h3, h4]
  rw [this]; rfl
theorem blk_xA {U : World} {g : Nat} {t : TypeId} {FA SA : Option Addr} {nF cF nS cS : Nat} {x : Rel} (h : Blk U g t (xA FA nF cF SA nS cS x)) : U.cell? ⟨g, 0, none⟩ = some (.slice FA nF cF) ∧ U.cell? ⟨g, 1, none⟩ = some (.slice SA nS cS) ∧ U.cell? ⟨g, 2, none⟩ = some (.int .i64 x.start) ∧ U.cell? ⟨g, 3, none⟩ = some (.int .i64 x.soft) :=
  ⟨h.cell 0, h.cell 1, h.cell 2, h.cell 3⟩
/-- two stores over lists in a Real's box -/
theorem Rd.set2 {α : Type} {enc : α → List Value} {k : Nat} {w : World} {A : Option Addr} {n : Nat} {l : List α} (h : Rd enc k w A n l) {g : Nat} {t : TypeId} {FA SA : Option Addr} {nF cF nS cS : Nat} {x : Rel} (hx : Blk w g t (xA FA nF cF SA nS cS x)) (hs : ∀ y B m d, Value.slice B m d ∉ enc y) (u u' : Value) :
    Rd enc k ((w.setCell ⟨g, 0, none⟩ u).setCell ⟨g, 1, none⟩ u') A n l :=
  (h.setOver (s := .slice FA nF cF) (hx.cell 0) (fun y => hs y _ _ _) u).setOver (s := .slice SA nS cS) ((hx.set_ 0 u).cell 1) (fun y => hs y _ _ _) u'
theorem enc1_ns (y : Int) (B : Option Addr) (m d : Nat) : Value.slice B m d ∉ enc1 y := by simp [enc1]
theorem enc2_ns (y : Int × Int) (B : Option Addr) (m d : Nat) : Value.slice B m d ∉ enc2 y := by simp [enc2]
theorem ints_t {l l' : List Int} {A A' : Option Addr} {n c n' c' : Nat} {w : World} (h : Rd enc1 1 w A n l) (h' : Rd enc1 1 w A' n' l') (hn : n ≤ 1000000000) (he : l = l') :
    Calls Try.prog 23 #[.slice A n c, .slice A' n' c'] w fun e w' => e = .returned (.bool true) ∧ Below w.heap.size w w' := by
  have := ints_c (c := c) (c' := c') h h' hn
  rwa [decide_eq_true he] at this
theorem and10 {a b c d e f g h i j k : Prop} (h1 : a ∧ b ∧ c ∧ d ∧ e ∧ f ∧ g ∧ h ∧ i ∧ j) (h2 : k) : a ∧ b ∧ c ∧ d ∧ e ∧ f ∧ g ∧ h ∧ i ∧ j ∧ k :=
  ⟨h1.1, h1.2.1, h1.2.2.1, h1.2.2.2.1, h1.2.2.2.2.1, h1.2.2.2.2.2.1, h1.2.2.2.2.2.2.1, h1.2.2.2.2.2.2.2.1, h1.2.2.2.2.2.2.2.2.1, h1.2.2.2.2.2.2.2.2.2, h2⟩
theorem blk_lA {U : World} {g : Nat} {t : TypeId} {VA IA : Option Addr} {nV cV nI cI : Nat} {l : Lak} (h : Blk U g t (lA VA nV cV IA nI cI l)) : U.cell? ⟨g, 0, none⟩ = some (.slice VA nV cV) ∧ U.cell? ⟨g, 1, none⟩ = some (.int .i64 l.crest) ∧ U.cell? ⟨g, 2, none⟩ = some (.int .i64 l.weak) ∧ U.cell? ⟨g, 3, none⟩ = some (.int .i64 l.soft.1) ∧ U.cell? ⟨g, 4, none⟩ = some (.int .i64 l.soft.2) ∧ U.cell? ⟨g, 5, none⟩ = some (.int .i64 l.start.1) ∧ U.cell? ⟨g, 6, none⟩ = some (.int .i64 l.start.2) ∧ U.cell? ⟨g, 7, none⟩ = some (.int .i64 l.seep.1) ∧ U.cell? ⟨g, 8, none⟩ = some (.int .i64 l.seep.2) ∧ U.cell? ⟨g, 9, none⟩ = some (.slice IA nI cI) :=
  ⟨h.cell 0, h.cell 1, h.cell 2, h.cell 3, h.cell 4, h.cell 5, h.cell 6, h.cell 7, h.cell 8, h.cell 9⟩
theorem lA_cut (VA IA : Option Addr) (nV cV nI cI n : Nat) (l : Lak) : lA VA nV cV IA nI cI (cutL l n) = lA VA nV cV IA nI cI l := by simp only [lA, cutL, withI]
theorem xA_cut (FA SA : Option Addr) (nF cF nS cS n : Nat) (x : Rel) : xA FA nF cF SA nS cS (cutX x n) = xA FA nF cF SA nS cS x := by simp only [xA, cutX]
theorem Fill_cut {VA IA WA CA FA SA : Option Addr} {nV nI nW nC nF nS cV cI cW cC cF cS n : Nat} {l : Lak} {ws : List Wrk} {c : List Int} {x : Rel} {w : World} (hL : RdL w VA nV IA nI (cutL l n)) (hW : Rd encW 3 w WA nW ws) (hC : Rd enc1 1 w CA nC c) (hX : RdX w FA nF SA nS (cutX x n)) (hcV : nV ≤ cV) (hcI : nI ≤ cI) (hok : LOk (cutL l n)) (hwk : WOk ws) (hcho : choB ws.length c = true) (hf : Fits (cutL l n) (cutX x n)) :
    Calls Try.prog 39 #[.agg (lA VA nV cV IA nI cI l), .slice WA nW cW, .slice CA nC cC, .agg (xA FA nF cF SA nS cS x)] w (FillW w (cutL l n) ws c (cutX x n)) := by
  have h := Fill_3 (cW := cW) (cC := cC) (cF := cF) (cS := cS) hL hW hC hX hcV hcI hok hwk hcho hf
  rw [lA_cut, xA_cut] at h
  exact h
theorem Rise_cut {VA IA WA CA : Option Addr} {nV nI nW nC cV cI cW cC n : Nat} {l : Lak} {ws : List Wrk} {c : List Int} {w : World} (hL : RdL w VA nV IA nI (cutL l n)) (hW : Rd encW 3 w WA nW ws) (hC : Rd enc1 1 w CA nC c) (hcV : nV ≤ cV) (hcI : nI ≤ cI) (hok : LOk (cutL l n)) (hwk : WOk ws) (hcho : choB ws.length c = true) :
    Calls Try.prog 32 #[.agg (lA VA nV cV IA nI cI l), .slice WA nW cW, .slice CA nC cC] w (RiseV w nI (sttL (cutL l n) ws c)) := by
  have h := Rise_v (cW := cW) (cC := cC) hL hW hC hcV hcI hok hwk hcho
  rw [lA_cut] at h
  exact h
theorem Break_cut {VA IA WA CA : Option Addr} {nV nI nW nC cV cI cW cC n : Nat} {l : Lak} {ws : List Wrk} {c : List Int} {w : World} {F1 F2 F3 : Int} (hF : brkRes (cutL l n) ws c = (F1, F2, F3)) (hL : RdL w VA nV IA nI (cutL l n)) (hW : Rd encW 3 w WA nW ws) (hC : Rd enc1 1 w CA nC c) (hcV : nV ≤ cV) (hcI : nI ≤ cI) (hok : LOk (cutL l n)) (hwk : WOk ws) (hcho : choB ws.length c = true) :
    Calls Try.prog 33 #[.agg (lA VA nV cV IA nI cI l), .slice WA nW cW, .slice CA nC cC] w fun e w' => e = .returned (.tuple #[.int .i64 F1, .int .i64 F2, .int .i64 F3]) ∧ Below w.heap.size w w' := by
  have h := Break_3 (cW := cW) (cC := cC) hF hL hW hC hcV hcI hok hwk hcho
  rw [lA_cut] at h
  exact h
def RealQ (w : World) (nF nS n : Nat) (x : Rel) (e : Ending) (w' : World) : Prop := ∃ FA cF SA cS, e = .returned (.agg (xA FA nF cF SA nS cS x)) ∧ RdX w' FA nF SA nS (cutX x n) ∧ nF ≤ cF ∧ nS ≤ cS ∧ Below w.heap.size w w'
theorem Real_cut {FA SA : Option Addr} {nF nS cF cS n : Nat} {x : Rel} {w : World} (h : RdX w FA nF SA nS (cutX x n)) (hF : nF ≤ 1000000) (hS : nS ≤ 1000000) :
    Calls Try.prog 40 #[.agg (xA FA nF cF SA nS cS x)] w (RealQ w nF nS n x) := by
  have h := Real_c (cF := cF) (cS := cS) h hF hS
  rw [xA_cut] at h
  refine h.mono ?_
  rintro e w' ⟨FA', cF', SA', cS', he, h1⟩
  rw [xA_cut] at he
  exact ⟨FA', cF', SA', cS', he, h1⟩
section
variable {VA IA WA CA DA : Option Addr} {nV nI cV cI nW cW nC cC nD cD : Nat} {l : Lak} {ws : List Wrk} {c ds : List Int} {w : World}
set_option maxRecDepth 100000 in
set_option maxHeartbeats 8000000 in
theorem LakeRain_w (h : RdL w VA nV IA nI l) (hw : Rd encW 3 w WA nW ws) (hc : Rd enc1 1 w CA nC c) (hd : Rd encU 1 w DA nD ds) (hds : ∀ z ∈ ds, 0 ≤ z ∧ z ≤ 65535) {at_ : Int} (hat : 0 ≤ at_ ∧ at_ ≤ 255) (hnV : nV ≤ maxLen) (hnI : nI ≤ maxLen) (hcI : nI ≤ cI) (hnW : nW ≤ maxLen) (hnC : nC ≤ maxLen) (hnD : nD ≤ maxLen) :
    Calls Try.prog 12 #[.agg (lA VA nV cV IA nI cI l), .slice WA nW cW, .slice CA nC cC, .int .u8 at_, .slice DA nD cD] w fun e w' => e = .returned (.bool true) ∧ Below w.heap.size w w' := by
  have hb0 := (Below.refl w.heap.size w).alloc (Nat.le_refl _) (.cells (lA VA nV cV IA nI cI l) 27)
  have HB := Lib.hid hb0
  have HRY := Lib.hid (fun (U : World) (hU : Below w.heap.size w U) => ready_c (cV := cV) (cI := cI) (cW := cW) (cC := cC) (h.below hU) (hw.below hU) (hc.below hU) hnV hnI hnW hnC)
  have HXX := Lib.hid (fun U hU => lA_cells (VA := VA) (IA := IA) (nV := nV) (nI := nI) (cV := cV) (cI := cI) (l := l) w (U := U) hU)
  have HL := Lib.hid h; have HW := Lib.hid hw; have HC := Lib.hid hc; have HD := Lib.hid hd; have HDS := Lib.hid hds
  have HAW := Lib.hid (fun (U : World) => awake_c U)
  clear h hw hc hb0 hd hds
  cases hr : readyB l ws c
  · rw [hr] at HRY
    go_enter Try.func12, Try.ntmps12
    go_wp2_with fail
    go_at_call 28
    refine (HRY.out _ HB.out).mono ?_
    rintro e w1 ⟨rfl, hb9⟩
    have t0 := below_tr HB.out hb9
    clear HB
    have HB := Lib.hid t0
    clear t0
    clear hb9 
    go_wp2_with fail
    go_at_call 18
    refine (HAW.out _).mono ?_
    rintro e w1 ⟨rfl, hb9⟩
    have t0 := below_tr HB.out hb9
    clear HB
    have HB := Lib.hid t0
    clear t0
    clear hb9 
    go_wp2_with fail
    go_ret
    exact ⟨rfl, HB.out⟩
  · rw [hr] at HRY
    obtain ⟨hth, hok, hwk, hcho⟩ := readyB_iff.1 hr
    have h30 := hok.n; have h60 := hok.h; have h10 := hwk.n
    have hvl := HL.out.vols.len; have hil := HL.out.infl.len; have hwl := HW.out.len; have hcl := HC.out.len
    have hclen := cho_len hcho
    have HLK := Lib.hid (fun (U : World) (hU : Below w.heap.size w U) => LakeR_c (cV := cV) (cI := cI) (HL.out.below hU) (by omega) (by omega))
    have HWK := Lib.hid (fun (U : World) (hU : Below w.heap.size w U) => WorksR_c (c := cW) (HW.out.below hU) (by omega))
    have HLI := Lib.hid (fun (U : World) (hU : Below w.heap.size w U) => listR_c (c := cC) (HC.out.below hU) (by omega))
    have HHP := Lib.hid (fun (U : World) (hU : Below w.heap.size w U) => happens_c (cV := cV) (cI := cI) (cD := cD) (HL.out.below hU) hok (HD.out.below hU) HDS.out hnD)
    have HOK := Lib.hid hok; have HWO := Lib.hid hwk; have HCO := Lib.hid hcho
    have HIL := Lib.hid hil
    have hnI : nI ≤ 60 := by omega
    obtain ⟨F1, F2, F3, hF⟩ : ∃ F1 F2 F3, brkRes l ws c = (F1, F2, F3) := ⟨_, _, _, rfl⟩
    have hbr := brkRes_v hok hwk hcho
    rw [hF] at hbr
    have HBR := Lib.hid hbr; have HF := Lib.hid hF
    obtain ⟨n, hn⟩ : ∃ n : Nat, (n : Int) = at_ % ((nI : Int) + 1) := ⟨(at_ % ((nI : Int) + 1)).toNat, by have := Int.emod_nonneg at_ (show ((nI : Int) + 1) ≠ 0 by omega); omega⟩
    have hnn : n ≤ nI := by have := Int.emod_lt_of_pos at_ (show (0 : Int) < (nI : Int) + 1 by omega); omega
    have hnn' : n ≤ l.inflow.length := by omega
    obtain ⟨G1, G2, G3, hG⟩ : ∃ G1 G2 G3, brkRes (cutL l n) ws c = (G1, G2, G3) := ⟨_, _, _, rfl⟩
    have hgr := brkRes_v (cutL_ok hok hnn') hwk hcho
    rw [hG] at hgr
    have HGR := Lib.hid hgr; have HG := Lib.hid hG
    have HOK2 := Lib.hid (cutL_ok hok hnn')
    have HCL := Lib.hid hnn'
    have HN := Lib.hid hn
    clear hbr hF hgr hG hr hth hok hwk hcho h30 h60 h10 hvl hil hwl hcl hclen hnV hnW hnC hnD hnn' hn
    have HQ := Lib.hid (Below.refl (w.alloc (.cells (lA VA nV cV IA nI cI l) 27)).heap.size (w.alloc (.cells (lA VA nV cV IA nI cI l) 27)))
    go_enter Try.func12, Try.ntmps12
    go_wp2_with fail
    go_at_call 28
    refine (HRY.out _ HB.out).mono ?_
    rintro e w1 ⟨rfl, hb9⟩
    have t0 := below_tr HB.out hb9; have t1 := below_tr HQ.out hb9
    clear HB HQ
    have HB := Lib.hid t0; have HQ := Lib.hid t1
    clear t0 t1
    clear hb9 
    obtain ⟨x0, x1, x2, x3, x4, x5, x6, x7, x8, x9⟩ := HXX.out _ HQ.out
    go_wp2_with fail
    go_at_call 20
    refine (HLK.out _ HB.out).mono ?_
    rintro e w1 ⟨VS, cVS, IS, cIS, rfl, hcv, hci, hrl, hb9⟩
    have t0 := below_tr HB.out hb9; have t1 := below_tr HQ.out hb9
    clear HB HQ
    have HB := Lib.hid t0; have HQ := Lib.hid t1
    clear t0 t1
    have HSL := Lib.hid hrl
    have HSV := Lib.hid hcv
    have HSI := Lib.hid hci
    clear hb9 hrl hcv hci
    clear x0 x1 x2 x3 x4 x5 x6 x7 x8 x9
    go_upto_region 5 with fail
    rw [← HN.out]
    have hnc : n ≤ cIS := Nat.le_trans hnn HSI.out
    go_upto_region 6 with fail
    obtain ⟨SB, hSB⟩ : ∃ SB, SB = w1.heap.size := ⟨_, rfl⟩
    rw [← hSB]
    obtain ⟨W2, hW2⟩ : ∃ W2, W2 = w1.alloc (.cells (lA VS nV cVS IS n cIS l) 38) := ⟨_, rfl⟩
    rw [← hW2]
    have hb9 : Below w1.heap.size w1 W2 := by rw [hW2]; exact (Below.refl _ _).alloc (Nat.le_refl _) _
    have hsb : Blk W2 SB 38 (lA VS nV cVS IS n cIS l) := by rw [hW2, hSB]; exact Blk.new _ _ _
    have hq1 : (w.alloc (.cells (lA VA nV cV IA nI cI l) 27)).heap.size ≤ SB := by rw [hSB]; exact HQ.out.size
    have t0 := below_tr HB.out hb9; have t1 := below_tr HQ.out hb9; have t2 := HSL.out.below hb9
    clear HB HQ HSL
    have HB := Lib.hid t0; have HQ := Lib.hid t1; have HSL := Lib.hid t2
    clear t0 t1 t2
    have hrs' : RdL W2 VS nV IS n (cutL l n) := ⟨HSL.out.vols, HSL.out.infl.pre hnn⟩
    clear HSL
    have HSL := Lib.hid hrs'; have HSB := Lib.hid hsb; have HSQ := Lib.hid hq1
    clear hb9 hsb hrs' hSB hW2 hq1
    obtain ⟨x0, x1, x2, x3, x4, x5, x6, x7, x8, x9⟩ := HXX.out _ HQ.out
    go_wp2_with fail
    go_at_call 20
    refine (HLK.out _ HB.out).mono ?_
    rintro e w1 ⟨VA', cV', IA', cI', rfl, hcv, hci, hrl, hb9⟩
    have t0 := below_tr HB.out hb9; have t1 := below_tr HQ.out hb9; have t2 := HSL.out.below hb9; have t3 := HSB.out.below hb9 HSB.out.lt
    clear HB HQ HSL HSB
    have HB := Lib.hid t0; have HQ := Lib.hid t1; have HSL := Lib.hid t2; have HSB := Lib.hid t3
    clear t0 t1 t2 t3
    have HRL := Lib.hid hrl
    have HCV := Lib.hid hcv
    have HCI := Lib.hid hci
    clear hb9 hrl hcv hci
    clear x0 x1 x2 x3 x4 x5 x6 x7 x8 x9
    go_wp2_with fail
    go_at_call 21
    refine (HWK.out _ HB.out).mono ?_
    rintro e w1 ⟨WA', cW', rfl, hcw, hrw, hb9⟩
    have t0 := below_tr HB.out hb9; have t1 := below_tr HQ.out hb9; have t2 := HSL.out.below hb9; have t3 := HSB.out.below hb9 HSB.out.lt; have t4 := HRL.out.below hb9
    clear HB HQ HSL HSB HRL
    have HB := Lib.hid t0; have HQ := Lib.hid t1; have HSL := Lib.hid t2; have HSB := Lib.hid t3; have HRL := Lib.hid t4
    clear t0 t1 t2 t3 t4
    have HRW := Lib.hid hrw
    have HCW := Lib.hid hcw
    clear hb9 hrw hcw
    go_wp2_with fail
    go_at_call 27
    refine (HLI.out _ HB.out).mono ?_
    rintro e w1 ⟨CA', cC', rfl, hcc, hrc, hb9⟩
    have t0 := below_tr HB.out hb9; have t1 := below_tr HQ.out hb9; have t2 := HSL.out.below hb9; have t3 := HSB.out.below hb9 HSB.out.lt; have t4 := HRL.out.below hb9; have t5 := HRW.out.below hb9
    clear HB HQ HSL HSB HRL HRW
    have HB := Lib.hid t0; have HQ := Lib.hid t1; have HSL := Lib.hid t2; have HSB := Lib.hid t3; have HRL := Lib.hid t4; have HRW := Lib.hid t5
    clear t0 t1 t2 t3 t4 t5
    have HRC := Lib.hid hrc
    have HCC := Lib.hid hcc
    clear hb9 hrc hcc
    go_wp2_with fail
    go_at_call 32
    refine (Rise_v HRL.out HRW.out HRC.out HCV.out HCI.out HOK.out HWO.out HCO.out).mono ?_
    rintro e w1 ⟨SA, cS, rfl, hcs, hrs, hb9⟩
    have t0 := below_tr HB.out hb9; have t1 := below_tr HQ.out hb9; have t2 := HSL.out.below hb9; have t3 := HSB.out.below hb9 HSB.out.lt; have t4 := HRL.out.below hb9; have t5 := HRW.out.below hb9; have t6 := HRC.out.below hb9
    clear HB HQ HSL HSB HRL HRW HRC
    have HB := Lib.hid t0; have HQ := Lib.hid t1; have HSL := Lib.hid t2; have HSB := Lib.hid t3; have HRL := Lib.hid t4; have HRW := Lib.hid t5; have HRC := Lib.hid t6
    clear t0 t1 t2 t3 t4 t5 t6
    have HRS := Lib.hid hrs
    have HCS := Lib.hid hcs
    clear hb9 hrs hcs
    clear HRL HRW HRC HCV HCI HCW HCC
    go_upto_region 7 with fail
    refine wp_region_till [] (fun U => U.cell? ⟨SB, 0, none⟩ = some (.slice VS nV cVS) ∧ U.cell? ⟨SB, 1, none⟩ = some (.int .i64 l.crest) ∧ U.cell? ⟨SB, 2, none⟩ = some (.int .i64 l.weak) ∧ U.cell? ⟨SB, 3, none⟩ = some (.int .i64 l.soft.1) ∧ U.cell? ⟨SB, 4, none⟩ = some (.int .i64 l.soft.2) ∧ U.cell? ⟨SB, 5, none⟩ = some (.int .i64 l.start.1) ∧ U.cell? ⟨SB, 6, none⟩ = some (.int .i64 l.start.2) ∧ U.cell? ⟨SB, 7, none⟩ = some (.int .i64 l.seep.1) ∧ U.cell? ⟨SB, 8, none⟩ = some (.int .i64 l.seep.2) ∧ U.cell? ⟨SB, 9, none⟩ = some (.slice IS n cIS)) (by kernel_rfl) (by exact blk_lA (show Blk w1.drew SB _ _ from HSB.out)) (fun hHeld => ?_)
    have hb9 := (Below.refl w1.heap.size w1).drew
    have t0 := below_tr HB.out hb9; have t1 := below_tr HQ.out hb9; have t2 := HSL.out.below hb9; have t3 := HSB.out.below hb9 HSB.out.lt; have t4 := HRS.out.below hb9
    clear HB HQ HSL HSB HRS
    have HB := Lib.hid t0; have HQ := Lib.hid t1; have HSL := Lib.hid t2; have HSB := Lib.hid t3; have HRS := Lib.hid t4
    clear t0 t1 t2 t3 t4
    clear hb9
    revert hHeld HB HQ HSL HSB HRS
    generalize w1.drew = w0
    intro hHeld HB HQ HSL HSB HRS
    (refine wpAnyL_take (n := 0) (i := 0) (oi := ?ox1) (v := ?vx1) ?hix1 ?k1x1 ?k2x1 ?k3x1 ?k4x1 ?k5x1 ?k6x1 ?hQx1 ?hYx1 ?hSx1 ?restx1; (case hix1 => (simp only [List.getElem?_toArray, List.getElem?_cons_succ, List.getElem?_cons_zero]; exact rfl)); (case k1x1 => kernel_rfl); (case k2x1 => kernel_rfl); (case k3x1 => kernel_rfl); (case k4x1 => kernel_rfl); (case k5x1 => kernel_rfl); (case k6x1 => kernel_rfl); (case hSx1 => assumption); (case hYx1 => (refine Or.inl ⟨rfl, ?hyx1⟩; intro w hSw; (try dsimp only at hSw); go_simp; (try with_reducible rfl))); (case hQx1 => exact (fun _ _ _ h => h)); (try simp only [Act.put, List.setIfInBounds_toArray, List.set_cons_zero, List.set_cons_succ]))
    (refine wpAnyL_take (n := 0) (i := 1) (oi := ?ox2) (v := ?vx2) ?hix2 ?k1x2 ?k2x2 ?k3x2 ?k4x2 ?k5x2 ?k6x2 ?hQx2 ?hYx2 ?hSx2 ?restx2; (case hix2 => (simp only [List.getElem?_toArray, List.getElem?_cons_succ, List.getElem?_cons_zero]; exact rfl)); (case k1x2 => kernel_rfl); (case k2x2 => kernel_rfl); (case k3x2 => kernel_rfl); (case k4x2 => kernel_rfl); (case k5x2 => kernel_rfl); (case k6x2 => kernel_rfl); (case hSx2 => assumption); (case hYx2 => (refine Or.inl ⟨rfl, ?hyx2⟩; intro w hSw; (try dsimp only at hSw); go_simp; (try with_reducible rfl))); (case hQx2 => exact (fun _ _ _ h => h)); (try simp only [Act.put, List.setIfInBounds_toArray, List.set_cons_zero, List.set_cons_succ]))
    (refine wpAnyL_take (n := 0) (i := 3) (oi := ?ox3) (v := ?vx3) ?hix3 ?k1x3 ?k2x3 ?k3x3 ?k4x3 ?k5x3 ?k6x3 ?hQx3 ?hYx3 ?hSx3 ?restx3; (case hix3 => (simp only [List.getElem?_toArray, List.getElem?_cons_succ, List.getElem?_cons_zero]; exact rfl)); (case k1x3 => kernel_rfl); (case k2x3 => kernel_rfl); (case k3x3 => kernel_rfl); (case k4x3 => kernel_rfl); (case k5x3 => kernel_rfl); (case k6x3 => kernel_rfl); (case hSx3 => assumption); (case hYx3 => (refine Or.inl ⟨rfl, ?hyx3⟩; intro w hSw; (try dsimp only at hSw); go_simp; (try with_reducible rfl))); (case hQx3 => exact (fun _ _ _ h => h)); (try simp only [Act.put, List.setIfInBounds_toArray, List.set_cons_zero, List.set_cons_succ]))
    refine wpAnyL_ready (rs := [2]) (by kernel_rfl) (by simp) ?_
    refine AllReadyL.cons (o := ?o2x4) ?hi2x4 (fun K hK => ?_) AllReadyL.nil
    (case hi2x4 => (simp only [List.getElem?_toArray, List.getElem?_cons_succ, List.getElem?_cons_zero]; exact rfl))
    go_simp
    go_at_call 21
    refine (HWK.out _ HB.out).mono ?_
    rintro e w1 ⟨WA', cW', rfl, hcw, hrw, hb9⟩
    have t0 := below_tr HB.out hb9; have t1 := below_tr HQ.out hb9; have t2 := HSL.out.below hb9; have t3 := HSB.out.below hb9 HSB.out.lt; have t4 := HRS.out.below hb9
    clear HB HQ HSL HSB HRS
    have HB := Lib.hid t0; have HQ := Lib.hid t1; have HSL := Lib.hid t2; have HSB := Lib.hid t3; have HRS := Lib.hid t4
    clear t0 t1 t2 t3 t4
    have HRW := Lib.hid hrw
    have HCW := Lib.hid hcw
    clear hb9 hrw hcw
    (try go_wp2_with fail)
    (try clear hHeld)
    refine hK.out _ _ (by (try dsimp only); exact blk_lA HSB.out) (fun hHeld => ?_)
    clear hK K
    (try simp only [Act.put, List.setIfInBounds_toArray, List.set_cons_zero, List.set_cons_succ])
    refine wpAnyL_ready (rs := [4]) (by kernel_rfl) (by simp) ?_
    refine AllReadyL.cons (o := ?o4x5) ?hi4x5 (fun K hK => ?_) AllReadyL.nil
    (case hi4x5 => (simp only [List.getElem?_toArray, List.getElem?_cons_succ, List.getElem?_cons_zero]; exact rfl))
    go_simp
    go_at_call 27
    refine (HLI.out _ HB.out).mono ?_
    rintro e w1 ⟨CA', cC', rfl, hcc, hrc, hb9⟩
    have t0 := below_tr HB.out hb9; have t1 := below_tr HQ.out hb9; have t2 := HSL.out.below hb9; have t3 := HSB.out.below hb9 HSB.out.lt; have t4 := HRS.out.below hb9; have t5 := HRW.out.below hb9
    clear HB HQ HSL HSB HRS HRW
    have HB := Lib.hid t0; have HQ := Lib.hid t1; have HSL := Lib.hid t2; have HSB := Lib.hid t3; have HRS := Lib.hid t4; have HRW := Lib.hid t5
    clear t0 t1 t2 t3 t4 t5
    have HRC := Lib.hid hrc
    have HCC := Lib.hid hcc
    clear hb9 hrc hcc
    (try go_wp2_with fail)
    (try clear hHeld)
    refine hK.out _ _ (by (try dsimp only); exact blk_lA HSB.out) (fun hHeld => ?_)
    clear hK K
    (try simp only [Act.put, List.setIfInBounds_toArray, List.set_cons_zero, List.set_cons_succ])
    refine wpAnyL_ready (rs := [5]) (by kernel_rfl) (by simp) ?_
    refine AllReadyL.cons (o := ?o5x6) ?hi5x6 (fun K hK => ?_) AllReadyL.nil
    (case hi5x6 => (simp only [List.getElem?_toArray, List.getElem?_cons_succ, List.getElem?_cons_zero]; exact rfl))
    go_simp
    go_at_call 32
    refine (Rise_cut HSL.out HRW.out HRC.out HSV.out hnc HOK2.out HWO.out HCO.out).mono ?_
    rintro e w1 ⟨TA, cT, rfl, hct, hrt, hb9⟩
    have t0 := below_tr HB.out hb9; have t1 := below_tr HQ.out hb9; have t2 := HSL.out.below hb9; have t3 := HSB.out.below hb9 HSB.out.lt; have t4 := HRS.out.below hb9; have t5 := HRW.out.below hb9; have t6 := HRC.out.below hb9
    clear HB HQ HSL HSB HRS HRW HRC
    have HB := Lib.hid t0; have HQ := Lib.hid t1; have HSL := Lib.hid t2; have HSB := Lib.hid t3; have HRS := Lib.hid t4; have HRW := Lib.hid t5; have HRC := Lib.hid t6
    clear t0 t1 t2 t3 t4 t5 t6
    have HRT := Lib.hid hrt
    have HCT := Lib.hid hct
    clear hb9 hrt hct
    clear HRW HRC HCW HCC
    (try go_wp2_with fail)
    (try clear hHeld)
    refine hK.out _ _ (by (try dsimp only); exact blk_lA HSB.out) (fun hHeld => ?_)
    clear hK K
    (try simp only [Act.put, List.setIfInBounds_toArray, List.set_cons_zero, List.set_cons_succ])
    (refine wpAnyL_take (n := 0) (i := 6) (oi := ?ox7) (v := ?vx7) ?hix7 ?k1x7 ?k2x7 ?k3x7 ?k4x7 ?k5x7 ?k6x7 ?hQx7 ?hYx7 ?hSx7 ?restx7; (case hix7 => (simp only [List.getElem?_toArray, List.getElem?_cons_succ, List.getElem?_cons_zero]; exact rfl)); (case k1x7 => kernel_rfl); (case k2x7 => kernel_rfl); (case k3x7 => kernel_rfl); (case k4x7 => kernel_rfl); (case k5x7 => kernel_rfl); (case k6x7 => kernel_rfl); (case hSx7 => assumption); (case hYx7 => (refine Or.inl ⟨rfl, ?hyx7⟩; intro w hSw; (try dsimp only at hSw); go_simp; (try with_reducible rfl))); (case hQx7 => exact (fun _ _ _ h => h)); (try simp only [Act.put, List.setIfInBounds_toArray, List.set_cons_zero, List.set_cons_succ]))
    (refine wpAnyL_take (n := 0) (i := 7) (oi := ?ox8) (v := ?vx8) ?hix8 ?k1x8 ?k2x8 ?k3x8 ?k4x8 ?k5x8 ?k6x8 ?hQx8 ?hYx8 ?hSx8 ?restx8; (case hix8 => (simp only [List.getElem?_toArray, List.getElem?_cons_succ, List.getElem?_cons_zero]; exact rfl)); (case k1x8 => kernel_rfl); (case k2x8 => kernel_rfl); (case k3x8 => kernel_rfl); (case k4x8 => kernel_rfl); (case k5x8 => kernel_rfl); (case k6x8 => kernel_rfl); (case hSx8 => assumption); (case hYx8 => (refine Or.inl ⟨rfl, ?hyx8⟩; intro w hSw; (try dsimp only at hSw); go_simp; (try with_reducible rfl))); (case hQx8 => exact (fun _ _ _ h => h)); (try simp only [Act.put, List.setIfInBounds_toArray, List.set_cons_zero, List.set_cons_succ]))
    (refine wpAnyL_take (n := 0) (i := 8) (oi := ?ox9) (v := ?vx9) ?hix9 ?k1x9 ?k2x9 ?k3x9 ?k4x9 ?k5x9 ?k6x9 ?hQx9 ?hYx9 ?hSx9 ?restx9; (case hix9 => (simp only [List.getElem?_toArray, List.getElem?_cons_succ, List.getElem?_cons_zero]; exact rfl)); (case k1x9 => kernel_rfl); (case k2x9 => kernel_rfl); (case k3x9 => kernel_rfl); (case k4x9 => kernel_rfl); (case k5x9 => kernel_rfl); (case k6x9 => kernel_rfl); (case hSx9 => assumption); (case hYx9 => (refine Or.inl ⟨rfl, ?hyx9⟩; intro w hSw; (try dsimp only at hSw); go_simp; (try with_reducible rfl))); (case hQx9 => exact (fun _ _ _ h => h)); (try simp only [Act.put, List.setIfInBounds_toArray, List.set_cons_zero, List.set_cons_succ]))
    (refine wpAnyL_take (n := 0) (i := 9) (oi := ?ox10) (v := ?vx10) ?hix10 ?k1x10 ?k2x10 ?k3x10 ?k4x10 ?k5x10 ?k6x10 ?hQx10 ?hYx10 ?hSx10 ?restx10; (case hix10 => (simp only [List.getElem?_toArray, List.getElem?_cons_succ, List.getElem?_cons_zero]; exact rfl)); (case k1x10 => kernel_rfl); (case k2x10 => kernel_rfl); (case k3x10 => kernel_rfl); (case k4x10 => kernel_rfl); (case k5x10 => kernel_rfl); (case k6x10 => kernel_rfl); (case hSx10 => assumption); (case hYx10 => (refine Or.inl ⟨rfl, ?hyx10⟩; intro w hSw; (try dsimp only at hSw); go_simp; (try with_reducible rfl))); (case hQx10 => exact (fun _ _ _ h => h)); (try simp only [Act.put, List.setIfInBounds_toArray, List.set_cons_zero, List.set_cons_succ]))
    (refine wpAnyL_take (n := 0) (i := 10) (oi := ?ox11) (v := ?vx11) ?hix11 ?k1x11 ?k2x11 ?k3x11 ?k4x11 ?k5x11 ?k6x11 ?hQx11 ?hYx11 ?hSx11 ?restx11; (case hix11 => (simp only [List.getElem?_toArray, List.getElem?_cons_succ, List.getElem?_cons_zero]; exact rfl)); (case k1x11 => kernel_rfl); (case k2x11 => kernel_rfl); (case k3x11 => kernel_rfl); (case k4x11 => kernel_rfl); (case k5x11 => kernel_rfl); (case k6x11 => kernel_rfl); (case hSx11 => assumption); (case hYx11 => (refine Or.inl ⟨rfl, ?hyx11⟩; intro w hSw; (try dsimp only at hSw); go_simp; (try with_reducible rfl))); (case hQx11 => exact (fun _ _ _ h => h)); (try simp only [Act.put, List.setIfInBounds_toArray, List.set_cons_zero, List.set_cons_succ]))
    (refine wpAnyL_done (by kernel_rfl) ?_ _)
    obtain ⟨x0, x1, x2, x3, x4, x5, x6, x7, x8, x9⟩ := HXX.out _ HQ.out
    go_wp2_with fail
    clear x0 x1 x2 x3 x4 x5 x6 x7 x8 x9
    go_loopw [17] (fun i wr => ∃ k : Nat, k ≤ n ∧ i = .int .i64 k ∧ Below w1.heap.size w1 wr) (fun i _ => n - (intOf i).toNat)
    case atStart => exact ⟨0, Nat.zero_le _, rfl, Below.refl _ _⟩
    case round =>
      obtain ⟨k, hk, rfl, hbr⟩ := hrel
      obtain ⟨W2, hW2⟩ : ∃ W2, W2 = wr := ⟨_, rfl⟩
      rw [← hW2] at hbr ⊢
      clear hW2
      by_cases hlt : k < n
      · obtain ⟨bs, os, s, rfl, hbs, hs, s0, s1, s2, s3⟩ := (HRS.out.below hbr).atT (i := k) (by omega)
        obtain ⟨bt, ot, s', rfl, hbt, ht, t0, t1, t2, t3⟩ := (HRT.out.below hbr).atT hlt
        have hss : s' = s := by
          have : sttL (cutL l n) ws c = (sttL l ws c).take n := rain_stt l ws c n
          rw [this, List.getElem?_take, if_pos hlt, hs] at ht
          cases ht; rfl
        subst hss
        have heq : ∀ W, (binOp .neq 66 (.agg #[.bool s'.holds, .int .i64 s'.lo, .int .i64 s'.hi, .int .i64 s'.lev]) (.agg #[.bool s'.holds, .int .i64 s'.lo, .int .i64 s'.hi, .int .i64 s'.lev])).run Try.prog W = .ok (.bool false) W := fun W => by rw [run_neq_stt]; simp
        have hkn : (k : Int) < (n : Int) := by omega
        have hkI : (k : Int) < (nI : Int) := by omega
        have hk0 : (0 : Int) ≤ (k : Int) := by omega
        have HBR2 := Lib.hid hbr; have HLT := Lib.hid hlt
        clear hs ht hbr hlt
        go_upto_region 13 with fail
        refine wp_region_till [] (fun U => U.cell? ⟨bs, os + k * 4, none⟩ = some (.bool s'.holds) ∧ U.cell? ⟨bs, os + k * 4 + 1, none⟩ = some (.int .i64 s'.lo) ∧ U.cell? ⟨bs, os + k * 4 + 2, none⟩ = some (.int .i64 s'.hi) ∧ U.cell? ⟨bs, os + k * 4 + 3, none⟩ = some (.int .i64 s'.lev) ∧ U.cell? ⟨bt, ot + k * 4, none⟩ = some (.bool s'.holds) ∧ U.cell? ⟨bt, ot + k * 4 + 1, none⟩ = some (.int .i64 s'.lo) ∧ U.cell? ⟨bt, ot + k * 4 + 2, none⟩ = some (.int .i64 s'.hi) ∧ U.cell? ⟨bt, ot + k * 4 + 3, none⟩ = some (.int .i64 s'.lev)) (by kernel_rfl) (by exact ⟨s0, s1, s2, s3, t0, t1, t2, t3⟩) (fun hHeld => ?_)
        have hb9 := (Below.refl W2.heap.size W2).drew
        have t0 := below_tr HBR2.out hb9
        clear HBR2
        have HBR2 := Lib.hid t0
        clear t0
        clear hb9
        revert hHeld HBR2
        generalize W2.drew = w0
        intro hHeld HBR2
        (refine wpAnyL_take (n := 0) (i := 0) (oi := ?ox12) (v := ?vx12) ?hix12 ?k1x12 ?k2x12 ?k3x12 ?k4x12 ?k5x12 ?k6x12 ?hQx12 ?hYx12 ?hSx12 ?restx12; (case hix12 => (simp only [List.getElem?_toArray, List.getElem?_cons_succ, List.getElem?_cons_zero]; exact rfl)); (case k1x12 => kernel_rfl); (case k2x12 => kernel_rfl); (case k3x12 => kernel_rfl); (case k4x12 => kernel_rfl); (case k5x12 => kernel_rfl); (case k6x12 => kernel_rfl); (case hSx12 => assumption); (case hYx12 => (refine Or.inl ⟨rfl, ?hyx12⟩; intro w hSw; (try dsimp only at hSw); go_simp; (try with_reducible rfl))); (case hQx12 => exact (fun _ _ _ h => h)); (try simp only [Act.put, List.setIfInBounds_toArray, List.set_cons_zero, List.set_cons_succ]))
        (refine wpAnyL_take (n := 0) (i := 1) (oi := ?ox13) (v := ?vx13) ?hix13 ?k1x13 ?k2x13 ?k3x13 ?k4x13 ?k5x13 ?k6x13 ?hQx13 ?hYx13 ?hSx13 ?restx13; (case hix13 => (simp only [List.getElem?_toArray, List.getElem?_cons_succ, List.getElem?_cons_zero]; exact rfl)); (case k1x13 => kernel_rfl); (case k2x13 => kernel_rfl); (case k3x13 => kernel_rfl); (case k4x13 => kernel_rfl); (case k5x13 => kernel_rfl); (case k6x13 => kernel_rfl); (case hSx13 => assumption); (case hYx13 => (refine Or.inl ⟨rfl, ?hyx13⟩; intro w hSw; (try dsimp only at hSw); go_simp; (try with_reducible rfl))); (case hQx13 => exact (fun _ _ _ h => h)); (try simp only [Act.put, List.setIfInBounds_toArray, List.set_cons_zero, List.set_cons_succ]))
        (refine wpAnyL_take (n := 0) (i := 2) (oi := ?ox14) (v := ?vx14) ?hix14 ?k1x14 ?k2x14 ?k3x14 ?k4x14 ?k5x14 ?k6x14 ?hQx14 ?hYx14 ?hSx14 ?restx14; (case hix14 => (simp only [List.getElem?_toArray, List.getElem?_cons_succ, List.getElem?_cons_zero]; exact rfl)); (case k1x14 => kernel_rfl); (case k2x14 => kernel_rfl); (case k3x14 => kernel_rfl); (case k4x14 => kernel_rfl); (case k5x14 => kernel_rfl); (case k6x14 => kernel_rfl); (case hSx14 => assumption); (case hYx14 => (refine Or.inl ⟨rfl, ?hyx14⟩; intro w hSw; (try dsimp only at hSw); go_simp; (try with_reducible rfl))); (case hQx14 => exact (fun _ _ _ h => h)); (try simp only [Act.put, List.setIfInBounds_toArray, List.set_cons_zero, List.set_cons_succ]))
        (refine wpAnyL_take (n := 0) (i := 3) (oi := ?ox15) (v := ?vx15) ?hix15 ?k1x15 ?k2x15 ?k3x15 ?k4x15 ?k5x15 ?k6x15 ?hQx15 ?hYx15 ?hSx15 ?restx15; (case hix15 => (simp only [List.getElem?_toArray, List.getElem?_cons_succ, List.getElem?_cons_zero]; exact rfl)); (case k1x15 => kernel_rfl); (case k2x15 => kernel_rfl); (case k3x15 => kernel_rfl); (case k4x15 => kernel_rfl); (case k5x15 => kernel_rfl); (case k6x15 => kernel_rfl); (case hSx15 => assumption); (case hYx15 => (refine Or.inl ⟨rfl, ?hyx15⟩; intro w hSw; (try dsimp only at hSw); go_simp; (try with_reducible rfl))); (case hQx15 => exact (fun _ _ _ h => h)); (try simp only [Act.put, List.setIfInBounds_toArray, List.set_cons_zero, List.set_cons_succ]))
        (refine wpAnyL_take (n := 0) (i := 4) (oi := ?ox16) (v := ?vx16) ?hix16 ?k1x16 ?k2x16 ?k3x16 ?k4x16 ?k5x16 ?k6x16 ?hQx16 ?hYx16 ?hSx16 ?restx16; (case hix16 => (simp only [List.getElem?_toArray, List.getElem?_cons_succ, List.getElem?_cons_zero]; exact rfl)); (case k1x16 => kernel_rfl); (case k2x16 => kernel_rfl); (case k3x16 => kernel_rfl); (case k4x16 => kernel_rfl); (case k5x16 => kernel_rfl); (case k6x16 => kernel_rfl); (case hSx16 => assumption); (case hYx16 => (refine Or.inl ⟨rfl, ?hyx16⟩; intro w hSw; (try dsimp only at hSw); go_simp; (try with_reducible rfl))); (case hQx16 => exact (fun _ _ _ h => h)); (try simp only [Act.put, List.setIfInBounds_toArray, List.set_cons_zero, List.set_cons_succ]))
        (refine wpAnyL_take (n := 0) (i := 5) (oi := ?ox17) (v := ?vx17) ?hix17 ?k1x17 ?k2x17 ?k3x17 ?k4x17 ?k5x17 ?k6x17 ?hQx17 ?hYx17 ?hSx17 ?restx17; (case hix17 => (simp only [List.getElem?_toArray, List.getElem?_cons_succ, List.getElem?_cons_zero]; exact rfl)); (case k1x17 => kernel_rfl); (case k2x17 => kernel_rfl); (case k3x17 => kernel_rfl); (case k4x17 => kernel_rfl); (case k5x17 => kernel_rfl); (case k6x17 => kernel_rfl); (case hSx17 => assumption); (case hYx17 => (refine Or.inl ⟨rfl, ?hyx17⟩; intro w hSw; (try dsimp only at hSw); go_simp; (try with_reducible rfl))); (case hQx17 => exact (fun _ _ _ h => h)); (try simp only [Act.put, List.setIfInBounds_toArray, List.set_cons_zero, List.set_cons_succ]))
        (refine wpAnyL_take (n := 0) (i := 6) (oi := ?ox18) (v := ?vx18) ?hix18 ?k1x18 ?k2x18 ?k3x18 ?k4x18 ?k5x18 ?k6x18 ?hQx18 ?hYx18 ?hSx18 ?restx18; (case hix18 => (simp only [List.getElem?_toArray, List.getElem?_cons_succ, List.getElem?_cons_zero]; exact rfl)); (case k1x18 => kernel_rfl); (case k2x18 => kernel_rfl); (case k3x18 => kernel_rfl); (case k4x18 => kernel_rfl); (case k5x18 => kernel_rfl); (case k6x18 => kernel_rfl); (case hSx18 => assumption); (case hYx18 => (refine Or.inl ⟨rfl, ?hyx18⟩; intro w hSw; (try dsimp only at hSw); go_simp; (try with_reducible rfl))); (case hQx18 => exact (fun _ _ _ h => h)); (try simp only [Act.put, List.setIfInBounds_toArray, List.set_cons_zero, List.set_cons_succ]))
        (refine wpAnyL_take (n := 0) (i := 7) (oi := ?ox19) (v := ?vx19) ?hix19 ?k1x19 ?k2x19 ?k3x19 ?k4x19 ?k5x19 ?k6x19 ?hQx19 ?hYx19 ?hSx19 ?restx19; (case hix19 => (simp only [List.getElem?_toArray, List.getElem?_cons_succ, List.getElem?_cons_zero]; exact rfl)); (case k1x19 => kernel_rfl); (case k2x19 => kernel_rfl); (case k3x19 => kernel_rfl); (case k4x19 => kernel_rfl); (case k5x19 => kernel_rfl); (case k6x19 => kernel_rfl); (case hSx19 => assumption); (case hYx19 => (refine Or.inl ⟨rfl, ?hyx19⟩; intro w hSw; (try dsimp only at hSw); go_simp; (try with_reducible rfl))); (case hQx19 => exact (fun _ _ _ h => h)); (try simp only [Act.put, List.setIfInBounds_toArray, List.set_cons_zero, List.set_cons_succ]))
        (refine wpAnyL_take (n := 0) (i := 8) (oi := ?ox20) (v := ?vx20) ?hix20 ?k1x20 ?k2x20 ?k3x20 ?k4x20 ?k5x20 ?k6x20 ?hQx20 ?hYx20 ?hSx20 ?restx20; (case hix20 => (simp only [List.getElem?_toArray, List.getElem?_cons_succ, List.getElem?_cons_zero]; exact rfl)); (case k1x20 => kernel_rfl); (case k2x20 => kernel_rfl); (case k3x20 => kernel_rfl); (case k4x20 => kernel_rfl); (case k5x20 => kernel_rfl); (case k6x20 => kernel_rfl); (case hSx20 => assumption); (case hYx20 => (refine Or.inl ⟨rfl, ?hyx20⟩; intro w hSw; (try dsimp only at hSw); go_simp; (try with_reducible rfl))); (case hQx20 => exact (fun _ _ _ h => h)); (try simp only [Act.put, List.setIfInBounds_toArray, List.set_cons_zero, List.set_cons_succ]))
        (refine wpAnyL_done (by kernel_rfl) ?_ _)
        clear heq s0 s1 s2 s3 t0 t1 t2 t3
        go_wp2_with fail
        go_roundw
        case rel => exact ⟨k + 1, by have := HLT.out; omega, by go_num, HBR2.out⟩
        case measure => have := HLT.out; simp [intOf] <;> omega
      · obtain rfl : n = k := by omega
        clear hlt
        have t0 := below_tr HB.out hbr; have t1 := below_tr HQ.out hbr; have t2 := HSB.out.below hbr HSB.out.lt; have t3 := HSL.out.below hbr
        clear HB HQ HSB HSL
        have HB := Lib.hid t0; have HQ := Lib.hid t1; have HSB := Lib.hid t2; have HSL := Lib.hid t3
        clear t0 t1 t2 t3
        clear hbr hk HRS HRT
        obtain ⟨x0, x1, x2, x3, x4, x5, x6, x7, x8, x9⟩ := HXX.out _ HQ.out
        go_wp2_with fail
        go_at_call 49
        refine (HHP.out _ HB.out).mono ?_
        rintro e w1 ⟨FA, cF, EA, cE, x, rfl, hrx, hcf, hce, hft, hb9⟩
        have t0 := below_tr HB.out hb9; have t1 := below_tr HQ.out hb9; have t2 := HSB.out.below hb9 HSB.out.lt; have t3 := HSL.out.below hb9
        clear HB HQ HSB HSL
        have HB := Lib.hid t0; have HQ := Lib.hid t1; have HSB := Lib.hid t2; have HSL := Lib.hid t3
        clear t0 t1 t2 t3
        have HRX := Lib.hid hrx
        have HFT := Lib.hid hft
        have HCF := Lib.hid hcf
        have HCE := Lib.hid hce
        clear hb9 hrx hft hcf hce
        clear x0 x1 x2 x3 x4 x5 x6 x7 x8 x9
        go_upto_region 16 with fail
        obtain ⟨XB, hXB⟩ : ∃ XB, XB = w1.heap.size := ⟨_, rfl⟩
        rw [← hXB]
        obtain ⟨W3, hW3⟩ : ∃ W3, W3 = w1.alloc (.cells (xA FA nI cF EA nI cE x) 75) := ⟨_, rfl⟩
        rw [← hW3]
        have hb9 : Below w1.heap.size w1 W3 := by rw [hW3]; exact (Below.refl _ _).alloc (Nat.le_refl _) _
        have hxb : Blk W3 XB 75 (xA FA nI cF EA nI cE x) := by rw [hW3, hXB]; exact Blk.new _ _ _
        have hx1 : SB < XB := by rw [hXB]; exact HSB.out.lt
        have hx2 : w.heap.size ≤ XB := by rw [hXB]; exact HB.out.size
        have t0 := below_tr HB.out hb9; have t1 := below_tr HQ.out hb9; have t2 := HSB.out.below hb9 HSB.out.lt; have t3 := HSL.out.below hb9; have t4 := HRX.out.below hb9
        clear HB HQ HSB HSL HRX
        have HB := Lib.hid t0; have HQ := Lib.hid t1; have HSB := Lib.hid t2; have HSL := Lib.hid t3; have HRX := Lib.hid t4
        clear t0 t1 t2 t3 t4
        have HXB := Lib.hid hxb; have HX1 := Lib.hid hx1; have HX2 := Lib.hid hx2
        clear hb9 hxb hx1 hx2 hXB hW3
        refine wp_region_till [] (fun U => U.cell? ⟨w.heap.size, 0, none⟩ = some (.slice VA nV cV) ∧ U.cell? ⟨w.heap.size, 1, none⟩ = some (.int .i64 l.crest) ∧ U.cell? ⟨w.heap.size, 2, none⟩ = some (.int .i64 l.weak) ∧ U.cell? ⟨w.heap.size, 3, none⟩ = some (.int .i64 l.soft.1) ∧ U.cell? ⟨w.heap.size, 4, none⟩ = some (.int .i64 l.soft.2) ∧ U.cell? ⟨w.heap.size, 5, none⟩ = some (.int .i64 l.start.1) ∧ U.cell? ⟨w.heap.size, 6, none⟩ = some (.int .i64 l.start.2) ∧ U.cell? ⟨w.heap.size, 7, none⟩ = some (.int .i64 l.seep.1) ∧ U.cell? ⟨w.heap.size, 8, none⟩ = some (.int .i64 l.seep.2) ∧ U.cell? ⟨w.heap.size, 9, none⟩ = some (.slice IA nI cI) ∧ U.cell? ⟨XB, 0, none⟩ = some (.slice FA nI cF) ∧ U.cell? ⟨XB, 1, none⟩ = some (.slice EA nI cE) ∧ U.cell? ⟨XB, 2, none⟩ = some (.int .i64 x.start) ∧ U.cell? ⟨XB, 3, none⟩ = some (.int .i64 x.soft)) (by kernel_rfl) (by exact and10 (HXX.out _ HQ.out.drew) (blk_xA (show Blk W3.drew XB _ _ from HXB.out))) (fun hHeld => ?_)
        have hb9 := (Below.refl W3.heap.size W3).drew
        have t0 := below_tr HB.out hb9; have t1 := below_tr HQ.out hb9; have t2 := HSB.out.below hb9 HSB.out.lt; have t3 := HSL.out.below hb9; have t4 := HRX.out.below hb9; have t5 := HXB.out.below hb9 HXB.out.lt
        clear HB HQ HSB HSL HRX HXB
        have HB := Lib.hid t0; have HQ := Lib.hid t1; have HSB := Lib.hid t2; have HSL := Lib.hid t3; have HRX := Lib.hid t4; have HXB := Lib.hid t5
        clear t0 t1 t2 t3 t4 t5
        clear hb9
        revert hHeld HB HQ HSB HSL HRX HXB
        generalize W3.drew = w0
        intro hHeld HB HQ HSB HSL HRX HXB
        (refine wpAnyL_take (n := 0) (i := 0) (oi := ?ox21) (v := ?vx21) ?hix21 ?k1x21 ?k2x21 ?k3x21 ?k4x21 ?k5x21 ?k6x21 ?hQx21 ?hYx21 ?hSx21 ?restx21; (case hix21 => (simp only [List.getElem?_toArray, List.getElem?_cons_succ, List.getElem?_cons_zero]; exact rfl)); (case k1x21 => kernel_rfl); (case k2x21 => kernel_rfl); (case k3x21 => kernel_rfl); (case k4x21 => kernel_rfl); (case k5x21 => kernel_rfl); (case k6x21 => kernel_rfl); (case hSx21 => assumption); (case hYx21 => (refine Or.inl ⟨rfl, ?hyx21⟩; intro w hSw; (try dsimp only at hSw); go_simp; (try with_reducible rfl))); (case hQx21 => exact (fun _ _ _ h => h)); (try simp only [Act.put, List.setIfInBounds_toArray, List.set_cons_zero, List.set_cons_succ]))
        (refine wpAnyL_take (n := 0) (i := 2) (oi := ?ox22) (v := ?vx22) ?hix22 ?k1x22 ?k2x22 ?k3x22 ?k4x22 ?k5x22 ?k6x22 ?hQx22 ?hYx22 ?hSx22 ?restx22; (case hix22 => (simp only [List.getElem?_toArray, List.getElem?_cons_succ, List.getElem?_cons_zero]; exact rfl)); (case k1x22 => kernel_rfl); (case k2x22 => kernel_rfl); (case k3x22 => kernel_rfl); (case k4x22 => kernel_rfl); (case k5x22 => kernel_rfl); (case k6x22 => kernel_rfl); (case hSx22 => assumption); (case hYx22 => (refine Or.inl ⟨rfl, ?hyx22⟩; intro w hSw; (try dsimp only at hSw); go_simp; (try with_reducible rfl))); (case hQx22 => exact (fun _ _ _ h => h)); (try simp only [Act.put, List.setIfInBounds_toArray, List.set_cons_zero, List.set_cons_succ]))
        (refine wpAnyL_take (n := 0) (i := 4) (oi := ?ox23) (v := ?vx23) ?hix23 ?k1x23 ?k2x23 ?k3x23 ?k4x23 ?k5x23 ?k6x23 ?hQx23 ?hYx23 ?hSx23 ?restx23; (case hix23 => (simp only [List.getElem?_toArray, List.getElem?_cons_succ, List.getElem?_cons_zero]; exact rfl)); (case k1x23 => kernel_rfl); (case k2x23 => kernel_rfl); (case k3x23 => kernel_rfl); (case k4x23 => kernel_rfl); (case k5x23 => kernel_rfl); (case k6x23 => kernel_rfl); (case hSx23 => assumption); (case hYx23 => (refine Or.inl ⟨rfl, ?hyx23⟩; intro w hSw; (try dsimp only at hSw); go_simp; (try with_reducible rfl))); (case hQx23 => exact (fun _ _ _ h => h)); (try simp only [Act.put, List.setIfInBounds_toArray, List.set_cons_zero, List.set_cons_succ]))
        (refine wpAnyL_take (n := 0) (i := 6) (oi := ?ox24) (v := ?vx24) ?hix24 ?k1x24 ?k2x24 ?k3x24 ?k4x24 ?k5x24 ?k6x24 ?hQx24 ?hYx24 ?hSx24 ?restx24; (case hix24 => (simp only [List.getElem?_toArray, List.getElem?_cons_succ, List.getElem?_cons_zero]; exact rfl)); (case k1x24 => kernel_rfl); (case k2x24 => kernel_rfl); (case k3x24 => kernel_rfl); (case k4x24 => kernel_rfl); (case k5x24 => kernel_rfl); (case k6x24 => kernel_rfl); (case hSx24 => assumption); (case hYx24 => (refine Or.inl ⟨rfl, ?hyx24⟩; intro w hSw; (try dsimp only at hSw); go_simp; (try with_reducible rfl))); (case hQx24 => exact (fun _ _ _ h => h)); (try simp only [Act.put, List.setIfInBounds_toArray, List.set_cons_zero, List.set_cons_succ]))
        refine wpAnyL_ready (rs := [1]) (by kernel_rfl) (by simp) ?_
        refine AllReadyL.cons (o := ?o1x25) ?hi1x25 (fun K hK => ?_) AllReadyL.nil
        (case hi1x25 => (simp only [List.getElem?_toArray, List.getElem?_cons_succ, List.getElem?_cons_zero]; exact rfl))
        go_simp
        go_at_call 20
        refine (HLK.out _ HB.out).mono ?_
        rintro e w1 ⟨VA', cV', IA', cI', rfl, hcv, hci, hrl, hb9⟩
        have t0 := below_tr HB.out hb9; have t1 := below_tr HQ.out hb9; have t2 := HSB.out.below hb9 HSB.out.lt; have t3 := HSL.out.below hb9; have t4 := HRX.out.below hb9; have t5 := HXB.out.below hb9 HXB.out.lt
        clear HB HQ HSB HSL HRX HXB
        have HB := Lib.hid t0; have HQ := Lib.hid t1; have HSB := Lib.hid t2; have HSL := Lib.hid t3; have HRX := Lib.hid t4; have HXB := Lib.hid t5
        clear t0 t1 t2 t3 t4 t5
        have HRL := Lib.hid hrl
        have HCV := Lib.hid hcv
        have HCI := Lib.hid hci
        clear hb9 hrl hcv hci
        (try go_wp2_with fail)
        (try clear hHeld)
        refine hK.out _ _ (by (try dsimp only); exact and10 (HXX.out _ HQ.out) (blk_xA HXB.out)) (fun hHeld => ?_)
        clear hK K
        (try simp only [Act.put, List.setIfInBounds_toArray, List.set_cons_zero, List.set_cons_succ])
        refine wpAnyL_ready (rs := [3]) (by kernel_rfl) (by simp) ?_
        refine AllReadyL.cons (o := ?o3x26) ?hi3x26 (fun K hK => ?_) AllReadyL.nil
        (case hi3x26 => (simp only [List.getElem?_toArray, List.getElem?_cons_succ, List.getElem?_cons_zero]; exact rfl))
        go_simp
        go_at_call 21
        refine (HWK.out _ HB.out).mono ?_
        rintro e w1 ⟨WA', cW', rfl, hcw, hrw, hb9⟩
        have t0 := below_tr HB.out hb9; have t1 := below_tr HQ.out hb9; have t2 := HSB.out.below hb9 HSB.out.lt; have t3 := HSL.out.below hb9; have t4 := HRX.out.below hb9; have t5 := HXB.out.below hb9 HXB.out.lt; have t6 := HRL.out.below hb9
        clear HB HQ HSB HSL HRX HXB HRL
        have HB := Lib.hid t0; have HQ := Lib.hid t1; have HSB := Lib.hid t2; have HSL := Lib.hid t3; have HRX := Lib.hid t4; have HXB := Lib.hid t5; have HRL := Lib.hid t6
        clear t0 t1 t2 t3 t4 t5 t6
        have HRW := Lib.hid hrw
        have HCW := Lib.hid hcw
        clear hb9 hrw hcw
        (try go_wp2_with fail)
        (try clear hHeld)
        refine hK.out _ _ (by (try dsimp only); exact and10 (HXX.out _ HQ.out) (blk_xA HXB.out)) (fun hHeld => ?_)
        clear hK K
        (try simp only [Act.put, List.setIfInBounds_toArray, List.set_cons_zero, List.set_cons_succ])
        refine wpAnyL_ready (rs := [5]) (by kernel_rfl) (by simp) ?_
        refine AllReadyL.cons (o := ?o5x27) ?hi5x27 (fun K hK => ?_) AllReadyL.nil
        (case hi5x27 => (simp only [List.getElem?_toArray, List.getElem?_cons_succ, List.getElem?_cons_zero]; exact rfl))
        go_simp
        go_at_call 27
        refine (HLI.out _ HB.out).mono ?_
        rintro e w1 ⟨CA', cC', rfl, hcc, hrc, hb9⟩
        have t0 := below_tr HB.out hb9; have t1 := below_tr HQ.out hb9; have t2 := HSB.out.below hb9 HSB.out.lt; have t3 := HSL.out.below hb9; have t4 := HRX.out.below hb9; have t5 := HXB.out.below hb9 HXB.out.lt; have t6 := HRL.out.below hb9; have t7 := HRW.out.below hb9
        clear HB HQ HSB HSL HRX HXB HRL HRW
        have HB := Lib.hid t0; have HQ := Lib.hid t1; have HSB := Lib.hid t2; have HSL := Lib.hid t3; have HRX := Lib.hid t4; have HXB := Lib.hid t5; have HRL := Lib.hid t6; have HRW := Lib.hid t7
        clear t0 t1 t2 t3 t4 t5 t6 t7
        have HRC := Lib.hid hrc
        have HCC := Lib.hid hcc
        clear hb9 hrc hcc
        (try go_wp2_with fail)
        (try clear hHeld)
        refine hK.out _ _ (by (try dsimp only); exact and10 (HXX.out _ HQ.out) (blk_xA HXB.out)) (fun hHeld => ?_)
        clear hK K
        (try simp only [Act.put, List.setIfInBounds_toArray, List.set_cons_zero, List.set_cons_succ])
        refine wpAnyL_ready (rs := [7]) (by kernel_rfl) (by simp) ?_
        refine AllReadyL.cons (o := ?o7x28) ?hi7x28 (fun K hK => ?_) AllReadyL.nil
        (case hi7x28 => (simp only [List.getElem?_toArray, List.getElem?_cons_succ, List.getElem?_cons_zero]; exact rfl))
        go_simp
        go_at_call 40
        refine (Real_c HRX.out (by omega) (by omega)).mono ?_
        rintro e w1 ⟨FA', cF', EA', cE', rfl, hrx, hcf, hce, hb9⟩
        have t0 := below_tr HB.out hb9; have t1 := below_tr HQ.out hb9; have t2 := HSB.out.below hb9 HSB.out.lt; have t3 := HSL.out.below hb9; have t4 := HRX.out.below hb9; have t5 := HXB.out.below hb9 HXB.out.lt; have t6 := HRL.out.below hb9; have t7 := HRW.out.below hb9; have t8 := HRC.out.below hb9
        clear HB HQ HSB HSL HRX HXB HRL HRW HRC
        have HB := Lib.hid t0; have HQ := Lib.hid t1; have HSB := Lib.hid t2; have HSL := Lib.hid t3; have HRX := Lib.hid t4; have HXB := Lib.hid t5; have HRL := Lib.hid t6; have HRW := Lib.hid t7; have HRC := Lib.hid t8
        clear t0 t1 t2 t3 t4 t5 t6 t7 t8
        have HRY2 := Lib.hid hrx
        clear hb9 hrx
        clear hcf hce
        (try go_wp2_with fail)
        (try clear hHeld)
        refine hK.out _ _ (by (try dsimp only); exact and10 (HXX.out _ HQ.out) (blk_xA HXB.out)) (fun hHeld => ?_)
        clear hK K
        (try simp only [Act.put, List.setIfInBounds_toArray, List.set_cons_zero, List.set_cons_succ])
        refine wpAnyL_ready (rs := [8]) (by kernel_rfl) (by simp) ?_
        refine AllReadyL.cons (o := ?o8x29) ?hi8x29 (fun K hK => ?_) AllReadyL.nil
        (case hi8x29 => (simp only [List.getElem?_toArray, List.getElem?_cons_succ, List.getElem?_cons_zero]; exact rfl))
        go_simp
        go_at_call 39
        refine (Fill_3 HRL.out HRW.out HRC.out HRY2.out HCV.out HCI.out HOK.out HWO.out HCO.out HFT.out).mono ?_
        rintro e w1 ⟨RA, cR, N, B, FV, rfl, hcr, hrr, hff, hb9⟩
        have t0 := below_tr HB.out hb9; have t1 := below_tr HQ.out hb9; have t2 := HSB.out.below hb9 HSB.out.lt; have t3 := HSL.out.below hb9; have t4 := HRX.out.below hb9; have t5 := HXB.out.below hb9 HXB.out.lt; have t6 := HRL.out.below hb9; have t7 := HRW.out.below hb9; have t8 := HRC.out.below hb9; have t9 := HRY2.out.below hb9
        clear HB HQ HSB HSL HRX HXB HRL HRW HRC HRY2
        have HB := Lib.hid t0; have HQ := Lib.hid t1; have HSB := Lib.hid t2; have HSL := Lib.hid t3; have HRX := Lib.hid t4; have HXB := Lib.hid t5; have HRL := Lib.hid t6; have HRW := Lib.hid t7; have HRC := Lib.hid t8; have HRY2 := Lib.hid t9
        clear t0 t1 t2 t3 t4 t5 t6 t7 t8 t9
        have HRR := Lib.hid hrr
        have HCR := Lib.hid hcr
        have HFF := Lib.hid hff
        clear hb9 hrr hcr hff
        clear HRL HRW HRC HRY2 HCV HCI HCW HCC
        (try go_wp2_with fail)
        (try clear hHeld)
        refine hK.out _ _ (by (try dsimp only); exact and10 (HXX.out _ HQ.out) (blk_xA HXB.out)) (fun hHeld => ?_)
        clear hK K
        (try simp only [Act.put, List.setIfInBounds_toArray, List.set_cons_zero, List.set_cons_succ])
        (refine wpAnyL_take (n := 0) (i := 9) (oi := ?ox30) (v := ?vx30) ?hix30 ?k1x30 ?k2x30 ?k3x30 ?k4x30 ?k5x30 ?k6x30 ?hQx30 ?hYx30 ?hSx30 ?restx30; (case hix30 => (simp only [List.getElem?_toArray, List.getElem?_cons_succ, List.getElem?_cons_zero]; exact rfl)); (case k1x30 => kernel_rfl); (case k2x30 => kernel_rfl); (case k3x30 => kernel_rfl); (case k4x30 => kernel_rfl); (case k5x30 => kernel_rfl); (case k6x30 => kernel_rfl); (case hSx30 => assumption); (case hYx30 => (refine Or.inl ⟨rfl, ?hyx30⟩; intro w hSw; (try dsimp only at hSw); go_simp; (try with_reducible rfl))); (case hQx30 => exact (fun _ _ _ h => h)); (try simp only [Act.put, List.setIfInBounds_toArray, List.set_cons_zero, List.set_cons_succ]))
        (refine wpAnyL_take (n := 0) (i := 10) (oi := ?ox31) (v := ?vx31) ?hix31 ?k1x31 ?k2x31 ?k3x31 ?k4x31 ?k5x31 ?k6x31 ?hQx31 ?hYx31 ?hSx31 ?restx31; (case hix31 => (simp only [List.getElem?_toArray, List.getElem?_cons_succ, List.getElem?_cons_zero]; exact rfl)); (case k1x31 => kernel_rfl); (case k2x31 => kernel_rfl); (case k3x31 => kernel_rfl); (case k4x31 => kernel_rfl); (case k5x31 => kernel_rfl); (case k6x31 => kernel_rfl); (case hSx31 => assumption); (case hYx31 => (refine Or.inl ⟨rfl, ?hyx31⟩; intro w hSw; (try dsimp only at hSw); go_simp; (try with_reducible rfl))); (case hQx31 => exact (fun _ _ _ h => h)); (try simp only [Act.put, List.setIfInBounds_toArray, List.set_cons_zero, List.set_cons_succ]))
        (refine wpAnyL_take (n := 0) (i := 11) (oi := ?ox32) (v := ?vx32) ?hix32 ?k1x32 ?k2x32 ?k3x32 ?k4x32 ?k5x32 ?k6x32 ?hQx32 ?hYx32 ?hSx32 ?restx32; (case hix32 => (simp only [List.getElem?_toArray, List.getElem?_cons_succ, List.getElem?_cons_zero]; exact rfl)); (case k1x32 => kernel_rfl); (case k2x32 => kernel_rfl); (case k3x32 => kernel_rfl); (case k4x32 => kernel_rfl); (case k5x32 => kernel_rfl); (case k6x32 => kernel_rfl); (case hSx32 => assumption); (case hYx32 => (refine Or.inl ⟨rfl, ?hyx32⟩; intro w hSw; (try dsimp only at hSw); go_simp; (try with_reducible rfl))); (case hQx32 => exact (fun _ _ _ h => h)); (try simp only [Act.put, List.setIfInBounds_toArray, List.set_cons_zero, List.set_cons_succ]))
        (refine wpAnyL_take (n := 0) (i := 12) (oi := ?ox33) (v := ?vx33) ?hix33 ?k1x33 ?k2x33 ?k3x33 ?k4x33 ?k5x33 ?k6x33 ?hQx33 ?hYx33 ?hSx33 ?restx33; (case hix33 => (simp only [List.getElem?_toArray, List.getElem?_cons_succ, List.getElem?_cons_zero]; exact rfl)); (case k1x33 => kernel_rfl); (case k2x33 => kernel_rfl); (case k3x33 => kernel_rfl); (case k4x33 => kernel_rfl); (case k5x33 => kernel_rfl); (case k6x33 => kernel_rfl); (case hSx33 => assumption); (case hYx33 => (refine Or.inl ⟨rfl, ?hyx33⟩; intro w hSw; (try dsimp only at hSw); go_simp; (try with_reducible rfl))); (case hQx33 => exact (fun _ _ _ h => h)); (try simp only [Act.put, List.setIfInBounds_toArray, List.set_cons_zero, List.set_cons_succ]))
        (refine wpAnyL_take (n := 0) (i := 13) (oi := ?ox34) (v := ?vx34) ?hix34 ?k1x34 ?k2x34 ?k3x34 ?k4x34 ?k5x34 ?k6x34 ?hQx34 ?hYx34 ?hSx34 ?restx34; (case hix34 => (simp only [List.getElem?_toArray, List.getElem?_cons_succ, List.getElem?_cons_zero]; exact rfl)); (case k1x34 => kernel_rfl); (case k2x34 => kernel_rfl); (case k3x34 => kernel_rfl); (case k4x34 => kernel_rfl); (case k5x34 => kernel_rfl); (case k6x34 => kernel_rfl); (case hSx34 => assumption); (case hYx34 => (refine Or.inl ⟨rfl, ?hyx34⟩; intro w hSw; (try dsimp only at hSw); go_simp; (try with_reducible rfl))); (case hQx34 => exact (fun _ _ _ h => h)); (try simp only [Act.put, List.setIfInBounds_toArray, List.set_cons_zero, List.set_cons_succ]))
        (refine wpAnyL_take (n := 0) (i := 14) (oi := ?ox35) (v := ?vx35) ?hix35 ?k1x35 ?k2x35 ?k3x35 ?k4x35 ?k5x35 ?k6x35 ?hQx35 ?hYx35 ?hSx35 ?restx35; (case hix35 => (simp only [List.getElem?_toArray, List.getElem?_cons_succ, List.getElem?_cons_zero]; exact rfl)); (case k1x35 => kernel_rfl); (case k2x35 => kernel_rfl); (case k3x35 => kernel_rfl); (case k4x35 => kernel_rfl); (case k5x35 => kernel_rfl); (case k6x35 => kernel_rfl); (case hSx35 => assumption); (case hYx35 => (refine Or.inl ⟨rfl, ?hyx35⟩; intro w hSw; (try dsimp only at hSw); go_simp; (try with_reducible rfl))); (case hQx35 => exact (fun _ _ _ h => h)); (try simp only [Act.put, List.setIfInBounds_toArray, List.set_cons_zero, List.set_cons_succ]))
        (refine wpAnyL_take (n := 0) (i := 15) (oi := ?ox36) (v := ?vx36) ?hix36 ?k1x36 ?k2x36 ?k3x36 ?k4x36 ?k5x36 ?k6x36 ?hQx36 ?hYx36 ?hSx36 ?restx36; (case hix36 => (simp only [List.getElem?_toArray, List.getElem?_cons_succ, List.getElem?_cons_zero]; exact rfl)); (case k1x36 => kernel_rfl); (case k2x36 => kernel_rfl); (case k3x36 => kernel_rfl); (case k4x36 => kernel_rfl); (case k5x36 => kernel_rfl); (case k6x36 => kernel_rfl); (case hSx36 => assumption); (case hYx36 => (refine Or.inl ⟨rfl, ?hyx36⟩; intro w hSw; (try dsimp only at hSw); go_simp; (try with_reducible rfl))); (case hQx36 => exact (fun _ _ _ h => h)); (try simp only [Act.put, List.setIfInBounds_toArray, List.set_cons_zero, List.set_cons_succ]))
        (refine wpAnyL_done (by kernel_rfl) ?_ _)
        have hncF : n ≤ cF := Nat.le_trans hnn HCF.out
        have hncE : n ≤ cE := Nat.le_trans hnn HCE.out
        go_upto_region 17 with fail
        have z0 := HXB.out.cell 0; have z1 := HXB.out.cell 1
        simp at z0 z1
        refine wp_region_till [9] (fun U => U.cell? ⟨XB, 0, none⟩ = some (.slice FA nI cF) ∧ U.cell? ⟨XB, 1, none⟩ = some (.slice EA nI cE)) (by kernel_rfl) (by exact ⟨z0, z1⟩) (fun hHeld => ?_)
        have hb9 := (Below.refl w1.heap.size w1).drew
        have t0 := below_tr HB.out hb9; have t1 := below_tr HQ.out hb9; have t2 := HSB.out.below hb9 HSB.out.lt; have t3 := HSL.out.below hb9; have t4 := HRX.out.below hb9; have t5 := HXB.out.below hb9 HXB.out.lt; have t6 := HRR.out.below hb9
        clear HB HQ HSB HSL HRX HXB HRR
        have HB := Lib.hid t0; have HQ := Lib.hid t1; have HSB := Lib.hid t2; have HSL := Lib.hid t3; have HRX := Lib.hid t4; have HXB := Lib.hid t5; have HRR := Lib.hid t6
        clear t0 t1 t2 t3 t4 t5 t6
        clear hb9
        revert hHeld HB HQ HSB HSL HRX HXB HRR
        generalize w1.drew = w0
        intro hHeld HB HQ HSB HSL HRX HXB HRR
        (refine wpAnyL_take (n := 0) (i := 0) (oi := ?ox37) (v := ?vx37) ?hix37 ?k1x37 ?k2x37 ?k3x37 ?k4x37 ?k5x37 ?k6x37 ?hQx37 ?hYx37 ?hSx37 ?restx37; (case hix37 => (simp only [List.getElem?_toArray, List.getElem?_cons_succ, List.getElem?_cons_zero]; exact rfl)); (case k1x37 => kernel_rfl); (case k2x37 => kernel_rfl); (case k3x37 => kernel_rfl); (case k4x37 => kernel_rfl); (case k5x37 => kernel_rfl); (case k6x37 => kernel_rfl); (case hSx37 => assumption); (case hYx37 => (refine Or.inl ⟨rfl, ?hyx37⟩; intro w hSw; (try dsimp only at hSw); go_simp; (try with_reducible rfl))); (case hQx37 => exact (fun _ _ _ h => h)); (try simp only [Act.put, List.setIfInBounds_toArray, List.set_cons_zero, List.set_cons_succ]))
        (refine wpAnyL_take (n := 0) (i := 1) (oi := ?ox38) (v := ?vx38) ?hix38 ?k1x38 ?k2x38 ?k3x38 ?k4x38 ?k5x38 ?k6x38 ?hQx38 ?hYx38 ?hSx38 ?restx38; (case hix38 => (simp only [List.getElem?_toArray, List.getElem?_cons_succ, List.getElem?_cons_zero]; exact rfl)); (case k1x38 => kernel_rfl); (case k2x38 => kernel_rfl); (case k3x38 => kernel_rfl); (case k4x38 => kernel_rfl); (case k5x38 => kernel_rfl); (case k6x38 => kernel_rfl); (case hSx38 => assumption); (case hYx38 => (refine Or.inl ⟨rfl, ?hyx38⟩; intro w hSw; (try dsimp only at hSw); go_simp; (try with_reducible rfl))); (case hQx38 => exact (fun _ _ _ h => h)); (try simp only [Act.put, List.setIfInBounds_toArray, List.set_cons_zero, List.set_cons_succ]))
        (refine wpAnyL_take (n := 0) (i := 2) (oi := ?ox39) (v := ?vx39) ?hix39 ?k1x39 ?k2x39 ?k3x39 ?k4x39 ?k5x39 ?k6x39 ?hQx39 ?hYx39 ?hSx39 ?restx39; (case hix39 => (simp only [List.getElem?_toArray, List.getElem?_cons_succ, List.getElem?_cons_zero]; exact rfl)); (case k1x39 => kernel_rfl); (case k2x39 => kernel_rfl); (case k3x39 => kernel_rfl); (case k4x39 => kernel_rfl); (case k5x39 => kernel_rfl); (case k6x39 => kernel_rfl); (case hSx39 => assumption); (case hYx39 => (refine Or.inl ⟨rfl, ?hyx39⟩; intro w hSw; (try dsimp only at hSw); go_simp; (try with_reducible rfl))); (case hQx39 => exact (fun _ _ _ h => h)); (try simp only [Act.put, List.setIfInBounds_toArray, List.set_cons_zero, List.set_cons_succ]))
        (refine wpAnyL_take (n := 0) (i := 3) (oi := ?ox40) (v := ?vx40) ?hix40 ?k1x40 ?k2x40 ?k3x40 ?k4x40 ?k5x40 ?k6x40 ?hQx40 ?hYx40 ?hSx40 ?restx40; (case hix40 => (simp only [List.getElem?_toArray, List.getElem?_cons_succ, List.getElem?_cons_zero]; exact rfl)); (case k1x40 => kernel_rfl); (case k2x40 => kernel_rfl); (case k3x40 => kernel_rfl); (case k4x40 => kernel_rfl); (case k5x40 => kernel_rfl); (case k6x40 => kernel_rfl); (case hSx40 => assumption); (case hYx40 => (refine Or.inl ⟨rfl, ?hyx40⟩; intro w hSw; (try dsimp only at hSw); go_simp; (try with_reducible rfl))); (case hQx40 => exact (fun _ _ _ h => h)); (try simp only [Act.put, List.setIfInBounds_toArray, List.set_cons_zero, List.set_cons_succ]))
        (refine wpAnyL_take (n := 0) (i := 4) (oi := ?ox41) (v := ?vx41) ?hix41 ?k1x41 ?k2x41 ?k3x41 ?k4x41 ?k5x41 ?k6x41 ?hQx41 ?hYx41 ?hSx41 ?restx41; (case hix41 => (simp only [List.getElem?_toArray, List.getElem?_cons_succ, List.getElem?_cons_zero]; exact rfl)); (case k1x41 => kernel_rfl); (case k2x41 => kernel_rfl); (case k3x41 => kernel_rfl); (case k4x41 => kernel_rfl); (case k5x41 => kernel_rfl); (case k6x41 => kernel_rfl); (case hSx41 => assumption); (case hYx41 => (refine Or.inl ⟨rfl, ?hyx41⟩; intro w hSw; (try dsimp only at hSw); go_simp; (try with_reducible rfl))); (case hQx41 => exact (fun _ _ _ h => h)); (try simp only [Act.put, List.setIfInBounds_toArray, List.set_cons_zero, List.set_cons_succ]))
        (refine wpAnyL_take (n := 0) (i := 5) (oi := ?ox42) (v := ?vx42) ?hix42 ?k1x42 ?k2x42 ?k3x42 ?k4x42 ?k5x42 ?k6x42 ?hQx42 ?hYx42 ?hSx42 ?restx42; (case hix42 => (simp only [List.getElem?_toArray, List.getElem?_cons_succ, List.getElem?_cons_zero]; exact rfl)); (case k1x42 => kernel_rfl); (case k2x42 => kernel_rfl); (case k3x42 => kernel_rfl); (case k4x42 => kernel_rfl); (case k5x42 => kernel_rfl); (case k6x42 => kernel_rfl); (case hSx42 => assumption); (case hYx42 => (refine Or.inl ⟨rfl, ?hyx42⟩; intro w hSw; (try dsimp only at hSw); go_simp; (try with_reducible rfl))); (case hQx42 => exact (fun _ _ _ h => h)); (try simp only [Act.put, List.setIfInBounds_toArray, List.set_cons_zero, List.set_cons_succ]))
        (refine wpAnyL_freeS (i := 6) (oi := ?ox43) (v := ?vx43) ?hix43 ?k1x43 ?k2x43 ?k3x43 ?k4x43 ?hQx43 ?hYx43 ?hSx43 ?restx43; (case hix43 => (simp only [List.getElem?_toArray, List.getElem?_cons_succ, List.getElem?_cons_zero]; exact rfl)); (case k1x43 => kernel_rfl); (case k2x43 => kernel_rfl); (case k3x43 => kernel_rfl); (case k4x43 => kernel_rfl); (case hSx43 => assumption); (case hYx43 => (refine Or.inl ⟨rfl, ?hyx43⟩; intro w hSw; (try dsimp only at hSw); go_simp; (try with_reducible rfl))); (case hQx43 => exact (fun _ _ _ h => h)); (try simp only [Act.put, List.setIfInBounds_toArray, List.set_cons_zero, List.set_cons_succ]))
        (refine wpAnyL_freeS (i := 7) (oi := ?ox44) (v := ?vx44) ?hix44 ?k1x44 ?k2x44 ?k3x44 ?k4x44 ?hQx44 ?hYx44 ?hSx44 ?restx44; (case hix44 => (simp only [List.getElem?_toArray, List.getElem?_cons_succ, List.getElem?_cons_zero]; exact rfl)); (case k1x44 => kernel_rfl); (case k2x44 => kernel_rfl); (case k3x44 => kernel_rfl); (case k4x44 => kernel_rfl); (case hSx44 => assumption); (case hYx44 => (refine Or.inl ⟨rfl, ?hyx44⟩; intro w hSw; (try dsimp only at hSw); go_simp; (try with_reducible rfl))); (case hQx44 => exact (fun _ _ _ h => h)); (try simp only [Act.put, List.setIfInBounds_toArray, List.set_cons_zero, List.set_cons_succ]))
        (refine wpAnyL_take (n := 0) (i := 8) (oi := ?ox45) (v := ?vx45) ?hix45 ?k1x45 ?k2x45 ?k3x45 ?k4x45 ?k5x45 ?k6x45 ?hQx45 ?hYx45 ?hSx45 ?restx45; (case hix45 => (simp only [List.getElem?_toArray, List.getElem?_cons_succ, List.getElem?_cons_zero]; exact rfl)); (case k1x45 => kernel_rfl); (case k2x45 => kernel_rfl); (case k3x45 => kernel_rfl); (case k4x45 => kernel_rfl); (case k5x45 => kernel_rfl); (case k6x45 => kernel_rfl); (case hSx45 => assumption); (case hYx45 => (refine Or.inl ⟨rfl, ?hyx45⟩; intro w hSw; (try dsimp only at hSw); go_simp; (try with_reducible rfl))); (case hQx45 => exact (fun _ _ _ h => h)); (try simp only [Act.put, List.setIfInBounds_toArray, List.set_cons_zero, List.set_cons_succ]))
        refine wpAnyL_ready (rs := [9]) (by kernel_rfl) (by simp) ?_
        refine AllReadyL.last (o := ?o9x46) ?hi9x46 ?he9x46 (fun K hK => ?_) AllReadyL.nil
        (case hi9x46 => (simp only [List.getElem?_toArray, List.getElem?_cons_succ, List.getElem?_cons_zero]; exact rfl))
        (case he9x46 => kernel_rfl)
        have z0 := HXB.out.cell 0; have z1 := HXB.out.cell 1; have f0 := HXB.out.frozen 0; have f1 := HXB.out.frozen 1
        simp at z0 z1
        go_simp
        (try clear hHeld)
        refine hK.out _ _ ?_
        clear hK K
        (try simp only [Act.put, List.setIfInBounds_toArray, List.set_cons_zero, List.set_cons_succ])
        (refine wpAnyL_free (i := 10) (oi := ?ox47) (v := ?vx47) ?hix47 ?k1x47 ?k2x47 ?k3x47 ?k4x47 ?k5x47 ?hQx47 ?hYx47 ?restx47; (case hix47 => (simp only [List.getElem?_toArray, List.getElem?_cons_succ, List.getElem?_cons_zero]; exact rfl)); (case k1x47 => kernel_rfl); (case k2x47 => kernel_rfl); (case k3x47 => kernel_rfl); (case k4x47 => kernel_rfl); (case k5x47 => kernel_rfl); (case hYx47 => (refine Or.inl ⟨rfl, ?hyx47⟩; intro w hSw; (try dsimp only at hSw); go_simp; (try with_reducible rfl))); (case hQx47 => exact (fun _ _ _ h => h)); (try simp only [Act.put, List.setIfInBounds_toArray, List.set_cons_zero, List.set_cons_succ]))
        refine wpAnyL_ready (rs := [11]) (by kernel_rfl) (by simp) ?_
        refine AllReadyL.last (o := ?o11x48) ?hi11x48 ?he11x48 (fun K hK => ?_) AllReadyL.nil
        (case hi11x48 => (simp only [List.getElem?_toArray, List.getElem?_cons_succ, List.getElem?_cons_zero]; exact rfl))
        (case he11x48 => kernel_rfl)
        go_simp
        (try clear hHeld)
        refine hK.out _ _ ?_
        clear hK K
        (try simp only [Act.put, List.setIfInBounds_toArray, List.set_cons_zero, List.set_cons_succ])
        (refine wpAnyL_done (by kernel_rfl) ?_ _)
        obtain ⟨W4, hW4⟩ : ∃ W4, W4 = (w0.setCell ⟨XB, 0, none⟩ (.slice FA n cF)).setCell ⟨XB, 1, none⟩ (.slice EA n cE) := ⟨_, rfl⟩
        rw [← hW4]
        have k1 : Below w.heap.size w W4 := by rw [hW4]; exact (HB.out.setCell (p := ⟨XB, 0, none⟩) HX2.out _).setCell (p := ⟨XB, 1, none⟩) HX2.out _
        have k2 : Below (w.alloc (.cells (lA VA nV cV IA nI cI l) 27)).heap.size (w.alloc (.cells (lA VA nV cV IA nI cI l) 27)) W4 := by
          have hq : (w.alloc (.cells (lA VA nV cV IA nI cI l) 27)).heap.size ≤ XB := Nat.le_trans HSQ.out (Nat.le_of_lt HX1.out)
          rw [hW4]; exact (HQ.out.setCell (p := ⟨XB, 0, none⟩) hq _).setCell (p := ⟨XB, 1, none⟩) hq _
        have k3 : Blk W4 SB 38 (lA VS nV cVS IS n cIS l) := by rw [hW4]; exact (HSB.out.far (p := ⟨XB, 0, none⟩) (Nat.ne_of_lt HX1.out) _).far (p := ⟨XB, 1, none⟩) (Nat.ne_of_lt HX1.out) _
        have k4 : RdL W4 VS nV IS n (cutL l n) := by rw [hW4]; exact ⟨HSL.out.vols.set2 HXB.out enc1_ns _ _, HSL.out.infl.set2 HXB.out enc2_ns _ _⟩
        have k5 : RdX W4 FA n EA n (cutX x n) := by rw [hW4]; exact ⟨(HRX.out.infl.set2 HXB.out enc1_ns _ _).pre hnn, (HRX.out.seep.set2 HXB.out enc1_ns _ _).pre hnn⟩
        have k6 : Rd enc1 1 W4 RA N FV := by rw [hW4]; exact HRR.out.set2 HXB.out enc1_ns _ _
        have k7 : Blk W4 XB 75 (xA FA n cF EA n cE x) := by
          rw [hW4]
          have := (HXB.out.set_ 0 (.slice FA n cF)).set_ 1 (.slice EA n cE)
          simpa using this
        clear HB HQ HSB HSL HRX HRR HXB z0 z1 hW4
        have HB := Lib.hid k1; have HQ := Lib.hid k2; have HSB := Lib.hid k3; have HSL := Lib.hid k4; have HRX := Lib.hid k5; have HRR := Lib.hid k6; have HXB := Lib.hid k7
        clear k1 k2 k3 k4 k5 k6 k7
        go_upto_region 18 with fail
        refine wp_region_till [] (fun U => U.cell? ⟨SB, 0, none⟩ = some (.slice VS nV cVS) ∧ U.cell? ⟨SB, 1, none⟩ = some (.int .i64 l.crest) ∧ U.cell? ⟨SB, 2, none⟩ = some (.int .i64 l.weak) ∧ U.cell? ⟨SB, 3, none⟩ = some (.int .i64 l.soft.1) ∧ U.cell? ⟨SB, 4, none⟩ = some (.int .i64 l.soft.2) ∧ U.cell? ⟨SB, 5, none⟩ = some (.int .i64 l.start.1) ∧ U.cell? ⟨SB, 6, none⟩ = some (.int .i64 l.start.2) ∧ U.cell? ⟨SB, 7, none⟩ = some (.int .i64 l.seep.1) ∧ U.cell? ⟨SB, 8, none⟩ = some (.int .i64 l.seep.2) ∧ U.cell? ⟨SB, 9, none⟩ = some (.slice IS n cIS) ∧ U.cell? ⟨XB, 0, none⟩ = some (.slice FA n cF) ∧ U.cell? ⟨XB, 1, none⟩ = some (.slice EA n cE) ∧ U.cell? ⟨XB, 2, none⟩ = some (.int .i64 x.start) ∧ U.cell? ⟨XB, 3, none⟩ = some (.int .i64 x.soft)) (by kernel_rfl) (by exact and10 (blk_lA (show Blk W4.drew SB _ _ from HSB.out)) (blk_xA (show Blk W4.drew XB _ _ from HXB.out))) (fun hHeld => ?_)
        have hb9 := (Below.refl W4.heap.size W4).drew
        have t0 := below_tr HB.out hb9; have t1 := below_tr HQ.out hb9; have t2 := HSB.out.below hb9 HSB.out.lt; have t3 := HSL.out.below hb9; have t4 := HRX.out.below hb9; have t5 := HRR.out.below hb9; have t6 := HXB.out.below hb9 HXB.out.lt
        clear HB HQ HSB HSL HRX HRR HXB
        have HB := Lib.hid t0; have HQ := Lib.hid t1; have HSB := Lib.hid t2; have HSL := Lib.hid t3; have HRX := Lib.hid t4; have HRR := Lib.hid t5; have HXB := Lib.hid t6
        clear t0 t1 t2 t3 t4 t5 t6
        clear hb9
        revert hHeld HB HQ HSB HSL HRX HRR HXB
        generalize W4.drew = w0
        intro hHeld HB HQ HSB HSL HRX HRR HXB
        (refine wpAnyL_take (n := 0) (i := 0) (oi := ?ox49) (v := ?vx49) ?hix49 ?k1x49 ?k2x49 ?k3x49 ?k4x49 ?k5x49 ?k6x49 ?hQx49 ?hYx49 ?hSx49 ?restx49; (case hix49 => (simp only [List.getElem?_toArray, List.getElem?_cons_succ, List.getElem?_cons_zero]; exact rfl)); (case k1x49 => kernel_rfl); (case k2x49 => kernel_rfl); (case k3x49 => kernel_rfl); (case k4x49 => kernel_rfl); (case k5x49 => kernel_rfl); (case k6x49 => kernel_rfl); (case hSx49 => assumption); (case hYx49 => (refine Or.inl ⟨rfl, ?hyx49⟩; intro w hSw; (try dsimp only at hSw); go_simp; (try with_reducible rfl))); (case hQx49 => exact (fun _ _ _ h => h)); (try simp only [Act.put, List.setIfInBounds_toArray, List.set_cons_zero, List.set_cons_succ]))
        (refine wpAnyL_take (n := 0) (i := 1) (oi := ?ox50) (v := ?vx50) ?hix50 ?k1x50 ?k2x50 ?k3x50 ?k4x50 ?k5x50 ?k6x50 ?hQx50 ?hYx50 ?hSx50 ?restx50; (case hix50 => (simp only [List.getElem?_toArray, List.getElem?_cons_succ, List.getElem?_cons_zero]; exact rfl)); (case k1x50 => kernel_rfl); (case k2x50 => kernel_rfl); (case k3x50 => kernel_rfl); (case k4x50 => kernel_rfl); (case k5x50 => kernel_rfl); (case k6x50 => kernel_rfl); (case hSx50 => assumption); (case hYx50 => (refine Or.inl ⟨rfl, ?hyx50⟩; intro w hSw; (try dsimp only at hSw); go_simp; (try with_reducible rfl))); (case hQx50 => exact (fun _ _ _ h => h)); (try simp only [Act.put, List.setIfInBounds_toArray, List.set_cons_zero, List.set_cons_succ]))
        (refine wpAnyL_take (n := 0) (i := 3) (oi := ?ox51) (v := ?vx51) ?hix51 ?k1x51 ?k2x51 ?k3x51 ?k4x51 ?k5x51 ?k6x51 ?hQx51 ?hYx51 ?hSx51 ?restx51; (case hix51 => (simp only [List.getElem?_toArray, List.getElem?_cons_succ, List.getElem?_cons_zero]; exact rfl)); (case k1x51 => kernel_rfl); (case k2x51 => kernel_rfl); (case k3x51 => kernel_rfl); (case k4x51 => kernel_rfl); (case k5x51 => kernel_rfl); (case k6x51 => kernel_rfl); (case hSx51 => assumption); (case hYx51 => (refine Or.inl ⟨rfl, ?hyx51⟩; intro w hSw; (try dsimp only at hSw); go_simp; (try with_reducible rfl))); (case hQx51 => exact (fun _ _ _ h => h)); (try simp only [Act.put, List.setIfInBounds_toArray, List.set_cons_zero, List.set_cons_succ]))
        (refine wpAnyL_take (n := 0) (i := 5) (oi := ?ox52) (v := ?vx52) ?hix52 ?k1x52 ?k2x52 ?k3x52 ?k4x52 ?k5x52 ?k6x52 ?hQx52 ?hYx52 ?hSx52 ?restx52; (case hix52 => (simp only [List.getElem?_toArray, List.getElem?_cons_succ, List.getElem?_cons_zero]; exact rfl)); (case k1x52 => kernel_rfl); (case k2x52 => kernel_rfl); (case k3x52 => kernel_rfl); (case k4x52 => kernel_rfl); (case k5x52 => kernel_rfl); (case k6x52 => kernel_rfl); (case hSx52 => assumption); (case hYx52 => (refine Or.inl ⟨rfl, ?hyx52⟩; intro w hSw; (try dsimp only at hSw); go_simp; (try with_reducible rfl))); (case hQx52 => exact (fun _ _ _ h => h)); (try simp only [Act.put, List.setIfInBounds_toArray, List.set_cons_zero, List.set_cons_succ]))
        refine wpAnyL_ready (rs := [2]) (by kernel_rfl) (by simp) ?_
        refine AllReadyL.cons (o := ?o2x53) ?hi2x53 (fun K hK => ?_) AllReadyL.nil
        (case hi2x53 => (simp only [List.getElem?_toArray, List.getElem?_cons_succ, List.getElem?_cons_zero]; exact rfl))
        go_simp
        go_at_call 21
        refine (HWK.out _ HB.out).mono ?_
        rintro e w1 ⟨WA', cW', rfl, hcw, hrw, hb9⟩
        have t0 := below_tr HB.out hb9; have t1 := below_tr HQ.out hb9; have t2 := HSB.out.below hb9 HSB.out.lt; have t3 := HSL.out.below hb9; have t4 := HRX.out.below hb9; have t5 := HRR.out.below hb9; have t6 := HXB.out.below hb9 HXB.out.lt
        clear HB HQ HSB HSL HRX HRR HXB
        have HB := Lib.hid t0; have HQ := Lib.hid t1; have HSB := Lib.hid t2; have HSL := Lib.hid t3; have HRX := Lib.hid t4; have HRR := Lib.hid t5; have HXB := Lib.hid t6
        clear t0 t1 t2 t3 t4 t5 t6
        have HRW := Lib.hid hrw
        have HCW := Lib.hid hcw
        clear hb9 hrw hcw
        (try go_wp2_with fail)
        (try clear hHeld)
        refine hK.out _ _ (by (try dsimp only); exact and10 (blk_lA HSB.out) (blk_xA HXB.out)) (fun hHeld => ?_)
        clear hK K
        (try simp only [Act.put, List.setIfInBounds_toArray, List.set_cons_zero, List.set_cons_succ])
        refine wpAnyL_ready (rs := [4]) (by kernel_rfl) (by simp) ?_
        refine AllReadyL.cons (o := ?o4x54) ?hi4x54 (fun K hK => ?_) AllReadyL.nil
        (case hi4x54 => (simp only [List.getElem?_toArray, List.getElem?_cons_succ, List.getElem?_cons_zero]; exact rfl))
        go_simp
        go_at_call 27
        refine (HLI.out _ HB.out).mono ?_
        rintro e w1 ⟨CA', cC', rfl, hcc, hrc, hb9⟩
        have t0 := below_tr HB.out hb9; have t1 := below_tr HQ.out hb9; have t2 := HSB.out.below hb9 HSB.out.lt; have t3 := HSL.out.below hb9; have t4 := HRX.out.below hb9; have t5 := HRR.out.below hb9; have t6 := HXB.out.below hb9 HXB.out.lt; have t7 := HRW.out.below hb9
        clear HB HQ HSB HSL HRX HRR HXB HRW
        have HB := Lib.hid t0; have HQ := Lib.hid t1; have HSB := Lib.hid t2; have HSL := Lib.hid t3; have HRX := Lib.hid t4; have HRR := Lib.hid t5; have HXB := Lib.hid t6; have HRW := Lib.hid t7
        clear t0 t1 t2 t3 t4 t5 t6 t7
        have HRC := Lib.hid hrc
        have HCC := Lib.hid hcc
        clear hb9 hrc hcc
        (try go_wp2_with fail)
        (try clear hHeld)
        refine hK.out _ _ (by (try dsimp only); exact and10 (blk_lA HSB.out) (blk_xA HXB.out)) (fun hHeld => ?_)
        clear hK K
        (try simp only [Act.put, List.setIfInBounds_toArray, List.set_cons_zero, List.set_cons_succ])
        refine wpAnyL_ready (rs := [6]) (by kernel_rfl) (by simp) ?_
        refine AllReadyL.cons (o := ?o6x55) ?hi6x55 (fun K hK => ?_) AllReadyL.nil
        (case hi6x55 => (simp only [List.getElem?_toArray, List.getElem?_cons_succ, List.getElem?_cons_zero]; exact rfl))
        go_simp
        go_at_call 40
        refine (Real_cut HRX.out (by omega) (by omega)).mono ?_
        rintro e w1 ⟨FA', cF', EA', cE', rfl, hrx, hcf, hce, hb9⟩
        have t0 := below_tr HB.out hb9; have t1 := below_tr HQ.out hb9; have t2 := HSB.out.below hb9 HSB.out.lt; have t3 := HSL.out.below hb9; have t4 := HRX.out.below hb9; have t5 := HRR.out.below hb9; have t6 := HXB.out.below hb9 HXB.out.lt; have t7 := HRW.out.below hb9; have t8 := HRC.out.below hb9
        clear HB HQ HSB HSL HRX HRR HXB HRW HRC
        have HB := Lib.hid t0; have HQ := Lib.hid t1; have HSB := Lib.hid t2; have HSL := Lib.hid t3; have HRX := Lib.hid t4; have HRR := Lib.hid t5; have HXB := Lib.hid t6; have HRW := Lib.hid t7; have HRC := Lib.hid t8
        clear t0 t1 t2 t3 t4 t5 t6 t7 t8
        have HRY2 := Lib.hid hrx
        clear hb9 hrx
        clear hcf hce
        (try go_wp2_with fail)
        (try clear hHeld)
        refine hK.out _ _ (by (try dsimp only); exact and10 (blk_lA HSB.out) (blk_xA HXB.out)) (fun hHeld => ?_)
        clear hK K
        (try simp only [Act.put, List.setIfInBounds_toArray, List.set_cons_zero, List.set_cons_succ])
        refine wpAnyL_ready (rs := [7]) (by kernel_rfl) (by simp) ?_
        refine AllReadyL.cons (o := ?o7x56) ?hi7x56 (fun K hK => ?_) AllReadyL.nil
        (case hi7x56 => (simp only [List.getElem?_toArray, List.getElem?_cons_succ, List.getElem?_cons_zero]; exact rfl))
        go_simp
        go_at_call 39
        refine (Fill_cut HSL.out HRW.out HRC.out HRY2.out HSV.out hnc HOK2.out HWO.out HCO.out (cut_fits HCL.out HFT.out)).mono ?_
        rintro e w1 ⟨QA, cQ, N2, B2, FV2, rfl, hcr, hrr, hff, hb9⟩
        have t0 := below_tr HB.out hb9; have t1 := below_tr HQ.out hb9; have t2 := HSB.out.below hb9 HSB.out.lt; have t3 := HSL.out.below hb9; have t4 := HRX.out.below hb9; have t5 := HRR.out.below hb9; have t6 := HXB.out.below hb9 HXB.out.lt; have t7 := HRW.out.below hb9; have t8 := HRC.out.below hb9; have t9 := HRY2.out.below hb9
        clear HB HQ HSB HSL HRX HRR HXB HRW HRC HRY2
        have HB := Lib.hid t0; have HQ := Lib.hid t1; have HSB := Lib.hid t2; have HSL := Lib.hid t3; have HRX := Lib.hid t4; have HRR := Lib.hid t5; have HXB := Lib.hid t6; have HRW := Lib.hid t7; have HRC := Lib.hid t8; have HRY2 := Lib.hid t9
        clear t0 t1 t2 t3 t4 t5 t6 t7 t8 t9
        have HRQ := Lib.hid hrr
        have HCQ := Lib.hid hcr
        have HF2 := Lib.hid hff
        clear hb9 hrr hcr hff
        clear HRW HRC HRY2 HCW HCC HRX
        (try go_wp2_with fail)
        (try clear hHeld)
        refine hK.out _ _ (by (try dsimp only); exact and10 (blk_lA HSB.out) (blk_xA HXB.out)) (fun hHeld => ?_)
        clear hK K
        (try simp only [Act.put, List.setIfInBounds_toArray, List.set_cons_zero, List.set_cons_succ])
        (refine wpAnyL_take (n := 0) (i := 8) (oi := ?ox57) (v := ?vx57) ?hix57 ?k1x57 ?k2x57 ?k3x57 ?k4x57 ?k5x57 ?k6x57 ?hQx57 ?hYx57 ?hSx57 ?restx57; (case hix57 => (simp only [List.getElem?_toArray, List.getElem?_cons_succ, List.getElem?_cons_zero]; exact rfl)); (case k1x57 => kernel_rfl); (case k2x57 => kernel_rfl); (case k3x57 => kernel_rfl); (case k4x57 => kernel_rfl); (case k5x57 => kernel_rfl); (case k6x57 => kernel_rfl); (case hSx57 => assumption); (case hYx57 => (refine Or.inl ⟨rfl, ?hyx57⟩; intro w hSw; (try dsimp only at hSw); go_simp; (try with_reducible rfl))); (case hQx57 => exact (fun _ _ _ h => h)); (try simp only [Act.put, List.setIfInBounds_toArray, List.set_cons_zero, List.set_cons_succ]))
        (refine wpAnyL_take (n := 0) (i := 9) (oi := ?ox58) (v := ?vx58) ?hix58 ?k1x58 ?k2x58 ?k3x58 ?k4x58 ?k5x58 ?k6x58 ?hQx58 ?hYx58 ?hSx58 ?restx58; (case hix58 => (simp only [List.getElem?_toArray, List.getElem?_cons_succ, List.getElem?_cons_zero]; exact rfl)); (case k1x58 => kernel_rfl); (case k2x58 => kernel_rfl); (case k3x58 => kernel_rfl); (case k4x58 => kernel_rfl); (case k5x58 => kernel_rfl); (case k6x58 => kernel_rfl); (case hSx58 => assumption); (case hYx58 => (refine Or.inl ⟨rfl, ?hyx58⟩; intro w hSw; (try dsimp only at hSw); go_simp; (try with_reducible rfl))); (case hQx58 => exact (fun _ _ _ h => h)); (try simp only [Act.put, List.setIfInBounds_toArray, List.set_cons_zero, List.set_cons_succ]))
        (refine wpAnyL_take (n := 0) (i := 10) (oi := ?ox59) (v := ?vx59) ?hix59 ?k1x59 ?k2x59 ?k3x59 ?k4x59 ?k5x59 ?k6x59 ?hQx59 ?hYx59 ?hSx59 ?restx59; (case hix59 => (simp only [List.getElem?_toArray, List.getElem?_cons_succ, List.getElem?_cons_zero]; exact rfl)); (case k1x59 => kernel_rfl); (case k2x59 => kernel_rfl); (case k3x59 => kernel_rfl); (case k4x59 => kernel_rfl); (case k5x59 => kernel_rfl); (case k6x59 => kernel_rfl); (case hSx59 => assumption); (case hYx59 => (refine Or.inl ⟨rfl, ?hyx59⟩; intro w hSw; (try dsimp only at hSw); go_simp; (try with_reducible rfl))); (case hQx59 => exact (fun _ _ _ h => h)); (try simp only [Act.put, List.setIfInBounds_toArray, List.set_cons_zero, List.set_cons_succ]))
        (refine wpAnyL_take (n := 0) (i := 11) (oi := ?ox60) (v := ?vx60) ?hix60 ?k1x60 ?k2x60 ?k3x60 ?k4x60 ?k5x60 ?k6x60 ?hQx60 ?hYx60 ?hSx60 ?restx60; (case hix60 => (simp only [List.getElem?_toArray, List.getElem?_cons_succ, List.getElem?_cons_zero]; exact rfl)); (case k1x60 => kernel_rfl); (case k2x60 => kernel_rfl); (case k3x60 => kernel_rfl); (case k4x60 => kernel_rfl); (case k5x60 => kernel_rfl); (case k6x60 => kernel_rfl); (case hSx60 => assumption); (case hYx60 => (refine Or.inl ⟨rfl, ?hyx60⟩; intro w hSw; (try dsimp only at hSw); go_simp; (try with_reducible rfl))); (case hQx60 => exact (fun _ _ _ h => h)); (try simp only [Act.put, List.setIfInBounds_toArray, List.set_cons_zero, List.set_cons_succ]))
        (refine wpAnyL_take (n := 0) (i := 12) (oi := ?ox61) (v := ?vx61) ?hix61 ?k1x61 ?k2x61 ?k3x61 ?k4x61 ?k5x61 ?k6x61 ?hQx61 ?hYx61 ?hSx61 ?restx61; (case hix61 => (simp only [List.getElem?_toArray, List.getElem?_cons_succ, List.getElem?_cons_zero]; exact rfl)); (case k1x61 => kernel_rfl); (case k2x61 => kernel_rfl); (case k3x61 => kernel_rfl); (case k4x61 => kernel_rfl); (case k5x61 => kernel_rfl); (case k6x61 => kernel_rfl); (case hSx61 => assumption); (case hYx61 => (refine Or.inl ⟨rfl, ?hyx61⟩; intro w hSw; (try dsimp only at hSw); go_simp; (try with_reducible rfl))); (case hQx61 => exact (fun _ _ _ h => h)); (try simp only [Act.put, List.setIfInBounds_toArray, List.set_cons_zero, List.set_cons_succ]))
        (refine wpAnyL_take (n := 0) (i := 13) (oi := ?ox62) (v := ?vx62) ?hix62 ?k1x62 ?k2x62 ?k3x62 ?k4x62 ?k5x62 ?k6x62 ?hQx62 ?hYx62 ?hSx62 ?restx62; (case hix62 => (simp only [List.getElem?_toArray, List.getElem?_cons_succ, List.getElem?_cons_zero]; exact rfl)); (case k1x62 => kernel_rfl); (case k2x62 => kernel_rfl); (case k3x62 => kernel_rfl); (case k4x62 => kernel_rfl); (case k5x62 => kernel_rfl); (case k6x62 => kernel_rfl); (case hSx62 => assumption); (case hYx62 => (refine Or.inl ⟨rfl, ?hyx62⟩; intro w hSw; (try dsimp only at hSw); go_simp; (try with_reducible rfl))); (case hQx62 => exact (fun _ _ _ h => h)); (try simp only [Act.put, List.setIfInBounds_toArray, List.set_cons_zero, List.set_cons_succ]))
        (refine wpAnyL_take (n := 0) (i := 14) (oi := ?ox63) (v := ?vx63) ?hix63 ?k1x63 ?k2x63 ?k3x63 ?k4x63 ?k5x63 ?k6x63 ?hQx63 ?hYx63 ?hSx63 ?restx63; (case hix63 => (simp only [List.getElem?_toArray, List.getElem?_cons_succ, List.getElem?_cons_zero]; exact rfl)); (case k1x63 => kernel_rfl); (case k2x63 => kernel_rfl); (case k3x63 => kernel_rfl); (case k4x63 => kernel_rfl); (case k5x63 => kernel_rfl); (case k6x63 => kernel_rfl); (case hSx63 => assumption); (case hYx63 => (refine Or.inl ⟨rfl, ?hyx63⟩; intro w hSw; (try dsimp only at hSw); go_simp; (try with_reducible rfl))); (case hQx63 => exact (fun _ _ _ h => h)); (try simp only [Act.put, List.setIfInBounds_toArray, List.set_cons_zero, List.set_cons_succ]))
        (refine wpAnyL_done (by kernel_rfl) ?_ _)
        clear HXB
        have hrn := rain_N (ws := ws) (c := c) (x := x) HCL.out
        have hrv := rain_V (ws := ws) (c := c) (x := x) HCL.out
        have hrb := rain_B (ws := ws) (c := c) (x := x) HCL.out
        rw [HF2.out.1, HFF.out.1] at hrn
        rw [HF2.out.1, HFF.out.2.2, HF2.out.2.2] at hrv
        rw [HF2.out.2.1, HFF.out.2.1] at hrb
        have HRV := Lib.hid hrv; have HRB := Lib.hid hrb; have HRN := Lib.hid hrn.1
        have hn1 : N2 ≤ N := hrn.1
        have hn2 : N2 ≤ cR := Nat.le_trans hn1 HCR.out
        have hn3 : ¬ (N2 : Int) > (N : Int) := by omega
        have hn4 : N2 ≤ 1000 := by omega
        clear hrn hrv hrb
        go_wp2_with fail
        go_at_call 23
        refine (ints_t HRQ.out (HRR.out.pre HRN.out) (by omega) HRV.out).mono ?_
        rintro e w1 ⟨rfl, hb9⟩
        have t0 := below_tr HB.out hb9; have t1 := below_tr HQ.out hb9; have t2 := HSB.out.below hb9 HSB.out.lt; have t3 := HSL.out.below hb9; have t4 := HRR.out.below hb9; have t5 := HRQ.out.below hb9
        clear HB HQ HSB HSL HRR HRQ
        have HB := Lib.hid t0; have HQ := Lib.hid t1; have HSB := Lib.hid t2; have HSL := Lib.hid t3; have HRR := Lib.hid t4; have HRQ := Lib.hid t5
        clear t0 t1 t2 t3 t4 t5
        clear hb9 
        clear hn1 hn2 hn3 hn4
        clear HRQ HRR
        go_upto_region 21 with fail
        go_cut [175] (fun v wx => v = .bool false ∧ wx = w1)
        case first =>
          rcases HRB.out with ⟨rfl, hB⟩ | ⟨h0, rfl⟩
          · rcases hB with rfl | hB
            · have e1 : ((-1 : Int) != -1) = false := by simp
              go_wp2_with fail
              go_meet
              exact ⟨rfl, rfl⟩
            · have e1 : ((-1 : Int) != B) = true := by simp; omega
              have e2 : ((-1 : Int) != -1) = false := by simp
              have e3 : decide (B < (n : Int)) = false := by simp; omega
              have e4 : ¬ B < (n : Int) := by omega
              go_wp2_with fail
              go_meet
              exact ⟨rfl, rfl⟩
          · have e1 : (B2 != B2) = false := by simp
            go_wp2_with fail
            go_meet
            exact ⟨rfl, rfl⟩
        case rest =>
          obtain ⟨rfl, rfl⟩ := hcut
          obtain ⟨w1, hw1⟩ : ∃ w1, w1 = wc := ⟨_, rfl⟩
          rw [← hw1]
          subst hw1
          clear HRB
          obtain ⟨x0, x1, x2, x3, x4, x5, x6, x7, x8, x9⟩ := HXX.out _ HQ.out
          go_wp2_with fail
          go_at_call 20
          refine (HLK.out _ HB.out).mono ?_
          rintro e w1 ⟨VA', cV', IA', cI', rfl, hcv, hci, hrl, hb9⟩
          have t0 := below_tr HB.out hb9; have t1 := below_tr HQ.out hb9; have t2 := HSB.out.below hb9 HSB.out.lt; have t3 := HSL.out.below hb9
          clear HB HQ HSB HSL
          have HB := Lib.hid t0; have HQ := Lib.hid t1; have HSB := Lib.hid t2; have HSL := Lib.hid t3
          clear t0 t1 t2 t3
          have HRL := Lib.hid hrl
          have HCV := Lib.hid hcv
          have HCI := Lib.hid hci
          clear hb9 hrl hcv hci
          clear x0 x1 x2 x3 x4 x5 x6 x7 x8 x9
          go_wp2_with fail
          go_at_call 21
          refine (HWK.out _ HB.out).mono ?_
          rintro e w1 ⟨WA', cW', rfl, hcw, hrw, hb9⟩
          have t0 := below_tr HB.out hb9; have t1 := below_tr HQ.out hb9; have t2 := HSB.out.below hb9 HSB.out.lt; have t3 := HSL.out.below hb9; have t4 := HRL.out.below hb9
          clear HB HQ HSB HSL HRL
          have HB := Lib.hid t0; have HQ := Lib.hid t1; have HSB := Lib.hid t2; have HSL := Lib.hid t3; have HRL := Lib.hid t4
          clear t0 t1 t2 t3 t4
          have HRW := Lib.hid hrw
          have HCW := Lib.hid hcw
          clear hb9 hrw hcw
          go_wp2_with fail
          go_at_call 27
          refine (HLI.out _ HB.out).mono ?_
          rintro e w1 ⟨CA', cC', rfl, hcc, hrc, hb9⟩
          have t0 := below_tr HB.out hb9; have t1 := below_tr HQ.out hb9; have t2 := HSB.out.below hb9 HSB.out.lt; have t3 := HSL.out.below hb9; have t4 := HRL.out.below hb9; have t5 := HRW.out.below hb9
          clear HB HQ HSB HSL HRL HRW
          have HB := Lib.hid t0; have HQ := Lib.hid t1; have HSB := Lib.hid t2; have HSL := Lib.hid t3; have HRL := Lib.hid t4; have HRW := Lib.hid t5
          clear t0 t1 t2 t3 t4 t5
          have HRC := Lib.hid hrc
          have HCC := Lib.hid hcc
          clear hb9 hrc hcc
          go_wp2_with fail
          go_at_call 33
          refine (Break_3 HF.out HRL.out HRW.out HRC.out HCV.out HCI.out HOK.out HWO.out HCO.out).mono ?_
          rintro e w1 ⟨rfl, hb9⟩
          have t0 := below_tr HB.out hb9; have t1 := below_tr HQ.out hb9; have t2 := HSB.out.below hb9 HSB.out.lt; have t3 := HSL.out.below hb9; have t4 := HRL.out.below hb9; have t5 := HRW.out.below hb9; have t6 := HRC.out.below hb9
          clear HB HQ HSB HSL HRL HRW HRC
          have HB := Lib.hid t0; have HQ := Lib.hid t1; have HSB := Lib.hid t2; have HSL := Lib.hid t3; have HRL := Lib.hid t4; have HRW := Lib.hid t5; have HRC := Lib.hid t6
          clear t0 t1 t2 t3 t4 t5 t6
          clear hb9 
          clear HRL HRW HRC HCV HCI HCW HCC
          go_upto_region 24 with fail
          refine wp_region_till [] (fun U => U.cell? ⟨SB, 0, none⟩ = some (.slice VS nV cVS) ∧ U.cell? ⟨SB, 1, none⟩ = some (.int .i64 l.crest) ∧ U.cell? ⟨SB, 2, none⟩ = some (.int .i64 l.weak) ∧ U.cell? ⟨SB, 3, none⟩ = some (.int .i64 l.soft.1) ∧ U.cell? ⟨SB, 4, none⟩ = some (.int .i64 l.soft.2) ∧ U.cell? ⟨SB, 5, none⟩ = some (.int .i64 l.start.1) ∧ U.cell? ⟨SB, 6, none⟩ = some (.int .i64 l.start.2) ∧ U.cell? ⟨SB, 7, none⟩ = some (.int .i64 l.seep.1) ∧ U.cell? ⟨SB, 8, none⟩ = some (.int .i64 l.seep.2) ∧ U.cell? ⟨SB, 9, none⟩ = some (.slice IS n cIS)) (by kernel_rfl) (by exact blk_lA (show Blk w1.drew SB _ _ from HSB.out)) (fun hHeld => ?_)
          have hb9 := (Below.refl w1.heap.size w1).drew
          have t0 := below_tr HB.out hb9; have t1 := below_tr HQ.out hb9; have t2 := HSB.out.below hb9 HSB.out.lt; have t3 := HSL.out.below hb9
          clear HB HQ HSB HSL
          have HB := Lib.hid t0; have HQ := Lib.hid t1; have HSB := Lib.hid t2; have HSL := Lib.hid t3
          clear t0 t1 t2 t3
          clear hb9
          revert hHeld HB HQ HSB HSL
          generalize w1.drew = w0
          intro hHeld HB HQ HSB HSL
          (refine wpAnyL_take (n := 0) (i := 0) (oi := ?ox64) (v := ?vx64) ?hix64 ?k1x64 ?k2x64 ?k3x64 ?k4x64 ?k5x64 ?k6x64 ?hQx64 ?hYx64 ?hSx64 ?restx64; (case hix64 => (simp only [List.getElem?_toArray, List.getElem?_cons_succ, List.getElem?_cons_zero]; exact rfl)); (case k1x64 => kernel_rfl); (case k2x64 => kernel_rfl); (case k3x64 => kernel_rfl); (case k4x64 => kernel_rfl); (case k5x64 => kernel_rfl); (case k6x64 => kernel_rfl); (case hSx64 => assumption); (case hYx64 => (refine Or.inl ⟨rfl, ?hyx64⟩; intro w hSw; (try dsimp only at hSw); go_simp; (try with_reducible rfl))); (case hQx64 => exact (fun _ _ _ h => h)); (try simp only [Act.put, List.setIfInBounds_toArray, List.set_cons_zero, List.set_cons_succ]))
          (refine wpAnyL_take (n := 0) (i := 1) (oi := ?ox65) (v := ?vx65) ?hix65 ?k1x65 ?k2x65 ?k3x65 ?k4x65 ?k5x65 ?k6x65 ?hQx65 ?hYx65 ?hSx65 ?restx65; (case hix65 => (simp only [List.getElem?_toArray, List.getElem?_cons_succ, List.getElem?_cons_zero]; exact rfl)); (case k1x65 => kernel_rfl); (case k2x65 => kernel_rfl); (case k3x65 => kernel_rfl); (case k4x65 => kernel_rfl); (case k5x65 => kernel_rfl); (case k6x65 => kernel_rfl); (case hSx65 => assumption); (case hYx65 => (refine Or.inl ⟨rfl, ?hyx65⟩; intro w hSw; (try dsimp only at hSw); go_simp; (try with_reducible rfl))); (case hQx65 => exact (fun _ _ _ h => h)); (try simp only [Act.put, List.setIfInBounds_toArray, List.set_cons_zero, List.set_cons_succ]))
          (refine wpAnyL_take (n := 0) (i := 3) (oi := ?ox66) (v := ?vx66) ?hix66 ?k1x66 ?k2x66 ?k3x66 ?k4x66 ?k5x66 ?k6x66 ?hQx66 ?hYx66 ?hSx66 ?restx66; (case hix66 => (simp only [List.getElem?_toArray, List.getElem?_cons_succ, List.getElem?_cons_zero]; exact rfl)); (case k1x66 => kernel_rfl); (case k2x66 => kernel_rfl); (case k3x66 => kernel_rfl); (case k4x66 => kernel_rfl); (case k5x66 => kernel_rfl); (case k6x66 => kernel_rfl); (case hSx66 => assumption); (case hYx66 => (refine Or.inl ⟨rfl, ?hyx66⟩; intro w hSw; (try dsimp only at hSw); go_simp; (try with_reducible rfl))); (case hQx66 => exact (fun _ _ _ h => h)); (try simp only [Act.put, List.setIfInBounds_toArray, List.set_cons_zero, List.set_cons_succ]))
          refine wpAnyL_ready (rs := [2]) (by kernel_rfl) (by simp) ?_
          refine AllReadyL.cons (o := ?o2x67) ?hi2x67 (fun K hK => ?_) AllReadyL.nil
          (case hi2x67 => (simp only [List.getElem?_toArray, List.getElem?_cons_succ, List.getElem?_cons_zero]; exact rfl))
          go_simp
          go_at_call 21
          refine (HWK.out _ HB.out).mono ?_
          rintro e w1 ⟨WA', cW', rfl, hcw, hrw, hb9⟩
          have t0 := below_tr HB.out hb9; have t1 := below_tr HQ.out hb9; have t2 := HSB.out.below hb9 HSB.out.lt; have t3 := HSL.out.below hb9
          clear HB HQ HSB HSL
          have HB := Lib.hid t0; have HQ := Lib.hid t1; have HSB := Lib.hid t2; have HSL := Lib.hid t3
          clear t0 t1 t2 t3
          have HRW := Lib.hid hrw
          have HCW := Lib.hid hcw
          clear hb9 hrw hcw
          (try go_wp2_with fail)
          (try clear hHeld)
          refine hK.out _ _ (by (try dsimp only); exact blk_lA HSB.out) (fun hHeld => ?_)
          clear hK K
          (try simp only [Act.put, List.setIfInBounds_toArray, List.set_cons_zero, List.set_cons_succ])
          refine wpAnyL_ready (rs := [4]) (by kernel_rfl) (by simp) ?_
          refine AllReadyL.cons (o := ?o4x68) ?hi4x68 (fun K hK => ?_) AllReadyL.nil
          (case hi4x68 => (simp only [List.getElem?_toArray, List.getElem?_cons_succ, List.getElem?_cons_zero]; exact rfl))
          go_simp
          go_at_call 27
          refine (HLI.out _ HB.out).mono ?_
          rintro e w1 ⟨CA', cC', rfl, hcc, hrc, hb9⟩
          have t0 := below_tr HB.out hb9; have t1 := below_tr HQ.out hb9; have t2 := HSB.out.below hb9 HSB.out.lt; have t3 := HSL.out.below hb9; have t4 := HRW.out.below hb9
          clear HB HQ HSB HSL HRW
          have HB := Lib.hid t0; have HQ := Lib.hid t1; have HSB := Lib.hid t2; have HSL := Lib.hid t3; have HRW := Lib.hid t4
          clear t0 t1 t2 t3 t4
          have HRC := Lib.hid hrc
          have HCC := Lib.hid hcc
          clear hb9 hrc hcc
          (try go_wp2_with fail)
          (try clear hHeld)
          refine hK.out _ _ (by (try dsimp only); exact blk_lA HSB.out) (fun hHeld => ?_)
          clear hK K
          (try simp only [Act.put, List.setIfInBounds_toArray, List.set_cons_zero, List.set_cons_succ])
          refine wpAnyL_ready (rs := [5]) (by kernel_rfl) (by simp) ?_
          refine AllReadyL.cons (o := ?o5x69) ?hi5x69 (fun K hK => ?_) AllReadyL.nil
          (case hi5x69 => (simp only [List.getElem?_toArray, List.getElem?_cons_succ, List.getElem?_cons_zero]; exact rfl))
          go_simp
          go_at_call 33
          refine (Break_cut HG.out HSL.out HRW.out HRC.out HSV.out hnc HOK2.out HWO.out HCO.out).mono ?_
          rintro e w1 ⟨rfl, hb9⟩
          have t0 := below_tr HB.out hb9; have t1 := below_tr HQ.out hb9; have t2 := HSB.out.below hb9 HSB.out.lt; have t3 := HSL.out.below hb9; have t4 := HRW.out.below hb9; have t5 := HRC.out.below hb9
          clear HB HQ HSB HSL HRW HRC
          have HB := Lib.hid t0; have HQ := Lib.hid t1; have HSB := Lib.hid t2; have HSL := Lib.hid t3; have HRW := Lib.hid t4; have HRC := Lib.hid t5
          clear t0 t1 t2 t3 t4 t5
          clear hb9 
          (try go_wp2_with fail)
          (try clear hHeld)
          refine hK.out _ _ (by (try dsimp only); exact blk_lA HSB.out) (fun hHeld => ?_)
          clear hK K
          (try simp only [Act.put, List.setIfInBounds_toArray, List.set_cons_zero, List.set_cons_succ])
          (refine wpAnyL_take (n := 0) (i := 6) (oi := ?ox70) (v := ?vx70) ?hix70 ?k1x70 ?k2x70 ?k3x70 ?k4x70 ?k5x70 ?k6x70 ?hQx70 ?hYx70 ?hSx70 ?restx70; (case hix70 => (simp only [List.getElem?_toArray, List.getElem?_cons_succ, List.getElem?_cons_zero]; exact rfl)); (case k1x70 => kernel_rfl); (case k2x70 => kernel_rfl); (case k3x70 => kernel_rfl); (case k4x70 => kernel_rfl); (case k5x70 => kernel_rfl); (case k6x70 => kernel_rfl); (case hSx70 => assumption); (case hYx70 => (refine Or.inl ⟨rfl, ?hyx70⟩; intro w hSw; (try dsimp only at hSw); go_simp; (try with_reducible rfl))); (case hQx70 => exact (fun _ _ _ h => h)); (try simp only [Act.put, List.setIfInBounds_toArray, List.set_cons_zero, List.set_cons_succ]))
          (refine wpAnyL_take (n := 0) (i := 7) (oi := ?ox71) (v := ?vx71) ?hix71 ?k1x71 ?k2x71 ?k3x71 ?k4x71 ?k5x71 ?k6x71 ?hQx71 ?hYx71 ?hSx71 ?restx71; (case hix71 => (simp only [List.getElem?_toArray, List.getElem?_cons_succ, List.getElem?_cons_zero]; exact rfl)); (case k1x71 => kernel_rfl); (case k2x71 => kernel_rfl); (case k3x71 => kernel_rfl); (case k4x71 => kernel_rfl); (case k5x71 => kernel_rfl); (case k6x71 => kernel_rfl); (case hSx71 => assumption); (case hYx71 => (refine Or.inl ⟨rfl, ?hyx71⟩; intro w hSw; (try dsimp only at hSw); go_simp; (try with_reducible rfl))); (case hQx71 => exact (fun _ _ _ h => h)); (try simp only [Act.put, List.setIfInBounds_toArray, List.set_cons_zero, List.set_cons_succ]))
          (refine wpAnyL_take (n := 0) (i := 8) (oi := ?ox72) (v := ?vx72) ?hix72 ?k1x72 ?k2x72 ?k3x72 ?k4x72 ?k5x72 ?k6x72 ?hQx72 ?hYx72 ?hSx72 ?restx72; (case hix72 => (simp only [List.getElem?_toArray, List.getElem?_cons_succ, List.getElem?_cons_zero]; exact rfl)); (case k1x72 => kernel_rfl); (case k2x72 => kernel_rfl); (case k3x72 => kernel_rfl); (case k4x72 => kernel_rfl); (case k5x72 => kernel_rfl); (case k6x72 => kernel_rfl); (case hSx72 => assumption); (case hYx72 => (refine Or.inl ⟨rfl, ?hyx72⟩; intro w hSw; (try dsimp only at hSw); go_simp; (try with_reducible rfl))); (case hQx72 => exact (fun _ _ _ h => h)); (try simp only [Act.put, List.setIfInBounds_toArray, List.set_cons_zero, List.set_cons_succ]))
          (refine wpAnyL_take (n := 0) (i := 9) (oi := ?ox73) (v := ?vx73) ?hix73 ?k1x73 ?k2x73 ?k3x73 ?k4x73 ?k5x73 ?k6x73 ?hQx73 ?hYx73 ?hSx73 ?restx73; (case hix73 => (simp only [List.getElem?_toArray, List.getElem?_cons_succ, List.getElem?_cons_zero]; exact rfl)); (case k1x73 => kernel_rfl); (case k2x73 => kernel_rfl); (case k3x73 => kernel_rfl); (case k4x73 => kernel_rfl); (case k5x73 => kernel_rfl); (case k6x73 => kernel_rfl); (case hSx73 => assumption); (case hYx73 => (refine Or.inl ⟨rfl, ?hyx73⟩; intro w hSw; (try dsimp only at hSw); go_simp; (try with_reducible rfl))); (case hQx73 => exact (fun _ _ _ h => h)); (try simp only [Act.put, List.setIfInBounds_toArray, List.set_cons_zero, List.set_cons_succ]))
          (refine wpAnyL_take (n := 0) (i := 10) (oi := ?ox74) (v := ?vx74) ?hix74 ?k1x74 ?k2x74 ?k3x74 ?k4x74 ?k5x74 ?k6x74 ?hQx74 ?hYx74 ?hSx74 ?restx74; (case hix74 => (simp only [List.getElem?_toArray, List.getElem?_cons_succ, List.getElem?_cons_zero]; exact rfl)); (case k1x74 => kernel_rfl); (case k2x74 => kernel_rfl); (case k3x74 => kernel_rfl); (case k4x74 => kernel_rfl); (case k5x74 => kernel_rfl); (case k6x74 => kernel_rfl); (case hSx74 => assumption); (case hYx74 => (refine Or.inl ⟨rfl, ?hyx74⟩; intro w hSw; (try dsimp only at hSw); go_simp; (try with_reducible rfl))); (case hQx74 => exact (fun _ _ _ h => h)); (try simp only [Act.put, List.setIfInBounds_toArray, List.set_cons_zero, List.set_cons_succ]))
          (refine wpAnyL_take (n := 0) (i := 11) (oi := ?ox75) (v := ?vx75) ?hix75 ?k1x75 ?k2x75 ?k3x75 ?k4x75 ?k5x75 ?k6x75 ?hQx75 ?hYx75 ?hSx75 ?restx75; (case hix75 => (simp only [List.getElem?_toArray, List.getElem?_cons_succ, List.getElem?_cons_zero]; exact rfl)); (case k1x75 => kernel_rfl); (case k2x75 => kernel_rfl); (case k3x75 => kernel_rfl); (case k4x75 => kernel_rfl); (case k5x75 => kernel_rfl); (case k6x75 => kernel_rfl); (case hSx75 => assumption); (case hYx75 => (refine Or.inl ⟨rfl, ?hyx75⟩; intro w hSw; (try dsimp only at hSw); go_simp; (try with_reducible rfl))); (case hQx75 => exact (fun _ _ _ h => h)); (try simp only [Act.put, List.setIfInBounds_toArray, List.set_cons_zero, List.set_cons_succ]))
          (refine wpAnyL_take (n := 0) (i := 12) (oi := ?ox76) (v := ?vx76) ?hix76 ?k1x76 ?k2x76 ?k3x76 ?k4x76 ?k5x76 ?k6x76 ?hQx76 ?hYx76 ?hSx76 ?restx76; (case hix76 => (simp only [List.getElem?_toArray, List.getElem?_cons_succ, List.getElem?_cons_zero]; exact rfl)); (case k1x76 => kernel_rfl); (case k2x76 => kernel_rfl); (case k3x76 => kernel_rfl); (case k4x76 => kernel_rfl); (case k5x76 => kernel_rfl); (case k6x76 => kernel_rfl); (case hSx76 => assumption); (case hYx76 => (refine Or.inl ⟨rfl, ?hyx76⟩; intro w hSw; (try dsimp only at hSw); go_simp; (try with_reducible rfl))); (case hQx76 => exact (fun _ _ _ h => h)); (try simp only [Act.put, List.setIfInBounds_toArray, List.set_cons_zero, List.set_cons_succ]))
          (refine wpAnyL_done (by kernel_rfl) ?_ _)
          have hrf := rain_F (ws := ws) (c := c) HCL.out
          have hcase : (G3 = 0 ∧ F3 = 0 ∧ G1 = F1) ∨ (G3 = 7 ∧ (F3 = 7 ∨ (F3 = 0 ∧ (n : Int) ≤ F1))) := by
            rcases HGR.out with ⟨g1, g2⟩ | ⟨g1, g2⟩
            · obtain ⟨_, _, rfl⟩ : G1 = 0 ∧ G2 = 0 ∧ G3 = 7 := by simpa using g2
              refine .inr ⟨rfl, ?_⟩
              rcases HBR.out with ⟨g3, g4⟩ | ⟨g3, g4⟩
              · obtain ⟨_, _, rfl⟩ : F1 = 0 ∧ F2 = 0 ∧ F3 = 7 := by simpa using g4
                exact .inl rfl
              · obtain ⟨e1, _, rfl⟩ : F1 = brkF (aftL l (netL l ws c)) ∧ F2 = brkE (aftL l (netL l ws c)) ∧ F3 = 0 := by simpa using g4
                exact .inr ⟨rfl, by omega⟩
            · obtain ⟨e1, _, rfl⟩ : G1 = brkF (aftL (cutL l n) (netL (cutL l n) ws c)) ∧ G2 = brkE (aftL (cutL l n) (netL (cutL l n) ws c)) ∧ G3 = 0 := by simpa using g2
              rcases HBR.out with ⟨g3, g4⟩ | ⟨g3, g4⟩
              · omega
              · obtain ⟨e3, _, rfl⟩ : F1 = brkF (aftL l (netL l ws c)) ∧ F2 = brkE (aftL l (netL l ws c)) ∧ F3 = 0 := by simpa using g4
                exact .inl ⟨rfl, rfl, by omega⟩
          clear hrf HGR HBR
          rcases hcase with ⟨rfl, rfl, rfl⟩ | ⟨rfl, rfl | ⟨rfl, hge⟩⟩
          · have e1 : (G1 == G1) = true := by simp
            go_wp2_with fail
            go_at_call 18
            refine (HAW.out _).mono ?_
            rintro e w1 ⟨rfl, hb9⟩
            have t0 := below_tr HB.out hb9
            clear HB
            have HB := Lib.hid t0
            clear t0
            clear hb9 
            go_wp2_with fail
            go_ret
            exact ⟨rfl, HB.out⟩
          · skip
            go_wp2_with fail
            go_at_call 18
            refine (HAW.out _).mono ?_
            rintro e w1 ⟨rfl, hb9⟩
            have t0 := below_tr HB.out hb9
            clear HB
            have HB := Lib.hid t0
            clear t0
            clear hb9 
            go_wp2_with fail
            go_ret
            exact ⟨rfl, HB.out⟩
          · skip
            go_wp2_with fail
            go_at_call 18
            refine (HAW.out _).mono ?_
            rintro e w1 ⟨rfl, hb9⟩
            have t0 := below_tr HB.out hb9
            clear HB
            have HB := Lib.hid t0
            clear t0
            clear hb9 
            go_wp2_with fail
            go_ret
            exact ⟨rfl, HB.out⟩
end
end Go.Proofs.Ytpijmfbpdglchaa
