/- CONTRACT: Fill. -/
import Derived.Test.YtpijmfbpdglchaaKFits
import Derived.Test.YtpijmfbpdglchaaKTool
import Derived.Test.YtpijmfbpdglchaaKStep
import Derived.Test.YtpijmfbpdglchaaKWorked
set_option linter.unusedVariables false
set_option linter.unusedSimpArgs false
namespace Go.Proofs.Ytpijmfbpdglchaa
open Go.RowKit Go.Proofs
attribute [local go_sem ↓] Go.wp_at_zero Go.wp_at_succ

theorem infoI : (Try.prog.info? 3).map (fun i => (i.zero, i.size, i.bytes)) = some (some (.int .i64 0), 1, 8) := by kernel_rfl
/-- the error of Fill -/
def fillE (l : Lak) (ws : List Wrk) (c : List Int) (x : Rel) : Int := if errA l ws c ≠ 0 then errA l ws c else if fitsB l x then 0 else 2
theorem fillE_a {l : Lak} {ws : List Wrk} {c : List Int} {x : Rel} (h : errA l ws c ≠ 0) : fillE l ws c x = errA l ws c := by unfold fillE; rw [if_pos h]
theorem fillE_f {l : Lak} {ws : List Wrk} {c : List Int} {x : Rel} (h : errA l ws c = 0) : fillE l ws c x = if fitsB l x then 0 else 2 := by unfold fillE; rw [if_neg (by simp [h])]
/-- the volumes before a break are small -/
theorem vAt_bd {l : Lak} {ws : List Wrk} {c : List Int} {x : Rel} (hok : LOk l) (hf : Fits l x) : ∀ (k : Nat), (∀ j, j < k → brkB l ws c x j = false) → 0 ≤ vAt ws c x k ∧ vAt ws c x k ≤ 1000000
  | 0, _ => by
    have := hok.start; have := hok.weakV; have := hf.start
    simp only [vAt]; omega
  | k + 1, h => by
    have hb := h k (by omega)
    have hw := hok.weakV
    have hp := vAt_pos (ws := ws) (c := c) hf hok (k + 1)
    simp only [brkB, decide_eq_false_iff_not] at hb
    refine ⟨hp, ?_⟩
    have : bdK l (decide (x.soft ≤ (k : Int))) ≤ 1000000 := by
      cases decide (x.soft ≤ (k : Int)) <;> simp only [bdK] <;> simp <;> omega
    omega
theorem fillV_brk {l : Lak} {ws : List Wrk} {c : List Int} {x : Rel} {k : Nat} (hk : k < l.inflow.length) (hb : brkB l ws c x k = true) (h : ∀ j, j < k → brkB l ws c x j = false) : fillB l ws c x = (k : Int) ∧ fillV l ws c x = volsTo ws c x (k + 1) := by
  have e : fillB l ws c x = (k : Int) := firstN_at hk hb h
  refine ⟨e, ?_⟩
  unfold fillV fillN
  rw [e, if_pos (by omega), Int.toNat_natCast]
theorem fillV_end {l : Lak} {ws : List Wrk} {c : List Int} {x : Rel} (h : ∀ j, j < l.inflow.length → brkB l ws c x j = false) : fillB l ws c x = -1 ∧ fillV l ws c x = volsTo ws c x l.inflow.length := by
  have e : fillB l ws c x = -1 := firstN_none h
  refine ⟨e, ?_⟩
  unfold fillV fillN
  rw [e, if_neg (by omega)]
/-- the answer of Fill -/
def FillP (w : World) (E FB : Int) (FV : List Int) (e : Ending) (w' : World) : Prop :=
  ∃ A n cp, e = .returned (.tuple #[.slice A n cp, .int .i64 (if E = 0 then FB else 0), .int .i64 E]) ∧ n ≤ cp ∧ (E ≠ 0 → n = 0) ∧ (E = 0 → Rd enc1 1 w' A n FV) ∧ Below w.heap.size w w'
theorem FillP.bad {w w' : World} {E FB : Int} {FV : List Int} (h : E ≠ 0) (hb : Below w.heap.size w w') : FillP w E FB FV (.returned (.tuple #[.slice none 0 0, .int .i64 0, .int .i64 E])) w' :=
  ⟨none, 0, 0, by rw [if_neg h], Nat.le_refl _, fun _ => rfl, fun h' => absurd h' h, hb⟩
theorem FillP.good {w w' : World} {FB : Int} {FV : List Int} {A : Option Addr} {n cp : Nat} (hc : n ≤ cp) (hr : Rd enc1 1 w' A n FV) (hb : Below w.heap.size w w') : FillP w 0 FB FV (.returned (.tuple #[.slice A n cp, .int .i64 FB, .int .i64 0])) w' :=
  ⟨A, n, cp, by rw [if_pos rfl], hc, fun h => absurd rfl h, fun _ => hr, hb⟩
theorem volsTo_flat (ws : List Wrk) (c : List Int) (x : Rel) (k : Nat) : (volsTo ws c x (k + 1)).flatMap enc1 = (volsTo ws c x k).flatMap enc1 ++ [.int .i64 (vAt ws c x (k + 1))] := by
  rw [volsTo_succ, List.flatMap_append]; rfl
section
variable {VA IA WA CA FA SA : Option Addr} {nV nI nW nC nF nS cV cI cW cC cF cS : Nat} {l : Lak} {ws : List Wrk} {c : List Int} {x : Rel} {w : World}

set_option maxRecDepth 100000 in
set_option maxHeartbeats 4000000 in
theorem Fill_c (hP : RdP w VA nV IA nI l WA nW ws CA nC c) (hcV : nV ≤ cV) (hcI : nI ≤ cI) (hnV : nV ≤ maxLen) (hnI : nI ≤ maxLen) (hnW : nW ≤ maxLen) (hnC : nC ≤ maxLen) (hX : RdX w FA nF SA nS x) (hnF : nF ≤ maxLen) (hnS : nS ≤ maxLen) :
    Calls Try.prog 39 #[.agg (lA VA nV cV IA nI cI l), .slice WA nW cW, .slice CA nC cC, .agg (xA FA nF cF SA nS cS x)] w (FillP w (fillE l ws c x) (fillB l ws c x) (fillV l ws c x)) := by
  have hb := ((Below.refl w.heap.size w).alloc (Nat.le_refl _) (.cells (lA VA nV cV IA nI cI l) 38)).alloc (by simp) (.cells (xA FA nF cF SA nS cS x) 77)
  obtain ⟨W, hW⟩ : ∃ W, W = ((w.alloc (.cells (lA VA nV cV IA nI cI l) 38)).alloc (.cells (xA FA nF cF SA nS cS x) 77)) := ⟨_, rfl⟩
  have hL := (Blk.new w 38 (lA VA nV cV IA nI cI l)).alloc (.cells (xA FA nF cF SA nS cS x) 77)
  have hR := Blk.new (w.alloc (.cells (lA VA nV cV IA nI cI l) 38)) 77 (xA FA nF cF SA nS cS x)
  simp only [World.size_alloc] at hR
  rw [← hW] at hb hL hR
  have HC := Lib.hid (worked_c (cV := cV) (cI := cI) (cW := cW) (cC := cC) (hP.below hb) hcV hcI hnV hnI hnW hnC)
  rw [hW] at HC
  have HF := Lib.hid (fun (U : World) (hU : Below w.heap.size w U) => fits_c (cV := cV) (cI := cI) (cF := cF) (cS := cS) (hP.l.below hU) (hX.below hU) hnI hnF hnS)
  have HW := Lib.hid hW; have HB := Lib.hid hb; have HL := Lib.hid hL; have HR := Lib.hid hR; have HP := Lib.hid hP; have HX := Lib.hid hX
  have HEA := Lib.hid (fillE_a (l := l) (ws := ws) (c := c) (x := x)); have HEF := Lib.hid (fillE_f (l := l) (ws := ws) (c := c) (x := x))
  obtain ⟨E, hE⟩ : ∃ E, E = fillE l ws c x := ⟨_, rfl⟩
  rw [← hE] at HEA HEF ⊢
  have hnF' : (nF : Int) ≤ 9223372036854775807 := by unfold maxLen at hnF; omega
  clear hb hL hR hW hE
  by_cases he : errA l ws c = 0
  · have hok := errA_zero.1 he
    rw [he] at HC
    have HEF := Lib.hid (HEF.out he)
    cases hf : fitsB l x
    · rw [hf] at HF
      obtain rfl : E = 2 := by rw [HEF.out, hf]; rfl
      clear hok he hf hP hX hnI hnV hnW hnC
      go_enter Try.func39, Try.ntmps39
      go_wp2_with fail
      refine HC.out.mono ?_
      rw [← HW.out]
      rintro e w1 ⟨rfl, hb1⟩
      have HL1 := Lib.hid (HL.out.below hb1 HL.out.lt)
      have HR1 := Lib.hid (HR.out.below hb1 HR.out.lt)
      have pc : ∀ i, w1.cell? ⟨w.heap.size, i, none⟩ = (lA VA nV cV IA nI cI l)[i]? := fun i => HL1.out.cell i
      have p0 := pc 0; have p1 := pc 1; have p2 := pc 2; have p3 := pc 3; have p4 := pc 4; have p5 := pc 5; have p6 := pc 6; have p7 := pc 7; have p8 := pc 8; have p9 := pc 9
      have qc : ∀ i, w1.cell? ⟨w.heap.size + 1, i, none⟩ = (xA FA nF cF SA nS cS x)[i]? := fun i => HR1.out.cell i
      have q0 := qc 0; have q1 := qc 1; have q2 := qc 2; have q3 := qc 3
      simp at p0 p1 p2 p3 p4 p5 p6 p7 p8 p9 q0 q1 q2 q3
      have HB1 := Lib.hid (below_tr HB.out hb1)
      clear hb1 pc qc
      go_wp2_with (go_at_call 75; refine (HF.out _ HB1.out).mono ?_; rintro e w2 ⟨rfl, hb2⟩)
      go_ret3
      exact FillP.bad (by omega) (below_tr HB1.out hb2)
    · rw [hf] at HF
      obtain rfl : E = 0 := by rw [HEF.out, hf]; rfl
      have hft := fitsB_iff.1 hf
      have hil := hP.l.infl.len; have hfl := hX.infl.len; have hsl := hX.seep.len
      have h60 := hok.l.h
      obtain rfl : nF = nI := by have := hft.n; omega
      obtain rfl : nS = nF := by have := hft.m; omega
      have hsp := hok.l.seep
      have HOUT := Lib.hid (fun (U : World) (hU : Below w.heap.size w U) (k : Int) => out_c (cV := cV) (cI := cI) (cW := cW) (cC := cC) (hP.below hU) hok.w hok.c k)
      have HBND := Lib.hid (fun (U : World) (hU : Below w.heap.size w U) (s : Bool) => bound_c (cV := cV) (cI := cI) (WA := WA) (nW := nW) (cW := cW) (CA := CA) (nC := nC) (cC := cC) (hP.l.below hU) hok.l s)
      have HOK := Lib.hid hok; have HFT := Lib.hid hft
      obtain ⟨i0, hi0, hz0, hz1, hz2⟩ := info_parts infoI
      have HI := Lib.hid hi0; have HZ0 := Lib.hid hz0; have HZ1 := Lib.hid hz1; have HZ2 := Lib.hid hz2
      clear hi0 hz0 hz1 hz2
      have HFB := Lib.hid (fun k => fillV_brk (l := l) (ws := ws) (c := c) (x := x) (k := k)); have HFE := Lib.hid (fillV_end (l := l) (ws := ws) (c := c) (x := x))
      rw [hil] at HFB HFE
      obtain ⟨FB, hFB⟩ : ∃ FB, FB = fillB l ws c x := ⟨_, rfl⟩
      obtain ⟨FV, hFV⟩ : ∃ FV, FV = fillV l ws c x := ⟨_, rfl⟩
      rw [← hFB, ← hFV] at HFB HFE ⊢
      clear hok he hf hP hX hnI hnV hnW hnC hft hFB hFV HEA HEF
      go_enter Try.func39, Try.ntmps39
      go_wp2_with fail
      refine HC.out.mono ?_
      rw [← HW.out]
      rintro e w1 ⟨rfl, hb1⟩
      have HL1 := Lib.hid (HL.out.below hb1 HL.out.lt)
      have HR1 := Lib.hid (HR.out.below hb1 HR.out.lt)
      have pc : ∀ i, w1.cell? ⟨w.heap.size, i, none⟩ = (lA VA nV cV IA nS cI l)[i]? := fun i => HL1.out.cell i
      have p0 := pc 0; have p1 := pc 1; have p2 := pc 2; have p3 := pc 3; have p4 := pc 4; have p5 := pc 5; have p6 := pc 6; have p7 := pc 7; have p8 := pc 8; have p9 := pc 9
      have qc : ∀ i, w1.cell? ⟨w.heap.size + 1, i, none⟩ = (xA FA nS cF SA nS cS x)[i]? := fun i => HR1.out.cell i
      have q0 := qc 0; have q1 := qc 1; have q2 := qc 2; have q3 := qc 3
      simp at p0 p1 p2 p3 p4 p5 p6 p7 p8 p9 q0 q1 q2 q3
      have HB1 := Lib.hid (below_tr HB.out hb1)
      clear hb1 pc qc
      go_wp2_with fail
      refine (HF.out _ HB1.out).mono ?_
      rintro e w2 ⟨rfl, hb2⟩
      have HL2 := Lib.hid (HL1.out.below hb2 HL1.out.lt)
      have HR2 := Lib.hid (HR1.out.below hb2 HR1.out.lt)
      have pc : ∀ i, w2.cell? ⟨w.heap.size, i, none⟩ = (lA VA nV cV IA nS cI l)[i]? := fun i => HL2.out.cell i
      have p0 := pc 0; have p1 := pc 1; have p2 := pc 2; have p3 := pc 3; have p4 := pc 4; have p5 := pc 5; have p6 := pc 6; have p7 := pc 7; have p8 := pc 8; have p9 := pc 9
      have qc : ∀ i, w2.cell? ⟨w.heap.size + 1, i, none⟩ = (xA FA nS cF SA nS cS x)[i]? := fun i => HR2.out.cell i
      have q0 := qc 0; have q1 := qc 1; have q2 := qc 2; have q3 := qc 3
      simp at p0 p1 p2 p3 p4 p5 p6 p7 p8 p9 q0 q1 q2 q3
      have HB2 := Lib.hid (below_tr HB1.out hb2)
      clear hb2 pc qc HL1 HR1 HB1 HF HC
      have hs2 := HB2.out.size
      have hl2 := HL2.out.lt; have hr2 := HR2.out.lt
      obtain ⟨W3, hW3⟩ : ∃ W3, W3 = w2.alloc (.cells (pA VA nV cV IA nS cI l WA nW cW CA nC cC) 126) := ⟨_, rfl⟩
      have HW3 := Lib.hid hW3
      have HP3 := Lib.hid (show Blk W3 w2.heap.size 126 (pA VA nV cV IA nS cI l WA nW cW CA nC cC) by rw [hW3]; exact Blk.new _ _ _)
      have HR3 := Lib.hid (show Blk W3 (w.heap.size + 1) 77 (xA FA nS cF SA nS cS x) by rw [hW3]; exact HR2.out.alloc _)
      have HB3 := Lib.hid (show Below w.heap.size w W3 by rw [hW3]; exact HB2.out.alloc hs2 _)
      clear hW3
      go_wp2_with fail
      go_loopw [8, 13, 37] (fun vs v i wr => ∃ k : Nat, k ≤ nS ∧ i = .int .i64 k ∧ v = .int .i64 (vAt ws c x k) ∧ wr.ownsRow W3.heap.size 3 1 vs k ((volsTo ws c x k).flatMap enc1) ∧ (∀ j, j < k → brkB l ws c x j = false) ∧ Below W3.heap.size W3 wr) (fun _ _ i _ => nS - (intOf i).toNat)
      case atStart =>
        rw [← HW3.out]
        exact ⟨0, Nat.zero_le _, rfl, rfl, World.ownsRow_nil _ _ _ _, fun j hj => absurd hj (by omega), Below.refl _ _⟩
      case round =>
        obtain ⟨k, hk, rfl, rfl, hown, hnb, hbr⟩ := hrel
        have HO := Lib.hid hown; have HNB := Lib.hid hnb; have HBR := Lib.hid hbr
        have HBW := Lib.hid (HB3.out.trans (hbr.mono HB3.out.size))
        obtain ⟨OA, oc, rfl, hoc⟩ := own_form hown
        have HOC := Lib.hid hoc
        clear q0 q1 q2 q3 p0 p1 p2 p3 p4 p5 p6 p7 p8 p9 hoc
        by_cases hlt : k < nS
        · obtain ⟨b, o, vi, hFA, hbl, hvi, e0⟩ := (HX.out.infl.below HBW.out).at1 hlt
          subst hFA
          obtain ⟨b2, o2, si, hSA, hbl2, hsi, d0⟩ := (HX.out.seep.below HBW.out).at1 hlt
          subst hSA
          obtain ⟨r, hr⟩ : ∃ r, l.inflow[k]? = some r := ⟨_, List.getElem?_eq_getElem (by omega)⟩
          have hvb := vAt_bd HOK.out.l HFT.out k HNB.out
          have hib := HFT.out.inflow k r vi hr hvi
          have hrb := HOK.out.l.inflow k r hr
          have hsb := HFT.out.seep k si hsi
          have hob := outAt_bd HOK.out.w HOK.out.c (k : Int)
          have hnx : vAt ws c x (k + 1) = max 0 (vAt ws c x k + vi - si - outAt ws c (k : Int)) := by simp only [vAt, atI_get hvi, atI_get hsi]
          have hbk : brkB l ws c x k = decide (bdK l (decide (x.soft ≤ (k : Int))) ≤ vAt ws c x (k + 1)) := rfl
          have happ := volsTo_flat ws c x k
          have HOK2 := Lib.hid (HOUT.out wr.drew HBW.out.drew (k : Int))
          obtain ⟨V, hV⟩ : ∃ V, V = vAt ws c x k := ⟨_, rfl⟩
          obtain ⟨N, hN⟩ : ∃ N, N = vAt ws c x (k + 1) := ⟨_, rfl⟩
          obtain ⟨O, hO⟩ : ∃ O, O = outAt ws c (k : Int) := ⟨_, rfl⟩
          obtain ⟨D, hD⟩ : ∃ D, D = bdK l (decide (x.soft ≤ (k : Int))) := ⟨_, rfl⟩
          rw [← hD] at hbk
          rw [← hN] at hnx hbk happ
          rw [← hV] at hvb hnx ⊢
          rw [← hO] at hob hnx HOK2
          have hw1 : IntKind.i64.wrap (V + vi) = V + vi := wi (by omega)
          have hw2 : IntKind.i64.wrap (V + vi - si) = V + vi - si := wi (by omega)
          have hw3 : IntKind.i64.wrap (V + vi - si - O) = V + vi - si - O := wi (by omega)
          have HBK := Lib.hid hbk; have HAPP := Lib.hid happ; have HNX := Lib.hid hnx; have HVB := Lib.hid hvb
          have HND := Lib.hid hN
          have hx3 := HR3.out.below hbr HR3.out.lt
          have hp3 := HP3.out.below hbr HP3.out.lt
          have qc : ∀ i, wr.cell? ⟨w.heap.size + 1, i, none⟩ = (xA (some ⟨b, o, none⟩) nS cF (some ⟨b2, o2, none⟩) nS cS x)[i]? := fun i => hx3.cell i
          have q1 := qc 1; have q3 := qc 3
          have pc : ∀ i, wr.cell? ⟨w2.heap.size, i, none⟩ = (pA VA nV cV IA nS cI l WA nW cW CA nC cC)[i]? := fun i => hp3.cell i
          have p0 := pc 0; have p1 := pc 1; have p2 := pc 2; have p3 := pc 3; have p4 := pc 4; have p5 := pc 5; have p6 := pc 6; have p7 := pc 7; have p8 := pc 8; have p9 := pc 9; have p10 := pc 10; have p11 := pc 11
          simp at q1 q3 p0 p1 p2 p3 p4 p5 p6 p7 p8 p9 p10 p11
          have HRX := Lib.hid hx3; have HRP := Lib.hid hp3
          have hkn : (k : Int) < (nS : Int) := by omega
          have hk0 : (0 : Int) ≤ (k : Int) := by omega
          have hxl := hx3.lt; have hpl := hp3.lt
          have hsr := hbr.size
          clear hvi hsi hr hvb hib hrb hsb hob hnx hbk happ hV hO hx3 hp3 qc pc hown hnb hbr hN
          have HS := Lib.hid (fun (U : World) (hU : Below wr.heap.size wr U) => show U.cell? ⟨w.heap.size + 1, 1, none⟩ = some (.slice (some ⟨b2, o2, none⟩) nS cS) ∧ U.cell? ⟨b2, o2 + k, none⟩ = some (.int .i64 si) ∧ U.cell? ⟨w2.heap.size, 0, none⟩ = some (.slice VA nV cV) ∧ U.cell? ⟨w2.heap.size, 1, none⟩ = some (.int .i64 l.crest) ∧ U.cell? ⟨w2.heap.size, 2, none⟩ = some (.int .i64 l.weak) ∧ U.cell? ⟨w2.heap.size, 3, none⟩ = some (.int .i64 l.soft.1) ∧ U.cell? ⟨w2.heap.size, 4, none⟩ = some (.int .i64 l.soft.2) ∧ U.cell? ⟨w2.heap.size, 5, none⟩ = some (.int .i64 l.start.1) ∧ U.cell? ⟨w2.heap.size, 6, none⟩ = some (.int .i64 l.start.2) ∧ U.cell? ⟨w2.heap.size, 7, none⟩ = some (.int .i64 l.seep.1) ∧ U.cell? ⟨w2.heap.size, 8, none⟩ = some (.int .i64 l.seep.2) ∧ U.cell? ⟨w2.heap.size, 9, none⟩ = some (.slice IA nS cI) ∧ U.cell? ⟨w2.heap.size, 10, none⟩ = some (.slice WA nW cW) ∧ U.cell? ⟨w2.heap.size, 11, none⟩ = some (.slice CA nC cC) from
            ⟨bel_keep hU q1, bel_keep hU d0, bel_keep hU p0, bel_keep hU p1, bel_keep hU p2, bel_keep hU p3, bel_keep hU p4, bel_keep hU p5, bel_keep hU p6, bel_keep hU p7, bel_keep hU p8, bel_keep hU p9, bel_keep hU p10, bel_keep hU p11⟩)
          go_upto_region 11 with fail
          go_cut [13] (fun v wx => v = .int .i64 N ∧ Below wr.heap.size wr wx)
          case first =>
            go_region_held3 (fun U => U.cell? ⟨w.heap.size + 1, 1, none⟩ = some (.slice (some ⟨b2, o2, none⟩) nS cS) ∧ U.cell? ⟨b2, o2 + k, none⟩ = some (.int .i64 si) ∧ U.cell? ⟨w2.heap.size, 0, none⟩ = some (.slice VA nV cV) ∧ U.cell? ⟨w2.heap.size, 1, none⟩ = some (.int .i64 l.crest) ∧ U.cell? ⟨w2.heap.size, 2, none⟩ = some (.int .i64 l.weak) ∧ U.cell? ⟨w2.heap.size, 3, none⟩ = some (.int .i64 l.soft.1) ∧ U.cell? ⟨w2.heap.size, 4, none⟩ = some (.int .i64 l.soft.2) ∧ U.cell? ⟨w2.heap.size, 5, none⟩ = some (.int .i64 l.start.1) ∧ U.cell? ⟨w2.heap.size, 6, none⟩ = some (.int .i64 l.start.2) ∧ U.cell? ⟨w2.heap.size, 7, none⟩ = some (.int .i64 l.seep.1) ∧ U.cell? ⟨w2.heap.size, 8, none⟩ = some (.int .i64 l.seep.2) ∧ U.cell? ⟨w2.heap.size, 9, none⟩ = some (.slice IA nS cI) ∧ U.cell? ⟨w2.heap.size, 10, none⟩ = some (.slice WA nW cW) ∧ U.cell? ⟨w2.heap.size, 11, none⟩ = some (.slice CA nC cC))
              (first | exact HS.out _ (Below.refl _ _) | exact HS.out _ (Below.refl _ _).drew | exact HS.out _ hb4 | exact HS.out _ (hb4.alloc hb4.size _))
              (first
                | (go_at_call 59; refine HOK2.out.mono ?_; rintro e w4 ⟨rfl, hb4'⟩; have hb4 := (Below.refl wr.heap.size wr).drew.trans hb4')
                | (go_at_call 76; refine (greatest_c (rd_two w4 0 _ rfl)).mono ?_; rintro e w5 ⟨rfl, rfl⟩))
            all_goals
              go_wp2_with fail
              go_meet
              exact ⟨by rw [HNX.out], hb4.alloc hb4.size _⟩
          case rest =>
            obtain ⟨rfl, hb5⟩ := hcut
            obtain ⟨W5, hW5⟩ : ∃ W5, W5 = wc := ⟨_, rfl⟩
            rw [← hW5] at hb5 ⊢
            have HB5 := Lib.hid (HBR.out.trans (hb5.mono hsr))
            have HO5 := Lib.hid (own_mono HO.out hb5)
            have HX5 := Lib.hid (HRX.out.below hb5 HRX.out.lt)
            have HP5 := Lib.hid (HRP.out.below hb5 HRP.out.lt)
            have HDD := Lib.hid hD
            have hs5 := HB5.out.size
            have hs3 : w.heap.size + 1 < W3.heap.size := HR3.out.lt
            have hp3 : w2.heap.size < W3.heap.size := HP3.out.lt
            clear hW5 hb5 q1 q3 p0 p1 p2 p3 p4 p5 p6 p7 p8 p9 p10 p11 e0 d0 HS HOK2 hD
            go_upto_region 12 with fail
            go_upto_region 13 with (at_builtin; go_must (refine wpList_append_own_at _ rfl _ _ 22 rfl W3.heap.size 3 i0 _ 1 8 Try.underlying22 HI.out HZ0.out HZ1.out HZ2.out rfl (by decide) _ _ _ rfl (HO5.out.alloc _) ⟨W5.heap.size, 0, none⟩ 1 1 [.int .i64 N] rfl rfl (fun j u hj => World.news_of_block (cs := #[.int .i64 N]) (t := 3) (fr := (0, 0)) (heap_alloc_new W5 _) j u hj) (by simp [Value.oneCell']) (by unfold maxLen; omega) (by omega) (by simp; omega) ?_; intro v' w6 hown' hgrow _ _; have hx6 := (HX5.out.alloc (.cells #[.int .i64 N] 3)).grown hgrow (own_ge HO5.out hs3); have q3 := hx6.cell 3; simp at q3; have HG := Lib.hid hgrow; clear hx6 hgrow))
            have hx6 := (HX5.out.alloc (.cells #[.int .i64 N] 3)).grown HG.out (own_ge HO5.out hs3)
            have hp6 := (HP5.out.alloc (.cells #[.int .i64 N] 3)).grown HG.out (own_ge HO5.out hp3)
            have hb6 : Below W3.heap.size W3 w6 := (HB5.out.alloc hs5 _).grown HG.out (by simp; omega) (fun g hg => (HO5.out.lt g hg).1)
            have HB6 := Lib.hid hb6
            have HBV := Lib.hid (HB3.out.trans (hb6.mono HB3.out.size))
            have hown2 : w6.ownsRow W3.heap.size 3 1 v' (k + 1) ((volsTo ws c x (k + 1)).flatMap enc1) := by rw [HAPP.out]; exact hown'
            have HO6 := Lib.hid hown2
            have pc : ∀ i, w6.cell? ⟨w2.heap.size, i, none⟩ = (pA VA nV cV IA nS cI l WA nW cW CA nC cC)[i]? := fun i => hp6.cell i
            have p0 := pc 0; have p1 := pc 1; have p2 := pc 2; have p3 := pc 3; have p4 := pc 4; have p5 := pc 5; have p6 := pc 6; have p7 := pc 7; have p8 := pc 8; have p9 := pc 9; have p10 := pc 10; have p11 := pc 11
            simp at p0 p1 p2 p3 p4 p5 p6 p7 p8 p9 p10 p11
            have HBD := Lib.hid (HBND.out w6 HBV.out (decide (x.soft ≤ (k : Int))))
            rw [← HDD.out] at HBD
            clear hx6 hp6 hb6 hown' hown2 pc
            by_cases hs : x.soft ≤ (k : Int)
            · rw [decide_eq_true hs, if_pos rfl] at HBD
              go_wp2_with fail
              refine HBD.out.mono ?_
              rintro e w7 ⟨rfl, hb7⟩
              have HB7 := Lib.hid (HB6.out.trans (hb7.mono HB6.out.size))
              have HBT := Lib.hid (HBV.out.trans (hb7.mono HBV.out.size))
              have HO7 := Lib.hid (own_mono HO6.out hb7)
              clear hb7
              by_cases hbr : D ≤ N
              · have hfb := HFB.out k hlt (by rw [HBK.out, decide_eq_true hbr]) HNB.out
                obtain rfl := hfb.1
                have HFV := Lib.hid hfb.2
                obtain ⟨OB, od, rfl, hod⟩ := own_form HO7.out
                have HOD := Lib.hid hod
                clear hfb hod
                go_wp2_with fail
                go_ret3
                exact FillP.good HOD.out (by rw [HFV.out]; exact Rd.of_own enc1_len HO7.out (by rw [volsTo_len])) HBT.out
              · have hlt2 : N < D := by omega
                have HNK := Lib.hid (show brkB l ws c x k = false by rw [HBK.out, decide_eq_false hbr])
                clear hbr
                go_wp2_with fail
                go_roundw
                case rel => exact ⟨k + 1, by omega, by go_num, by rw [HND.out], HO7.out, fun j hj => by
                  rcases Nat.lt_or_ge j k with hjk | hjk
                  · exact HNB.out j hjk
                  · obtain rfl : j = k := by omega
                    exact HNK.out, HB7.out⟩
                case measure => simp [intOf] <;> omega
            · rw [decide_eq_false hs, if_neg (by simp)] at HBD
              have hs' : (k : Int) < x.soft := by omega
              clear hs
              go_wp2_with fail
              refine HBD.out.mono ?_
              rintro e w7 ⟨rfl, hb7⟩
              have HB7 := Lib.hid (HB6.out.trans (hb7.mono HB6.out.size))
              have HBT := Lib.hid (HBV.out.trans (hb7.mono HBV.out.size))
              have HO7 := Lib.hid (own_mono HO6.out hb7)
              clear hb7
              by_cases hbr : D ≤ N
              · have hfb := HFB.out k hlt (by rw [HBK.out, decide_eq_true hbr]) HNB.out
                obtain rfl := hfb.1
                have HFV := Lib.hid hfb.2
                obtain ⟨OB, od, rfl, hod⟩ := own_form HO7.out
                have HOD := Lib.hid hod
                clear hfb hod
                go_wp2_with fail
                go_ret3
                exact FillP.good HOD.out (by rw [HFV.out]; exact Rd.of_own enc1_len HO7.out (by rw [volsTo_len])) HBT.out
              · have hlt2 : N < D := by omega
                have HNK := Lib.hid (show brkB l ws c x k = false by rw [HBK.out, decide_eq_false hbr])
                clear hbr
                go_wp2_with fail
                go_roundw
                case rel => exact ⟨k + 1, by omega, by go_num, by rw [HND.out], HO7.out, fun j hj => by
                  rcases Nat.lt_or_ge j k with hjk | hjk
                  · exact HNB.out j hjk
                  · obtain rfl : j = k := by omega
                    exact HNK.out, HB7.out⟩
                case measure => simp [intOf] <;> omega
        · obtain rfl : k = nS := by omega
          have hfe := HFE.out hnb
          have hrd := Rd.of_own enc1_len hown (by rw [volsTo_len])
          rw [← hfe.2] at hrd
          obtain rfl := hfe.1
          have HRD := Lib.hid hrd
          clear hown hnb hbr hfe hrd
          go_wp2_with fail
          go_ret3
          exact FillP.good HOC.out HRD.out HBW.out
  · obtain ⟨E', hE'⟩ : ∃ E, E = errA l ws c := ⟨_, rfl⟩
    rw [← hE'] at HEA HC he
    obtain rfl := HEA.out he
    clear hE' hP hX HEF HF
    go_enter Try.func39, Try.ntmps39
    go_wp2_with fail
    refine HC.out.mono ?_
    rw [← HW.out]
    rintro e w1 ⟨rfl, hb1⟩
    go_wp2_with fail
    go_ret3
    exact FillP.bad he (below_tr HB.out hb1)
end
end Go.Proofs.Ytpijmfbpdglchaa
