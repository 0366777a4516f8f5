/- CONTRACT of water.begin: the way ahead of all days. -/
import Derived.Test.YtjpobkmlcjbpiaaGreatYPass
import Derived.Laws.CopyOwn
import Derived.RangeFuncNested
import Derived.Test.YtjpobkmlcjbpiaaGreatYFall
import Derived.OrdersIn
import Derived.OwnWalkIn
import Derived.RangeFuncCalls
import Derived.Deep.RegionHeld3
set_option linter.unusedVariables false
set_option linter.unusedSimpArgs false
namespace Go.Proofs.YtjpobkmlcjbpiaaGreat
open Go.RowKit Go.Proofs
attribute [local go_sem ↓] Go.wp_at_zero Go.wp_at_succ

theorem way_splice {CS DS LV RN : Slc} {sn0 sn1 so0 so1 melt tsn tso snow left : Int} {L : List Int} (hl : L.length ≤ 8) :
    (splice (wayC CS sn0 sn1 so0 so1 melt DS tsn tso LV RN (fun _ => 0) snow left).toList 11 (L.map fun n => Value.int .i64 n)).toArray = wayC CS sn0 sn1 so0 so1 melt DS tsn tso LV RN (lvA L) snow left := by
  match L, hl with
  | [], _ => rfl
  | [_], _ => rfl
  | [_, _], _ => rfl
  | [_, _, _], _ => rfl
  | [_, _, _, _], _ => rfl
  | [_, _, _, _, _], _ => rfl
  | [_, _, _, _, _, _], _ => rfl
  | [_, _, _, _, _, _, _], _ => rfl
  | [_, _, _, _, _, _, _, _], _ => rfl
  | _ :: _ :: _ :: _ :: _ :: _ :: _ :: _ :: _ :: _, h => simp at h
theorem infoI1 : (Tryz.prog.info? 3).map (·.size) = some 1 := by kernel_rfl
set_option linter.unusedSimpArgs false in
set_option maxRecDepth 100000 in
set_option maxHeartbeats 1000000 in
theorem begin_c {CS DS LV RN : Slc} {sn0 sn1 so0 so1 melt tsn tso : Int} {L : List Int} {w : World} (hl : Rd enc1 1 w LV.A LV.n L) (hn : LV.n ≤ 8) :
    Calls Tryz.prog 23 #[.agg #[CS.v, .int .i64 sn0, .int .i64 sn1, .int .i64 so0, .int .i64 so1, .int .i64 melt], DS.v, .agg #[.int .i64 tsn, .int .i64 tso, LV.v, RN.v]] w fun e w' =>
      ∃ g, e = .returned (.pointer (some ⟨g, 0, none⟩)) ∧ w.heap.size ≤ g ∧ Blk w' g 87 (wayC CS sn0 sn1 so0 so1 melt DS tsn tso LV RN (lvA L) tsn 0) ∧ Below w.heap.size w w' := by
  have hlen := hl.len
  have HSP := Lib.hid (way_splice (CS := CS) (DS := DS) (LV := LV) (RN := RN) (sn0 := sn0) (sn1 := sn1) (so0 := so0) (so1 := so1) (melt := melt) (tsn := tsn) (tso := tso) (snow := tsn) (left := 0) (L := L) (by omega))
  obtain ⟨w1, hw1⟩ : ∃ w1, w1 = (((w.alloc (.cells #[CS.v, .int .i64 sn0, .int .i64 sn1, .int .i64 so0, .int .i64 so1, .int .i64 melt] 46)).alloc (.cells #[.int .i64 tsn, .int .i64 tso, LV.v, RN.v] 50)).alloc (.cells (wayC CS sn0 sn1 so0 so1 melt DS tsn tso LV RN (fun _ => 0) tsn 0) 87)) := ⟨_, rfl⟩
  have hb1 : Below w.heap.size w w1 := by rw [hw1]; exact (((Below.refl _ _).alloc (Nat.le_refl _) _).alloc (by simp) _).alloc (by simp; omega) _
  have hT : Blk w1 (w.heap.size + 1) 50 #[.int .i64 tsn, .int .i64 tso, LV.v, RN.v] := by
    rw [hw1]
    have := Blk.new (w.alloc (.cells #[CS.v, .int .i64 sn0, .int .i64 sn1, .int .i64 so0, .int .i64 so1, .int .i64 melt] 46)) 50 #[.int .i64 tsn, .int .i64 tso, LV.v, RN.v]
    simp only [World.size_alloc] at this
    exact this.alloc _
  have hW : Blk w1 (w.heap.size + 1 + 1) 87 (wayC CS sn0 sn1 so0 so1 melt DS tsn tso LV RN (fun _ => 0) tsn 0) := by
    rw [hw1]
    have := Blk.new ((w.alloc (.cells #[CS.v, .int .i64 sn0, .int .i64 sn1, .int .i64 so0, .int .i64 so1, .int .i64 melt] 46)).alloc (.cells #[.int .i64 tsn, .int .i64 tso, LV.v, RN.v] 50)) 87 (wayC CS sn0 sn1 so0 so1 melt DS tsn tso LV RN (fun _ => 0) tsn 0)
    simp only [World.size_alloc] at this
    exact this
  have hl1 := hl.below hb1
  obtain ⟨CA, cn, cc⟩ := CS; obtain ⟨DA, dn, dc⟩ := DS; obtain ⟨LA, ln, lc⟩ := LV; obtain ⟨RA, rn, rc⟩ := RN
  dsimp only [Slc.v] at hl hn hlen hl1 hT hw1 ⊢
  have t2 := hT.cell 2
  simp at t2
  have HT := Lib.hid t2; have HW := Lib.hid hW; have HL := Lib.hid hl1; have HB := Lib.hid hb1; have HW1 := Lib.hid hw1
  clear t2 hT hW hl hl1 hb1 hw1
  go_enter Tryz.func23, Tryz.ntmps23
  go_upto_region 2 with fail
  have hfold : ∀ P : World → Prop, P w1 → P (((w.alloc (.cells #[.slice CA cn cc, .int .i64 sn0, .int .i64 sn1, .int .i64 so0, .int .i64 so1, .int .i64 melt] 46)).alloc (.cells #[.int .i64 tsn, .int .i64 tso, .slice LA ln lc, .slice RA rn rc] 50)).alloc (.cells #[.slice CA cn cc, .int .i64 sn0, .int .i64 sn1, .int .i64 so0, .int .i64 so1, .int .i64 melt, .slice DA dn dc, .int .i64 tsn, .int .i64 tso, .slice LA ln lc, .slice RA rn rc, .int .i64 0, .int .i64 0, .int .i64 0, .int .i64 0, .int .i64 0, .int .i64 0, .int .i64 0, .int .i64 0, .int .i64 tsn, .int .i64 0] 87)) := fun P h => by rw [HW1.out] at h; exact h
  refine hfold _ ?_
  clear hfold
  have t2 := HT.out
  refine wp_region_till [6] (fun U => U.cell? ⟨w.heap.size + 1, 2, none⟩ = some (.slice LA ln lc)) (by kernel_rfl) (by exact t2) (fun hHeld => ?_)
  have hb9 := (Below.refl w1.heap.size w1).drew
  have t0 := HW.out.below hb9 HW.out.lt; have t1 := HL.out.below hb9; have t2 := below_tr HB.out hb9
  clear HW HL HB
  have HW := Lib.hid t0; have HL := Lib.hid t1; have HB := Lib.hid t2
  clear t0 t1 t2
  clear hb9
  revert hHeld HW HL HB
  generalize w1.drew = w0
  intro hHeld HW HL HB
  (refine wpAnyL_take (n := 3) (i := 0) (oi := ?ox1) (v := ?vx1) ?hix1 ?k1x1 ?k2x1 ?k3x1 ?k4x1 ?k5x1 ?k6x1 ?hQx1 ?hYx1 ?hSx1 ?restx1; (case hix1 => (simp only [List.getElem?_toArray, List.getElem?_cons_succ, List.getElem?_cons_zero]; exact rfl)); (case k1x1 => kernel_rfl); (case k2x1 => kernel_rfl); (case k3x1 => kernel_rfl); (case k4x1 => kernel_rfl); (case k5x1 => kernel_rfl); (case k6x1 => kernel_rfl); (case hSx1 => assumption); (case hYx1 => (refine Or.inl ⟨rfl, ?hyx1⟩; intro w hSw; (try dsimp only at hSw); go_simp; (try with_reducible rfl))); (case hQx1 => exact (fun _ _ _ h => h)); (try simp only [Act.put, List.setIfInBounds_toArray, List.set_cons_zero, List.set_cons_succ]))
  (refine wpAnyL_take (n := 2) (i := 1) (oi := ?ox2) (v := ?vx2) ?hix2 ?k1x2 ?k2x2 ?k3x2 ?k4x2 ?k5x2 ?k6x2 ?hQx2 ?hYx2 ?hSx2 ?restx2; (case hix2 => (simp only [List.getElem?_toArray, List.getElem?_cons_succ, List.getElem?_cons_zero]; exact rfl)); (case k1x2 => kernel_rfl); (case k2x2 => kernel_rfl); (case k3x2 => kernel_rfl); (case k4x2 => kernel_rfl); (case k5x2 => kernel_rfl); (case k6x2 => kernel_rfl); (case hSx2 => assumption); (case hYx2 => (refine Or.inl ⟨rfl, ?hyx2⟩; intro w hSw; (try dsimp only at hSw); go_simp; (try with_reducible rfl))); (case hQx2 => exact (fun _ _ _ h => h)); (try simp only [Act.put, List.setIfInBounds_toArray, List.set_cons_zero, List.set_cons_succ]))
  (refine wpAnyL_take (n := 1) (i := 2) (oi := ?ox3) (v := ?vx3) ?hix3 ?k1x3 ?k2x3 ?k3x3 ?k4x3 ?k5x3 ?k6x3 ?hQx3 ?hYx3 ?hSx3 ?restx3; (case hix3 => (simp only [List.getElem?_toArray, List.getElem?_cons_succ, List.getElem?_cons_zero]; exact rfl)); (case k1x3 => kernel_rfl); (case k2x3 => kernel_rfl); (case k3x3 => kernel_rfl); (case k4x3 => kernel_rfl); (case k5x3 => kernel_rfl); (case k6x3 => kernel_rfl); (case hSx3 => assumption); (case hYx3 => (refine Or.inl ⟨rfl, ?hyx3⟩; intro w hSw; (try dsimp only at hSw); go_simp; (try with_reducible rfl))); (case hQx3 => exact (fun _ _ _ h => h)); (try simp only [Act.put, List.setIfInBounds_toArray, List.set_cons_zero, List.set_cons_succ]))
  (refine wpAnyL_take (n := 0) (i := 3) (oi := ?ox4) (v := ?vx4) ?hix4 ?k1x4 ?k2x4 ?k3x4 ?k4x4 ?k5x4 ?k6x4 ?hQx4 ?hYx4 ?hSx4 ?restx4; (case hix4 => (simp only [List.getElem?_toArray, List.getElem?_cons_succ, List.getElem?_cons_zero]; exact rfl)); (case k1x4 => kernel_rfl); (case k2x4 => kernel_rfl); (case k3x4 => kernel_rfl); (case k4x4 => kernel_rfl); (case k5x4 => kernel_rfl); (case k6x4 => kernel_rfl); (case hSx4 => assumption); (case hYx4 => (refine Or.inl ⟨rfl, ?hyx4⟩; intro w hSw; (try dsimp only at hSw); go_simp; (try with_reducible rfl))); (case hQx4 => exact (fun _ _ _ h => h)); (try simp only [Act.put, List.setIfInBounds_toArray, List.set_cons_zero, List.set_cons_succ]))
  (refine wpAnyL_take (n := 1) (i := 4) (oi := ?ox5) (v := ?vx5) ?hix5 ?k1x5 ?k2x5 ?k3x5 ?k4x5 ?k5x5 ?k6x5 ?hQx5 ?hYx5 ?hSx5 ?restx5; (case hix5 => (simp only [List.getElem?_toArray, List.getElem?_cons_succ, List.getElem?_cons_zero]; exact rfl)); (case k1x5 => kernel_rfl); (case k2x5 => kernel_rfl); (case k3x5 => kernel_rfl); (case k4x5 => kernel_rfl); (case k5x5 => kernel_rfl); (case k6x5 => kernel_rfl); (case hSx5 => assumption); (case hYx5 => (refine Or.inl ⟨rfl, ?hyx5⟩; intro w hSw; (try dsimp only at hSw); go_simp; (try with_reducible rfl))); (case hQx5 => exact (fun _ _ _ h => h)); (try simp only [Act.put, List.setIfInBounds_toArray, List.set_cons_zero, List.set_cons_succ]))
  (refine wpAnyL_take (n := 0) (i := 5) (oi := ?ox6) (v := ?vx6) ?hix6 ?k1x6 ?k2x6 ?k3x6 ?k4x6 ?k5x6 ?k6x6 ?hQx6 ?hYx6 ?hSx6 ?restx6; (case hix6 => (simp only [List.getElem?_toArray, List.getElem?_cons_succ, List.getElem?_cons_zero]; exact rfl)); (case k1x6 => kernel_rfl); (case k2x6 => kernel_rfl); (case k3x6 => kernel_rfl); (case k4x6 => kernel_rfl); (case k5x6 => kernel_rfl); (case k6x6 => kernel_rfl); (case hSx6 => assumption); (case hYx6 => (refine Or.inl ⟨rfl, ?hyx6⟩; intro w hSw; (try dsimp only at hSw); go_simp; (try with_reducible rfl))); (case hQx6 => exact (fun _ _ _ h => h)); (try simp only [Act.put, List.setIfInBounds_toArray, List.set_cons_zero, List.set_cons_succ]))
  refine wpAnyL_ready (rs := [6]) (by kernel_rfl) (by simp) ?_
  refine AllReadyL.last (o := ?o6x7) ?hi6x7 ?he6x7 (fun K hK => ?_) AllReadyL.nil
  (case hi6x7 => (simp only [List.getElem?_toArray, List.getElem?_cons_succ, List.getElem?_cons_zero]; exact rfl))
  (case he6x7 => kernel_rfl)
  have hcs : (L.map fun n => Value.int .i64 n).length = Nat.min ln 8 := by rw [List.length_map]; simp only [Nat.min_def]; split <;> omega
  refine step_copy_splice rfl _ _ _ _ rfl 3 Tryz.underlying33 infoI1 (some ⟨w.heap.size + 1 + 1, 11, none⟩) LA 8 8 ln lc (by rfl) (by rfl) (w.heap.size + 1 + 1) 11 (wayC ⟨CA, cn, cc⟩ sn0 sn1 so0 so1 melt ⟨DA, dn, dc⟩ tsn tso ⟨LA, ln, lc⟩ ⟨RA, rn, rc⟩ (fun _ => 0) tsn 0).toList 87 (by rw [Array.toArray_toList]; exact HW.out) (L.map fun n => Value.int .i64 n) hcs ?_ ?_ ?_ w.heap.size w HB.out (by omega) ?_
  · intro hp
    rw [List.length_map] at hp
    obtain ⟨lb, lo, rfl, hlb, hlc⟩ := HL.out.2 (by omega)
    refine ⟨rfl, _, rfl, fun j v hv => ?_⟩
    rw [List.getElem?_map] at hv
    cases hx : L[j]? with
    | none => rw [hx] at hv; cases hv
    | some x =>
      rw [hx] at hv
      cases hv
      have h0 := hlc j x hx 0 _ rfl
      simp only [Nat.mul_one, Nat.add_zero] at h0
      unfold Addr.add
      split
      · rename_i hj; subst hj; exact h0
      · exact h0
  · rw [List.length_map]; simp [wayC]; omega
  · intro v hv
    obtain ⟨x, _, rfl⟩ := List.mem_map.1 hv
    rfl
  intro w9 hg9 hb9
  (try clear hHeld)
  refine hK.out _ _ ?_
  clear hK K
  (try simp only [Act.put, List.setIfInBounds_toArray, List.set_cons_zero, List.set_cons_succ])
  (refine wpAnyL_done (by kernel_rfl) ?_ _)
  have hg := hg9.out
  rw [HSP.out] at hg
  go_wp2_with fail
  go_ret
  exact ⟨_, rfl, by omega, hg, hb9⟩
end Go.Proofs.YtjpobkmlcjbpiaaGreat

namespace Go.Proofs.YtjpobkmlcjbpiaaGreat
open Go.RowKit Go.Proofs

/-- the loop's own two blocks between two rounds -/
def BookT (l D : Nat) (r : Loop) (W : World) : Prop := W.heap[l]? = some (.loop r) ∧ W.heap[D]? = some (.deferred (some []))
/-- what a body may leave: off its end, with the next invariant -/
def turnPost (B : Nat) (I : World → Prop) (W : World) : Exit → Act → World → Prop
  | .normal, _, W' => KeepsFrom B W W' ∧ I W'
  | _, _, _ => False
/-- an invariant that does not mind the loop's own book-keeping -/
structure Minds (B : Nat) (I : Nat → World → Prop) : Prop where
  put : ∀ k W l o o', I k W → B ≤ l → W.heap[l]? = some o' → o'.isCells = false → I k (W.putObj l o)
  alloc : ∀ k W o, I k W → I k (W.alloc o)
/-- the contract of an iterator that turns the world by T ahead of each of N rounds -/
def IterT (F : Fence) (n : Nat) (P : Program) (gf : Nat) (lb : Array Value) (encs : Nat → Array Value) (N : Nat) (T : World → World → Prop) (w : World) (I J : Nat → World → Prop) : Prop :=
  ∀ (l : Nat) (B : World → Prop), (∀ W W', B W → T W W' → B W') →
    (∀ k W, k < N → J k W → B W → YieldAt F (n - 1) P l (encs k) W fun e W' => e = .returned (.bool true) ∧ I (k + 1) W' ∧ B W') →
    ∀ W, Below w.heap.size w W → I 0 W → B W → CallsIn F n P gf (#[.func (.yield l) #[] #[]] ++ lb) W fun e W' => (∃ v, e = .returned v) ∧ I N W' ∧ B W'

theorem wpIn_range_turns {F : Fence} {n : Nat} {P : Program} {g : Operand} {ps : Array Tmp} {assign body : Code} {Q : Exit → Act → World → Prop} {a : Act} {w : World}
    (hro : F.round = none) (h1 : 1 ≤ n) {gf : Nat} {lb : Array Value} (hg : a.eval g = .func (.func gf) #[] lb) (hFg : F.fn gf) (eg : ∀ args w, (callFunc gf args).run P w = .ok (.enter gf args) w)
    {encs : Nat → Array Value} {N : Nat} {T : World → World → Prop} {I J : Nat → World → Prop} (hit : IterT F (n - 1) P gf lb encs N T w I J)
    (hps : ∀ k, (encs k).size = ps.size) (hT : ∀ W W' k o, T W W' → w.heap.size ≤ k → W.heap[k]? = some o → W'.heap[k]? = some o)
    (hI : Minds w.heap.size I) (hJ : Minds w.heap.size J) (h0 : I 0 w) (a₁ : Nat → Act)
    (hassign : ∀ (l k : Nat) (W : World) (K : Act → World → Prop), K (a₁ k) W →
      assign.wpIn (F.inRound l) (n - 1 - 1) P (Exit.then K (fun _ _ _ => False)) { tmps := (ps.zip (encs k)).foldl (fun t (p, v) => t.setIfInBounds p v) a.tmps, defers := [] } W)
    (hbody : ∀ (l k : Nat) (W : World), w.heap.size ≤ l → J k W → k < N → body.wpIn (F.inRound l) (n - 1 - 1) P (turnPost w.heap.size (I (k + 1)) W) (a₁ k) W)
    (hdone : ∀ (D : Nat) (W : World), w.heap.size ≤ D → I N W → W.heap[D]? = some (.deferred (some [])) → Q .normal { a with defers := { target := .collected D, args := #[] } :: a.defers } W) :
    (Code.rangeFunc g ps assign body).wpIn F n P Q a w := by
  refine wpIn_rangeFunc fun fn hfn => ?_
  rw [hro]
  let D := w.heap.size
  let l := w.heap.size + 1
  let r : LoopState → Option Code → Loop := fun st pe => { state := st, pending := pe, fn, tmps := a.tmps, params := ps, assign, body, defers := w.heap.size }
  obtain ⟨V, hV⟩ : ∃ V, V = (w.alloc (.deferred (some []))).alloc (.loop (r .ready none)) := ⟨_, rfl⟩
  have hbV : Below w.heap.size w V := by rw [hV]; exact ((Below.refl _ w).alloc (Nat.le_refl _) _).alloc (by simp) _
  have hIV : I 0 V := by rw [hV]; exact hI.alloc _ _ _ (hI.alloc _ _ _ h0)
  have hB : BookT l D (r .ready none) V := by
    constructor
    · rw [hV]
      have := World.alloc_heap_new (w.alloc (.deferred (some []))) (.loop (r .ready none))
      rwa [World.size_alloc] at this
    · rw [hV]
      exact (Below.heap_alloc _ _ _ (by simp [D])).trans (World.alloc_heap_new w _)
  refine ⟨l, [{ target := .collected w.heap.size, args := #[] }], V, { target := .fn (.func gf) lb, args := #[.func (.yield l) #[] #[]] }, V, gf, #[.func (.yield l) #[] #[]] ++ lb, V, ?_, ?_, ?_, ?_, fun _ => h1, ?_⟩
  · rw [hV]; exact run_enterLoop_outer _ _ _ _ _
  · simp only [resolve, hg]; simp [go_sem]
  · intro f' hf'
    simp [Target.leads] at hf'
    subst hf'
    exact hFg
  · simp [invoke, go_sem, eg]
  · refine (hit l (BookT l D (r .ready none)) (fun W W' hb ht => ⟨hT _ _ _ _ ht (by simp [l]) hb.1, hT _ _ _ _ ht (Nat.le_refl _) hb.2⟩) ?_ V hbV hIV hB).mono ?_
    · rintro k W hk hj ⟨hl, hd⟩
      have hlt : l < W.heap.size := (Array.getElem?_eq_some_iff.1 hl).1
      refine ⟨fn, _, assign, body, run_yield (P := P) (args := encs k) hl (hps k), roundIn_of_wpIn hfn (hassign l k W _ ⟨_, run_beginRound hl rfl, ?_⟩)⟩
      have hlb : (W.putObj l (.loop { r .ready none with state := .busy })).heap[l]? = some (.loop { r .ready none with state := .busy }) := World.putObj_heap_same hlt
      have hdb : (W.putObj l (.loop { r .ready none with state := .busy })).heap[D]? = some (.deferred (some [])) := (World.putObj_heap_other (by simp [l, D])).trans hd
      refine wpIn_mono (hbody l k _ (by simp [l]) (hJ.put _ _ _ _ _ hj (by simp [l]) hl rfl) hk) ?_
      rintro e a3 W3 hp
      cases e with
      | normal =>
        obtain ⟨hk3, hi3⟩ := hp
        have hl3 := hk3.same _ _ (by simp [l]) hlb rfl
        have hd3 := hk3.same _ _ (Nat.le_refl _) hdb rfl
        refine ⟨_, _, run_endRound (P := P) none hl3, rfl, hI.put _ _ _ _ _ hi3 (by simp [l]) hl3 rfl, World.putObj_heap_same (Array.getElem?_eq_some_iff.1 hl3).1, (World.putObj_heap_other (by simp [l, D])).trans hd3⟩
      | _ => exact hp.elim
    · rintro e W2 ⟨⟨v, rfl⟩, hi, hl, hd⟩
      exact ⟨none, _, run_endLoop (P := P) hl (by simp [r]), hdone _ _ (Nat.le_refl _) (hI.put _ _ _ _ _ hi (by simp [l]) hl rfl) ((World.putObj_heap_other (by simp [l, D])).trans hd)⟩
end Go.Proofs.YtjpobkmlcjbpiaaGreat

namespace Go.Proofs.YtjpobkmlcjbpiaaGreat
open Go.RowKit Go.Proofs

/-- what is fixed of a way -/
structure WE where
  CS : Slc
  DS : Slc
  LV : Slc
  RN : Slc
  sn0 : Int
  sn1 : Int
  so0 : Int
  so1 : Int
  melt : Int
  tsn : Int
  tso : Int
  C : List Cel
  D : List Dy
  rain : List Int
  L0 : List Int
def WE.warm (E : WE) : List Int := E.D.map (·.warm)
def WE.st (E : WE) (k : Nat) : WaySt := daysW E.C E.melt E.tso E.rain E.warm ⟨E.L0, E.tsn, 0⟩ k
def WE.down (E : WE) (k : Nat) : Int := (fallW E.melt (E.st k).snow (E.rain.getD k 0) (E.warm.getD k 0)).1
def WE.cells (E : WE) (s : WaySt) : Array Value := wayC E.CS E.sn0 E.sn1 E.so0 E.so1 E.melt E.DS E.tsn E.tso E.LV E.RN (lvA s.lv) s.snow s.left
def WE.blk (E : WE) (W : World) (W0 : Nat) (s : WaySt) : Prop := Blk W W0 87 (E.cells s)
structure WE.Rds (E : WE) (W : World) : Prop where
  c : Rd encCel 7 W E.CS.A E.CS.n E.C
  d : Rd encDy 3 W E.DS.A E.DS.n E.D
  r : Rd enc1 1 W E.RN.A E.RN.n E.rain
theorem WE.Rds.below {E : WE} {W W' : World} (h : E.Rds W) (hb : Below W.heap.size W W') : E.Rds W' := ⟨h.c.below hb, h.d.below hb, h.r.below hb⟩
/-- they lie elsewhere than the way -/
structure WE.Ne (E : WE) (W0 : Nat) : Prop where
  c : ∀ ad, E.CS.A = some ad → ad.block ≠ W0
  d : ∀ ad, E.DS.A = some ad → ad.block ≠ W0
  r : ∀ ad, E.RN.A = some ad → ad.block ≠ W0
theorem WE.Rds.fr {E : WE} {W W' : World} {W0 : Nat} (h : E.Rds W) (hn : E.Ne W0) (hf : Fr (fun g => g = W0) W W') : E.Rds W' := ⟨hf.rd h.c hn.c, hf.rd h.d hn.d, hf.rd h.r hn.r⟩
theorem WE.Rds.ne {E : WE} {W : World} (h : E.Rds W) {W0 : Nat} (hW : W.heap.size ≤ W0) (hc : 0 < E.CS.n) (hd : E.DS.n = 0 → E.DS.A = none) (hr : E.RN.n = 0 → E.RN.A = none) : E.Ne W0 := by
  refine ⟨fun ad e => ?_, fun ad e => ?_, fun ad e => ?_⟩
  · obtain ⟨b, o, e', hlt, _⟩ := h.c.2 hc
    rw [e] at e'; cases e'; dsimp only; omega
  · rcases Nat.eq_zero_or_pos E.DS.n with h0 | h0
    · rw [hd h0] at e; cases e
    · obtain ⟨b, o, e', hlt, _⟩ := h.d.2 h0
      rw [e] at e'; cases e'; dsimp only; omega
  · rcases Nat.eq_zero_or_pos E.RN.n with h0 | h0
    · rw [hr h0] at e; cases e
    · obtain ⟨b, o, e', hlt, _⟩ := h.r.2 h0
      rw [e] at e'; cases e'; dsimp only; omega
structure WE.Ok (E : WE) : Prop where
  cel : ∀ c ∈ E.C, celOk E.CS.n c
  n : 1 ≤ E.CS.n ∧ E.CS.n ≤ 8
  clen : E.C.length = E.CS.n
  melt : 0 ≤ E.melt ∧ E.melt ≤ 50
  tso : 0 ≤ E.tso ∧ E.tso ≤ 1000
  tsn : 0 ≤ E.tsn ∧ E.tsn ≤ 100000
  lv : LvB E.L0
  llen : E.L0.length = E.CS.n
  dlen : E.D.length = E.DS.n
  dn : E.DS.n ≤ 30
  rlen : E.rain.length = E.DS.n
  rn : E.RN.n = E.DS.n
  warm : ∀ d ∈ E.D, -50 ≤ d.warm ∧ d.warm ≤ 50
  rain : ∀ r ∈ E.rain, 0 ≤ r ∧ r ≤ 1000
theorem WE.st_succ (E : WE) (k : Nat) : E.st (k + 1) = dayW E.C E.melt E.tso (E.st k) (E.rain.getD k 0) (E.warm.getD k 0) := rfl
theorem getD_in2 {l : List Int} {a b : Int} (h0 : a ≤ 0 ∧ 0 ≤ b) (h : ∀ x ∈ l, a ≤ x ∧ x ≤ b) (k : Nat) : a ≤ l.getD k 0 ∧ l.getD k 0 ≤ b := by
  rw [List.getD_eq_getElem?_getD]
  cases hc : l[k]? with
  | none => exact h0
  | some c => exact h c (List.mem_of_getElem? hc)
theorem fall_bd {m s r x : Int} (hm : 0 ≤ m ∧ m ≤ 50) (hs : 0 ≤ s) (hr : 0 ≤ r ∧ r ≤ 1000) (hx : -50 ≤ x ∧ x ≤ 50) :
    (0 ≤ (fallW m s r x).1 ∧ (fallW m s r x).1 ≤ 3500) ∧ 0 ≤ (fallW m s r x).2 ∧ (fallW m s r x).2 ≤ s + 1000 := by
  unfold fallW
  split
  · simp; omega
  · rename_i h
    have h1 : 0 ≤ m * x := Int.mul_nonneg hm.1 (by omega)
    have h2 : m * x ≤ 2500 := Int.le_trans (Int.mul_le_mul hm.2 hx.2 (by omega) (by omega : (0 : Int) ≤ 50)) (by decide)
    simp; omega
/-- what holds of the state behind k days -/
theorem WE.bd {E : WE} (h : E.Ok) : ∀ k : Nat, LvB (E.st k).lv ∧ (E.st k).lv.length = E.CS.n ∧ 0 ≤ (E.st k).snow ∧ (E.st k).snow ≤ 100000 + (k : Int) * 1000
  | 0 => ⟨h.lv, h.llen, h.tsn.1, by have := h.tsn.2; simpa [WE.st, daysW] using this⟩
  | k + 1 => by
    obtain ⟨h1, h2, h3, h4⟩ := WE.bd h k
    have hr := getD_in2 (a := 0) (b := 1000) (by omega) h.rain k
    have hw := getD_in2 (l := E.warm) (a := -50) (b := 50) (by omega) (fun x hx => by
      obtain ⟨d, hd, rfl⟩ := List.mem_map.1 hx
      exact h.warm d hd) k
    have hf := fall_bd h.melt h3 hr hw
    rw [WE.st_succ]
    refine ⟨fun i => ?_, ?_, hf.2.1, ?_⟩
    · exact pass_bd h.cel (Int.ediv_nonneg (Int.mul_nonneg hf.1.1 h.tso.1) (by omega)) i
    · exact (pass_len).trans h.clen
    · have := hf.2.2
      show (fallW _ _ _ _).2 ≤ _
      omega
theorem WE.down_bd {E : WE} (h : E.Ok) (k : Nat) : 0 ≤ E.down k ∧ E.down k ≤ 3500 := by
  obtain ⟨h1, h2, h3, h4⟩ := WE.bd h k
  have hr := getD_in2 (a := 0) (b := 1000) (by omega) h.rain k
  have hw := getD_in2 (l := E.warm) (a := -50) (b := 50) (by omega) (fun x hx => by
    obtain ⟨d, hd, rfl⟩ := List.mem_map.1 hx
    exact h.warm d hd) k
  exact (fall_bd h.melt h3 hr hw).1
theorem WE.st_pass (E : WE) (k : Nat) (hc : E.C.length = E.CS.n) : E.st (k + 1) = ⟨passW E.C (E.st k).lv (E.down k * E.tso / 1000), (fallW E.melt (E.st k).snow (E.rain.getD k 0) (E.warm.getD k 0)).2, leftW E.C (E.st k).lv (E.down k) (E.down k * E.tso / 1000) E.C.length + overW E.C (E.st k).lv (E.down k * E.tso / 1000) E.C.length⟩ := rfl
end Go.Proofs.YtjpobkmlcjbpiaaGreat

namespace Go.Proofs.YtjpobkmlcjbpiaaGreat
open Go.RowKit Go.Proofs

/-- the posts of a way on alone -/
def OnlyN (Q : Exit → Act → World → Prop) : Exit → Act → World → Prop
  | .normal, a, w => Q .normal a w
  | _, _, _ => False
def noDefer (ops : Array Oper) : Bool := ops.toList.all fun o => match o.op with | .defer _ => false | _ => true
theorem noDefer_at {ops : Array Oper} (h : noDefer ops = true) {i : Nat} {o : Oper} (ho : ops[i]? = some o) : ∀ c, o.op ≠ .defer c := by
  intro c e
  unfold noDefer at h
  rw [List.all_eq_true] at h
  have := h o (List.mem_of_getElem? (i := i) (by simpa using ho))
  rw [e] at this; cases this
section
variable {n : Nat} {P : Program} {Q : Exit → Act → World → Prop}
theorem wpIn_of_wp {l : Nat} {o : Oper} {a : Act} {w : World} {K : Act → World → Prop} (hd : ∀ c, o.op ≠ .defer c) (h : o.wp P a w K (OnlyN Q)) : o.wpIn (Fence.wide.inRound l) n P a w K Q := by
  unfold Oper.wp at h
  unfold Oper.wpIn
  refine ⟨fun f _ => trivial, ?_⟩
  rw [Oper.semAt_plain _ _ _ hd]
  generalize (execOp a.eval o).run P w = r at *
  cases r with
  | ok x w' =>
    cases x <;> simp only [Oper.uponIn, Oper.upon] at h ⊢
    · exact h
    · exact h
    · refine ⟨fun hh => (by cases hh), CallsIn.inRound l (callsIn_wide.2 (Calls.mono h fun e w'' he => ?_))⟩
      cases e with
      | returned v => exact he
      | panicked chain => exact he.elim
      | outgrown => obtain ⟨_, _, he⟩ := he; exact he.elim
    · exact h
    · exact ⟨fun hh => (by cases hh), fun c cs _ => let ⟨v, w2, k, s⟩ := h c cs; ⟨v, w2, k, stepsIn_wide.2 s⟩⟩
  | halt x w' => cases x <;> simp only [Oper.uponIn, Oper.upon] at h ⊢ <;> exact h.elim
theorem wpOpIn_of_wpOp {l : Nat} {ops : Array Oper} (hd : noDefer ops = true) {i : Nat} {K K' : Act → World → Prop} (hK : ∀ a w, K a w → K' a w) {a : Act} {w : World} (h : wpOp P ops (OnlyN Q) i K a w) : wpOpIn (Fence.wide.inRound l) n P ops Q i K' a w := by
  unfold wpOp at h
  unfold wpOpIn
  cases ho : ops[i]? with
  | none => simp only [ho] at h ⊢; exact hK _ _ h
  | some o =>
    simp only [ho] at h ⊢
    split at h
    · rename_i hw
      rw [if_pos hw]
      rcases h with h | ⟨_, _, _, h⟩
      · exact Oper.wpIn_mono hK (wpIn_of_wp (noDefer_at hd ho) h)
      · exact h.elim
    · rename_i hw
      rw [if_neg hw]
      exact ⟨fun f _ => trivial, hK _ _ h⟩
theorem wpAnyIn_of_wpAny {l : Nat} {ops : Array Oper} (hd : noDefer ops = true) {md : Region.Mode} : ∀ (fuel : Nat) (listed : Array Bool) (a : Act) (w : World), wpAny P md ops (OnlyN Q) fuel listed a w → wpAnyIn (Fence.wide.inRound l) n P md ops Q fuel listed a w
  | 0, listed, a, w, h => h
  | fuel + 1, listed, a, w, h => ⟨h.1, fun i hi => wpOpIn_of_wpOp hd (fun a w h => wpAnyIn_of_wpAny hd fuel _ a w h) (h.2 i hi)⟩
/-- A region within a round, from its held walk. -/
theorem wpIn_region_held_round {l id : Nat} {ops : Array Oper} {S : World → Prop} {a : Act} {w : World} (hm : P.follows .mixedOrders = true) (hd : noDefer ops = true) (hS : S w.drew)
    (h : S w.drew → wpAnyH P .any ops (OnlyN Q) S ops.size (Array.replicate ops.size false) a w.drew) : (Code.region id ops true).wpIn (Fence.wide.inRound l) n P Q a w :=
  wpIn_region_any hm (wpAnyIn_of_wpAny hd _ _ _ _ (wpAny_of_held _ _ _ _ (h hS)))
end
end Go.Proofs.YtjpobkmlcjbpiaaGreat
