/- THE CONTRACT of nets: the iterator over the hours with what a lake gets more. -/
import Derived.Test.YtpijmfbpdglchaaKBase
import Derived.RangeFuncNested
import Derived.RangeFuncBound
import Derived.RangeFuncCalls
import Derived.RangeFuncLeaves
import Derived.RangeFuncBox
import Derived.Shelf.Abstract
import Derived.Shelf.RegionOpen
import Derived.OwnWalkIn
import Derived.TacticsInMore
import Derived.LoopNIn
import Derived.LoopIn
set_option linter.unusedVariables false
set_option linter.unusedSimpArgs false
namespace Go.Proofs.Ytpijmfbpdglchaa
open Go.RowKit Go.Proofs Go.Shelf
attribute [local go_sem] Oper.semAt_some

/-- an hour with its net, as it may come -/
abbrev Nt (ns : List Rng) := { x : Nat × Rng // ns[x.1]? = some x.2 }
abbrev encN {ns : List Rng} (x : Nt ns) : Array Value := #[.int .i64 (x.1.1 : Int), .agg #[.int .i64 x.1.2.1, .int .i64 x.1.2.2]]
/-- the first k hours with their nets -/
def zipI (ns : List Rng) : Nat → List (Nat × Rng)
  | 0 => []
  | k + 1 => zipI ns k ++ match ns[k]? with | some r => [(k, r)] | none => []
theorem zipI_succ {ns : List Rng} {k : Nat} {r : Rng} (h : ns[k]? = some r) : zipI ns (k + 1) = zipI ns k ++ [(k, r)] := by simp [zipI, h]
theorem zipI_len (ns : List Rng) : ∀ k, k ≤ ns.length → (zipI ns k).length = k
  | 0, _ => rfl
  | k + 1, h => by
    have hr := List.getElem?_eq_getElem (show k < ns.length by omega)
    rw [zipI_succ hr, List.length_append, zipI_len ns k (by omega)]; rfl
/-- what a round of a loop over the hours keeps: what lay below n₀, and the box of the lake that is followed -/
def KpN (n₀ Bs : Nat) (W W' : World) : Prop := Below n₀ W W' ∧ ∀ cs, Blk W Bs 126 cs → Blk W' Bs 126 cs
theorem kpN_t {n₀ Bs : Nat} {A B C : World} (h : KpN n₀ Bs A B) (k : KpN n₀ Bs B C) : KpN n₀ Bs A C := ⟨h.1.trans k.1, fun v hv => k.2 v (h.2 v hv)⟩
theorem kpN_b {n₀ Bs : Nat} {w : World} (hn : n₀ ≤ w.heap.size) (W : World) (l : Nat) (o o' : Obj) (hl : w.heap.size ≤ l) (h : W.heap[l]? = some o) (hc : o.isCells = false) (hw : o.isWalk = false) : KpN n₀ Bs W (W.putObj l o') :=
  ⟨belowK_b hn W l o o' hl h hc hw, fun v hv => Blk.grown hv (grownBy_putObj' W l o') (fun e => by cases e; rw [show W.heap[Bs]? = _ from hv] at h; cases h; cases hc)⟩

section
variable {VA IA WA CA : Option Addr} {nV nI nW nC cV cI cW cC : Nat} {l : Lak} {ws : List Wrk} {c : List Int}
set_option maxRecDepth 100000 in
set_option maxHeartbeats 2000000 in
theorem nets1_in (n : Nat) (hn : 2 ≤ n) (lp Bs : Nat) {w0 : World} (hP : RdP w0 VA nV IA nI l WA nW ws CA nC c) (hok : LOk l) (hwk : WOk ws) (hch : choB ws.length c = true) (J Jx : List (Nt (netL l ws c)) → World → Prop) (B : Nat) (hJ : AbidesFrom B J)
    (hY : ∀ pre x W, J pre W → pre.length < 61 → YieldAt Fence.wide (n - 1) Try.prog lp (encN x) W fun e W' =>
      (e = .returned (.bool true) ∧ J (pre ++ [x]) W' ∧ KpN w0.heap.size Bs W W') ∨ (e = .returned (.bool false) ∧ Jx (pre ++ [x]) W'))
    (W : World) (hW : Below w0.heap.size w0 W) (hBs : Blk W Bs 126 (pA VA nV cV IA nI cI l WA nW cW CA nC cC)) (h0 : J [] W) :
    CallsIn Fence.wide n Try.prog 110 #[.func (.yield lp) #[] #[], .pointer (some ⟨Bs, 0, none⟩)] W fun e W' => (∃ v, e = .returned v) ∧
      ((∃ ys, ys.map (·.1) = zipI (netL l ws c) (netL l ws c).length ∧ J ys W') ∨ (∃ pre, Jx pre W')) := by
  have h1 : 1 ≤ n := by omega
  refine callsIn_of_wp Try.func110 rfl trivial ?_ rfl
  simp only [Try.ntmps110, List.size_toArray, List.length_cons, List.length_nil, Nat.reduceAdd, Nat.reduceSub, Array.replicate_succ, Array.replicate_zero, List.push_toArray, List.append_toArray, List.nil_append, List.cons_append]
  have hnl : (netL l ws c).length = nI := by rw [netL_len, hP.l.infl.len]
  have hn60 := hok.h
  have hil := hP.l.infl.len
  have hsp := hok.seep
  have HOK := Lib.hid hok; have HWK := Lib.hid hwk; have HC := Lib.hid hch; have HP := Lib.hid hP; have HY := Lib.hid hY; have HBS := Lib.hid hBs; have HW := Lib.hid hW
  clear hok hwk hch hP hY
  have c9 := hBs.cell 9
  simp at c9
  clear hBs hW
  gi_wp2
  gi_loopw [10] (fun i wr => ∃ (k : Nat) (pre : List (Nt (netL l ws c))), i = .int .i64 k ∧ k ≤ nI ∧ pre.map (·.1) = zipI (netL l ws c) k ∧ J pre wr ∧ Below w0.heap.size w0 wr ∧ Blk wr Bs 126 (pA VA nV cV IA nI cI l WA nW cW CA nC cC)) (fun i _ => nI - (intOf i).toNat)
  case atStart => exact ⟨0, [], rfl, Nat.zero_le _, rfl, h0, HW.out, HBS.out⟩
  case round =>
    obtain ⟨k, pre, rfl, hk, hpre, hJs, hnx, hbx⟩ := hrel
    have HPR := Lib.hid hpre; have HBX := Lib.hid hbx; have HNX := Lib.hid hnx
    clear hpre hnx
    by_cases hlt : k < nI
    · obtain ⟨b, o, r, hA, hb, hr, e0, e1⟩ := ((HP.out.below HNX.out).l.infl).at2 hlt
      subst hA
      have hnt := netL_get (ws := ws) (c := c) hr
      have hob := outAt_bd HWK.out HC.out (k : Int)
      have hrb := HOK.out.inflow k r hr
      have hnew : (pre ++ [(⟨(k, _), hnt⟩ : Nt (netL l ws c))]).map (·.1) = zipI (netL l ws c) (k + 1) := by rw [zipI_succ hnt, List.map_append, HPR.out]; rfl
      have HNEW := Lib.hid hnew
      have hlen : pre.length < 61 := by
        have := congrArg List.length HPR.out
        rw [List.length_map, zipI_len _ _ (by omega)] at this; omega
      have hkt : (k : Int) < (nI : Int) := by omega
      have hk0 : (0 : Int) ≤ (k : Int) := by omega
      have b5 := hbx.cell 7; have b6 := hbx.cell 8
      have pc : ∀ i, wr.cell? ⟨Bs, i, none⟩ = (pA VA nV cV (some ⟨b, o, none⟩) nI cI l WA nW cW CA nC cC)[i]? := fun i => hbx.cell i
      have p0 := pc 0; have p1 := pc 1; have p2 := pc 2; have p3 := pc 3; have p4 := pc 4; have p5 := pc 5; have p6 := pc 6; have p7 := pc 7; have p8 := pc 8; have p9 := pc 9; have p10 := pc 10; have p11 := pc 11
      simp at p0 p1 p2 p3 p4 p5 p6 p7 p8 p9 p10 p11
      clear hbx hr pc b5 b6 hnew
      obtain ⟨u, hu⟩ : ∃ u, u = outAt ws c (k : Int) := ⟨_, rfl⟩
      obtain ⟨r1, r2⟩ := r
      simp only at e0 e1 hrb
      have hw1 : IntKind.i64.wrap (r1 - l.seep.2) = r1 - l.seep.2 := wi (by omega)
      have hw2 : IntKind.i64.wrap (r1 - l.seep.2 - u) = r1 - l.seep.2 - u := wi (by omega)
      have hw3 : IntKind.i64.wrap (r2 - l.seep.1) = r2 - l.seep.1 := wi (by omega)
      have hw4 : IntKind.i64.wrap (r2 - l.seep.1 - u) = r2 - l.seep.1 - u := wi (by omega)
      have HOUT := Lib.hid (fun (U : World) (hU : Below w0.heap.size w0 U) => out_c (cV := cV) (cI := cI) (cW := cW) (cC := cC) (HP.out.below hU) HWK.out HC.out (k : Int))
      rw [← hu] at HOUT
      have HU := Lib.hid hu
      clear hu hob
      have hba := HNX.out.alloc HNX.out.size (.cells #[.int .i64 r1, .int .i64 r2] 35)
      have HBA := Lib.hid hba
      have hbl := HBX.out.lt
      clear hba
      gi_wp2_with (refine ⟨trivial, ?_⟩; gi_at_call 59; refine (callsIn_wide.2 (HOUT.out _ HBA.out)).mono ?_; rintro e w2 ⟨rfl, hb2⟩; have hx2 := (Blk.new wr 35 #[.int .i64 r1, .int .i64 r2]).below hb2 (by simp); have hp2 := (HBX.out.alloc _).below hb2 (by simp; omega); have q0 := hx2.cell 0; have q1 := hx2.cell 1; have pc : ∀ i, w2.cell? ⟨Bs, i, none⟩ = (pA VA nV cV (some ⟨b, o, none⟩) nI cI l WA nW cW CA nC cC)[i]? := (fun i => hp2.cell i); have s7 := pc 7; have s8 := pc 8; simp at q0 q1 s7 s8; clear pc; have hbt := HBA.out.trans (hb2.mono (by have := HBA.out.size; simp at this ⊢; omega)); have hg2 := (only_of_below ((Below.refl wr.heap.size wr).alloc (Nat.le_refl _) (.cells #[.int .i64 r1, .int .i64 r2] 35)) none); have hJ2 := hJ pre _ w2 none (hJ pre wr _ none hJs hg2 (fun _ h => by cases h)) (only_of_below hb2 none) (fun _ h => by cases h); obtain ⟨fn, tmps, assign, body, hy, hR⟩ := HY.out pre ⟨(k, _), hnt⟩ _ hJ2 hlen; dsimp only [encN] at hy; rw [← HU.out] at hy; have HP2 := Lib.hid hp2; have HB2 := Lib.hid hbt; clear hp2 hbt hx2 hb2 hJ2 hg2)
      refine hR.mono ?_
      rintro e W3 (⟨rfl, hJ3, hk3⟩ | ⟨rfl, hJx3⟩)
      · gi_wp2
        go_roundw
        case rel => exact ⟨k + 1, _, by go_num, hlt, HNEW.out, hJ3, HB2.out.trans hk3.1, hk3.2 _ HP2.out⟩
        case measure => simp [intOf]; omega
      · gi_wp2
        refine bodyPost_ret (results_none rfl _ _ _) rfl ?_
        exact ⟨⟨_, rfl⟩, .inr ⟨_, hJx3⟩⟩
    · obtain rfl : k = nI := by omega
      clear hbx
      gi_wp2
      go_end0
      exact ⟨⟨_, rfl⟩, .inl ⟨pre, by rw [hnl]; exact HPR.out, hJs⟩⟩
/-- The iterator gives the nets of the hours, in their order. -/
theorem nets_stops (n : Nat) (hn : 2 ≤ n) (Bs : Nat) {w0 w : World} (hP : RdP w0 VA nV IA nI l WA nW ws CA nC c) (hok : LOk l) (hwk : WOk ws) (hch : choB ws.length c = true) (hw : Below w0.heap.size w0 w) (hc : Blk w Bs 126 (pA VA nV cV IA nI cI l WA nW cW CA nC cC)) :
    SeqStopsK Fence.wide n Try.prog 110 #[.pointer (some ⟨Bs, 0, none⟩)] (encN (ns := netL l ws c)) (KpN w0.heap.size Bs) (fun ys => ys.map (·.1) = zipI (netL l ws c) (netL l ws c).length) (fun _ => True) 61 w := fun lp J Jx W hW hJ _ hY h0 =>
  (nets1_in n hn lp Bs hP hok hwk hch J Jx _ hJ hY W (hw.trans (hW.mono hw.size)) (hc.below hW hc.lt) h0).mono fun _ _ ⟨he, h⟩ => ⟨he, by
    rcases h with h | ⟨pre, h⟩
    · exact .inl h
    · exact .inr ⟨pre, trivial, h⟩⟩
/-- nets itself: the lake is boxed; the function value captures the box. -/
theorem nets_c (w : World) :
    Calls Try.prog 94 #[.agg (pA VA nV cV IA nI cI l WA nW cW CA nC cC)] w fun e w' => e = .returned (.func (.func 110) #[] #[.pointer (some ⟨w.heap.size, 0, none⟩)]) ∧
      w' = w.alloc (.cells (pA VA nV cV IA nI cI l WA nW cW CA nC cC) 126) := by
  go_enter Try.func94, Try.ntmps94
  go_wp2
  go_ret
  exact ⟨rfl, rfl⟩
end
end Go.Proofs.Ytpijmfbpdglchaa
