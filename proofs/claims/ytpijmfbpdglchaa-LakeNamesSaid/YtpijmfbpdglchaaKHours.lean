/- THE CONTRACT of hours: what may be after each hour. -/
import Derived.Test.YtpijmfbpdglchaaKNets
import Derived.Test.YtpijmfbpdglchaaKStep
import Derived.Test.YtpijmfbpdglchaaKTool
import Derived.Test.YtpijmfbpdglchaaKPlain
import Derived.Sort.CutIn
import Derived.Laws.EntriesVeiled
import Derived.Maps.OwnIn
set_option linter.unusedVariables false
set_option linter.unusedSimpArgs false
namespace Go.Proofs.Ytpijmfbpdglchaa
open Go.RowKit Go.Proofs
attribute [local go_sem ↓] Go.wp_at_zero Go.wp_at_succ
attribute [local go_sem] Oper.semAt_some

/-- the hours, one after the other -/
def runP (l : Lak) (xs : List (Nat × Rng)) : (Rng × Rng) × List Aft :=
  xs.foldl (fun st x => (((aftOf l st.1.1 st.1.2 (x.1 : Int) x.2).hard, (aftOf l st.1.1 st.1.2 (x.1 : Int) x.2).soft), st.2 ++ [aftOf l st.1.1 st.1.2 (x.1 : Int) x.2])) ((l.start, noneR), [])
theorem runP_snoc (l : Lak) (xs : List (Nat × Rng)) (x : Nat × Rng) : runP l (xs ++ [x]) =
    (((aftOf l (runP l xs).1.1 (runP l xs).1.2 (x.1 : Int) x.2).hard, (aftOf l (runP l xs).1.1 (runP l xs).1.2 (x.1 : Int) x.2).soft), (runP l xs).2 ++ [aftOf l (runP l xs).1.1 (runP l xs).1.2 (x.1 : Int) x.2]) := by
  simp [runP, List.foldl_append]
theorem runP_zip (l : Lak) (ns : List Rng) : ∀ k, k ≤ ns.length → runP l (zipI ns k) = (nowAt l ns k, (aftL l ns).take k)
  | 0, _ => rfl
  | k + 1, h => by
    have hr := List.getElem?_eq_getElem (show k < ns.length by omega)
    obtain ⟨r, hr'⟩ : ∃ r, ns[k]? = some r := ⟨_, hr⟩
    have ha := aftL_get (l := l) hr'
    rw [zipI_succ hr', runP_snoc, runP_zip l ns k (by omega), List.take_add_one, ha]
    refine Prod.ext ?_ rfl
    simp only [nowAt, hr']
theorem snoc_ind {α : Type} {P : List α → Prop} (h0 : P []) (h1 : ∀ xs x, P xs → P (xs ++ [x])) (xs : List α) : P xs := by
  have h : ∀ ys : List α, P ys.reverse := by
    intro ys
    induction ys with
    | nil => exact h0
    | cons y ys ih => rw [List.reverse_cons]; exact h1 _ _ ih
  simpa using h xs.reverse
theorem runP_len (l : Lak) (xs : List (Nat × Rng)) : (runP l xs).2.length = xs.length := by
  refine snoc_ind (P := fun xs => (runP l xs).2.length = xs.length) rfl (fun xs x ih => ?_) xs
  rw [runP_snoc]; simp [ih]
/-- small numbers alone -/
def OkR (r : Rng) : Prop := (0 ≤ r.1 ∧ r.1 ≤ 1000000) ∧ (0 ≤ r.2 ∧ r.2 ≤ 1000000)
theorem none_okR : OkR noneR := by simp [OkR, noneR]
theorem step_okR {bd : Int} (hb : 0 < bd ∧ bd ≤ 1000000) (a n : Rng) : OkR (stepR bd a n).1 := by
  unfold stepR
  by_cases h0 : a = noneR
  · rw [if_pos h0]; exact none_okR
  · rw [if_neg h0]
    simp only
    split
    · exact none_okR
    · simp only [OkR]; omega
theorem step_good' {bd : Int} {a n : Rng} (ha : a = noneR ∨ a.1 ≤ a.2) (hn : n.1 ≤ n.2) : (stepR bd a n).1 = noneR ∨ (stepR bd a n).1.1 ≤ (stepR bd a n).1.2 := by
  unfold stepR
  by_cases h0 : a = noneR
  · rw [if_pos h0]; exact .inl rfl
  · have h1 : a.1 ≤ a.2 := ha.resolve_left h0
    rw [if_neg h0]
    simp only
    split
    · exact .inl rfl
    · exact .inr (by simp only; omega)
theorem join_okR {a b : Rng} (ha : OkR a) (hb : OkR b) : OkR (joinR a b) := by
  unfold joinR OkR at *
  split
  · exact hb
  · split
    · exact ha
    · simp only; omega
theorem join_good' {a b : Rng} (ha : a = noneR ∨ a.1 ≤ a.2) (hb : b = noneR ∨ b.1 ≤ b.2) : joinR a b = noneR ∨ (joinR a b).1 ≤ (joinR a b).2 := by
  unfold joinR
  by_cases h1 : a = noneR
  · rw [if_pos h1]; exact hb
  · rw [if_neg h1]
    by_cases h2 : b = noneR
    · rw [if_pos h2]; exact ha
    · rw [if_neg h2]
      have := ha.resolve_left h1; have := hb.resolve_left h2
      exact .inr (by simp only; omega)
theorem runP_ok {l : Lak} (hok : LOk l) {ns : List Rng} (hn : NetOk ns) (xs : List (Nt ns)) :
    (OkR (runP l (xs.map (·.1))).1.1 ∧ OkR (runP l (xs.map (·.1))).1.2) ∧ ((runP l (xs.map (·.1))).1.1 = noneR ∨ (runP l (xs.map (·.1))).1.1.1 ≤ (runP l (xs.map (·.1))).1.1.2) ∧ ((runP l (xs.map (·.1))).1.2 = noneR ∨ (runP l (xs.map (·.1))).1.2.1 ≤ (runP l (xs.map (·.1))).1.2.2) := by
  have hw := hok.weakV
  have hs := hok.start
  have hb1 : 0 < bdK l true ∧ bdK l true ≤ 1000000 := by simp only [bdK]; simp; omega
  have hb2 : 0 < bdK l false ∧ bdK l false ≤ 1000000 := by simp only [bdK]; simp; omega
  refine snoc_ind (P := fun xs : List (Nt ns) => (OkR (runP l (xs.map (·.1))).1.1 ∧ OkR (runP l (xs.map (·.1))).1.2) ∧ ((runP l (xs.map (·.1))).1.1 = noneR ∨ (runP l (xs.map (·.1))).1.1.1 ≤ (runP l (xs.map (·.1))).1.1.2) ∧ ((runP l (xs.map (·.1))).1.2 = noneR ∨ (runP l (xs.map (·.1))).1.2.1 ≤ (runP l (xs.map (·.1))).1.2.2)) ?_ ?_ xs
  · exact ⟨⟨by simp only [OkR, runP, List.map_nil, List.foldl_nil]; omega, none_okR⟩, .inr hs.2.1, .inl rfl⟩
  · intro xs x ih
    rw [List.map_append]
    simp only [List.map_cons, List.map_nil]
    rw [runP_snoc]
    obtain ⟨⟨i1, i2⟩, i3, i4⟩ := ih
    have hx := hn _ _ x.2
    simp only [aftOf]
    refine ⟨⟨?_, join_okR ?_ (step_okR hb1 _ _)⟩, ?_, join_good' ?_ (step_good' i4 hx)⟩
    · split
      · exact step_okR hb2 _ _
      · exact none_okR
    · split
      · exact step_okR hb1 _ _
      · exact none_okR
    · split
      · exact step_good' i3 hx
      · exact .inl rfl
    · split
      · exact step_good' i3 hx
      · exact .inl rfl
theorem net_bd {l : Lak} {ws : List Wrk} {c : List Int} (hok : LOk l) (hw : WOk ws) (hc : choB ws.length c = true) {h : Nat} {n : Rng} (hn : (netL l ws c)[h]? = some n) : h < l.inflow.length ∧ -20000000 ≤ n.1 ∧ n.1 ≤ 20000000 ∧ -20000000 ≤ n.2 ∧ n.2 ≤ 20000000 := by
  have hl := lt_of_get hn
  rw [netL_len] at hl
  obtain ⟨q, hq⟩ : ∃ q, l.inflow[h]? = some q := ⟨_, List.getElem?_eq_getElem hl⟩
  rw [netL_get hq] at hn
  have := Option.some.inj hn
  subst this
  have := outAt_bd hw hc h
  have := hok.seep
  have := hok.inflow h q hq
  refine ⟨hl, ?_⟩
  simp only; omega
/-- the cells of a may -/
def mayA (a b : Rng) : Array Value := #[.int .i64 a.1, .int .i64 a.2, .int .i64 b.1, .int .i64 b.2]
theorem blk_own {α : Type} {B : Nat} (g : α → Nat) (t : TypeId) (cs : α → Array Value) : OwnFrom B (fun (s : α) (W : World) => Blk W (g s) t (cs s)) := fun s A C row h hg hr => Blk.grown h hg (fun e => by
  obtain ⟨_, o, ho, hc⟩ := hr _ e.symm
  rw [show A.heap[g s]? = _ from h] at ho; cases ho; cases hc)
theorem infoA : (Try.prog.info? 140).map (fun i => (i.zero, i.size, i.bytes)) = some (some (.agg #[.int .i64 0, .int .i64 0, .int .i64 0, .int .i64 0, .int .i64 0]), 5, 40) := by kernel_rfl

section
variable {VA IA WA CA : Option Addr} {nV nI nW nC cV cI cW cC : Nat} {l : Lak} {ws : List Wrk} {c : List Int}
theorem none_x (w : World) : Calls Try.prog 66 #[] w fun e w' => e = .returned (.agg #[.int .i64 1, .int .i64 0]) ∧ w.alloc (.cells #[.int .i64 1, .int .i64 0] 35) = w' := by
  go_enter Try.func66, Try.ntmps66
  go_wp2
  have hz := Blk.new w 35 #[.int .i64 1, .int .i64 0]
  have z0 := hz.cell 0; have z1 := hz.cell 1
  simp at z0 z1
  refine bodyPost_ret (v := .agg #[.int .i64 1, .int .i64 0]) ?_ rfl ⟨rfl, rfl⟩
  simp [results, Try.f66, go_sem]
/-- What holds between two rounds. -/
def HI (w : World) (s Bn Bf base : Nat) (l : Lak) (ns : List Rng) (PA : Array Value) (pre : List (Nt ns)) (W : World) : Prop :=
  ((∃ v, Boxed W (s + 1) 135 v ∧ W.ownsRow base 140 5 v pre.length ((runP l (pre.map (·.1))).2.flatMap encA) ∧ True) ∧
   Blk W Bn 138 (mayA (runP l (pre.map (·.1))).1.1 (runP l (pre.map (·.1))).1.2)) ∧
  (Blk W s 126 PA ∧ Boxed W Bf 152 (.func (.func 93) #[.agg #[.int .i64 l.soft.1, .int .i64 l.soft.2]] #[])) ∧ Below s w W ∧ base ≤ W.heap.size
theorem HI_own (w : World) (s Bn Bf base : Nat) (l : Lak) (ns : List Rng) (PA : Array Value) (hs : s ≤ w.heap.size) {B : Nat} (hB : s ≤ B) : OwnFrom B (HI w s Bn Bf base l ns PA) :=
  OwnFrom.and (OwnFrom.and (Own.from (holdsRow_own base (s + 1) _ _ 5 (fun pre : List (Nt ns) => pre.length) (fun pre => (runP l (pre.map (·.1))).2.flatMap encA) (fun _ _ => True)) _) (blk_own _ _ _))
    (OwnFrom.and (OwnFrom.and (blk_own _ _ _) (Own.from (boxed_own _ _ _) _)) (OwnFrom.and (ownFrom_below hs hB) (fun _ _ _ _ hs hg _ => Nat.le_trans hs hg.size)))

set_option maxRecDepth 100000 in
set_option maxHeartbeats 4000000 in
theorem hours_in {w : World} (hP : RdP w VA nV IA nI l WA nW ws CA nC c) (hok : LOk l) (hwk : WOk ws) (hch : choB ws.length c = true) :
    CallsIn Fence.wide 8 Try.prog 64 #[.agg (pA VA nV cV IA nI cI l WA nW cW CA nC cC)] w fun e w' => ∃ A n cp, e = .returned (.slice A n cp) ∧ n = nI ∧ Rd encA 5 w' A n (aftL l (netL l ws c)) ∧ Below w.heap.size w w' := by
  have HP := Lib.hid hP; have HOK := Lib.hid hok; have HWK := Lib.hid hwk; have HCH := Lib.hid hch
  have hnl : (netL l ws c).length = nI := by rw [netL_len, hP.l.infl.len]
  have hn60 := hok.h
  have hil := hP.l.infl.len
  clear hP hok hwk hch
  have hmf : ∀ (fn : Fn) (first cap : Array Value) (w : World), (Instr.makeFunc fn first cap).run Try.prog w = .ok (.func fn first cap) w := fun _ _ _ _ => rfl
  obtain ⟨PA, hPA⟩ : ∃ PA, PA = pA VA nV cV IA nI cI l WA nW cW CA nC cC := ⟨_, rfl⟩
  refine callsIn_of_wp_marks Try.func64 rfl trivial ?_ rfl
  simp only [Try.ntmps64, List.size_toArray, List.length_cons, List.length_nil, Nat.reduceAdd, Nat.reduceSub, Array.replicate_succ, Array.replicate_zero, List.push_toArray, List.append_toArray, List.nil_append, List.cons_append]
  have hx0 := (Blk.new w 126 (pA VA nV cV IA nI cI l WA nW cW CA nC cC)).alloc (.cells #[.slice none 0 0] 135)
  have hy0 := Boxed.new (w.alloc (.cells (pA VA nV cV IA nI cI l WA nW cW CA nC cC) 126)) 135 (.slice none 0 0)
  obtain ⟨W0, hW0⟩ : ∃ W0 : World, W0 = (w.alloc (.cells (pA VA nV cV IA nI cI l WA nW cW CA nC cC) 126)).alloc (.cells #[.slice none 0 0] 135) := ⟨_, rfl⟩
  have hb0 : Below w.heap.size w W0 := by rw [hW0]; exact ((Below.refl _ w).alloc (Nat.le_refl _) _).alloc (by simp) _
  have hsz0 : W0.heap.size = w.heap.size + 1 + 1 := by rw [hW0]; simp
  simp only [World.size_alloc] at hy0
  rw [← hW0] at hx0 hy0
  have HX0 := Lib.hid hx0; have HY0 := Lib.hid hy0; have HB0 := Lib.hid hb0; have HW0 := Lib.hid hW0
  have HSZ0 := Lib.hid hsz0
  clear hx0 hy0 hb0 hW0 hsz0
  gi_wp2
  rw [← HW0.out]
  gi_cut [3] from 14 (fun p wx => ∃ B, p = .pointer (some ⟨B, 0, none⟩) ∧ W0.heap.size ≤ B ∧ Blk wx B 138 (mayA l.start noneR) ∧ Below W0.heap.size W0 wx)
  case first =>
    refine wpIn_wide.2 ?_
    have pc : ∀ i, W0.cell? ⟨w.heap.size, i, none⟩ = (pA VA nV cV IA nI cI l WA nW cW CA nC cC)[i]? := fun i => HX0.out.cell i
    have p4 := pc 5; have p5 := pc 6
    simp at p4 p5
    clear pc
    go_region_held3 (fun w' => w'.cell? ⟨w.heap.size, 5, none⟩ = some (.int .i64 l.start.1) ∧ w'.cell? ⟨w.heap.size, 6, none⟩ = some (.int .i64 l.start.2))
      (first | exact ⟨p4, p5⟩ | exact ⟨q4, q5⟩ | (((repeat' apply And.intro); all_goals (refine bel_keep (w := W0) ?_ (by assumption); repeat' (first | exact Below.refl _ _ | refine Below.drew ?_ | refine Below.alloc ?_ (by simp <;> omega) _ | fail))); done))
      (first | (go_at_call 66; refine (none_x _).mono ?_; rintro e w3 ⟨rfl, rfl⟩))
    all_goals
      gi_wp2
      gi_meet
      refine ⟨_, rfl, by omega, ?_, ?_⟩
      · change Blk _ _ _ #[.int .i64 l.start.1, .int .i64 l.start.2, .int .i64 1, .int .i64 0]
        first | with_reducible exact bk_drew (bk1 W0) | with_reducible exact bk_drew (bk_alloc (bk0 W0)) | with_reducible exact bk1d W0 | with_reducible exact bk_alloc (bk_drew (bk0 W0))
      · repeat' (first | exact Below.refl _ _ | refine Below.drew ?_ | refine Below.alloc ?_ (by simp <;> omega) _)
  case rest =>
    obtain ⟨Bn, rfl, hBn, hbk, hb1⟩ := hcut
    obtain ⟨W1, hW1⟩ : ∃ W1, W1 = wc := ⟨_, rfl⟩
    rw [← hW1] at hbk hb1 ⊢
    clear hW1
    have hB1 := below_tr HB0.out (hb1.mono (by have := HSZ0.out; omega))
    have hx1 := HX0.out.below hb1 HX0.out.lt
    have hy1 : Boxed W1 (w.heap.size + 1) 135 (.slice none 0 0) := (show Blk _ _ _ _ from HY0.out).below hb1 (show Blk _ _ _ _ from HY0.out).lt
    have pc : ∀ i, W1.cell? ⟨w.heap.size, i, none⟩ = (pA VA nV cV IA nI cI l WA nW cW CA nC cC)[i]? := fun i => hx1.cell i
    have q3 := pc 3; have q4 := pc 4
    simp at q3 q4
    have pd : ∀ i, (W1.alloc (.cells #[.func (.func 93) #[.agg #[.int .i64 l.soft.1, .int .i64 l.soft.2]] #[]] 152)).cell? ⟨w.heap.size, i, none⟩ = (pA VA nV cV IA nI cI l WA nW cW CA nC cC)[i]? := fun i => (hx1.alloc _).cell i
    have p0 := pd 0; have p1 := pd 1; have p2 := pd 2; have p3 := pd 3; have p4 := pd 4; have p5 := pd 5; have p6 := pd 6; have p7 := pd 7; have p8 := pd 8; have p9 := pd 9; have p10 := pd 10; have p11 := pd 11
    simp at p0 p1 p2 p3 p4 p5 p6 p7 p8 p9 p10 p11
    clear pd
    have HX1 := Lib.hid hx1; have HY1 := Lib.hid hy1; have HB1 := Lib.hid hB1; have HN1 := Lib.hid hbk
    have hz1 := hb1.size
    clear pc hx1 hy1 hB1 hbk hb1
    have kb := Blk.new W1 152 #[.nilFunc]
    have e5 : World.cell? _ ⟨_, 0, none⟩ = some Value.nilFunc := kb.cell 0
    have f5 := kb.frozen 0
    clear kb
    gi_wp2_with (refine ⟨trivial, ?_⟩; gi_at_call 94; refine (callsIn_wide.2 (nets_c _)).mono ?_; rintro e w' ⟨rfl, rfl⟩)
    obtain ⟨WL, hWL⟩ : ∃ WL, (W1.alloc (.cells #[.func (.func 93) #[.agg #[.int .i64 l.soft.1, .int .i64 l.soft.2]] #[]] 152)).alloc (.cells (pA VA nV cV IA nI cI l WA nW cW CA nC cC) 126) = WL := ⟨_, rfl⟩
    have b1 : Boxed WL (w.heap.size + 1) 135 (.slice none 0 0) := by rw [← hWL]; exact Boxed.alloc (Boxed.alloc HY1.out _) _
    have bn : Blk WL Bn 138 (mayA l.start noneR) := by rw [← hWL]; exact (HN1.out.alloc _).alloc _
    have bx : Blk WL w.heap.size 126 (pA VA nV cV IA nI cI l WA nW cW CA nC cC) := by rw [← hWL]; exact (HX1.out.alloc _).alloc _
    have bf : Boxed WL W1.heap.size 152 (.func (.func 93) #[.agg #[.int .i64 l.soft.1, .int .i64 l.soft.2]] #[]) := by rw [← hWL]; exact (Boxed.new W1 _ _).alloc _
    have b4 : Blk WL (W1.heap.size + 1) 126 (pA VA nV cV IA nI cI l WA nW cW CA nC cC) := by rw [← hWL]; exact bk1 W1
    have hbel : Below w.heap.size w WL := by rw [← hWL]; exact (HB1.out.alloc HB1.out.size _).alloc (by have := HB1.out.size; simp; omega) _
    have hszL : WL.heap.size = W1.heap.size + 1 + 1 := by rw [← hWL]; simp
    have hBnl := HN1.out.lt
    have hs1 := HSZ0.out
    rw [hWL]
    clear hWL p0 p1 p2 p3 p4 p5 p6 p7 p8 p9 p10 p11 q3 q4 e5 f5
    refine wpIn_rangeFunc_ownH rfl (by omega) (gf := 110) (lb := #[.pointer (some ⟨W1.heap.size + 1, 0, none⟩)]) rfl trivial (enters_of Try.func110 (by kernel_rfl) rfl)
      (nets_stops 7 (by omega) (W1.heap.size + 1) (w0 := w) HP.out HOK.out HWK.out HCH.out hbel b4) kpN_t (kpN_b (by omega)) (Below.refl _ _) (fun _ => rfl)
      (HI w w.heap.size Bn W1.heap.size WL.heap.size l (netL l ws c) (pA VA nV cV IA nI cI l WA nW cW CA nC cC))
      (fun _ _ _ => False)
      (HI_own w _ _ _ _ l _ _ (Nat.le_refl _) (by omega))
      (fun _ _ _ _ _ hs _ _ => hs)
      ⟨⟨⟨_, b1, World.ownsRow_nil _ _ _ _, trivial⟩, bn⟩, ⟨bx, bf⟩, hbel, Nat.le_refl _⟩
      (fun x a' W => ∃ Bx, WL.heap.size ≤ Bx ∧ Blk W Bx 35 #[.int .i64 x.1.2.1, .int .i64 x.1.2.2] ∧
        a' = { tmps := #[.agg (pA VA nV cV IA nI cI l WA nW cW CA nC cC), .pointer (some ⟨w.heap.size, 0, none⟩), .pointer (some ⟨w.heap.size + 1, 0, none⟩), .pointer (some ⟨Bn, 0, none⟩), .pointer (some ⟨W1.heap.size, 0, none⟩), .int .i64 (x.1.1 : Int), .pointer (some ⟨Bx, 0, none⟩), undef, undef, undef, undef, undef, undef, undef, u14, u15, u16, u17, u18, .pointer (some ⟨w.heap.size, 0, none⟩), .pointer (some ⟨w.heap.size, 3, none⟩), .agg #[.int .i64 l.soft.1, .int .i64 l.soft.2], .func (.func 93) #[.agg #[.int .i64 l.soft.1, .int .i64 l.soft.2]] #[], .agg (pA VA nV cV IA nI cI l WA nW cW CA nC cC), .func (.func 110) #[] #[.pointer (some ⟨W1.heap.size + 1, 0, none⟩)], .int .i64 (x.1.1 : Int), .agg #[.int .i64 x.1.2.1, .int .i64 x.1.2.2], u27, u28, u29, u30, u31, u32, u33, u34, u35, u36, u37, u38, u39, u40, u41, u42, u43, u44, u45, u46, u47, u48, u49, u50, u51, u52, u53, u54, u55, u56, u57, u58, u59, u60, u61, u62, u63, u64, u65, u66, u67, u68, u69, u70, u71, u72, u73, u74, u75, u76, u77, u78, u79, u80, u81, u82, u83, u84, u85, u86, u87, u88, u89, u90, u91, u92, u93, u94, u95, u96, u97, u98, u99, u100, u101], defers := [] })
      (fun x a' _ X Y row hs hg hr => by
        obtain ⟨Bx, h1, h2, h3⟩ := hs
        exact ⟨Bx, h1, h2.grown hg (fun e => by obtain ⟨_, o, ho, hc⟩ := hr Bx e.symm; rw [show X.heap[Bx]? = _ from h2] at ho; cases ho; cases hc), h3⟩)
      ?assign ?body ?done ?stop
    case assign =>
      rintro lp pre x W K hI hK
      dsimp only [encN]
      gi_wp2
      exact hK _ _ ((KeepsOthers.alloc _ _).from _) ⟨(Below.refl _ W).alloc hI.2.2.1.size _, fun v hv => hv.alloc _⟩ ((HI_own w _ _ _ _ l _ _ (Nat.le_refl _) (by omega : w.heap.size ≤ w.heap.size)).alloc _ hI) ⟨W.heap.size, hI.2.2.2, Blk.new W _ _, rfl⟩
    case body =>
      rintro lp pre x a' W hl ⟨r, hr⟩ ⟨⟨⟨v1, hb1, hr1, _⟩, hbn⟩, ⟨hb3, hb4⟩, hB, hbs⟩ ⟨Bx, hBx, hbx, rfl⟩ hlt
      have hrok := runP_ok HOK.out (netOk HOK.out ws c) pre
      have hsn := runP_snoc l (pre.map (·.1)) x.1
      have hrl := runP_len l (pre.map (·.1))
      rw [List.length_map] at hrl
      have hmap : (pre ++ [x]).map (·.1) = pre.map (·.1) ++ [x.1] := by simp
      have hnb := net_bd HOK.out HWK.out HCH.out x.2
      obtain ⟨st, hst⟩ : ∃ st, runP l (pre.map (·.1)) = st := ⟨_, rfl⟩
      rw [hst] at hrok hsn hrl hr1 hbn
      obtain ⟨⟨⟨d1, d2⟩, ⟨s1, s2⟩⟩, L⟩ := st
      obtain ⟨⟨h, n1, n2⟩, hx⟩ := x
      obtain ⟨⟨hok1, hok2⟩, _, _⟩ := hrok
      simp only [OkR] at hok1 hok2
      simp only at hnb hsn hrl hr1 hbn hbx ⊢
      obtain ⟨AF, hAF⟩ : ∃ AF, aftOf l (d1, d2) (s1, s2) (h : Int) (n1, n2) = AF := ⟨_, rfl⟩
      rw [hAF] at hsn
      have HR1 := Lib.hid hr1; have HBN := Lib.hid hbn; have HB1 := Lib.hid hb1; have HB3 := Lib.hid hb3; have HB4 := Lib.hid hb4; have HB := Lib.hid hB; have HBX := Lib.hid hbx; have HSN := Lib.hid hsn; have HAF := Lib.hid hAF; have HMAP := Lib.hid hmap; have HLR := Lib.hid hr
      clear hst hr1 hbn hb1 hb3 hb4 hB hbx hsn hAF hmap hr bn bx bf b4 b1
      obtain ⟨W2, hW2⟩ : ∃ W2 : World, W2 = ((W.alloc (.cells #[.int .i64 1, .int .i64 0] 35)).alloc (.cells #[.int .i64 1, .int .i64 0] 35)).alloc (.cells #[.int .i64 1, .int .i64 0, .int .i64 1, .int .i64 0, .int .i64 (-1)] 140) := ⟨_, rfl⟩
      have hb2 : Below W.heap.size W W2 := by rw [hW2]; exact (((Below.refl _ W).alloc (Nat.le_refl _) _).alloc (by simp) _).alloc (by simp; omega) _
      have hp2 := HB3.out.below hb2 HB3.out.lt
      have pd := hp2.cell 4
      rw [hW2] at pd
      simp at pd
      gi_upto_if 36 with (first | (refine ⟨trivial, ?_⟩; gi_at_call 66; refine (CallsIn.inRound lp (callsIn_wide.2 (none_x _))).mono ?_; rintro e w' ⟨rfl, rfl⟩))
      rw [← hW2]
      have hg2 : Blk W2 (W.heap.size + 1 + 1) 140 #[.int .i64 1, .int .i64 0, .int .i64 1, .int .i64 0, .int .i64 (-1)] := by rw [hW2]; exact bk2 W
      have hsz2 : W2.heap.size = W.heap.size + 1 + 1 + 1 := by rw [hW2]; simp
      have HG2 := Lib.hid hg2; have HB2 := Lib.hid hb2; have HSZ2 := Lib.hid hsz2
      obtain ⟨A, hA⟩ : ∃ A : Rng × Int, A = if (h : Int) < l.soft.2 then stepR (bdK l false) (d1, d2) (n1, n2) else (noneR, -1) := ⟨_, rfl⟩
      obtain ⟨B, hB'⟩ : ∃ B : Rng × Int, B = if inB (h : Int) l.soft.1 l.soft.2 then stepR (bdK l true) (d1, d2) (n1, n2) else (noneR, -1) := ⟨_, rfl⟩
      have hAF2 : AF = ⟨A.1, joinR B.1 (stepR (bdK l true) (s1, s2) (n1, n2)).1, max (max (max (-1) A.2) B.2) (stepR (bdK l true) (s1, s2) (n1, n2)).2⟩ := by rw [← HAF.out, hA, hB']; rfl
      have HA := Lib.hid hA; have HBB := Lib.hid hB'; have HAF2 := Lib.hid hAF2
      clear hW2 hb2 hp2 pd hg2 hsz2 hA hB' hAF2
      gi_cut [8, 9] from 14 (fun _ _ wx => Below W.heap.size W wx ∧ Blk wx (W.heap.size + 1 + 1) 140 #[.int .i64 A.1.1, .int .i64 A.1.2, .int .i64 1, .int .i64 0, .int .i64 (max (-1) A.2)])
      case first =>
        -- [A
        have pd : ∀ i, W2.cell? ⟨w.heap.size, i, none⟩ = (pA VA nV cV IA nI cI l WA nW cW CA nC cC)[i]? := fun i => (HB3.out.below HB2.out HB3.out.lt).cell i
        have p0 := pd 0; have p1 := pd 1; have p2 := pd 2; have p3 := pd 3; have p4 := pd 4; have p5 := pd 5; have p6 := pd 6; have p7 := pd 7; have p8 := pd 8; have p9 := pd 9; have p10 := pd 10; have p11 := pd 11
        have qd := (HBN.out.below HB2.out HBN.out.lt)
        have q0 := qd.cell 0; have q1 := qd.cell 1
        have rd := (HBX.out.below HB2.out HBX.out.lt)
        have r0 := rd.cell 0; have r1 := rd.cell 1
        simp only [mayA] at q0 q1
        simp at p0 p1 p2 p3 p4 p5 p6 p7 p8 p9 p10 p11 q0 q1 r0 r1
        clear pd qd rd
        by_cases g : (h : Int) < l.soft.2
        · have hAv : A = stepR (bdK l false) (d1, d2) (n1, n2) := by rw [HA.out, if_pos g]
          have hst : Calls Try.prog 95 #[.agg (pA VA nV cV IA nI cI l WA nW cW CA nC cC), .agg #[.int .i64 d1, .int .i64 d2], .agg #[.int .i64 n1, .int .i64 n2], .int .i64 0] W2 fun e w' =>
              e = .returned (.tuple #[.agg #[.int .i64 A.1.1, .int .i64 A.1.2], .int .i64 A.2]) ∧ Below W2.heap.size W2 w' := by
            have := step_c (cV := cV) (cI := cI) (WA := WA) (nW := nW) (cW := cW) (CA := CA) (nC := nC) (cC := cC) (HP.out.l.below (HB.out.trans (HB2.out.mono HB.out.size))) HOK.out (d1, d2) (n1, n2) false (by simp only; omega) (by simp only; omega)
            rw [← hAv] at this
            exact this
          have HST := Lib.hid hst
          clear hst hAv
          obtain ⟨⟨A1, A2⟩, A3⟩ := A
          have HGL := Lib.hid HG2.out.lt
          gi_wp2_with (refine ⟨trivial, ?_⟩; gi_at_call 95; refine (CallsIn.inRound lp (callsIn_wide.2 HST.out)).mono ?_; rintro e w3 ⟨rfl, hb3'⟩; have HB3' := Lib.hid hb3'; clear hb3')
          obtain ⟨w4, hw4⟩ : ∃ w4 : World, w4 = w3.alloc (.cells #[.int .i64 A1, .int .i64 A2] 35) := ⟨_, rfl⟩
          rw [← hw4]
          have hbb : Below W2.heap.size W2 w4 := by rw [hw4]; exact HB3'.out.alloc HB3'.out.size _
          have ht4 : Blk w4 w3.heap.size 35 #[.int .i64 A1, .int .i64 A2] := by rw [hw4]; exact bk0 w3
          have hg4 := HG2.out.below hbb HG2.out.lt
          have t0 := ht4.cell 0; have t1 := ht4.cell 1; have e4 := hg4.cell 4
          simp at t0 t1 e4
          have hne : ¬ (W.heap.size + 1 + 1 = w3.heap.size) := by have := HG2.out.lt; have := HB3'.out.size; omega
          have hne' : ¬ (w3.heap.size = W.heap.size + 1 + 1) := fun e => hne e.symm
          have HBB := Lib.hid hbb; have HT4 := Lib.hid ht4; have HG4 := Lib.hid hg4
          clear hbb ht4 hg4 hw4
          refine wpIn_region_held_round (S := (fun w' => w'.cell? ⟨w3.heap.size, 0, none⟩ = some (.int .i64 A1) ∧ w'.cell? ⟨w3.heap.size, 1, none⟩ = some (.int .i64 A2))) (by kernel_rfl) (by kernel_rfl) (by (first | exact ⟨t0, t1⟩ | exact ⟨s0, s1⟩ | (simp [World.cell?_setCell_far, hne, s0, s1]; done) | (((repeat' apply And.intro); all_goals (refine bel_keep (w := w4) ?_ (by assumption); repeat' (first | exact Below.refl _ _ | refine Below.drew ?_ | refine Below.alloc ?_ (by simp <;> omega) _ | fail))); done))) (fun hHeld => ?_)
          (refine wpAnyH_take (i := 0) (oi := ?ox1) (v := ?vx1) ?hix1 ?k1x1 ?k2x1 ?k3x1 ?hQx1 ?hYx1 ?hSx1 ?restx1; (case hix1 => (simp only [List.getElem?_toArray, List.getElem?_cons_succ, List.getElem?_cons_zero]; exact rfl)); (case k1x1 => kernel_rfl); (case k2x1 => kernel_rfl); (case k3x1 => kernel_rfl); (case hSx1 => assumption); (case hYx1 => (refine Or.inl ⟨rfl, ?hyx1⟩; intro w hSw; (try dsimp only at hSw); go_simp; (try with_reducible rfl))); (case hQx1 => exact (fun _ _ _ h => h)); (try simp only [Act.put, List.setIfInBounds_toArray, List.set_cons_zero, List.set_cons_succ]))
          (refine wpAnyH_take (i := 1) (oi := ?ox2) (v := ?vx2) ?hix2 ?k1x2 ?k2x2 ?k3x2 ?hQx2 ?hYx2 ?hSx2 ?restx2; (case hix2 => (simp only [List.getElem?_toArray, List.getElem?_cons_succ, List.getElem?_cons_zero]; exact rfl)); (case k1x2 => kernel_rfl); (case k2x2 => kernel_rfl); (case k3x2 => kernel_rfl); (case hSx2 => assumption); (case hYx2 => (refine Or.inl ⟨rfl, ?hyx2⟩; intro w hSw; (try dsimp only at hSw); go_simp; (try with_reducible rfl))); (case hQx2 => exact (fun _ _ _ h => h)); (try simp only [Act.put, List.setIfInBounds_toArray, List.set_cons_zero, List.set_cons_succ]))
          (refine wpAnyH_take (i := 3) (oi := ?ox3) (v := ?vx3) ?hix3 ?k1x3 ?k2x3 ?k3x3 ?hQx3 ?hYx3 ?hSx3 ?restx3; (case hix3 => (simp only [List.getElem?_toArray, List.getElem?_cons_succ, List.getElem?_cons_zero]; exact rfl)); (case k1x3 => kernel_rfl); (case k2x3 => kernel_rfl); (case k3x3 => kernel_rfl); (case hSx3 => assumption); (case hYx3 => (refine Or.inl ⟨rfl, ?hyx3⟩; intro w hSw; (try dsimp only at hSw); go_simp; (try with_reducible rfl))); (case hQx3 => exact (fun _ _ _ h => h)); (try simp only [Act.put, List.setIfInBounds_toArray, List.set_cons_zero, List.set_cons_succ]))
          (refine wpAnyH_take (i := 6) (oi := ?ox4) (v := ?vx4) ?hix4 ?k1x4 ?k2x4 ?k3x4 ?hQx4 ?hYx4 ?hSx4 ?restx4; (case hix4 => (simp only [List.getElem?_toArray, List.getElem?_cons_succ, List.getElem?_cons_zero]; exact rfl)); (case k1x4 => kernel_rfl); (case k2x4 => kernel_rfl); (case k3x4 => kernel_rfl); (case hSx4 => assumption); (case hYx4 => (refine Or.inl ⟨rfl, ?hyx4⟩; intro w hSw; (try dsimp only at hSw); go_simp; (try with_reducible rfl))); (case hQx4 => exact (fun _ _ _ h => h)); (try simp only [Act.put, List.setIfInBounds_toArray, List.set_cons_zero, List.set_cons_succ]))
          refine wpAnyH_ready (rs := [2]) (by kernel_rfl) (by simp) ?_
          refine AllReadyH.cons (o := ?o0x5) ?hi0x5 (fun K hK => ?_) AllReadyH.nil
          (case hi0x5 => (simp only [List.getElem?_toArray, List.getElem?_cons_succ, List.getElem?_cons_zero]; exact rfl))
          go_simp
          refine hK.out _ _ (by (try dsimp only) <;> (first | exact ⟨t0, t1⟩ | exact ⟨s0, s1⟩ | (simp [World.cell?_setCell_far, hne, s0, s1]; done) | (((repeat' apply And.intro); all_goals (refine bel_keep (w := w4) ?_ (by assumption); repeat' (first | exact Below.refl _ _ | refine Below.drew ?_ | refine Below.alloc ?_ (by simp <;> omega) _ | fail))); done))) (fun hHeld => ?_)
          clear hK K
          (try simp only [Act.put, List.setIfInBounds_toArray, List.set_cons_zero, List.set_cons_succ])
          (refine wpAnyH_take (i := 7) (oi := ?ox6) (v := ?vx6) ?hix6 ?k1x6 ?k2x6 ?k3x6 ?hQx6 ?hYx6 ?hSx6 ?restx6; (case hix6 => (simp only [List.getElem?_toArray, List.getElem?_cons_succ, List.getElem?_cons_zero]; exact rfl)); (case k1x6 => kernel_rfl); (case k2x6 => kernel_rfl); (case k3x6 => kernel_rfl); (case hSx6 => assumption); (case hYx6 => (refine Or.inl ⟨rfl, ?hyx6⟩; intro w hSw; (try dsimp only at hSw); go_simp; (try with_reducible rfl))); (case hQx6 => exact (fun _ _ _ h => h)); (try simp only [Act.put, List.setIfInBounds_toArray, List.set_cons_zero, List.set_cons_succ]))
          refine wpAnyH_ready (rs := [4]) (by kernel_rfl) (by simp) ?_
          refine AllReadyH.cons (o := ?o0x7) ?hi0x7 (fun K hK => ?_) AllReadyH.nil
          (case hi0x7 => (simp only [List.getElem?_toArray, List.getElem?_cons_succ, List.getElem?_cons_zero]; exact rfl))
          go_simp
          refine hK.out _ _ (by (try dsimp only) <;> (first | exact ⟨t0, t1⟩ | exact ⟨s0, s1⟩ | (simp [World.cell?_setCell_far, hne, s0, s1]; done) | (((repeat' apply And.intro); all_goals (refine bel_keep (w := w4) ?_ (by assumption); repeat' (first | exact Below.refl _ _ | refine Below.drew ?_ | refine Below.alloc ?_ (by simp <;> omega) _ | fail))); done))) (fun hHeld => ?_)
          clear hK K
          (try simp only [Act.put, List.setIfInBounds_toArray, List.set_cons_zero, List.set_cons_succ])
          refine wpAnyH_ready (rs := [5]) (by kernel_rfl) (by simp) ?_
          refine AllReadyH.cons (o := ?o0x8) ?hi0x8 (fun K hK => ?_) AllReadyH.nil
          (case hi0x8 => (simp only [List.getElem?_toArray, List.getElem?_cons_succ, List.getElem?_cons_zero]; exact rfl))
          go_simp
          (go_at_call 76; (first | with_reducible refine (greatest_c (rd0 w4)).mono ?_ | with_reducible refine (greatest_c (rd_drew (rd0 w4))).mono ?_); rintro e w5 ⟨rfl, h5⟩; have hb5 : Below w4.heap.size w4 w5 := (by rw [← h5]; repeat' (first | exact Below.refl _ _ | refine Below.drew ?_ | refine Below.alloc ?_ (by simp <;> omega) _)); have hg5 := HG4.out.below hb5 HG4.out.lt; have ht5 := HT4.out.below hb5 HT4.out.lt; have s0 := ht5.cell 0; have s1 := ht5.cell 1; have e0 := hg5.cell 0; have e1 := hg5.cell 1; have e4 := hg5.cell 4; have f0 := hg5.frozen 0; have f1 := hg5.frozen 1; have f4 := hg5.frozen 4; simp at s0 s1 e0 e1 e4)
          (try go_wp2_with fail)
          refine hK.out _ _ (by (try dsimp only) <;> (first | exact ⟨t0, t1⟩ | exact ⟨s0, s1⟩ | (simp [World.cell?_setCell_far, hne, s0, s1]; done) | (((repeat' apply And.intro); all_goals (refine bel_keep (w := w4) ?_ (by assumption); repeat' (first | exact Below.refl _ _ | refine Below.drew ?_ | refine Below.alloc ?_ (by simp <;> omega) _ | fail))); done))) (fun hHeld => ?_)
          clear hK K
          (try simp only [Act.put, List.setIfInBounds_toArray, List.set_cons_zero, List.set_cons_succ])
          refine wpAnyH_ready (rs := [8]) (by kernel_rfl) (by simp) ?_
          refine AllReadyH.cons (o := ?o0x9) ?hi0x9 (fun K hK => ?_) AllReadyH.nil
          (case hi0x9 => (simp only [List.getElem?_toArray, List.getElem?_cons_succ, List.getElem?_cons_zero]; exact rfl))
          go_simp
          refine hK.out _ _ (by (try dsimp only) <;> (first | exact ⟨t0, t1⟩ | exact ⟨s0, s1⟩ | (simp [World.cell?_setCell_far, hne, s0, s1]; done) | (((repeat' apply And.intro); all_goals (refine bel_keep (w := w4) ?_ (by assumption); repeat' (first | exact Below.refl _ _ | refine Below.drew ?_ | refine Below.alloc ?_ (by simp <;> omega) _ | fail))); done))) (fun hHeld => ?_)
          clear hK K
          (try simp only [Act.put, List.setIfInBounds_toArray, List.set_cons_zero, List.set_cons_succ])
          (refine wpAnyH_take (i := 9) (oi := ?ox10) (v := ?vx10) ?hix10 ?k1x10 ?k2x10 ?k3x10 ?hQx10 ?hYx10 ?hSx10 ?restx10; (case hix10 => (simp only [List.getElem?_toArray, List.getElem?_cons_succ, List.getElem?_cons_zero]; exact rfl)); (case k1x10 => kernel_rfl); (case k2x10 => kernel_rfl); (case k3x10 => kernel_rfl); (case hSx10 => assumption); (case hYx10 => (refine Or.inl ⟨rfl, ?hyx10⟩; intro w hSw; (try dsimp only at hSw); go_simp; (try with_reducible rfl))); (case hQx10 => exact (fun _ _ _ h => h)); (try simp only [Act.put, List.setIfInBounds_toArray, List.set_cons_zero, List.set_cons_succ]))
          refine wpAnyH_ready (rs := [10]) (by kernel_rfl) (by simp) ?_
          refine AllReadyH.cons (o := ?o0x11) ?hi0x11 (fun K hK => ?_) AllReadyH.nil
          (case hi0x11 => (simp only [List.getElem?_toArray, List.getElem?_cons_succ, List.getElem?_cons_zero]; exact rfl))
          go_simp
          refine hK.out _ _ (by (try dsimp only) <;> (first | exact ⟨t0, t1⟩ | exact ⟨s0, s1⟩ | (simp [World.cell?_setCell_far, hne, s0, s1]; done) | (((repeat' apply And.intro); all_goals (refine bel_keep (w := w4) ?_ (by assumption); repeat' (first | exact Below.refl _ _ | refine Below.drew ?_ | refine Below.alloc ?_ (by simp <;> omega) _ | fail))); done))) (fun hHeld => ?_)
          clear hK K
          (try simp only [Act.put, List.setIfInBounds_toArray, List.set_cons_zero, List.set_cons_succ])
          (try refine wpAnyH_done (by kernel_rfl) ?_ _)
          dsimp only [OnlyN]
          gi_wp2
          gi_meet
          have hbw := below_tr (below_tr HB2.out HBB.out) hb5
          exact ⟨((hbw.setCell (by simp; omega) _).setCell (by simp; omega) _).setCell (by simp; omega) _, ((hg5.set_ 0 (.int .i64 A1)).set_ 1 (.int .i64 A2)).set_ 4 (.int .i64 (max (-1) A3))⟩
        · have hAv : A = (noneR, -1) := by rw [HA.out, if_neg g]
          subst hAv
          clear p0 p1 p2 p3 p4 p5 p6 p7 p8 p9 p10 p11 q0 q1 r0 r1
          gi_wp2
          gi_meet
          exact ⟨HB2.out, HG2.out⟩
        -- A]
      case rest =>
        obtain ⟨hbc, hgc⟩ := hcut
        obtain ⟨W3, hW3⟩ : ∃ W3 : World, W3 = wc := ⟨_, rfl⟩
        rw [← hW3] at hbc hgc ⊢
        have HB3c := Lib.hid hbc; have HG3 := Lib.hid hgc
        have hf := (show Blk _ _ _ _ from HB4.out).below hbc (show Blk _ _ _ _ from HB4.out).lt
        have f0 := hf.cell 0
        simp at f0
        have hhas := has_c l.soft (h : Int) W3
        have HHAS := Lib.hid hhas
        clear hW3 hbc hgc hf hhas HB2 HG2 HSZ2
        gi_upto_if 56 with (first | (refine ⟨trivial, ?_⟩; gi_at_call 93; refine (CallsIn.inRound lp (callsIn_wide.2 HHAS.out)).mono ?_; rintro e w6 ⟨rfl, hb6⟩; have HB6 := Lib.hid hb6; clear hb6))
        have HB36 := Lib.hid (below_tr HB3c.out HB6.out)
        have HG6 := Lib.hid (HG3.out.below HB6.out HG3.out.lt)
        clear f0 HHAS HB3c HG3 HB6
        gi_cut [10, 11] from 14 (fun _ _ wx => Below W.heap.size W wx ∧ Blk wx (W.heap.size + 1 + 1) 140 #[.int .i64 A.1.1, .int .i64 A.1.2, .int .i64 B.1.1, .int .i64 B.1.2, .int .i64 (max (max (-1) A.2) B.2)])
        case first =>
          -- [B
          have pd : ∀ i, w6.cell? ⟨w.heap.size, i, none⟩ = (pA VA nV cV IA nI cI l WA nW cW CA nC cC)[i]? := fun i => (HB3.out.below HB36.out HB3.out.lt).cell i
          have p0 := pd 0; have p1 := pd 1; have p2 := pd 2; have p3 := pd 3; have p4 := pd 4; have p5 := pd 5; have p6 := pd 6; have p7 := pd 7; have p8 := pd 8; have p9 := pd 9; have p10 := pd 10; have p11 := pd 11
          have qd := (HBN.out.below HB36.out HBN.out.lt)
          have q0 := qd.cell 0; have q1 := qd.cell 1
          have rd := (HBX.out.below HB36.out HBX.out.lt)
          have r0 := rd.cell 0; have r1 := rd.cell 1
          simp only [mayA] at q0 q1
          simp at p0 p1 p2 p3 p4 p5 p6 p7 p8 p9 p10 p11 q0 q1 r0 r1
          clear pd qd rd
          cases g : inB (h : Int) l.soft.1 l.soft.2
          · have hBv : B = (noneR, -1) := by rw [HBB.out, g]; rfl
            subst hBv
            have hmm : max (max (-1) A.2) (-1) = max (-1) A.2 := by omega
            have HMM := Lib.hid hmm
            clear p0 p1 p2 p3 p4 p5 p6 p7 p8 p9 p10 p11 q0 q1 r0 r1 hmm
            gi_wp2
            gi_meet
            refine ⟨HB36.out, ?_⟩
            rw [HMM.out]
            exact HG6.out
          · have hBv : B = stepR (bdK l true) (d1, d2) (n1, n2) := by rw [HBB.out, g]; rfl
            have hst : Calls Try.prog 95 #[.agg (pA VA nV cV IA nI cI l WA nW cW CA nC cC), .agg #[.int .i64 d1, .int .i64 d2], .agg #[.int .i64 n1, .int .i64 n2], .int .i64 1] w6 fun e w' =>
                e = .returned (.tuple #[.agg #[.int .i64 B.1.1, .int .i64 B.1.2], .int .i64 B.2]) ∧ Below w6.heap.size w6 w' := by
              have := step_c (cV := cV) (cI := cI) (WA := WA) (nW := nW) (cW := cW) (CA := CA) (nC := nC) (cC := cC) (HP.out.l.below (HB.out.trans (HB36.out.mono HB.out.size))) HOK.out (d1, d2) (n1, n2) true (by simp only; omega) (by simp only; omega)
              rw [← hBv] at this
              exact this
            have HST := Lib.hid hst
            clear hst hBv
            obtain ⟨⟨B1, B2⟩, B3⟩ := B
            obtain ⟨M, hM⟩ : ∃ M, M = max (-1) A.2 := ⟨_, rfl⟩
            have HM := Lib.hid hM
            rw [← hM] at HG6
            clear hM
            gi_wp2_with (refine ⟨trivial, ?_⟩; gi_at_call 95; refine (CallsIn.inRound lp (callsIn_wide.2 HST.out)).mono ?_; rintro e w3 ⟨rfl, hb3'⟩; have HB3' := Lib.hid hb3'; clear hb3')
            obtain ⟨w4, hw4⟩ : ∃ w4 : World, w4 = w3.alloc (.cells #[.int .i64 B1, .int .i64 B2] 35) := ⟨_, rfl⟩
            rw [← hw4]
            have hbb : Below w6.heap.size w6 w4 := by rw [hw4]; exact HB3'.out.alloc HB3'.out.size _
            have ht4 : Blk w4 w3.heap.size 35 #[.int .i64 B1, .int .i64 B2] := by rw [hw4]; exact bk0 w3
            have hg4 := HG6.out.below hbb HG6.out.lt
            have t0 := ht4.cell 0; have t1 := ht4.cell 1; have e4 := hg4.cell 4
            simp at t0 t1 e4
            have hne : ¬ (W.heap.size + 1 + 1 = w3.heap.size) := by have := HG6.out.lt; have := HB3'.out.size; omega
            have HBB4 := Lib.hid hbb; have HT4 := Lib.hid ht4; have HG4 := Lib.hid hg4
            clear hbb ht4 hg4 hw4
            refine wpIn_region_held_round (S := (fun w' => w'.cell? ⟨w3.heap.size, 0, none⟩ = some (.int .i64 B1) ∧ w'.cell? ⟨w3.heap.size, 1, none⟩ = some (.int .i64 B2))) (by kernel_rfl) (by kernel_rfl) (by (first | exact ⟨t0, t1⟩ | exact ⟨s0, s1⟩ | (simp [World.cell?_setCell_far, hne, s0, s1]; done) | (((repeat' apply And.intro); all_goals (refine bel_keep (w := w4) ?_ (by assumption); repeat' (first | exact Below.refl _ _ | refine Below.drew ?_ | refine Below.alloc ?_ (by simp <;> omega) _ | fail))); done))) (fun hHeld => ?_)
            (refine wpAnyH_take (i := 0) (oi := ?ox1001) (v := ?vx1001) ?hix1001 ?k1x1001 ?k2x1001 ?k3x1001 ?hQx1001 ?hYx1001 ?hSx1001 ?restx1001; (case hix1001 => (simp only [List.getElem?_toArray, List.getElem?_cons_succ, List.getElem?_cons_zero]; exact rfl)); (case k1x1001 => kernel_rfl); (case k2x1001 => kernel_rfl); (case k3x1001 => kernel_rfl); (case hSx1001 => assumption); (case hYx1001 => (refine Or.inl ⟨rfl, ?hyx1001⟩; intro w hSw; (try dsimp only at hSw); go_simp; (try with_reducible rfl))); (case hQx1001 => exact (fun _ _ _ h => h)); (try simp only [Act.put, List.setIfInBounds_toArray, List.set_cons_zero, List.set_cons_succ]))
            (refine wpAnyH_take (i := 1) (oi := ?ox1002) (v := ?vx1002) ?hix1002 ?k1x1002 ?k2x1002 ?k3x1002 ?hQx1002 ?hYx1002 ?hSx1002 ?restx1002; (case hix1002 => (simp only [List.getElem?_toArray, List.getElem?_cons_succ, List.getElem?_cons_zero]; exact rfl)); (case k1x1002 => kernel_rfl); (case k2x1002 => kernel_rfl); (case k3x1002 => kernel_rfl); (case hSx1002 => assumption); (case hYx1002 => (refine Or.inl ⟨rfl, ?hyx1002⟩; intro w hSw; (try dsimp only at hSw); go_simp; (try with_reducible rfl))); (case hQx1002 => exact (fun _ _ _ h => h)); (try simp only [Act.put, List.setIfInBounds_toArray, List.set_cons_zero, List.set_cons_succ]))
            (refine wpAnyH_take (i := 3) (oi := ?ox1003) (v := ?vx1003) ?hix1003 ?k1x1003 ?k2x1003 ?k3x1003 ?hQx1003 ?hYx1003 ?hSx1003 ?restx1003; (case hix1003 => (simp only [List.getElem?_toArray, List.getElem?_cons_succ, List.getElem?_cons_zero]; exact rfl)); (case k1x1003 => kernel_rfl); (case k2x1003 => kernel_rfl); (case k3x1003 => kernel_rfl); (case hSx1003 => assumption); (case hYx1003 => (refine Or.inl ⟨rfl, ?hyx1003⟩; intro w hSw; (try dsimp only at hSw); go_simp; (try with_reducible rfl))); (case hQx1003 => exact (fun _ _ _ h => h)); (try simp only [Act.put, List.setIfInBounds_toArray, List.set_cons_zero, List.set_cons_succ]))
            (refine wpAnyH_take (i := 6) (oi := ?ox1004) (v := ?vx1004) ?hix1004 ?k1x1004 ?k2x1004 ?k3x1004 ?hQx1004 ?hYx1004 ?hSx1004 ?restx1004; (case hix1004 => (simp only [List.getElem?_toArray, List.getElem?_cons_succ, List.getElem?_cons_zero]; exact rfl)); (case k1x1004 => kernel_rfl); (case k2x1004 => kernel_rfl); (case k3x1004 => kernel_rfl); (case hSx1004 => assumption); (case hYx1004 => (refine Or.inl ⟨rfl, ?hyx1004⟩; intro w hSw; (try dsimp only at hSw); go_simp; (try with_reducible rfl))); (case hQx1004 => exact (fun _ _ _ h => h)); (try simp only [Act.put, List.setIfInBounds_toArray, List.set_cons_zero, List.set_cons_succ]))
            refine wpAnyH_ready (rs := [2]) (by kernel_rfl) (by simp) ?_
            refine AllReadyH.cons (o := ?o0x1005) ?hi0x1005 (fun K hK => ?_) AllReadyH.nil
            (case hi0x1005 => (simp only [List.getElem?_toArray, List.getElem?_cons_succ, List.getElem?_cons_zero]; exact rfl))
            go_simp
            refine hK.out _ _ (by (try dsimp only) <;> (first | exact ⟨t0, t1⟩ | exact ⟨s0, s1⟩ | (simp [World.cell?_setCell_far, hne, s0, s1]; done) | (((repeat' apply And.intro); all_goals (refine bel_keep (w := w4) ?_ (by assumption); repeat' (first | exact Below.refl _ _ | refine Below.drew ?_ | refine Below.alloc ?_ (by simp <;> omega) _ | fail))); done))) (fun hHeld => ?_)
            clear hK K
            (try simp only [Act.put, List.setIfInBounds_toArray, List.set_cons_zero, List.set_cons_succ])
            (refine wpAnyH_take (i := 7) (oi := ?ox1006) (v := ?vx1006) ?hix1006 ?k1x1006 ?k2x1006 ?k3x1006 ?hQx1006 ?hYx1006 ?hSx1006 ?restx1006; (case hix1006 => (simp only [List.getElem?_toArray, List.getElem?_cons_succ, List.getElem?_cons_zero]; exact rfl)); (case k1x1006 => kernel_rfl); (case k2x1006 => kernel_rfl); (case k3x1006 => kernel_rfl); (case hSx1006 => assumption); (case hYx1006 => (refine Or.inl ⟨rfl, ?hyx1006⟩; intro w hSw; (try dsimp only at hSw); go_simp; (try with_reducible rfl))); (case hQx1006 => exact (fun _ _ _ h => h)); (try simp only [Act.put, List.setIfInBounds_toArray, List.set_cons_zero, List.set_cons_succ]))
            refine wpAnyH_ready (rs := [4]) (by kernel_rfl) (by simp) ?_
            refine AllReadyH.cons (o := ?o0x1007) ?hi0x1007 (fun K hK => ?_) AllReadyH.nil
            (case hi0x1007 => (simp only [List.getElem?_toArray, List.getElem?_cons_succ, List.getElem?_cons_zero]; exact rfl))
            go_simp
            refine hK.out _ _ (by (try dsimp only) <;> (first | exact ⟨t0, t1⟩ | exact ⟨s0, s1⟩ | (simp [World.cell?_setCell_far, hne, s0, s1]; done) | (((repeat' apply And.intro); all_goals (refine bel_keep (w := w4) ?_ (by assumption); repeat' (first | exact Below.refl _ _ | refine Below.drew ?_ | refine Below.alloc ?_ (by simp <;> omega) _ | fail))); done))) (fun hHeld => ?_)
            clear hK K
            (try simp only [Act.put, List.setIfInBounds_toArray, List.set_cons_zero, List.set_cons_succ])
            refine wpAnyH_ready (rs := [5]) (by kernel_rfl) (by simp) ?_
            refine AllReadyH.cons (o := ?o0x1008) ?hi0x1008 (fun K hK => ?_) AllReadyH.nil
            (case hi0x1008 => (simp only [List.getElem?_toArray, List.getElem?_cons_succ, List.getElem?_cons_zero]; exact rfl))
            go_simp
            (go_at_call 76; (first | with_reducible refine (greatest_c (rd0 w4)).mono ?_ | with_reducible refine (greatest_c (rd_drew (rd0 w4))).mono ?_); rintro e w5 ⟨rfl, h5⟩; have hb5 : Below w4.heap.size w4 w5 := (by rw [← h5]; repeat' (first | exact Below.refl _ _ | refine Below.drew ?_ | refine Below.alloc ?_ (by simp <;> omega) _)); have hg5 := HG4.out.below hb5 HG4.out.lt; have ht5 := HT4.out.below hb5 HT4.out.lt; have s0 := ht5.cell 0; have s1 := ht5.cell 1; have e2 := hg5.cell 2; have e3 := hg5.cell 3; have e4 := hg5.cell 4; have f2 := hg5.frozen 2; have f3 := hg5.frozen 3; have f4 := hg5.frozen 4; simp at s0 s1 e2 e3 e4)
            (try go_wp2_with fail)
            refine hK.out _ _ (by (try dsimp only) <;> (first | exact ⟨t0, t1⟩ | exact ⟨s0, s1⟩ | (simp [World.cell?_setCell_far, hne, s0, s1]; done) | (((repeat' apply And.intro); all_goals (refine bel_keep (w := w4) ?_ (by assumption); repeat' (first | exact Below.refl _ _ | refine Below.drew ?_ | refine Below.alloc ?_ (by simp <;> omega) _ | fail))); done))) (fun hHeld => ?_)
            clear hK K
            (try simp only [Act.put, List.setIfInBounds_toArray, List.set_cons_zero, List.set_cons_succ])
            refine wpAnyH_ready (rs := [8]) (by kernel_rfl) (by simp) ?_
            refine AllReadyH.cons (o := ?o0x1009) ?hi0x1009 (fun K hK => ?_) AllReadyH.nil
            (case hi0x1009 => (simp only [List.getElem?_toArray, List.getElem?_cons_succ, List.getElem?_cons_zero]; exact rfl))
            go_simp
            refine hK.out _ _ (by (try dsimp only) <;> (first | exact ⟨t0, t1⟩ | exact ⟨s0, s1⟩ | (simp [World.cell?_setCell_far, hne, s0, s1]; done) | (((repeat' apply And.intro); all_goals (refine bel_keep (w := w4) ?_ (by assumption); repeat' (first | exact Below.refl _ _ | refine Below.drew ?_ | refine Below.alloc ?_ (by simp <;> omega) _ | fail))); done))) (fun hHeld => ?_)
            clear hK K
            (try simp only [Act.put, List.setIfInBounds_toArray, List.set_cons_zero, List.set_cons_succ])
            (refine wpAnyH_take (i := 9) (oi := ?ox1010) (v := ?vx1010) ?hix1010 ?k1x1010 ?k2x1010 ?k3x1010 ?hQx1010 ?hYx1010 ?hSx1010 ?restx1010; (case hix1010 => (simp only [List.getElem?_toArray, List.getElem?_cons_succ, List.getElem?_cons_zero]; exact rfl)); (case k1x1010 => kernel_rfl); (case k2x1010 => kernel_rfl); (case k3x1010 => kernel_rfl); (case hSx1010 => assumption); (case hYx1010 => (refine Or.inl ⟨rfl, ?hyx1010⟩; intro w hSw; (try dsimp only at hSw); go_simp; (try with_reducible rfl))); (case hQx1010 => exact (fun _ _ _ h => h)); (try simp only [Act.put, List.setIfInBounds_toArray, List.set_cons_zero, List.set_cons_succ]))
            refine wpAnyH_ready (rs := [10]) (by kernel_rfl) (by simp) ?_
            refine AllReadyH.cons (o := ?o0x1011) ?hi0x1011 (fun K hK => ?_) AllReadyH.nil
            (case hi0x1011 => (simp only [List.getElem?_toArray, List.getElem?_cons_succ, List.getElem?_cons_zero]; exact rfl))
            go_simp
            refine hK.out _ _ (by (try dsimp only) <;> (first | exact ⟨t0, t1⟩ | exact ⟨s0, s1⟩ | (simp [World.cell?_setCell_far, hne, s0, s1]; done) | (((repeat' apply And.intro); all_goals (refine bel_keep (w := w4) ?_ (by assumption); repeat' (first | exact Below.refl _ _ | refine Below.drew ?_ | refine Below.alloc ?_ (by simp <;> omega) _ | fail))); done))) (fun hHeld => ?_)
            clear hK K
            (try simp only [Act.put, List.setIfInBounds_toArray, List.set_cons_zero, List.set_cons_succ])
            (try refine wpAnyH_done (by kernel_rfl) ?_ _)
            dsimp only [OnlyN]
            gi_wp2
            gi_meet
            have hbw := below_tr (below_tr HB36.out HBB4.out) hb5
            refine ⟨((hbw.setCell (by simp; omega) _).setCell (by simp; omega) _).setCell (by simp; omega) _, ?_⟩
            rw [← HM.out]
            exact ((hg5.set_ 2 (.int .i64 B1)).set_ 3 (.int .i64 B2)).set_ 4 (.int .i64 (max M B3))
          -- B]
        case rest =>
          obtain ⟨hbc, hgc⟩ := hcut
          obtain ⟨W4, hW4⟩ : ∃ W4 : World, W4 = wc := ⟨_, rfl⟩
          rw [← hW4] at hbc hgc ⊢
          have HB3c := Lib.hid hbc; have HG3 := Lib.hid hgc
          clear hW4 hbc hgc HB36 HG6
          have pd : ∀ i, W4.cell? ⟨w.heap.size, i, none⟩ = (pA VA nV cV IA nI cI l WA nW cW CA nC cC)[i]? := fun i => (HB3.out.below HB3c.out HB3.out.lt).cell i
          have p0 := pd 0; have p1 := pd 1; have p2 := pd 2; have p3 := pd 3; have p4 := pd 4; have p5 := pd 5; have p6 := pd 6; have p7 := pd 7; have p8 := pd 8; have p9 := pd 9; have p10 := pd 10; have p11 := pd 11
          have qd := (HBN.out.below HB3c.out HBN.out.lt)
          have q2 := qd.cell 2; have q3 := qd.cell 3
          have rd := (HBX.out.below HB3c.out HBX.out.lt)
          have r0 := rd.cell 0; have r1 := rd.cell 1
          simp only [mayA] at q2 q3
          simp at p0 p1 p2 p3 p4 p5 p6 p7 p8 p9 p10 p11 q2 q3 r0 r1
          obtain ⟨C, hC⟩ : ∃ C, C = stepR (bdK l true) (s1, s2) (n1, n2) := ⟨_, rfl⟩
          have hst : Calls Try.prog 95 #[.agg (pA VA nV cV IA nI cI l WA nW cW CA nC cC), .agg #[.int .i64 s1, .int .i64 s2], .agg #[.int .i64 n1, .int .i64 n2], .int .i64 1] W4 fun e w' =>
              e = .returned (.tuple #[.agg #[.int .i64 C.1.1, .int .i64 C.1.2], .int .i64 C.2]) ∧ Below W4.heap.size W4 w' := by
            have := step_c (cV := cV) (cI := cI) (WA := WA) (nW := nW) (cW := cW) (CA := CA) (nC := nC) (cC := cC) (HP.out.l.below (HB.out.trans (HB3c.out.mono HB.out.size))) HOK.out (s1, s2) (n1, n2) true (by simp only; omega) (by simp only; omega)
            rw [← hC] at this
            exact this
          have hAF3 : AF = ⟨A.1, joinR B.1 C.1, max (max (max (-1) A.2) B.2) C.2⟩ := by rw [HAF2.out, hC]
          have HST := Lib.hid hst; have HAF3 := Lib.hid hAF3
          clear pd qd rd hst hC hAF3
          obtain ⟨M, hM⟩ : ∃ M, M = max (max (-1) A.2) B.2 := ⟨_, rfl⟩
          rw [← hM] at HG3 HAF3
          clear hM
          obtain ⟨⟨A1, A2⟩, A3⟩ := A
          obtain ⟨⟨B1, B2⟩, B3⟩ := B
          obtain ⟨⟨C1, C2⟩, C3⟩ := C
          simp only at HG3 HAF3
          gi_wp2_with (refine ⟨trivial, ?_⟩; gi_at_call 95; refine (CallsIn.inRound lp (callsIn_wide.2 HST.out)).mono ?_; rintro e w3 ⟨rfl, hb3'⟩; have HB3' := Lib.hid hb3'; clear hb3')
          obtain ⟨w9, hw9⟩ : ∃ w9 : World, w9 = w3.alloc (.cells #[.int .i64 C1, .int .i64 C2] 35) := ⟨_, rfl⟩
          rw [← hw9]
          have hbb : Below W4.heap.size W4 w9 := by rw [hw9]; exact HB3'.out.alloc HB3'.out.size _
          have ht4 : Blk w9 w3.heap.size 35 #[.int .i64 C1, .int .i64 C2] := by rw [hw9]; exact bk0 w3
          have hg4 := HG3.out.below hbb HG3.out.lt
          have hne : ¬ (W.heap.size + 1 + 1 = w3.heap.size) := by have := HG3.out.lt; have := HB3'.out.size; omega
          have HB9 := Lib.hid (below_tr HB3c.out hbb); have HT4 := Lib.hid ht4; have HG4 := Lib.hid hg4
          clear hbb ht4 hg4 hw9 p0 p1 p2 p3 p4 p5 p6 p7 p8 p9 p10 p11 q2 q3 r0 r1
          obtain ⟨J, hJ⟩ : ∃ J, J = joinR (B1, B2) (C1, C2) := ⟨_, rfl⟩
          have hjo := fun U => joined_c (B1, B2) (C1, C2) U
          rw [← hJ] at hjo HAF3
          obtain ⟨J1, J2⟩ := J
          simp only at hjo HAF3
          have HJO := Lib.hid hjo
          clear hJ hjo
          gi_cut [] from 14 (fun wx => Below W.heap.size W wx ∧ Blk wx (W.heap.size + 1 + 1) 140 #[.int .i64 A1, .int .i64 A2, .int .i64 J1, .int .i64 J2, .int .i64 (max M C3)])
          case first =>
            -- [C
            have t0 := HT4.out.cell 0; have t1 := HT4.out.cell 1; have e2 := HG4.out.cell 2; have e3 := HG4.out.cell 3; have e4 := HG4.out.cell 4
            have x2 := (HG4.out.alloc (.cells #[.int .i64 M, .int .i64 C3] 3)).cell 2; have x3 := (HG4.out.alloc (.cells #[.int .i64 M, .int .i64 C3] 3)).cell 3
            simp at t0 t1 e2 e3 e4 x2 x3
            refine wpIn_region_held_round (S := (fun w' => w'.cell? ⟨w3.heap.size, 0, none⟩ = some (.int .i64 C1) ∧ w'.cell? ⟨w3.heap.size, 1, none⟩ = some (.int .i64 C2))) (by kernel_rfl) (by kernel_rfl) (by (first | exact ⟨t0, t1⟩ | exact ⟨s0, s1⟩ | (simp [World.cell?_setCell_far, hne, s0, s1]; done) | (((repeat' apply And.intro); all_goals (refine bel_keep (w := w9) ?_ (by assumption); repeat' (first | exact Below.refl _ _ | refine Below.drew ?_ | refine Below.alloc ?_ (by simp <;> omega) _ | fail))); done) | (((repeat' apply And.intro); all_goals (refine bel_keep (w := wj) ?_ (by assumption); repeat' (first | exact Below.refl _ _ | refine Below.drew ?_ | refine Below.alloc ?_ (by simp <;> omega) _ | fail))); done))) (fun hHeld => ?_)
            (refine wpAnyH_take (i := 0) (oi := ?ox2001) (v := ?vx2001) ?hix2001 ?k1x2001 ?k2x2001 ?k3x2001 ?hQx2001 ?hYx2001 ?hSx2001 ?restx2001; (case hix2001 => (simp only [List.getElem?_toArray, List.getElem?_cons_succ, List.getElem?_cons_zero]; exact rfl)); (case k1x2001 => kernel_rfl); (case k2x2001 => kernel_rfl); (case k3x2001 => kernel_rfl); (case hSx2001 => assumption); (case hYx2001 => (refine Or.inl ⟨rfl, ?hyx2001⟩; intro w hSw; (try dsimp only at hSw); go_simp; (try with_reducible rfl))); (case hQx2001 => exact (fun _ _ _ h => h)); (try simp only [Act.put, List.setIfInBounds_toArray, List.set_cons_zero, List.set_cons_succ]))
            (refine wpAnyH_take (i := 1) (oi := ?ox2002) (v := ?vx2002) ?hix2002 ?k1x2002 ?k2x2002 ?k3x2002 ?hQx2002 ?hYx2002 ?hSx2002 ?restx2002; (case hix2002 => (simp only [List.getElem?_toArray, List.getElem?_cons_succ, List.getElem?_cons_zero]; exact rfl)); (case k1x2002 => kernel_rfl); (case k2x2002 => kernel_rfl); (case k3x2002 => kernel_rfl); (case hSx2002 => assumption); (case hYx2002 => (refine Or.inl ⟨rfl, ?hyx2002⟩; intro w hSw; (try dsimp only at hSw); go_simp; (try with_reducible rfl))); (case hQx2002 => exact (fun _ _ _ h => h)); (try simp only [Act.put, List.setIfInBounds_toArray, List.set_cons_zero, List.set_cons_succ]))
            (refine wpAnyH_take (i := 3) (oi := ?ox2003) (v := ?vx2003) ?hix2003 ?k1x2003 ?k2x2003 ?k3x2003 ?hQx2003 ?hYx2003 ?hSx2003 ?restx2003; (case hix2003 => (simp only [List.getElem?_toArray, List.getElem?_cons_succ, List.getElem?_cons_zero]; exact rfl)); (case k1x2003 => kernel_rfl); (case k2x2003 => kernel_rfl); (case k3x2003 => kernel_rfl); (case hSx2003 => assumption); (case hYx2003 => (refine Or.inl ⟨rfl, ?hyx2003⟩; intro w hSw; (try dsimp only at hSw); go_simp; (try with_reducible rfl))); (case hQx2003 => exact (fun _ _ _ h => h)); (try simp only [Act.put, List.setIfInBounds_toArray, List.set_cons_zero, List.set_cons_succ]))
            (refine wpAnyH_take (i := 5) (oi := ?ox2004) (v := ?vx2004) ?hix2004 ?k1x2004 ?k2x2004 ?k3x2004 ?hQx2004 ?hYx2004 ?hSx2004 ?restx2004; (case hix2004 => (simp only [List.getElem?_toArray, List.getElem?_cons_succ, List.getElem?_cons_zero]; exact rfl)); (case k1x2004 => kernel_rfl); (case k2x2004 => kernel_rfl); (case k3x2004 => kernel_rfl); (case hSx2004 => assumption); (case hYx2004 => (refine Or.inl ⟨rfl, ?hyx2004⟩; intro w hSw; (try dsimp only at hSw); go_simp; (try with_reducible rfl))); (case hQx2004 => exact (fun _ _ _ h => h)); (try simp only [Act.put, List.setIfInBounds_toArray, List.set_cons_zero, List.set_cons_succ]))
            (refine wpAnyH_take (i := 7) (oi := ?ox2005) (v := ?vx2005) ?hix2005 ?k1x2005 ?k2x2005 ?k3x2005 ?hQx2005 ?hYx2005 ?hSx2005 ?restx2005; (case hix2005 => (simp only [List.getElem?_toArray, List.getElem?_cons_succ, List.getElem?_cons_zero]; exact rfl)); (case k1x2005 => kernel_rfl); (case k2x2005 => kernel_rfl); (case k3x2005 => kernel_rfl); (case hSx2005 => assumption); (case hYx2005 => (refine Or.inl ⟨rfl, ?hyx2005⟩; intro w hSw; (try dsimp only at hSw); go_simp; (try with_reducible rfl))); (case hQx2005 => exact (fun _ _ _ h => h)); (try simp only [Act.put, List.setIfInBounds_toArray, List.set_cons_zero, List.set_cons_succ]))
            (refine wpAnyH_take (i := 10) (oi := ?ox2006) (v := ?vx2006) ?hix2006 ?k1x2006 ?k2x2006 ?k3x2006 ?hQx2006 ?hYx2006 ?hSx2006 ?restx2006; (case hix2006 => (simp only [List.getElem?_toArray, List.getElem?_cons_succ, List.getElem?_cons_zero]; exact rfl)); (case k1x2006 => kernel_rfl); (case k2x2006 => kernel_rfl); (case k3x2006 => kernel_rfl); (case hSx2006 => assumption); (case hYx2006 => (refine Or.inl ⟨rfl, ?hyx2006⟩; intro w hSw; (try dsimp only at hSw); go_simp; (try with_reducible rfl))); (case hQx2006 => exact (fun _ _ _ h => h)); (try simp only [Act.put, List.setIfInBounds_toArray, List.set_cons_zero, List.set_cons_succ]))
            refine wpAnyH_ready (rs := [2, 6]) (by kernel_rfl) (by simp) ?_
            refine AllReadyH.cons (o := ?o0x2007) ?hi0x2007 (fun K hK => ?_) (AllReadyH.cons (o := ?o1x2007) ?hi1x2007 (fun K hK => ?_) AllReadyH.nil)
            (case hi0x2007 => (simp only [List.getElem?_toArray, List.getElem?_cons_succ, List.getElem?_cons_zero]; exact rfl))
            (case hi1x2007 => (simp only [List.getElem?_toArray, List.getElem?_cons_succ, List.getElem?_cons_zero]; exact rfl))
            · skip
              go_simp
              refine hK.out _ _ (by (try dsimp only) <;> (first | exact ⟨t0, t1⟩ | exact ⟨s0, s1⟩ | (simp [World.cell?_setCell_far, hne, s0, s1]; done) | (((repeat' apply And.intro); all_goals (refine bel_keep (w := w9) ?_ (by assumption); repeat' (first | exact Below.refl _ _ | refine Below.drew ?_ | refine Below.alloc ?_ (by simp <;> omega) _ | fail))); done) | (((repeat' apply And.intro); all_goals (refine bel_keep (w := wj) ?_ (by assumption); repeat' (first | exact Below.refl _ _ | refine Below.drew ?_ | refine Below.alloc ?_ (by simp <;> omega) _ | fail))); done))) (fun hHeld => ?_)
              clear hK K
              (try simp only [Act.put, List.setIfInBounds_toArray, List.set_cons_zero, List.set_cons_succ])
              refine wpAnyH_ready (rs := [4, 6]) (by kernel_rfl) (by simp) ?_
              refine AllReadyH.cons (o := ?o0x2008) ?hi0x2008 (fun K hK => ?_) (AllReadyH.cons (o := ?o1x2008) ?hi1x2008 (fun K hK => ?_) AllReadyH.nil)
              (case hi0x2008 => (simp only [List.getElem?_toArray, List.getElem?_cons_succ, List.getElem?_cons_zero]; exact rfl))
              (case hi1x2008 => (simp only [List.getElem?_toArray, List.getElem?_cons_succ, List.getElem?_cons_zero]; exact rfl))
              · skip
                go_simp
                (go_at_call 65; refine (HJO.out _).mono ?_; rintro e wj ⟨rfl, hbj⟩; have hb9 : Below w9.heap.size w9 wj := below_tr (by repeat' (first | exact Below.refl _ _ | refine Below.drew ?_ | refine Below.alloc ?_ (by simp <;> omega) _)) hbj; have hg5 := HG4.out.below hb9 HG4.out.lt; have ht5 := HT4.out.below hb9 HT4.out.lt; have s0 := ht5.cell 0; have s1 := ht5.cell 1; have e2 := hg5.cell 2; have e3 := hg5.cell 3; have e4 := hg5.cell 4; have f2 := hg5.frozen 2; have f3 := hg5.frozen 3; have f4 := hg5.frozen 4; simp at s0 s1 e2 e3 e4)
                (try go_wp2_with fail)
                refine hK.out _ _ (by (try dsimp only) <;> (first | exact ⟨t0, t1⟩ | exact ⟨s0, s1⟩ | (simp [World.cell?_setCell_far, hne, s0, s1]; done) | (((repeat' apply And.intro); all_goals (refine bel_keep (w := w9) ?_ (by assumption); repeat' (first | exact Below.refl _ _ | refine Below.drew ?_ | refine Below.alloc ?_ (by simp <;> omega) _ | fail))); done) | (((repeat' apply And.intro); all_goals (refine bel_keep (w := wj) ?_ (by assumption); repeat' (first | exact Below.refl _ _ | refine Below.drew ?_ | refine Below.alloc ?_ (by simp <;> omega) _ | fail))); done))) (fun hHeld => ?_)
                clear hK K
                (try simp only [Act.put, List.setIfInBounds_toArray, List.set_cons_zero, List.set_cons_succ])
                refine wpAnyH_ready (rs := [6]) (by kernel_rfl) (by simp) ?_
                refine AllReadyH.cons (o := ?o0x2009) ?hi0x2009 (fun K hK => ?_) AllReadyH.nil
                (case hi0x2009 => (simp only [List.getElem?_toArray, List.getElem?_cons_succ, List.getElem?_cons_zero]; exact rfl))
                go_simp
                refine hK.out _ _ (by (try dsimp only) <;> (first | exact ⟨t0, t1⟩ | exact ⟨s0, s1⟩ | (simp [World.cell?_setCell_far, hne, s0, s1]; done) | (((repeat' apply And.intro); all_goals (refine bel_keep (w := w9) ?_ (by assumption); repeat' (first | exact Below.refl _ _ | refine Below.drew ?_ | refine Below.alloc ?_ (by simp <;> omega) _ | fail))); done) | (((repeat' apply And.intro); all_goals (refine bel_keep (w := wj) ?_ (by assumption); repeat' (first | exact Below.refl _ _ | refine Below.drew ?_ | refine Below.alloc ?_ (by simp <;> omega) _ | fail))); done))) (fun hHeld => ?_)
                clear hK K
                (try simp only [Act.put, List.setIfInBounds_toArray, List.set_cons_zero, List.set_cons_succ])
                (refine wpAnyH_take (i := 11) (oi := ?ox2010) (v := ?vx2010) ?hix2010 ?k1x2010 ?k2x2010 ?k3x2010 ?hQx2010 ?hYx2010 ?hSx2010 ?restx2010; (case hix2010 => (simp only [List.getElem?_toArray, List.getElem?_cons_succ, List.getElem?_cons_zero]; exact rfl)); (case k1x2010 => kernel_rfl); (case k2x2010 => kernel_rfl); (case k3x2010 => kernel_rfl); (case hSx2010 => assumption); (case hYx2010 => (refine Or.inl ⟨rfl, ?hyx2010⟩; intro w hSw; (try dsimp only at hSw); go_simp; (try with_reducible rfl))); (case hQx2010 => exact (fun _ _ _ h => h)); (try simp only [Act.put, List.setIfInBounds_toArray, List.set_cons_zero, List.set_cons_succ]))
                refine wpAnyH_ready (rs := [8]) (by kernel_rfl) (by simp) ?_
                refine AllReadyH.cons (o := ?o0x2011) ?hi0x2011 (fun K hK => ?_) AllReadyH.nil
                (case hi0x2011 => (simp only [List.getElem?_toArray, List.getElem?_cons_succ, List.getElem?_cons_zero]; exact rfl))
                go_simp
                refine hK.out _ _ (by (try dsimp only) <;> (first | exact ⟨t0, t1⟩ | exact ⟨s0, s1⟩ | (simp [World.cell?_setCell_far, hne, s0, s1]; done) | (((repeat' apply And.intro); all_goals (refine bel_keep (w := w9) ?_ (by assumption); repeat' (first | exact Below.refl _ _ | refine Below.drew ?_ | refine Below.alloc ?_ (by simp <;> omega) _ | fail))); done) | (((repeat' apply And.intro); all_goals (refine bel_keep (w := wj) ?_ (by assumption); repeat' (first | exact Below.refl _ _ | refine Below.drew ?_ | refine Below.alloc ?_ (by simp <;> omega) _ | fail))); done))) (fun hHeld => ?_)
                clear hK K
                (try simp only [Act.put, List.setIfInBounds_toArray, List.set_cons_zero, List.set_cons_succ])
                refine wpAnyH_ready (rs := [9]) (by kernel_rfl) (by simp) ?_
                refine AllReadyH.cons (o := ?o0x2012) ?hi0x2012 (fun K hK => ?_) AllReadyH.nil
                (case hi0x2012 => (simp only [List.getElem?_toArray, List.getElem?_cons_succ, List.getElem?_cons_zero]; exact rfl))
                go_simp
                (go_at_call 76; (first | with_reducible refine (greatest_c (rd0 wj)).mono ?_ | with_reducible refine (greatest_c ((rd_drew (rd0 w9)).mono hbj)).mono ?_); rintro e w5 ⟨rfl, h5⟩; have hb5 : Below w9.heap.size w9 w5 := (by rw [← h5]; repeat' (first | exact hb9 | refine Below.drew ?_ | refine Below.alloc ?_ (by have := hb9.size; first | assumption | (simp; omega)) _)); have hg5 := HG4.out.below hb5 HG4.out.lt; have ht5 := HT4.out.below hb5 HT4.out.lt; have s0 := ht5.cell 0; have s1 := ht5.cell 1; have e2 := hg5.cell 2; have e3 := hg5.cell 3; have e4 := hg5.cell 4; have f2 := hg5.frozen 2; have f3 := hg5.frozen 3; have f4 := hg5.frozen 4; simp at s0 s1 e2 e3 e4)
                (try go_wp2_with fail)
                refine hK.out _ _ (by (try dsimp only) <;> (first | exact ⟨t0, t1⟩ | exact ⟨s0, s1⟩ | (simp [World.cell?_setCell_far, hne, s0, s1]; done) | (((repeat' apply And.intro); all_goals (refine bel_keep (w := w9) ?_ (by assumption); repeat' (first | exact Below.refl _ _ | refine Below.drew ?_ | refine Below.alloc ?_ (by simp <;> omega) _ | fail))); done) | (((repeat' apply And.intro); all_goals (refine bel_keep (w := wj) ?_ (by assumption); repeat' (first | exact Below.refl _ _ | refine Below.drew ?_ | refine Below.alloc ?_ (by simp <;> omega) _ | fail))); done))) (fun hHeld => ?_)
                clear hK K
                (try simp only [Act.put, List.setIfInBounds_toArray, List.set_cons_zero, List.set_cons_succ])
                refine wpAnyH_ready (rs := [12]) (by kernel_rfl) (by simp) ?_
                refine AllReadyH.cons (o := ?o0x2013) ?hi0x2013 (fun K hK => ?_) AllReadyH.nil
                (case hi0x2013 => (simp only [List.getElem?_toArray, List.getElem?_cons_succ, List.getElem?_cons_zero]; exact rfl))
                go_simp
                refine hK.out _ _ (by (try dsimp only) <;> (first | exact ⟨t0, t1⟩ | exact ⟨s0, s1⟩ | (simp [World.cell?_setCell_far, hne, s0, s1]; done) | (((repeat' apply And.intro); all_goals (refine bel_keep (w := w9) ?_ (by assumption); repeat' (first | exact Below.refl _ _ | refine Below.drew ?_ | refine Below.alloc ?_ (by simp <;> omega) _ | fail))); done) | (((repeat' apply And.intro); all_goals (refine bel_keep (w := wj) ?_ (by assumption); repeat' (first | exact Below.refl _ _ | refine Below.drew ?_ | refine Below.alloc ?_ (by simp <;> omega) _ | fail))); done))) (fun hHeld => ?_)
                clear hK K
                (try simp only [Act.put, List.setIfInBounds_toArray, List.set_cons_zero, List.set_cons_succ])
                (refine wpAnyH_take (i := 13) (oi := ?ox2014) (v := ?vx2014) ?hix2014 ?k1x2014 ?k2x2014 ?k3x2014 ?hQx2014 ?hYx2014 ?hSx2014 ?restx2014; (case hix2014 => (simp only [List.getElem?_toArray, List.getElem?_cons_succ, List.getElem?_cons_zero]; exact rfl)); (case k1x2014 => kernel_rfl); (case k2x2014 => kernel_rfl); (case k3x2014 => kernel_rfl); (case hSx2014 => assumption); (case hYx2014 => (refine Or.inl ⟨rfl, ?hyx2014⟩; intro w hSw; (try dsimp only at hSw); go_simp; (try with_reducible rfl))); (case hQx2014 => exact (fun _ _ _ h => h)); (try simp only [Act.put, List.setIfInBounds_toArray, List.set_cons_zero, List.set_cons_succ]))
                refine wpAnyH_ready (rs := [14]) (by kernel_rfl) (by simp) ?_
                refine AllReadyH.cons (o := ?o0x2015) ?hi0x2015 (fun K hK => ?_) AllReadyH.nil
                (case hi0x2015 => (simp only [List.getElem?_toArray, List.getElem?_cons_succ, List.getElem?_cons_zero]; exact rfl))
                go_simp
                refine hK.out _ _ (by (try dsimp only) <;> (first | exact ⟨t0, t1⟩ | exact ⟨s0, s1⟩ | (simp [World.cell?_setCell_far, hne, s0, s1]; done) | (((repeat' apply And.intro); all_goals (refine bel_keep (w := w9) ?_ (by assumption); repeat' (first | exact Below.refl _ _ | refine Below.drew ?_ | refine Below.alloc ?_ (by simp <;> omega) _ | fail))); done) | (((repeat' apply And.intro); all_goals (refine bel_keep (w := wj) ?_ (by assumption); repeat' (first | exact Below.refl _ _ | refine Below.drew ?_ | refine Below.alloc ?_ (by simp <;> omega) _ | fail))); done))) (fun hHeld => ?_)
                clear hK K
                (try simp only [Act.put, List.setIfInBounds_toArray, List.set_cons_zero, List.set_cons_succ])
                (try refine wpAnyH_done (by kernel_rfl) ?_ _)
                dsimp only [OnlyN]
                gi_wp2
                gi_meet
                have hbw := below_tr HB9.out hb5
                exact ⟨((hbw.setCell (by simp; omega) _).setCell (by simp; omega) _).setCell (by simp; omega) _, ((hg5.set_ 2 (.int .i64 J1)).set_ 3 (.int .i64 J2)).set_ 4 (.int .i64 (max M C3))⟩
              · skip
                go_simp
                refine hK.out _ _ (by (try dsimp only) <;> (first | exact ⟨t0, t1⟩ | exact ⟨s0, s1⟩ | (simp [World.cell?_setCell_far, hne, s0, s1]; done) | (((repeat' apply And.intro); all_goals (refine bel_keep (w := w9) ?_ (by assumption); repeat' (first | exact Below.refl _ _ | refine Below.drew ?_ | refine Below.alloc ?_ (by simp <;> omega) _ | fail))); done) | (((repeat' apply And.intro); all_goals (refine bel_keep (w := wj) ?_ (by assumption); repeat' (first | exact Below.refl _ _ | refine Below.drew ?_ | refine Below.alloc ?_ (by simp <;> omega) _ | fail))); done))) (fun hHeld => ?_)
                clear hK K
                (try simp only [Act.put, List.setIfInBounds_toArray, List.set_cons_zero, List.set_cons_succ])
                refine wpAnyH_ready (rs := [4, 8]) (by kernel_rfl) (by simp) ?_
                refine AllReadyH.cons (o := ?o0x2016) ?hi0x2016 (fun K hK => ?_) (AllReadyH.cons (o := ?o1x2016) ?hi1x2016 (fun K hK => ?_) AllReadyH.nil)
                (case hi0x2016 => (simp only [List.getElem?_toArray, List.getElem?_cons_succ, List.getElem?_cons_zero]; exact rfl))
                (case hi1x2016 => (simp only [List.getElem?_toArray, List.getElem?_cons_succ, List.getElem?_cons_zero]; exact rfl))
                · skip
                  go_simp
                  (go_at_call 65; refine (HJO.out _).mono ?_; rintro e wj ⟨rfl, hbj⟩; have hb9 : Below w9.heap.size w9 wj := below_tr (by repeat' (first | exact Below.refl _ _ | refine Below.drew ?_ | refine Below.alloc ?_ (by simp <;> omega) _)) hbj; have hg5 := HG4.out.below hb9 HG4.out.lt; have ht5 := HT4.out.below hb9 HT4.out.lt; have s0 := ht5.cell 0; have s1 := ht5.cell 1; have e2 := hg5.cell 2; have e3 := hg5.cell 3; have e4 := hg5.cell 4; have f2 := hg5.frozen 2; have f3 := hg5.frozen 3; have f4 := hg5.frozen 4; simp at s0 s1 e2 e3 e4)
                  (try go_wp2_with fail)
                  refine hK.out _ _ (by (try dsimp only) <;> (first | exact ⟨t0, t1⟩ | exact ⟨s0, s1⟩ | (simp [World.cell?_setCell_far, hne, s0, s1]; done) | (((repeat' apply And.intro); all_goals (refine bel_keep (w := w9) ?_ (by assumption); repeat' (first | exact Below.refl _ _ | refine Below.drew ?_ | refine Below.alloc ?_ (by simp <;> omega) _ | fail))); done) | (((repeat' apply And.intro); all_goals (refine bel_keep (w := wj) ?_ (by assumption); repeat' (first | exact Below.refl _ _ | refine Below.drew ?_ | refine Below.alloc ?_ (by simp <;> omega) _ | fail))); done))) (fun hHeld => ?_)
                  clear hK K
                  (try simp only [Act.put, List.setIfInBounds_toArray, List.set_cons_zero, List.set_cons_succ])
                  (refine wpAnyH_take (i := 11) (oi := ?ox2017) (v := ?vx2017) ?hix2017 ?k1x2017 ?k2x2017 ?k3x2017 ?hQx2017 ?hYx2017 ?hSx2017 ?restx2017; (case hix2017 => (simp only [List.getElem?_toArray, List.getElem?_cons_succ, List.getElem?_cons_zero]; exact rfl)); (case k1x2017 => kernel_rfl); (case k2x2017 => kernel_rfl); (case k3x2017 => kernel_rfl); (case hSx2017 => assumption); (case hYx2017 => (refine Or.inl ⟨rfl, ?hyx2017⟩; intro w hSw; (try dsimp only at hSw); go_simp; (try with_reducible rfl))); (case hQx2017 => exact (fun _ _ _ h => h)); (try simp only [Act.put, List.setIfInBounds_toArray, List.set_cons_zero, List.set_cons_succ]))
                  refine wpAnyH_ready (rs := [8]) (by kernel_rfl) (by simp) ?_
                  refine AllReadyH.cons (o := ?o0x2018) ?hi0x2018 (fun K hK => ?_) AllReadyH.nil
                  (case hi0x2018 => (simp only [List.getElem?_toArray, List.getElem?_cons_succ, List.getElem?_cons_zero]; exact rfl))
                  go_simp
                  refine hK.out _ _ (by (try dsimp only) <;> (first | exact ⟨t0, t1⟩ | exact ⟨s0, s1⟩ | (simp [World.cell?_setCell_far, hne, s0, s1]; done) | (((repeat' apply And.intro); all_goals (refine bel_keep (w := w9) ?_ (by assumption); repeat' (first | exact Below.refl _ _ | refine Below.drew ?_ | refine Below.alloc ?_ (by simp <;> omega) _ | fail))); done) | (((repeat' apply And.intro); all_goals (refine bel_keep (w := wj) ?_ (by assumption); repeat' (first | exact Below.refl _ _ | refine Below.drew ?_ | refine Below.alloc ?_ (by simp <;> omega) _ | fail))); done))) (fun hHeld => ?_)
                  clear hK K
                  (try simp only [Act.put, List.setIfInBounds_toArray, List.set_cons_zero, List.set_cons_succ])
                  refine wpAnyH_ready (rs := [9]) (by kernel_rfl) (by simp) ?_
                  refine AllReadyH.cons (o := ?o0x2019) ?hi0x2019 (fun K hK => ?_) AllReadyH.nil
                  (case hi0x2019 => (simp only [List.getElem?_toArray, List.getElem?_cons_succ, List.getElem?_cons_zero]; exact rfl))
                  go_simp
                  (go_at_call 76; (first | with_reducible refine (greatest_c (rd0 wj)).mono ?_ | with_reducible refine (greatest_c ((rd_drew (rd0 w9)).mono hbj)).mono ?_); rintro e w5 ⟨rfl, h5⟩; have hb5 : Below w9.heap.size w9 w5 := (by rw [← h5]; repeat' (first | exact hb9 | refine Below.drew ?_ | refine Below.alloc ?_ (by have := hb9.size; first | assumption | (simp; omega)) _)); have hg5 := HG4.out.below hb5 HG4.out.lt; have ht5 := HT4.out.below hb5 HT4.out.lt; have s0 := ht5.cell 0; have s1 := ht5.cell 1; have e2 := hg5.cell 2; have e3 := hg5.cell 3; have e4 := hg5.cell 4; have f2 := hg5.frozen 2; have f3 := hg5.frozen 3; have f4 := hg5.frozen 4; simp at s0 s1 e2 e3 e4)
                  (try go_wp2_with fail)
                  refine hK.out _ _ (by (try dsimp only) <;> (first | exact ⟨t0, t1⟩ | exact ⟨s0, s1⟩ | (simp [World.cell?_setCell_far, hne, s0, s1]; done) | (((repeat' apply And.intro); all_goals (refine bel_keep (w := w9) ?_ (by assumption); repeat' (first | exact Below.refl _ _ | refine Below.drew ?_ | refine Below.alloc ?_ (by simp <;> omega) _ | fail))); done) | (((repeat' apply And.intro); all_goals (refine bel_keep (w := wj) ?_ (by assumption); repeat' (first | exact Below.refl _ _ | refine Below.drew ?_ | refine Below.alloc ?_ (by simp <;> omega) _ | fail))); done))) (fun hHeld => ?_)
                  clear hK K
                  (try simp only [Act.put, List.setIfInBounds_toArray, List.set_cons_zero, List.set_cons_succ])
                  refine wpAnyH_ready (rs := [12]) (by kernel_rfl) (by simp) ?_
                  refine AllReadyH.cons (o := ?o0x2020) ?hi0x2020 (fun K hK => ?_) AllReadyH.nil
                  (case hi0x2020 => (simp only [List.getElem?_toArray, List.getElem?_cons_succ, List.getElem?_cons_zero]; exact rfl))
                  go_simp
                  refine hK.out _ _ (by (try dsimp only) <;> (first | exact ⟨t0, t1⟩ | exact ⟨s0, s1⟩ | (simp [World.cell?_setCell_far, hne, s0, s1]; done) | (((repeat' apply And.intro); all_goals (refine bel_keep (w := w9) ?_ (by assumption); repeat' (first | exact Below.refl _ _ | refine Below.drew ?_ | refine Below.alloc ?_ (by simp <;> omega) _ | fail))); done) | (((repeat' apply And.intro); all_goals (refine bel_keep (w := wj) ?_ (by assumption); repeat' (first | exact Below.refl _ _ | refine Below.drew ?_ | refine Below.alloc ?_ (by simp <;> omega) _ | fail))); done))) (fun hHeld => ?_)
                  clear hK K
                  (try simp only [Act.put, List.setIfInBounds_toArray, List.set_cons_zero, List.set_cons_succ])
                  (refine wpAnyH_take (i := 13) (oi := ?ox2021) (v := ?vx2021) ?hix2021 ?k1x2021 ?k2x2021 ?k3x2021 ?hQx2021 ?hYx2021 ?hSx2021 ?restx2021; (case hix2021 => (simp only [List.getElem?_toArray, List.getElem?_cons_succ, List.getElem?_cons_zero]; exact rfl)); (case k1x2021 => kernel_rfl); (case k2x2021 => kernel_rfl); (case k3x2021 => kernel_rfl); (case hSx2021 => assumption); (case hYx2021 => (refine Or.inl ⟨rfl, ?hyx2021⟩; intro w hSw; (try dsimp only at hSw); go_simp; (try with_reducible rfl))); (case hQx2021 => exact (fun _ _ _ h => h)); (try simp only [Act.put, List.setIfInBounds_toArray, List.set_cons_zero, List.set_cons_succ]))
                  refine wpAnyH_ready (rs := [14]) (by kernel_rfl) (by simp) ?_
                  refine AllReadyH.cons (o := ?o0x2022) ?hi0x2022 (fun K hK => ?_) AllReadyH.nil
                  (case hi0x2022 => (simp only [List.getElem?_toArray, List.getElem?_cons_succ, List.getElem?_cons_zero]; exact rfl))
                  go_simp
                  refine hK.out _ _ (by (try dsimp only) <;> (first | exact ⟨t0, t1⟩ | exact ⟨s0, s1⟩ | (simp [World.cell?_setCell_far, hne, s0, s1]; done) | (((repeat' apply And.intro); all_goals (refine bel_keep (w := w9) ?_ (by assumption); repeat' (first | exact Below.refl _ _ | refine Below.drew ?_ | refine Below.alloc ?_ (by simp <;> omega) _ | fail))); done) | (((repeat' apply And.intro); all_goals (refine bel_keep (w := wj) ?_ (by assumption); repeat' (first | exact Below.refl _ _ | refine Below.drew ?_ | refine Below.alloc ?_ (by simp <;> omega) _ | fail))); done))) (fun hHeld => ?_)
                  clear hK K
                  (try simp only [Act.put, List.setIfInBounds_toArray, List.set_cons_zero, List.set_cons_succ])
                  (try refine wpAnyH_done (by kernel_rfl) ?_ _)
                  dsimp only [OnlyN]
                  gi_wp2
                  gi_meet
                  have hbw := below_tr HB9.out hb5
                  exact ⟨((hbw.setCell (by simp; omega) _).setCell (by simp; omega) _).setCell (by simp; omega) _, ((hg5.set_ 2 (.int .i64 J1)).set_ 3 (.int .i64 J2)).set_ 4 (.int .i64 (max M C3))⟩
                · skip
                  go_simp
                  refine hK.out _ _ (by (try dsimp only) <;> (first | exact ⟨t0, t1⟩ | exact ⟨s0, s1⟩ | (simp [World.cell?_setCell_far, hne, s0, s1]; done) | (((repeat' apply And.intro); all_goals (refine bel_keep (w := w9) ?_ (by assumption); repeat' (first | exact Below.refl _ _ | refine Below.drew ?_ | refine Below.alloc ?_ (by simp <;> omega) _ | fail))); done) | (((repeat' apply And.intro); all_goals (refine bel_keep (w := wj) ?_ (by assumption); repeat' (first | exact Below.refl _ _ | refine Below.drew ?_ | refine Below.alloc ?_ (by simp <;> omega) _ | fail))); done))) (fun hHeld => ?_)
                  clear hK K
                  (try simp only [Act.put, List.setIfInBounds_toArray, List.set_cons_zero, List.set_cons_succ])
                  refine wpAnyH_ready (rs := [4]) (by kernel_rfl) (by simp) ?_
                  refine AllReadyH.cons (o := ?o0x2023) ?hi0x2023 (fun K hK => ?_) AllReadyH.nil
                  (case hi0x2023 => (simp only [List.getElem?_toArray, List.getElem?_cons_succ, List.getElem?_cons_zero]; exact rfl))
                  go_simp
                  (go_at_call 65; refine (HJO.out _).mono ?_; rintro e wj ⟨rfl, hbj⟩; have hb9 : Below w9.heap.size w9 wj := below_tr (by repeat' (first | exact Below.refl _ _ | refine Below.drew ?_ | refine Below.alloc ?_ (by simp <;> omega) _)) hbj; have hg5 := HG4.out.below hb9 HG4.out.lt; have ht5 := HT4.out.below hb9 HT4.out.lt; have s0 := ht5.cell 0; have s1 := ht5.cell 1; have e2 := hg5.cell 2; have e3 := hg5.cell 3; have e4 := hg5.cell 4; have f2 := hg5.frozen 2; have f3 := hg5.frozen 3; have f4 := hg5.frozen 4; simp at s0 s1 e2 e3 e4)
                  (try go_wp2_with fail)
                  refine hK.out _ _ (by (try dsimp only) <;> (first | exact ⟨t0, t1⟩ | exact ⟨s0, s1⟩ | (simp [World.cell?_setCell_far, hne, s0, s1]; done) | (((repeat' apply And.intro); all_goals (refine bel_keep (w := w9) ?_ (by assumption); repeat' (first | exact Below.refl _ _ | refine Below.drew ?_ | refine Below.alloc ?_ (by simp <;> omega) _ | fail))); done) | (((repeat' apply And.intro); all_goals (refine bel_keep (w := wj) ?_ (by assumption); repeat' (first | exact Below.refl _ _ | refine Below.drew ?_ | refine Below.alloc ?_ (by simp <;> omega) _ | fail))); done))) (fun hHeld => ?_)
                  clear hK K
                  (try simp only [Act.put, List.setIfInBounds_toArray, List.set_cons_zero, List.set_cons_succ])
                  (refine wpAnyH_take (i := 11) (oi := ?ox2024) (v := ?vx2024) ?hix2024 ?k1x2024 ?k2x2024 ?k3x2024 ?hQx2024 ?hYx2024 ?hSx2024 ?restx2024; (case hix2024 => (simp only [List.getElem?_toArray, List.getElem?_cons_succ, List.getElem?_cons_zero]; exact rfl)); (case k1x2024 => kernel_rfl); (case k2x2024 => kernel_rfl); (case k3x2024 => kernel_rfl); (case hSx2024 => assumption); (case hYx2024 => (refine Or.inl ⟨rfl, ?hyx2024⟩; intro w hSw; (try dsimp only at hSw); go_simp; (try with_reducible rfl))); (case hQx2024 => exact (fun _ _ _ h => h)); (try simp only [Act.put, List.setIfInBounds_toArray, List.set_cons_zero, List.set_cons_succ]))
                  refine wpAnyH_ready (rs := [9]) (by kernel_rfl) (by simp) ?_
                  refine AllReadyH.cons (o := ?o0x2025) ?hi0x2025 (fun K hK => ?_) AllReadyH.nil
                  (case hi0x2025 => (simp only [List.getElem?_toArray, List.getElem?_cons_succ, List.getElem?_cons_zero]; exact rfl))
                  go_simp
                  (go_at_call 76; (first | with_reducible refine (greatest_c (rd0 wj)).mono ?_ | with_reducible refine (greatest_c ((rd_drew (rd0 w9)).mono hbj)).mono ?_); rintro e w5 ⟨rfl, h5⟩; have hb5 : Below w9.heap.size w9 w5 := (by rw [← h5]; repeat' (first | exact hb9 | refine Below.drew ?_ | refine Below.alloc ?_ (by have := hb9.size; first | assumption | (simp; omega)) _)); have hg5 := HG4.out.below hb5 HG4.out.lt; have ht5 := HT4.out.below hb5 HT4.out.lt; have s0 := ht5.cell 0; have s1 := ht5.cell 1; have e2 := hg5.cell 2; have e3 := hg5.cell 3; have e4 := hg5.cell 4; have f2 := hg5.frozen 2; have f3 := hg5.frozen 3; have f4 := hg5.frozen 4; simp at s0 s1 e2 e3 e4)
                  (try go_wp2_with fail)
                  refine hK.out _ _ (by (try dsimp only) <;> (first | exact ⟨t0, t1⟩ | exact ⟨s0, s1⟩ | (simp [World.cell?_setCell_far, hne, s0, s1]; done) | (((repeat' apply And.intro); all_goals (refine bel_keep (w := w9) ?_ (by assumption); repeat' (first | exact Below.refl _ _ | refine Below.drew ?_ | refine Below.alloc ?_ (by simp <;> omega) _ | fail))); done) | (((repeat' apply And.intro); all_goals (refine bel_keep (w := wj) ?_ (by assumption); repeat' (first | exact Below.refl _ _ | refine Below.drew ?_ | refine Below.alloc ?_ (by simp <;> omega) _ | fail))); done))) (fun hHeld => ?_)
                  clear hK K
                  (try simp only [Act.put, List.setIfInBounds_toArray, List.set_cons_zero, List.set_cons_succ])
                  refine wpAnyH_ready (rs := [12]) (by kernel_rfl) (by simp) ?_
                  refine AllReadyH.cons (o := ?o0x2026) ?hi0x2026 (fun K hK => ?_) AllReadyH.nil
                  (case hi0x2026 => (simp only [List.getElem?_toArray, List.getElem?_cons_succ, List.getElem?_cons_zero]; exact rfl))
                  go_simp
                  refine hK.out _ _ (by (try dsimp only) <;> (first | exact ⟨t0, t1⟩ | exact ⟨s0, s1⟩ | (simp [World.cell?_setCell_far, hne, s0, s1]; done) | (((repeat' apply And.intro); all_goals (refine bel_keep (w := w9) ?_ (by assumption); repeat' (first | exact Below.refl _ _ | refine Below.drew ?_ | refine Below.alloc ?_ (by simp <;> omega) _ | fail))); done) | (((repeat' apply And.intro); all_goals (refine bel_keep (w := wj) ?_ (by assumption); repeat' (first | exact Below.refl _ _ | refine Below.drew ?_ | refine Below.alloc ?_ (by simp <;> omega) _ | fail))); done))) (fun hHeld => ?_)
                  clear hK K
                  (try simp only [Act.put, List.setIfInBounds_toArray, List.set_cons_zero, List.set_cons_succ])
                  (refine wpAnyH_take (i := 13) (oi := ?ox2027) (v := ?vx2027) ?hix2027 ?k1x2027 ?k2x2027 ?k3x2027 ?hQx2027 ?hYx2027 ?hSx2027 ?restx2027; (case hix2027 => (simp only [List.getElem?_toArray, List.getElem?_cons_succ, List.getElem?_cons_zero]; exact rfl)); (case k1x2027 => kernel_rfl); (case k2x2027 => kernel_rfl); (case k3x2027 => kernel_rfl); (case hSx2027 => assumption); (case hYx2027 => (refine Or.inl ⟨rfl, ?hyx2027⟩; intro w hSw; (try dsimp only at hSw); go_simp; (try with_reducible rfl))); (case hQx2027 => exact (fun _ _ _ h => h)); (try simp only [Act.put, List.setIfInBounds_toArray, List.set_cons_zero, List.set_cons_succ]))
                  refine wpAnyH_ready (rs := [14]) (by kernel_rfl) (by simp) ?_
                  refine AllReadyH.cons (o := ?o0x2028) ?hi0x2028 (fun K hK => ?_) AllReadyH.nil
                  (case hi0x2028 => (simp only [List.getElem?_toArray, List.getElem?_cons_succ, List.getElem?_cons_zero]; exact rfl))
                  go_simp
                  refine hK.out _ _ (by (try dsimp only) <;> (first | exact ⟨t0, t1⟩ | exact ⟨s0, s1⟩ | (simp [World.cell?_setCell_far, hne, s0, s1]; done) | (((repeat' apply And.intro); all_goals (refine bel_keep (w := w9) ?_ (by assumption); repeat' (first | exact Below.refl _ _ | refine Below.drew ?_ | refine Below.alloc ?_ (by simp <;> omega) _ | fail))); done) | (((repeat' apply And.intro); all_goals (refine bel_keep (w := wj) ?_ (by assumption); repeat' (first | exact Below.refl _ _ | refine Below.drew ?_ | refine Below.alloc ?_ (by simp <;> omega) _ | fail))); done))) (fun hHeld => ?_)
                  clear hK K
                  (try simp only [Act.put, List.setIfInBounds_toArray, List.set_cons_zero, List.set_cons_succ])
                  (try refine wpAnyH_done (by kernel_rfl) ?_ _)
                  dsimp only [OnlyN]
                  gi_wp2
                  gi_meet
                  have hbw := below_tr HB9.out hb5
                  exact ⟨((hbw.setCell (by simp; omega) _).setCell (by simp; omega) _).setCell (by simp; omega) _, ((hg5.set_ 2 (.int .i64 J1)).set_ 3 (.int .i64 J2)).set_ 4 (.int .i64 (max M C3))⟩
            · skip
              go_simp
              refine hK.out _ _ (by (try dsimp only) <;> (first | exact ⟨t0, t1⟩ | exact ⟨s0, s1⟩ | (simp [World.cell?_setCell_far, hne, s0, s1]; done) | (((repeat' apply And.intro); all_goals (refine bel_keep (w := w9) ?_ (by assumption); repeat' (first | exact Below.refl _ _ | refine Below.drew ?_ | refine Below.alloc ?_ (by simp <;> omega) _ | fail))); done) | (((repeat' apply And.intro); all_goals (refine bel_keep (w := wj) ?_ (by assumption); repeat' (first | exact Below.refl _ _ | refine Below.drew ?_ | refine Below.alloc ?_ (by simp <;> omega) _ | fail))); done))) (fun hHeld => ?_)
              clear hK K
              (try simp only [Act.put, List.setIfInBounds_toArray, List.set_cons_zero, List.set_cons_succ])
              refine wpAnyH_ready (rs := [2, 8]) (by kernel_rfl) (by simp) ?_
              refine AllReadyH.cons (o := ?o0x2029) ?hi0x2029 (fun K hK => ?_) (AllReadyH.cons (o := ?o1x2029) ?hi1x2029 (fun K hK => ?_) AllReadyH.nil)
              (case hi0x2029 => (simp only [List.getElem?_toArray, List.getElem?_cons_succ, List.getElem?_cons_zero]; exact rfl))
              (case hi1x2029 => (simp only [List.getElem?_toArray, List.getElem?_cons_succ, List.getElem?_cons_zero]; exact rfl))
              · skip
                go_simp
                refine hK.out _ _ (by (try dsimp only) <;> (first | exact ⟨t0, t1⟩ | exact ⟨s0, s1⟩ | (simp [World.cell?_setCell_far, hne, s0, s1]; done) | (((repeat' apply And.intro); all_goals (refine bel_keep (w := w9) ?_ (by assumption); repeat' (first | exact Below.refl _ _ | refine Below.drew ?_ | refine Below.alloc ?_ (by simp <;> omega) _ | fail))); done) | (((repeat' apply And.intro); all_goals (refine bel_keep (w := wj) ?_ (by assumption); repeat' (first | exact Below.refl _ _ | refine Below.drew ?_ | refine Below.alloc ?_ (by simp <;> omega) _ | fail))); done))) (fun hHeld => ?_)
                clear hK K
                (try simp only [Act.put, List.setIfInBounds_toArray, List.set_cons_zero, List.set_cons_succ])
                refine wpAnyH_ready (rs := [4, 8]) (by kernel_rfl) (by simp) ?_
                refine AllReadyH.cons (o := ?o0x2030) ?hi0x2030 (fun K hK => ?_) (AllReadyH.cons (o := ?o1x2030) ?hi1x2030 (fun K hK => ?_) AllReadyH.nil)
                (case hi0x2030 => (simp only [List.getElem?_toArray, List.getElem?_cons_succ, List.getElem?_cons_zero]; exact rfl))
                (case hi1x2030 => (simp only [List.getElem?_toArray, List.getElem?_cons_succ, List.getElem?_cons_zero]; exact rfl))
                · skip
                  go_simp
                  (go_at_call 65; refine (HJO.out _).mono ?_; rintro e wj ⟨rfl, hbj⟩; have hb9 : Below w9.heap.size w9 wj := below_tr (by repeat' (first | exact Below.refl _ _ | refine Below.drew ?_ | refine Below.alloc ?_ (by simp <;> omega) _)) hbj; have hg5 := HG4.out.below hb9 HG4.out.lt; have ht5 := HT4.out.below hb9 HT4.out.lt; have s0 := ht5.cell 0; have s1 := ht5.cell 1; have e2 := hg5.cell 2; have e3 := hg5.cell 3; have e4 := hg5.cell 4; have f2 := hg5.frozen 2; have f3 := hg5.frozen 3; have f4 := hg5.frozen 4; simp at s0 s1 e2 e3 e4)
                  (try go_wp2_with fail)
                  refine hK.out _ _ (by (try dsimp only) <;> (first | exact ⟨t0, t1⟩ | exact ⟨s0, s1⟩ | (simp [World.cell?_setCell_far, hne, s0, s1]; done) | (((repeat' apply And.intro); all_goals (refine bel_keep (w := w9) ?_ (by assumption); repeat' (first | exact Below.refl _ _ | refine Below.drew ?_ | refine Below.alloc ?_ (by simp <;> omega) _ | fail))); done) | (((repeat' apply And.intro); all_goals (refine bel_keep (w := wj) ?_ (by assumption); repeat' (first | exact Below.refl _ _ | refine Below.drew ?_ | refine Below.alloc ?_ (by simp <;> omega) _ | fail))); done))) (fun hHeld => ?_)
                  clear hK K
                  (try simp only [Act.put, List.setIfInBounds_toArray, List.set_cons_zero, List.set_cons_succ])
                  (refine wpAnyH_take (i := 11) (oi := ?ox2031) (v := ?vx2031) ?hix2031 ?k1x2031 ?k2x2031 ?k3x2031 ?hQx2031 ?hYx2031 ?hSx2031 ?restx2031; (case hix2031 => (simp only [List.getElem?_toArray, List.getElem?_cons_succ, List.getElem?_cons_zero]; exact rfl)); (case k1x2031 => kernel_rfl); (case k2x2031 => kernel_rfl); (case k3x2031 => kernel_rfl); (case hSx2031 => assumption); (case hYx2031 => (refine Or.inl ⟨rfl, ?hyx2031⟩; intro w hSw; (try dsimp only at hSw); go_simp; (try with_reducible rfl))); (case hQx2031 => exact (fun _ _ _ h => h)); (try simp only [Act.put, List.setIfInBounds_toArray, List.set_cons_zero, List.set_cons_succ]))
                  refine wpAnyH_ready (rs := [8]) (by kernel_rfl) (by simp) ?_
                  refine AllReadyH.cons (o := ?o0x2032) ?hi0x2032 (fun K hK => ?_) AllReadyH.nil
                  (case hi0x2032 => (simp only [List.getElem?_toArray, List.getElem?_cons_succ, List.getElem?_cons_zero]; exact rfl))
                  go_simp
                  refine hK.out _ _ (by (try dsimp only) <;> (first | exact ⟨t0, t1⟩ | exact ⟨s0, s1⟩ | (simp [World.cell?_setCell_far, hne, s0, s1]; done) | (((repeat' apply And.intro); all_goals (refine bel_keep (w := w9) ?_ (by assumption); repeat' (first | exact Below.refl _ _ | refine Below.drew ?_ | refine Below.alloc ?_ (by simp <;> omega) _ | fail))); done) | (((repeat' apply And.intro); all_goals (refine bel_keep (w := wj) ?_ (by assumption); repeat' (first | exact Below.refl _ _ | refine Below.drew ?_ | refine Below.alloc ?_ (by simp <;> omega) _ | fail))); done))) (fun hHeld => ?_)
                  clear hK K
                  (try simp only [Act.put, List.setIfInBounds_toArray, List.set_cons_zero, List.set_cons_succ])
                  refine wpAnyH_ready (rs := [9]) (by kernel_rfl) (by simp) ?_
                  refine AllReadyH.cons (o := ?o0x2033) ?hi0x2033 (fun K hK => ?_) AllReadyH.nil
                  (case hi0x2033 => (simp only [List.getElem?_toArray, List.getElem?_cons_succ, List.getElem?_cons_zero]; exact rfl))
                  go_simp
                  (go_at_call 76; (first | with_reducible refine (greatest_c (rd0 wj)).mono ?_ | with_reducible refine (greatest_c ((rd_drew (rd0 w9)).mono hbj)).mono ?_); rintro e w5 ⟨rfl, h5⟩; have hb5 : Below w9.heap.size w9 w5 := (by rw [← h5]; repeat' (first | exact hb9 | refine Below.drew ?_ | refine Below.alloc ?_ (by have := hb9.size; first | assumption | (simp; omega)) _)); have hg5 := HG4.out.below hb5 HG4.out.lt; have ht5 := HT4.out.below hb5 HT4.out.lt; have s0 := ht5.cell 0; have s1 := ht5.cell 1; have e2 := hg5.cell 2; have e3 := hg5.cell 3; have e4 := hg5.cell 4; have f2 := hg5.frozen 2; have f3 := hg5.frozen 3; have f4 := hg5.frozen 4; simp at s0 s1 e2 e3 e4)
                  (try go_wp2_with fail)
                  refine hK.out _ _ (by (try dsimp only) <;> (first | exact ⟨t0, t1⟩ | exact ⟨s0, s1⟩ | (simp [World.cell?_setCell_far, hne, s0, s1]; done) | (((repeat' apply And.intro); all_goals (refine bel_keep (w := w9) ?_ (by assumption); repeat' (first | exact Below.refl _ _ | refine Below.drew ?_ | refine Below.alloc ?_ (by simp <;> omega) _ | fail))); done) | (((repeat' apply And.intro); all_goals (refine bel_keep (w := wj) ?_ (by assumption); repeat' (first | exact Below.refl _ _ | refine Below.drew ?_ | refine Below.alloc ?_ (by simp <;> omega) _ | fail))); done))) (fun hHeld => ?_)
                  clear hK K
                  (try simp only [Act.put, List.setIfInBounds_toArray, List.set_cons_zero, List.set_cons_succ])
                  refine wpAnyH_ready (rs := [12]) (by kernel_rfl) (by simp) ?_
                  refine AllReadyH.cons (o := ?o0x2034) ?hi0x2034 (fun K hK => ?_) AllReadyH.nil
                  (case hi0x2034 => (simp only [List.getElem?_toArray, List.getElem?_cons_succ, List.getElem?_cons_zero]; exact rfl))
                  go_simp
                  refine hK.out _ _ (by (try dsimp only) <;> (first | exact ⟨t0, t1⟩ | exact ⟨s0, s1⟩ | (simp [World.cell?_setCell_far, hne, s0, s1]; done) | (((repeat' apply And.intro); all_goals (refine bel_keep (w := w9) ?_ (by assumption); repeat' (first | exact Below.refl _ _ | refine Below.drew ?_ | refine Below.alloc ?_ (by simp <;> omega) _ | fail))); done) | (((repeat' apply And.intro); all_goals (refine bel_keep (w := wj) ?_ (by assumption); repeat' (first | exact Below.refl _ _ | refine Below.drew ?_ | refine Below.alloc ?_ (by simp <;> omega) _ | fail))); done))) (fun hHeld => ?_)
                  clear hK K
                  (try simp only [Act.put, List.setIfInBounds_toArray, List.set_cons_zero, List.set_cons_succ])
                  (refine wpAnyH_take (i := 13) (oi := ?ox2035) (v := ?vx2035) ?hix2035 ?k1x2035 ?k2x2035 ?k3x2035 ?hQx2035 ?hYx2035 ?hSx2035 ?restx2035; (case hix2035 => (simp only [List.getElem?_toArray, List.getElem?_cons_succ, List.getElem?_cons_zero]; exact rfl)); (case k1x2035 => kernel_rfl); (case k2x2035 => kernel_rfl); (case k3x2035 => kernel_rfl); (case hSx2035 => assumption); (case hYx2035 => (refine Or.inl ⟨rfl, ?hyx2035⟩; intro w hSw; (try dsimp only at hSw); go_simp; (try with_reducible rfl))); (case hQx2035 => exact (fun _ _ _ h => h)); (try simp only [Act.put, List.setIfInBounds_toArray, List.set_cons_zero, List.set_cons_succ]))
                  refine wpAnyH_ready (rs := [14]) (by kernel_rfl) (by simp) ?_
                  refine AllReadyH.cons (o := ?o0x2036) ?hi0x2036 (fun K hK => ?_) AllReadyH.nil
                  (case hi0x2036 => (simp only [List.getElem?_toArray, List.getElem?_cons_succ, List.getElem?_cons_zero]; exact rfl))
                  go_simp
                  refine hK.out _ _ (by (try dsimp only) <;> (first | exact ⟨t0, t1⟩ | exact ⟨s0, s1⟩ | (simp [World.cell?_setCell_far, hne, s0, s1]; done) | (((repeat' apply And.intro); all_goals (refine bel_keep (w := w9) ?_ (by assumption); repeat' (first | exact Below.refl _ _ | refine Below.drew ?_ | refine Below.alloc ?_ (by simp <;> omega) _ | fail))); done) | (((repeat' apply And.intro); all_goals (refine bel_keep (w := wj) ?_ (by assumption); repeat' (first | exact Below.refl _ _ | refine Below.drew ?_ | refine Below.alloc ?_ (by simp <;> omega) _ | fail))); done))) (fun hHeld => ?_)
                  clear hK K
                  (try simp only [Act.put, List.setIfInBounds_toArray, List.set_cons_zero, List.set_cons_succ])
                  (try refine wpAnyH_done (by kernel_rfl) ?_ _)
                  dsimp only [OnlyN]
                  gi_wp2
                  gi_meet
                  have hbw := below_tr HB9.out hb5
                  exact ⟨((hbw.setCell (by simp; omega) _).setCell (by simp; omega) _).setCell (by simp; omega) _, ((hg5.set_ 2 (.int .i64 J1)).set_ 3 (.int .i64 J2)).set_ 4 (.int .i64 (max M C3))⟩
                · skip
                  go_simp
                  refine hK.out _ _ (by (try dsimp only) <;> (first | exact ⟨t0, t1⟩ | exact ⟨s0, s1⟩ | (simp [World.cell?_setCell_far, hne, s0, s1]; done) | (((repeat' apply And.intro); all_goals (refine bel_keep (w := w9) ?_ (by assumption); repeat' (first | exact Below.refl _ _ | refine Below.drew ?_ | refine Below.alloc ?_ (by simp <;> omega) _ | fail))); done) | (((repeat' apply And.intro); all_goals (refine bel_keep (w := wj) ?_ (by assumption); repeat' (first | exact Below.refl _ _ | refine Below.drew ?_ | refine Below.alloc ?_ (by simp <;> omega) _ | fail))); done))) (fun hHeld => ?_)
                  clear hK K
                  (try simp only [Act.put, List.setIfInBounds_toArray, List.set_cons_zero, List.set_cons_succ])
                  refine wpAnyH_ready (rs := [4]) (by kernel_rfl) (by simp) ?_
                  refine AllReadyH.cons (o := ?o0x2037) ?hi0x2037 (fun K hK => ?_) AllReadyH.nil
                  (case hi0x2037 => (simp only [List.getElem?_toArray, List.getElem?_cons_succ, List.getElem?_cons_zero]; exact rfl))
                  go_simp
                  (go_at_call 65; refine (HJO.out _).mono ?_; rintro e wj ⟨rfl, hbj⟩; have hb9 : Below w9.heap.size w9 wj := below_tr (by repeat' (first | exact Below.refl _ _ | refine Below.drew ?_ | refine Below.alloc ?_ (by simp <;> omega) _)) hbj; have hg5 := HG4.out.below hb9 HG4.out.lt; have ht5 := HT4.out.below hb9 HT4.out.lt; have s0 := ht5.cell 0; have s1 := ht5.cell 1; have e2 := hg5.cell 2; have e3 := hg5.cell 3; have e4 := hg5.cell 4; have f2 := hg5.frozen 2; have f3 := hg5.frozen 3; have f4 := hg5.frozen 4; simp at s0 s1 e2 e3 e4)
                  (try go_wp2_with fail)
                  refine hK.out _ _ (by (try dsimp only) <;> (first | exact ⟨t0, t1⟩ | exact ⟨s0, s1⟩ | (simp [World.cell?_setCell_far, hne, s0, s1]; done) | (((repeat' apply And.intro); all_goals (refine bel_keep (w := w9) ?_ (by assumption); repeat' (first | exact Below.refl _ _ | refine Below.drew ?_ | refine Below.alloc ?_ (by simp <;> omega) _ | fail))); done) | (((repeat' apply And.intro); all_goals (refine bel_keep (w := wj) ?_ (by assumption); repeat' (first | exact Below.refl _ _ | refine Below.drew ?_ | refine Below.alloc ?_ (by simp <;> omega) _ | fail))); done))) (fun hHeld => ?_)
                  clear hK K
                  (try simp only [Act.put, List.setIfInBounds_toArray, List.set_cons_zero, List.set_cons_succ])
                  (refine wpAnyH_take (i := 11) (oi := ?ox2038) (v := ?vx2038) ?hix2038 ?k1x2038 ?k2x2038 ?k3x2038 ?hQx2038 ?hYx2038 ?hSx2038 ?restx2038; (case hix2038 => (simp only [List.getElem?_toArray, List.getElem?_cons_succ, List.getElem?_cons_zero]; exact rfl)); (case k1x2038 => kernel_rfl); (case k2x2038 => kernel_rfl); (case k3x2038 => kernel_rfl); (case hSx2038 => assumption); (case hYx2038 => (refine Or.inl ⟨rfl, ?hyx2038⟩; intro w hSw; (try dsimp only at hSw); go_simp; (try with_reducible rfl))); (case hQx2038 => exact (fun _ _ _ h => h)); (try simp only [Act.put, List.setIfInBounds_toArray, List.set_cons_zero, List.set_cons_succ]))
                  refine wpAnyH_ready (rs := [9]) (by kernel_rfl) (by simp) ?_
                  refine AllReadyH.cons (o := ?o0x2039) ?hi0x2039 (fun K hK => ?_) AllReadyH.nil
                  (case hi0x2039 => (simp only [List.getElem?_toArray, List.getElem?_cons_succ, List.getElem?_cons_zero]; exact rfl))
                  go_simp
                  (go_at_call 76; (first | with_reducible refine (greatest_c (rd0 wj)).mono ?_ | with_reducible refine (greatest_c ((rd_drew (rd0 w9)).mono hbj)).mono ?_); rintro e w5 ⟨rfl, h5⟩; have hb5 : Below w9.heap.size w9 w5 := (by rw [← h5]; repeat' (first | exact hb9 | refine Below.drew ?_ | refine Below.alloc ?_ (by have := hb9.size; first | assumption | (simp; omega)) _)); have hg5 := HG4.out.below hb5 HG4.out.lt; have ht5 := HT4.out.below hb5 HT4.out.lt; have s0 := ht5.cell 0; have s1 := ht5.cell 1; have e2 := hg5.cell 2; have e3 := hg5.cell 3; have e4 := hg5.cell 4; have f2 := hg5.frozen 2; have f3 := hg5.frozen 3; have f4 := hg5.frozen 4; simp at s0 s1 e2 e3 e4)
                  (try go_wp2_with fail)
                  refine hK.out _ _ (by (try dsimp only) <;> (first | exact ⟨t0, t1⟩ | exact ⟨s0, s1⟩ | (simp [World.cell?_setCell_far, hne, s0, s1]; done) | (((repeat' apply And.intro); all_goals (refine bel_keep (w := w9) ?_ (by assumption); repeat' (first | exact Below.refl _ _ | refine Below.drew ?_ | refine Below.alloc ?_ (by simp <;> omega) _ | fail))); done) | (((repeat' apply And.intro); all_goals (refine bel_keep (w := wj) ?_ (by assumption); repeat' (first | exact Below.refl _ _ | refine Below.drew ?_ | refine Below.alloc ?_ (by simp <;> omega) _ | fail))); done))) (fun hHeld => ?_)
                  clear hK K
                  (try simp only [Act.put, List.setIfInBounds_toArray, List.set_cons_zero, List.set_cons_succ])
                  refine wpAnyH_ready (rs := [12]) (by kernel_rfl) (by simp) ?_
                  refine AllReadyH.cons (o := ?o0x2040) ?hi0x2040 (fun K hK => ?_) AllReadyH.nil
                  (case hi0x2040 => (simp only [List.getElem?_toArray, List.getElem?_cons_succ, List.getElem?_cons_zero]; exact rfl))
                  go_simp
                  refine hK.out _ _ (by (try dsimp only) <;> (first | exact ⟨t0, t1⟩ | exact ⟨s0, s1⟩ | (simp [World.cell?_setCell_far, hne, s0, s1]; done) | (((repeat' apply And.intro); all_goals (refine bel_keep (w := w9) ?_ (by assumption); repeat' (first | exact Below.refl _ _ | refine Below.drew ?_ | refine Below.alloc ?_ (by simp <;> omega) _ | fail))); done) | (((repeat' apply And.intro); all_goals (refine bel_keep (w := wj) ?_ (by assumption); repeat' (first | exact Below.refl _ _ | refine Below.drew ?_ | refine Below.alloc ?_ (by simp <;> omega) _ | fail))); done))) (fun hHeld => ?_)
                  clear hK K
                  (try simp only [Act.put, List.setIfInBounds_toArray, List.set_cons_zero, List.set_cons_succ])
                  (refine wpAnyH_take (i := 13) (oi := ?ox2041) (v := ?vx2041) ?hix2041 ?k1x2041 ?k2x2041 ?k3x2041 ?hQx2041 ?hYx2041 ?hSx2041 ?restx2041; (case hix2041 => (simp only [List.getElem?_toArray, List.getElem?_cons_succ, List.getElem?_cons_zero]; exact rfl)); (case k1x2041 => kernel_rfl); (case k2x2041 => kernel_rfl); (case k3x2041 => kernel_rfl); (case hSx2041 => assumption); (case hYx2041 => (refine Or.inl ⟨rfl, ?hyx2041⟩; intro w hSw; (try dsimp only at hSw); go_simp; (try with_reducible rfl))); (case hQx2041 => exact (fun _ _ _ h => h)); (try simp only [Act.put, List.setIfInBounds_toArray, List.set_cons_zero, List.set_cons_succ]))
                  refine wpAnyH_ready (rs := [14]) (by kernel_rfl) (by simp) ?_
                  refine AllReadyH.cons (o := ?o0x2042) ?hi0x2042 (fun K hK => ?_) AllReadyH.nil
                  (case hi0x2042 => (simp only [List.getElem?_toArray, List.getElem?_cons_succ, List.getElem?_cons_zero]; exact rfl))
                  go_simp
                  refine hK.out _ _ (by (try dsimp only) <;> (first | exact ⟨t0, t1⟩ | exact ⟨s0, s1⟩ | (simp [World.cell?_setCell_far, hne, s0, s1]; done) | (((repeat' apply And.intro); all_goals (refine bel_keep (w := w9) ?_ (by assumption); repeat' (first | exact Below.refl _ _ | refine Below.drew ?_ | refine Below.alloc ?_ (by simp <;> omega) _ | fail))); done) | (((repeat' apply And.intro); all_goals (refine bel_keep (w := wj) ?_ (by assumption); repeat' (first | exact Below.refl _ _ | refine Below.drew ?_ | refine Below.alloc ?_ (by simp <;> omega) _ | fail))); done))) (fun hHeld => ?_)
                  clear hK K
                  (try simp only [Act.put, List.setIfInBounds_toArray, List.set_cons_zero, List.set_cons_succ])
                  (try refine wpAnyH_done (by kernel_rfl) ?_ _)
                  dsimp only [OnlyN]
                  gi_wp2
                  gi_meet
                  have hbw := below_tr HB9.out hb5
                  exact ⟨((hbw.setCell (by simp; omega) _).setCell (by simp; omega) _).setCell (by simp; omega) _, ((hg5.set_ 2 (.int .i64 J1)).set_ 3 (.int .i64 J2)).set_ 4 (.int .i64 (max M C3))⟩
              · skip
                go_simp
                refine hK.out _ _ (by (try dsimp only) <;> (first | exact ⟨t0, t1⟩ | exact ⟨s0, s1⟩ | (simp [World.cell?_setCell_far, hne, s0, s1]; done) | (((repeat' apply And.intro); all_goals (refine bel_keep (w := w9) ?_ (by assumption); repeat' (first | exact Below.refl _ _ | refine Below.drew ?_ | refine Below.alloc ?_ (by simp <;> omega) _ | fail))); done) | (((repeat' apply And.intro); all_goals (refine bel_keep (w := wj) ?_ (by assumption); repeat' (first | exact Below.refl _ _ | refine Below.drew ?_ | refine Below.alloc ?_ (by simp <;> omega) _ | fail))); done))) (fun hHeld => ?_)
                clear hK K
                (try simp only [Act.put, List.setIfInBounds_toArray, List.set_cons_zero, List.set_cons_succ])
                refine wpAnyH_ready (rs := [2]) (by kernel_rfl) (by simp) ?_
                refine AllReadyH.cons (o := ?o0x2043) ?hi0x2043 (fun K hK => ?_) AllReadyH.nil
                (case hi0x2043 => (simp only [List.getElem?_toArray, List.getElem?_cons_succ, List.getElem?_cons_zero]; exact rfl))
                go_simp
                refine hK.out _ _ (by (try dsimp only) <;> (first | exact ⟨t0, t1⟩ | exact ⟨s0, s1⟩ | (simp [World.cell?_setCell_far, hne, s0, s1]; done) | (((repeat' apply And.intro); all_goals (refine bel_keep (w := w9) ?_ (by assumption); repeat' (first | exact Below.refl _ _ | refine Below.drew ?_ | refine Below.alloc ?_ (by simp <;> omega) _ | fail))); done) | (((repeat' apply And.intro); all_goals (refine bel_keep (w := wj) ?_ (by assumption); repeat' (first | exact Below.refl _ _ | refine Below.drew ?_ | refine Below.alloc ?_ (by simp <;> omega) _ | fail))); done))) (fun hHeld => ?_)
                clear hK K
                (try simp only [Act.put, List.setIfInBounds_toArray, List.set_cons_zero, List.set_cons_succ])
                refine wpAnyH_ready (rs := [4]) (by kernel_rfl) (by simp) ?_
                refine AllReadyH.cons (o := ?o0x2044) ?hi0x2044 (fun K hK => ?_) AllReadyH.nil
                (case hi0x2044 => (simp only [List.getElem?_toArray, List.getElem?_cons_succ, List.getElem?_cons_zero]; exact rfl))
                go_simp
                (go_at_call 65; refine (HJO.out _).mono ?_; rintro e wj ⟨rfl, hbj⟩; have hb9 : Below w9.heap.size w9 wj := below_tr (by repeat' (first | exact Below.refl _ _ | refine Below.drew ?_ | refine Below.alloc ?_ (by simp <;> omega) _)) hbj; have hg5 := HG4.out.below hb9 HG4.out.lt; have ht5 := HT4.out.below hb9 HT4.out.lt; have s0 := ht5.cell 0; have s1 := ht5.cell 1; have e2 := hg5.cell 2; have e3 := hg5.cell 3; have e4 := hg5.cell 4; have f2 := hg5.frozen 2; have f3 := hg5.frozen 3; have f4 := hg5.frozen 4; simp at s0 s1 e2 e3 e4)
                (try go_wp2_with fail)
                refine hK.out _ _ (by (try dsimp only) <;> (first | exact ⟨t0, t1⟩ | exact ⟨s0, s1⟩ | (simp [World.cell?_setCell_far, hne, s0, s1]; done) | (((repeat' apply And.intro); all_goals (refine bel_keep (w := w9) ?_ (by assumption); repeat' (first | exact Below.refl _ _ | refine Below.drew ?_ | refine Below.alloc ?_ (by simp <;> omega) _ | fail))); done) | (((repeat' apply And.intro); all_goals (refine bel_keep (w := wj) ?_ (by assumption); repeat' (first | exact Below.refl _ _ | refine Below.drew ?_ | refine Below.alloc ?_ (by simp <;> omega) _ | fail))); done))) (fun hHeld => ?_)
                clear hK K
                (try simp only [Act.put, List.setIfInBounds_toArray, List.set_cons_zero, List.set_cons_succ])
                (refine wpAnyH_take (i := 11) (oi := ?ox2045) (v := ?vx2045) ?hix2045 ?k1x2045 ?k2x2045 ?k3x2045 ?hQx2045 ?hYx2045 ?hSx2045 ?restx2045; (case hix2045 => (simp only [List.getElem?_toArray, List.getElem?_cons_succ, List.getElem?_cons_zero]; exact rfl)); (case k1x2045 => kernel_rfl); (case k2x2045 => kernel_rfl); (case k3x2045 => kernel_rfl); (case hSx2045 => assumption); (case hYx2045 => (refine Or.inl ⟨rfl, ?hyx2045⟩; intro w hSw; (try dsimp only at hSw); go_simp; (try with_reducible rfl))); (case hQx2045 => exact (fun _ _ _ h => h)); (try simp only [Act.put, List.setIfInBounds_toArray, List.set_cons_zero, List.set_cons_succ]))
                refine wpAnyH_ready (rs := [9]) (by kernel_rfl) (by simp) ?_
                refine AllReadyH.cons (o := ?o0x2046) ?hi0x2046 (fun K hK => ?_) AllReadyH.nil
                (case hi0x2046 => (simp only [List.getElem?_toArray, List.getElem?_cons_succ, List.getElem?_cons_zero]; exact rfl))
                go_simp
                (go_at_call 76; (first | with_reducible refine (greatest_c (rd0 wj)).mono ?_ | with_reducible refine (greatest_c ((rd_drew (rd0 w9)).mono hbj)).mono ?_); rintro e w5 ⟨rfl, h5⟩; have hb5 : Below w9.heap.size w9 w5 := (by rw [← h5]; repeat' (first | exact hb9 | refine Below.drew ?_ | refine Below.alloc ?_ (by have := hb9.size; first | assumption | (simp; omega)) _)); have hg5 := HG4.out.below hb5 HG4.out.lt; have ht5 := HT4.out.below hb5 HT4.out.lt; have s0 := ht5.cell 0; have s1 := ht5.cell 1; have e2 := hg5.cell 2; have e3 := hg5.cell 3; have e4 := hg5.cell 4; have f2 := hg5.frozen 2; have f3 := hg5.frozen 3; have f4 := hg5.frozen 4; simp at s0 s1 e2 e3 e4)
                (try go_wp2_with fail)
                refine hK.out _ _ (by (try dsimp only) <;> (first | exact ⟨t0, t1⟩ | exact ⟨s0, s1⟩ | (simp [World.cell?_setCell_far, hne, s0, s1]; done) | (((repeat' apply And.intro); all_goals (refine bel_keep (w := w9) ?_ (by assumption); repeat' (first | exact Below.refl _ _ | refine Below.drew ?_ | refine Below.alloc ?_ (by simp <;> omega) _ | fail))); done) | (((repeat' apply And.intro); all_goals (refine bel_keep (w := wj) ?_ (by assumption); repeat' (first | exact Below.refl _ _ | refine Below.drew ?_ | refine Below.alloc ?_ (by simp <;> omega) _ | fail))); done))) (fun hHeld => ?_)
                clear hK K
                (try simp only [Act.put, List.setIfInBounds_toArray, List.set_cons_zero, List.set_cons_succ])
                refine wpAnyH_ready (rs := [12]) (by kernel_rfl) (by simp) ?_
                refine AllReadyH.cons (o := ?o0x2047) ?hi0x2047 (fun K hK => ?_) AllReadyH.nil
                (case hi0x2047 => (simp only [List.getElem?_toArray, List.getElem?_cons_succ, List.getElem?_cons_zero]; exact rfl))
                go_simp
                refine hK.out _ _ (by (try dsimp only) <;> (first | exact ⟨t0, t1⟩ | exact ⟨s0, s1⟩ | (simp [World.cell?_setCell_far, hne, s0, s1]; done) | (((repeat' apply And.intro); all_goals (refine bel_keep (w := w9) ?_ (by assumption); repeat' (first | exact Below.refl _ _ | refine Below.drew ?_ | refine Below.alloc ?_ (by simp <;> omega) _ | fail))); done) | (((repeat' apply And.intro); all_goals (refine bel_keep (w := wj) ?_ (by assumption); repeat' (first | exact Below.refl _ _ | refine Below.drew ?_ | refine Below.alloc ?_ (by simp <;> omega) _ | fail))); done))) (fun hHeld => ?_)
                clear hK K
                (try simp only [Act.put, List.setIfInBounds_toArray, List.set_cons_zero, List.set_cons_succ])
                (refine wpAnyH_take (i := 13) (oi := ?ox2048) (v := ?vx2048) ?hix2048 ?k1x2048 ?k2x2048 ?k3x2048 ?hQx2048 ?hYx2048 ?hSx2048 ?restx2048; (case hix2048 => (simp only [List.getElem?_toArray, List.getElem?_cons_succ, List.getElem?_cons_zero]; exact rfl)); (case k1x2048 => kernel_rfl); (case k2x2048 => kernel_rfl); (case k3x2048 => kernel_rfl); (case hSx2048 => assumption); (case hYx2048 => (refine Or.inl ⟨rfl, ?hyx2048⟩; intro w hSw; (try dsimp only at hSw); go_simp; (try with_reducible rfl))); (case hQx2048 => exact (fun _ _ _ h => h)); (try simp only [Act.put, List.setIfInBounds_toArray, List.set_cons_zero, List.set_cons_succ]))
                refine wpAnyH_ready (rs := [14]) (by kernel_rfl) (by simp) ?_
                refine AllReadyH.cons (o := ?o0x2049) ?hi0x2049 (fun K hK => ?_) AllReadyH.nil
                (case hi0x2049 => (simp only [List.getElem?_toArray, List.getElem?_cons_succ, List.getElem?_cons_zero]; exact rfl))
                go_simp
                refine hK.out _ _ (by (try dsimp only) <;> (first | exact ⟨t0, t1⟩ | exact ⟨s0, s1⟩ | (simp [World.cell?_setCell_far, hne, s0, s1]; done) | (((repeat' apply And.intro); all_goals (refine bel_keep (w := w9) ?_ (by assumption); repeat' (first | exact Below.refl _ _ | refine Below.drew ?_ | refine Below.alloc ?_ (by simp <;> omega) _ | fail))); done) | (((repeat' apply And.intro); all_goals (refine bel_keep (w := wj) ?_ (by assumption); repeat' (first | exact Below.refl _ _ | refine Below.drew ?_ | refine Below.alloc ?_ (by simp <;> omega) _ | fail))); done))) (fun hHeld => ?_)
                clear hK K
                (try simp only [Act.put, List.setIfInBounds_toArray, List.set_cons_zero, List.set_cons_succ])
                (try refine wpAnyH_done (by kernel_rfl) ?_ _)
                dsimp only [OnlyN]
                gi_wp2
                gi_meet
                have hbw := below_tr HB9.out hb5
                exact ⟨((hbw.setCell (by simp; omega) _).setCell (by simp; omega) _).setCell (by simp; omega) _, ((hg5.set_ 2 (.int .i64 J1)).set_ 3 (.int .i64 J2)).set_ 4 (.int .i64 (max M C3))⟩
            -- C]
          case rest =>
            obtain ⟨hbc, hgc⟩ := hcut
            obtain ⟨W5, hW5⟩ : ∃ W5 : World, W5 = wc := ⟨_, rfl⟩
            rw [← hW5] at hbc hgc ⊢
            have hn5 := HBN.out.below hbc HBN.out.lt
            have hg0 := hgc.cell 0; have hg1 := hgc.cell 1; have hg2 := hgc.cell 2; have hg3 := hgc.cell 3; have hg4 := hgc.cell 4
            have n0 := hn5.cell 0; have n1' := hn5.cell 1; have n2' := hn5.cell 2; have n3 := hn5.cell 3
            have m0 := hn5.frozen 0; have m1 := hn5.frozen 1; have m2 := hn5.frozen 2; have m3 := hn5.frozen 3
            have ho5 : Boxed W5 (w.heap.size + 1) 135 v1 := (show Blk _ _ _ _ from HB1.out).below hbc (show Blk _ _ _ _ from HB1.out).lt
            have o0 := ho5.cell
            have of0 := ho5.frozen
            simp only [mayA] at n0 n1' n2' n3
            simp at hg0 hg1 hg2 hg3 hg4 n0 n1' n2' n3
            have hr5 := own_mono HR1.out hbc
            have HB5 := Lib.hid hbc; have HG5 := Lib.hid hgc; have HN5 := Lib.hid hn5; have HO5 := Lib.hid ho5; have HR5 := Lib.hid hr5
            have hneO : ¬ (Bn = w.heap.size + 1) := by have := HSZ0.out; omega
            have hneO' : ¬ (w.heap.size + 1 = Bn) := fun e => hneO e.symm
            have hneG : ¬ (Bn = W.heap.size + 1 + 1) := by have := HBN.out.lt; omega
            have hneG2 : ¬ (w.heap.size + 1 = W.heap.size + 1 + 1) := by have := HB.out.size; omega
            clear hW5 hbc hgc hn5 ho5 hr5
            obtain ⟨i0, hi0, hz0, hz1, hz2⟩ := info_parts infoA
            have HI := Lib.hid hi0; have HZ0 := Lib.hid hz0; have HZ1 := Lib.hid hz1; have HZ2 := Lib.hid hz2
            clear hi0 hz0 hz1 hz2
            gi_upto_region 16 with fail
            obtain ⟨W6, hW6⟩ : ∃ W6 : World, W6 = (((W5.setCell ⟨Bn, 0, none⟩ (.int .i64 A1)).setCell ⟨Bn, 1, none⟩ (.int .i64 A2)).setCell ⟨Bn, 2, none⟩ (.int .i64 J1)).setCell ⟨Bn, 3, none⟩ (.int .i64 J2) := ⟨_, rfl⟩
            rw [← hW6]
            have hn6 : Blk W6 Bn 138 #[.int .i64 A1, .int .i64 A2, .int .i64 J1, .int .i64 J2] := by rw [hW6]; exact (((HN5.out.set_ 0 (.int .i64 A1)).set_ 1 (.int .i64 A2)).set_ 2 (.int .i64 J1)).set_ 3 (.int .i64 J2)
            have hg6 : Blk W6 (W.heap.size + 1 + 1) 140 #[.int .i64 A1, .int .i64 A2, .int .i64 J1, .int .i64 J2, .int .i64 (max M C3)] := by
              rw [hW6]; exact (((HG5.out.far (fun e => hneG e.symm) _).far (fun e => hneG e.symm) _).far (fun e => hneG e.symm) _).far (fun e => hneG e.symm) _
            have ho6 : Boxed W6 (w.heap.size + 1) 135 v1 := by
              rw [hW6]; exact ((((show Blk _ _ _ _ from HO5.out).far hneO' _).far hneO' _).far hneO' _).far hneO' _
            have hBnL : Bn < WL.heap.size := by omega
            have hr6 : W6.ownsRow WL.heap.size 140 5 v1 pre.length (L.flatMap encA) := by
              have hk : ∀ {U : World} {u : Value} {i : Nat}, U.ownsRow WL.heap.size 140 5 v1 pre.length (L.flatMap encA) → (U.setCell ⟨Bn, i, none⟩ u).ownsRow WL.heap.size 140 5 v1 pre.length (L.flatMap encA) := fun {U u i} hU =>
                hU.kept (row := some Bn) ⟨rfl, rfl, rfl, by simp [World.setCell], fun g hg hgn => Below.heap_setCell U ⟨Bn, i, none⟩ u g (fun e => hgn (by rw [e]))⟩ (.inr (own_ge hU hBnL).symm)
              rw [hW6]; exact hk (hk (hk (hk HR5.out)))
            have F6 : Fr (fun g => g = Bn ∨ g = w.heap.size + 1 ∨ v1.ownBlock = some g) W W6 := by
              rw [hW6]
              exact (((((Fr.of_below HB5.out _).setAt (p := ⟨Bn, 0, none⟩) (.inl (.inl rfl)) _).setAt (p := ⟨Bn, 1, none⟩) (.inl (.inl rfl)) _).setAt (p := ⟨Bn, 2, none⟩) (.inl (.inl rfl)) _).setAt (p := ⟨Bn, 3, none⟩) (.inl (.inl rfl)) _)
            have g0 := hg6.cell 0; have g1 := hg6.cell 1; have g2 := hg6.cell 2; have g3 := hg6.cell 3; have g4 := hg6.cell 4
            simp at g0 g1 g2 g3 g4
            have c1 := ho6.cell
            have cf1 := ho6.frozen
            have HN6 := Lib.hid hn6; have HO6 := Lib.hid ho6; have HR6 := Lib.hid hr6; have HF6 := Lib.hid F6
            have hbs6 : WL.heap.size ≤ W6.heap.size := Nat.le_trans hbs F6.size
            clear hW6 hn6 hg6 ho6 hr6 F6 hg0 hg1 hg2 hg3 hg4 n0 n1' n2' n3 m0 m1 m2 m3 o0 of0 HN5 HG5 HO5 HR5 hneG hneG2
            gi_wp2_with (gi_at_builtin; go_must (refine wpListIn_append_own_at _ rfl _ _ 135 rfl WL.heap.size 140 i0 _ 5 40 Try.underlying135 HI.out HZ0.out HZ1.out HZ2.out rfl (by decide) _ _ _ rfl (HR6.out.alloc _) ⟨W6.heap.size, 0, none⟩ 1 1 [.int .i64 A1, .int .i64 A2, .int .i64 J1, .int .i64 J2, .int .i64 (max M C3)] rfl rfl (fun j u hj => World.news_of_block (cs := #[.int .i64 A1, .int .i64 A2, .int .i64 J1, .int .i64 J2, .int .i64 (max M C3)]) (t := 140) (fr := (0, 0)) (heap_alloc_new W6 _) j u hj) (by simp [Value.oneCell']) (by unfold maxLen; omega) (by omega) (by simp; omega) ?_; intro v3 W7 hown hgrow _ hwh; obtain ⟨g3', cap3, rfl⟩ := ownsRow_succ hown; have HG := Lib.hid hgrow; have HO := Lib.hid hown; have HWH := Lib.hid hwh; clear hown hgrow hwh; have m1 : Boxed W7 (w.heap.size + 1) 135 v1 := (HO6.out.alloc _).kept HG.out (own_ge HR6.out (by omega)); have d1' := m1.cell; have d1f := m1.frozen; have M1 := Lib.hid m1; clear m1))
            have F7 : Fr (fun g => g = Bn ∨ g = w.heap.size + 1 ∨ v1.ownBlock = some g) W W7 := (HF6.out.step (World.grownBy_alloc W6 _ none) (fun _ h => by cases h)).step HG.out (fun g hg => .inl (.inr (.inr hg)))
            have F8 := F7.setCell (g := w.heap.size + 1) (.inl (.inr (.inl rfl))) (.slice (some ⟨g3', 0, none⟩) (pre.length + 1) cap3)
            have n1 : ∀ g, v1.ownBlock = some g → WL.heap.size ≤ g := fun g hg => Nat.le_of_not_lt fun h => own_ge HR1.out h hg.symm
            have hwle := HB.out.size
            have hbf : Below w.heap.size W _ := F8.below hwle (fun g hg => by
              rcases hg with h | h | h
              · have := HSZ0.out; omega
              · omega
              · have := n1 g h; omega)
            have nE : ∀ g, g < WL.heap.size → g ≠ Bn → g ≠ w.heap.size + 1 → ¬ (g = Bn ∨ g = w.heap.size + 1 ∨ v1.ownBlock = some g) := fun g hg h1 h2 h3 => by
              rcases h3 with h3 | h3 | h3
              · exact h1 h3
              · exact h2 h3
              · exact own_ge HR1.out hg h3.symm
            have hnow7 : Blk W7 Bn 138 #[.int .i64 A1, .int .i64 A2, .int .i64 J1, .int .i64 J2] := (HN6.out.alloc _).grown HG.out (fun e => own_ge HR6.out hBnL e)
            have hs0 := HSZ0.out
            have hrun := HMAP.out
            have hrun := (congrArg (runP l) hrun).trans HSN.out
            rw [HAF3.out] at hrun
            refine ⟨F8.keeps (fun g o hE hg ho => ?_), ⟨hbf, fun cs hv => F8.blk hv (nE _ (by omega) (by omega) (by omega))⟩, ⟨⟨_, M1.out.set _, ?_, trivial⟩, ?_⟩, ⟨?_, F8.boxed HB4.out (nE _ (by omega) (by omega) (by omega))⟩, HB.out.trans hbf, Nat.le_trans hbs F8.size⟩
            · rcases hE with h | h | h
              · omega
              · omega
              · obtain ⟨cur, hc2⟩ := own_ty HR1.out h
                rw [hc2] at ho; cases ho; rfl
            · rw [hrun, List.flatMap_append, List.length_append]
              have := HO.out.kept (grownBy_setCell' W7 (w.heap.size + 1) (.slice (some ⟨g3', 0, none⟩) (pre.length + 1) cap3)) (.inr (own_ge HO.out (by omega)).symm)
              simpa [encA] using this
            · rw [hrun]
              exact hnow7.far hneO _
            · exact F8.blk HB3.out (nE _ (by omega) (by omega) (by omega))
    case done =>
      rintro D ys W hD hys ⟨⟨⟨v1, hb1, hr1, _⟩, hbn⟩, ⟨hb3, hb4⟩, hB, hbs⟩ hK
      obtain ⟨OA, oc, rfl, hoc⟩ := own_form hr1
      have hlen : ys.length = nI := by
        have h1 := congrArg List.length hys
        rw [List.length_map, zipI_len _ _ (Nat.le_refl _)] at h1; omega
      have hfin : (runP l (ys.map (·.1))).2 = aftL l (netL l ws c) := by
        rw [hys, runP_zip l _ _ (Nat.le_refl _)]
        simp only
        rw [List.take_of_length_le (by rw [aftL_len]; exact Nat.le_refl _)]
      rw [hfin] at hr1
      have hrd : Rd encA 5 W OA ys.length (aftL l (netL l ws c)) := Rd.of_own encA_len hr1 (by rw [aftL_len]; omega)
      have c1 := hb1.cell
      have f1 := hb1.frozen
      have HB1 := Lib.hid hb1; have HB := Lib.hid hB; have HK := Lib.hid hK; have HRD := Lib.hid hrd; have HR1 := Lib.hid hr1
      clear hb1 hB hK hrd hr1 hbn hb3 hb4 b1 bn bx bf b4 hys hfin
      gi_wp2
      refine ⟨by simp, .inl ?_⟩
      obtain ⟨Wf, hWf⟩ : ∃ Wf : World, Wf = W.setCell ⟨w.heap.size + 1, 0, none⟩ (.slice OA nI oc) := ⟨_, rfl⟩
      rw [← hWf]
      have e1 : Boxed Wf (w.heap.size + 1) 135 (.slice OA nI oc) := by rw [hWf]; exact HB1.out.set _
      have eK : Wf.heap[D]? = some (.deferred (some [])) := by
        rw [hWf]; exact (KeepsOthers.setCell _ _ _).same D _ HK.out rfl
      have hbf : Below w.heap.size W Wf := by rw [hWf]; exact (Below.refl _ W).setCell (by simp) _
      have hrow : Wf.ownsRow WL.heap.size 140 5 (.slice OA nI oc) nI ((aftL l (netL l ws c)).flatMap encA) := by
        rw [hWf]
        have h0 := HR1.out
        rw [hlen] at h0
        exact h0.kept (grownBy_setCell' W (w.heap.size + 1) (.slice OA nI oc)) (.inr (own_ge h0 (by omega : w.heap.size + 1 < WL.heap.size)).symm)
      refine ⟨_, _, rfl, run_takeDeferred eK, ?_⟩
      have gD := grownBy_putObj' Wf D (.deferred none)
      have p1 := Blk.grown (show Blk _ _ _ _ from e1) gD (by simp; omega)
      have z0 := p1.cell 0
      have hfin : Below w.heap.size w (Wf.putObj D (.deferred none)) := (HB.out.trans hbf).trans (belowK_b (w := w) (Nat.le_refl _) Wf D _ _ (by omega) eK rfl rfl)
      refine ⟨.slice OA nI oc, ?_, OA, nI, oc, rfl, rfl, ?_, hfin⟩
      · simp [results, Try.f64, go_sem, z0]
      · exact Rd.of_own encA_len (ownsRow_putObj hrow (.deferred none) eK rfl) (by rw [aftL_len]; exact hnl)
    case stop =>
      rintro D cc pre W _ _ h _
      exact h.elim
theorem hours_c {w : World} (hP : RdP w VA nV IA nI l WA nW ws CA nC c) (hok : LOk l) (hwk : WOk ws) (hch : choB ws.length c = true) :
    Calls Try.prog 64 #[.agg (pA VA nV cV IA nI cI l WA nW cW CA nC cC)] w fun e w' => ∃ A n cp, e = .returned (.slice A n cp) ∧ n = nI ∧ Rd encA 5 w' A n (aftL l (netL l ws c)) ∧ Below w.heap.size w w' := callsIn_wide.1 (hours_in hP hok hwk hch)
#print axioms hours_c
end
end Go.Proofs.Ytpijmfbpdglchaa
