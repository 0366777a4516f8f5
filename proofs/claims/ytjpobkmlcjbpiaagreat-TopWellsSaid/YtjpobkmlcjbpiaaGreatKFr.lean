/- A LAW FOR A REGION WITHIN A ROUND: what leaves the world alone in the drawn order, and one operation that comes behind all others. -/
import Derived.Sort.QuietThIn
import Derived.Sort.BigQuietIn
import Derived.WalkKit
import Derived.Test.YtjpobkmlcjbpiaaGreatZHits
import Derived.Maps.OwnIn
import Derived.Laws.EntriesVeiled
import Derived.Laws.MakeOwn
import Derived.Deep.DrawnRows
import Derived.Test.YtjpobkmlcjbpiaaGreatVoc
import Derived.RangeFuncNested
import Derived.RangeFuncBound
import Derived.RangeFuncBox
import Derived.Maps.AppendAt
set_option linter.unusedVariables false
set_option linter.unusedSimpArgs false
namespace Go.Proofs.YtjpobkmlcjbpiaaGreat
open Go

section
variable {F : Fence} {n : Nat} {P : Program}

theorem wpIn_inRound {l : Nat} {o : Oper} {a : Act} {w : World} {K : Act → World → Prop} {Q : Exit → Act → World → Prop} (hro : F.round = none) (hd : ∀ c, o.op ≠ .defer c)
    (h : o.wpIn F n P a w K Q) : o.wpIn (F.inRound l) n P a w K Q := by
  unfold Oper.wpIn at h ⊢
  rw [hro, Oper.semAt_none] at h
  rw [Oper.semAt_eq _ _ _ hd]
  refine ⟨h.1, ?_⟩
  have h2 := h.2
  generalize (execOp a.eval o).run P w = r at *
  cases r with
  | ok x w' => cases x <;> exact h2
  | halt x w' => cases x <;> exact h2

def backB (l : List Oper) : Bool := (List.range l.length).all fun i => ((l[i]?).map fun o => o.after.all fun e => decide (e.on < i)).getD true
def tailB (l : List Oper) (st : Oper) : Bool := (List.range l.length).all (fun i => st.after.any fun e => Region.binds .any e && e.on == i)
def plainB (l : List Oper) : Bool := l.all fun o => o.guard.isNone && match o.op with | .defer _ => false | _ => true
theorem plainB_guard {l : List Oper} (h : plainB l = true) {i : Nat} {o : Oper} (ho : l[i]? = some o) : o.guard = none ∧ ∀ c, o.op ≠ .defer c := by
  have := List.all_eq_true.1 h o (List.mem_of_getElem? ho)
  simp only [Bool.and_eq_true, Option.isNone_iff_eq_none] at this
  refine ⟨this.1, fun c hc => ?_⟩
  have h2 := this.2
  rw [hc] at h2
  cases h2

theorem ready_none {l : List Oper} {listed : Array Bool} (hb : backB l = true) (hs : listed.size = l.length) (h : Region.ready .any l.toArray listed = []) : ∀ i, i < l.length → listed.getD i false = true := by
  intro i
  induction i using Nat.strongRecOn with
  | ind i ih =>
    intro hi
    refine Classical.byContradiction fun hn => ?_
    have hmem : i ∈ Region.ready .any l.toArray listed := by
      unfold Region.ready
      rw [List.mem_filter]
      refine ⟨by simpa using hi, ?_⟩
      have hil : i < listed.size := by omega
      have h1 : listed.getD i true = false := by
        have : listed.getD i false = listed.getD i true := by simp [Array.getD, hil]
        rw [← this]; simpa using hn
      have hb1 := List.all_eq_true.1 hb i (by simpa using hi)
      have hl : l[i]? = some l[i] := List.getElem?_eq_getElem hi
      rw [hl] at hb1
      simp only [h1, Bool.not_false, Bool.true_and, List.getElem?_toArray, hl, Option.map_some, Option.getD_some] at hb1 ⊢
      rw [Array.all_eq_true_iff_forall_mem] at hb1 ⊢
      intro e he
      have := hb1 e he
      simp only [decide_eq_true_eq] at this
      rw [ih e.on this (by omega)]
      simp
    rw [h] at hmem
    cases hmem

theorem push_getD {A : Array Bool} {j : Nat} : (A.push false).getD j false = A.getD j false := by
  simp only [Array.getD_eq_getD_getElem?, Array.getElem?_push]
  split
  · rename_i h; subst h; simp
  · rfl
theorem push_getD_true {A : Array Bool} {j : Nat} (h : j < A.size) : (A.push false).getD j true = A.getD j true := by
  simp only [Array.getD_eq_getD_getElem?, Array.getElem?_push]
  split
  · omega
  · rfl
theorem ready_push {l : List Oper} {st : Oper} {listed : Array Bool} (hs : listed.size = l.length) {i : Nat} (h : i ∈ Region.ready .any (l ++ [st]).toArray (listed.push false)) :
    (i < l.length ∧ i ∈ Region.ready .any l.toArray listed) ∨ (i = l.length ∧ ∀ e ∈ st.after, Region.binds .any e = true → listed.getD e.on false = true) := by
  unfold Region.ready at h
  rw [List.mem_filter] at h
  obtain ⟨h1, h2⟩ := h
  simp only [List.size_toArray, List.length_append, List.length_cons, List.length_nil, List.mem_range] at h1
  rw [Bool.and_eq_true] at h2
  obtain ⟨h3, h4⟩ := h2
  rcases Nat.lt_or_ge i l.length with hi | hi
  · refine .inl ⟨hi, ?_⟩
    unfold Region.ready
    rw [List.mem_filter]
    refine ⟨by simpa using hi, ?_⟩
    rw [push_getD_true (by omega)] at h3
    rw [h3, Bool.true_and]
    rw [List.getElem?_toArray, List.getElem?_append_left hi] at h4
    rw [List.getElem?_toArray]
    simpa only [push_getD] using h4
  · obtain rfl : i = l.length := by omega
    refine .inr ⟨rfl, fun e he hb => ?_⟩
    rw [List.getElem?_toArray, List.getElem?_append_right (Nat.le_refl _)] at h4
    simp only [Nat.sub_self, List.getElem?_cons_zero, Option.map_some, Option.getD_some, push_getD] at h4
    have := Array.all_eq_true_iff_forall_mem.1 h4 e he
    simpa [hb] using this
theorem tail_all {l : List Oper} {st : Oper} {listed : Array Bool} (ht : tailB l st = true) (h : ∀ e ∈ st.after, Region.binds .any e = true → listed.getD e.on false = true) : ∀ i, i < l.length → listed.getD i false = true := by
  intro i hi
  have := List.all_eq_true.1 ht i (by simpa using hi)
  simp only [Array.any_eq_true, Bool.and_eq_true, beq_iff_eq] at this
  obtain ⟨j, hj, hb, he⟩ := this
  rw [← he]
  exact h _ (Array.getElem_mem hj) hb
theorem all_none {l : List Oper} {listed : Array Bool} (hs : listed.size = l.length) (h : ∀ i, i < l.length → listed.getD i false = true) : Region.ready .any l.toArray listed = [] := by
  unfold Region.ready
  rw [List.filter_eq_nil_iff]
  intro i hi
  have hi' : i < l.length := by simpa using hi
  have h1 : listed.getD i true = true := by
    have h2 : i < listed.size := by omega
    have : listed.getD i false = listed.getD i true := by simp [Array.getD, h2]
    rw [← this]; exact h i hi'
  simp [h1]
theorem st_ready {l : List Oper} {st : Oper} {listed : Array Bool} (hs : listed.size = l.length) (hst : st.after.all (fun e => decide (e.on < l.length)) = true) (h : ∀ i, i < l.length → listed.getD i false = true) : l.length ∈ Region.ready .any (l ++ [st]).toArray (listed.push false) := by
  unfold Region.ready
  rw [List.mem_filter]
  refine ⟨by simp, ?_⟩
  have h1 : (listed.push false).getD l.length true = false := by
    rw [← hs]; simp [Array.getD]
  rw [h1, List.getElem?_toArray, List.getElem?_append_right (Nat.le_refl _)]
  simp only [Nat.sub_self, List.getElem?_cons_zero, Option.map_some, Option.getD_some, push_getD, Bool.not_false, Bool.true_and]
  rw [Array.all_eq_true_iff_forall_mem]
  intro e he
  have := Array.all_eq_true_iff_forall_mem.1 hst e he
  rw [h e.on (by simpa using this)]
  simp

theorem all_after {l : List Oper} {st : Oper} {listed : Array Bool} (hs : listed.size = l.length) (h : ∀ i, i < l.length → listed.getD i false = true) : Region.ready .any (l ++ [st]).toArray ((listed.push false).setIfInBounds l.length true) = [] := by
  have : (listed.push false).setIfInBounds l.length true = listed.push true := by
    rw [← hs]; apply Array.ext_getElem?; intro i
    simp only [Array.getElem?_setIfInBounds, Array.getElem?_push, Array.size_push]
    split <;> split <;> simp_all <;> omega
  rw [this]
  refine all_none (by simp [hs]) fun i hi => ?_
  simp only [List.length_append, List.length_cons, List.length_nil] at hi
  simp only [Array.getD_eq_getD_getElem?, Array.getElem?_push]
  split
  · rfl
  · have := h i (by omega)
    rw [Array.getD_eq_getD_getElem?] at this
    exact this

theorem wpOpIn_round {l : Nat} {ops ops' : Array Oper} {C : World → Prop} {Q : Exit → Act → World → Prop} {i : Nat} {o : Oper} {a : Act} {w : World} {K : Act → Prop} {K' : Act → World → Prop} (hro : F.round = none) (hC : C w) (ho : ops[i]? = some o) (ho' : ops'[i]? = some o)
    (hg : o.guard = none) (hd : ∀ c, o.op ≠ .defer c) (h : ∀ a w', C w' → K a → K' a w') (hh : qOpIn F n P ops C i K a) : wpOpIn (F.inRound l) n P ops' Q i K' a w := by
  have hw : ∀ f, Region.wanted o f = true := fun f => by simp [Region.wanted, hg]
  unfold qOpIn at hh
  unfold wpOpIn
  simp only [ho, hw, if_true] at hh
  simp only [ho', hw, if_true]
  exact wpIn_inRound hro hd (Oper.wpIn_of_quiet hro hC h hh.1 hh.2)

theorem any_store {l : Nat} {ops : List Oper} {st : Oper} {C : World → Prop} {Qm : Act → Prop} {Q : Exit → Act → World → Prop} (hro : F.round = none) (hp : plainB (ops ++ [st]) = true) (hb : backB ops = true) (ht : tailB ops st = true) (hst : st.after.all (fun e => decide (e.on < ops.length)) = true)
    (hs : ∀ a w, C w → Qm a → st.wpIn F n P a w (fun a w => Q .normal a w) Q) :
    ∀ (fuel : Nat) (listed : Array Bool) (a : Act) (w : World), listed.size = ops.length → C w → wpAnyQIn F n P .any ops.toArray C Qm fuel listed a → wpAnyIn (F.inRound l) n P .any (ops ++ [st]).toArray Q (fuel + 1) (listed.push false) a w := by
  have hlast : (ops ++ [st]).toArray[ops.length]? = some st := by simp
  have hlp := plainB_guard hp (i := ops.length) (o := st) (by simp)
  have hend : ∀ (fuel : Nat) (listed : Array Bool) (a : Act) (w : World), listed.size = ops.length → C w → Region.ready .any ops.toArray listed = [] → Qm a → wpAnyIn (F.inRound l) n P .any (ops ++ [st]).toArray Q (fuel + 1) (listed.push false) a w := by
    intro fuel listed a w hsz hC hr hq
    have hall := ready_none hb hsz hr
    refine ⟨fun h0 => ?_, fun i hi => ?_⟩
    · have := st_ready (st := st) hsz hst hall
      rw [h0] at this; cases this
    · rcases ready_push hsz hi with ⟨_, h2⟩ | ⟨rfl, _⟩
      · rw [hr] at h2; cases h2
      · unfold wpOpIn
        have hw : ∀ f, Region.wanted st f = true := fun f => by simp [Region.wanted, hlp.1]
        simp only [hlast, hw, if_true]
        refine wpIn_inRound hro hlp.2 (Oper.wpIn_mono (fun a w h => ?_) (hs a w hC hq))
        have h0 := all_after (st := st) hsz hall
        cases fuel with
        | zero => exact ⟨h0, h⟩
        | succ fuel => exact ⟨fun _ => h, fun j hj => by rw [h0] at hj; cases hj⟩
  intro fuel
  induction fuel with
  | zero => intro listed a w hsz hC h; exact hend 0 listed a w hsz hC h.1 h.2
  | succ fuel ih =>
    intro listed a w hsz hC h
    by_cases hr : Region.ready .any ops.toArray listed = []
    · exact hend (fuel + 1) listed a w hsz hC hr (h.1 hr)
    · refine ⟨fun h0 => ?_, fun i hi => ?_⟩
      · obtain ⟨i, hi⟩ := List.exists_mem_of_ne_nil _ hr
        have hi' := hi
        unfold Region.ready at hi
        rw [List.mem_filter] at hi
        have hlt : i < ops.length := by simpa using hi.1
        have : i ∈ Region.ready .any (ops ++ [st]).toArray (listed.push false) := by
          unfold Region.ready
          rw [List.mem_filter]
          refine ⟨by simp; omega, ?_⟩
          rw [push_getD_true (by omega), List.getElem?_toArray, List.getElem?_append_left hlt]
          simpa only [push_getD, List.getElem?_toArray] using hi.2
        rw [h0] at this; cases this
      · rcases ready_push hsz hi with ⟨hlt, h2⟩ | ⟨rfl, h2⟩
        · have ho : ops[i]? = some ops[i] := List.getElem?_eq_getElem hlt
          have hpl := plainB_guard hp (i := i) (o := ops[i]) (by rw [List.getElem?_append_left hlt]; exact ho)
          refine wpOpIn_round hro hC (by rw [List.getElem?_toArray]; exact ho) (by rw [List.getElem?_toArray, List.getElem?_append_left hlt]; exact ho) hpl.1 hpl.2 (fun a w' hC' h3 => ?_) (h.2 i h2)
          have := ih (listed.setIfInBounds i true) a w' (by simp [hsz]) hC' h3
          have e : (listed.push false).setIfInBounds i true = (listed.setIfInBounds i true).push false := by
            apply Array.ext_getElem?; intro j
            have hi1 : i < listed.size := by omega
            by_cases h1 : i = j
            · subst h1
              have h4 : ¬ i = listed.size := by omega
              simp [Array.getElem?_setIfInBounds, Array.getElem?_push, h4, hi1, Nat.lt_succ_of_lt hi1]
              rw [Array.getElem_push_lt (by simpa using hi1)]
              simp
            · simp [Array.getElem?_setIfInBounds, Array.getElem?_push, h1]
          rw [e]; exact this
        · exact absurd (all_none hsz (tail_all ht h2)) hr

/-- A region within a round: all but its last operation leave the world alone; the last one comes behind them all. -/
theorem wpIn_region_round_store {l id : Nat} {ops : List Oper} {st : Oper} {Q : Exit → Act → World → Prop} {a : Act} {w : World} (hro : F.round = none) (hm : P.follows .mixedOrders = true) (hB : Region.lexB .any ops.toArray = true)
    (hp : plainB (ops ++ [st]) = true) (hb : backB ops = true) (ht : tailB ops st = true) (hst : st.after.all (fun e => decide (e.on < ops.length)) = true)
    (h : wpQuietIn F n P ops.toArray (fun w' => ∃ n, w' = w.drewN n) (fun a' => ∀ m K, (∀ a w, Q .normal a w → K a w) → st.wpIn F n P a' (w.drewN m) K Q) ops a) : (Code.region id (ops ++ [st]).toArray true).wpIn (F.inRound l) n P Q a w := by
  simp only [Region.lexB, Bool.and_eq_true] at hB
  refine wpIn_region_any hm ?_
  have h1 := wpAnyQIn_lex (F := F) (n := n) (C := fun w' => ∃ n, w' = w.drewN n) (md := .any) hB.1 ops 0 (Array.replicate ops.length false) a (by simp) (by simpa using hB.2) h
  have h2 := any_store (l := l) (st := st) (Q := Q) hro hp hb ht hst (by rintro a' w' ⟨m, rfl⟩ hq; exact hq m _ (fun _ _ h => h)) ops.length (Array.replicate ops.length false) a { w with drawn := w.drawn + 1 } (by simp) ⟨1, rfl⟩ h1
  have e : Array.replicate (ops ++ [st]).toArray.size false = (Array.replicate ops.length false).push false := by
    simp [Array.replicate_succ]
  rw [e]
  simpa using h2
end
end Go.Proofs.YtjpobkmlcjbpiaaGreat

namespace Go.Proofs.YtjpobkmlcjbpiaaGreat
open Go.RowKit Go.Proofs Go.Shelf
attribute [local go_sem] Oper.semAt_some

/-- the cells of a row of ints -/
def intsA (l : List Int) : Array Value := (l.map fun n => Value.int .i64 n).toArray
theorem intsA_get {l : List Int} {i : Nat} : (intsA l)[i]? = (l[i]?).map fun n => Value.int .i64 n := by simp [intsA]
theorem intsA_size {l : List Int} : (intsA l).size = l.length := by simp [intsA]
theorem intsA_set {l : List Int} {i : Nat} {n : Int} : (intsA l).setIfInBounds i (.int .i64 n) = intsA (l.set i n) := by simp [intsA, List.map_set]
theorem intsA_flat {l : List Int} : (intsA l).toList = l.flatMap enc1 := by
  simp only [intsA]
  induction l with
  | nil => rfl
  | cons a l ih => simp [enc1] at ih ⊢; exact ih
theorem Rd.of_blk {w : World} {g n : Nat} {t : TypeId} {l : List Int} (h : Blk w g t (intsA l)) (hl : l.length = n) : Rd enc1 1 w (some ⟨g, 0, none⟩) n l := by
  refine ⟨hl, fun _ => ⟨g, 0, rfl, h.lt, fun i x hx j u hu => ?_⟩⟩
  have hj : j = 0 := by
    have := (List.getElem?_eq_some_iff.1 hu).1
    simp [enc1] at this; exact this
  subst hj
  simp [enc1] at hu
  subst hu
  have := h.cell i
  rw [intsA_get, hx] at this
  simpa using this

/-- what has been added up after some hits -/
def dRow (v : Vly) (pre : List (Nat × Int)) : List Int := (List.range v.pars.length).map fun p : Nat => dSum v.sls (p : Int) pre
theorem dRow_len {v : Vly} {pre : List (Nat × Int)} : (dRow v pre).length = v.pars.length := by simp [dRow]
theorem dRow_get {v : Vly} {pre : List (Nat × Int)} {i : Nat} (h : i < v.pars.length) : (dRow v pre)[i]? = some (dSum v.sls (i : Int) pre) := by simp [dRow, h]
theorem dRow_snoc {v : Vly} {pre : List (Nat × Int)} {k q : Nat} {s : Sli} (hs : v.sls[k]? = some s) : dRow v (pre ++ [(k, (q : Int))]) = (dRow v pre).set q (dSum v.sls (q : Int) pre + s.rate) := by
  refine List.ext_getElem? fun i => ?_
  by_cases hi : i < v.pars.length
  · rw [dRow_get hi, dSum_snoc, List.getElem?_set, dRow_len, dRow_get hi, rateOf_of hs]
    by_cases hq : q = i
    · subst hq; simp [hi]
    · have : ¬ (q : Int) = (i : Int) := by omega
      simp [hq, this]
  · rw [List.getElem?_eq_none (by rw [dRow_len]; omega), List.getElem?_eq_none (by rw [List.length_set, dRow_len]; omega)]
theorem infoN : (Tryz.prog.info? 3).map (fun i => (i.zero, i.size, i.bytes)) = some (some (.int .i64 0), 1, 8) := by kernel_rfl
theorem mk_ints (n : Nat) (hn : n ≤ 1000000) (W : World) : (Instr.makeSlice 33 (.int .i64 (n : Int)) (.int .i64 (n : Int))).run Tryz.prog W = .ok (.slice (some ⟨W.heap.size, 0, none⟩) n n) (W.alloc (.cells (intsA (List.replicate n 0)) 3)) := by
  obtain ⟨i, h0, hz0, hz1, hz2⟩ := info_parts infoN
  have := run_make (P := Tryz.prog) W 33 3 i _ Tryz.underlying33 h0 hz0 .i64 .i64 n n (by omega) (by omega) (by rw [hz2]; omega) (by omega)
  rw [hz1] at this
  have e : madeCells (Value.int IntKind.i64 0).cells ((n : Int).toNat * 1) = intsA (List.replicate n 0) := by
    apply Array.ext_getElem?
    intro j
    simp only [intsA_get, madeCells, List.getElem?_replicate]
    by_cases h : j < n
    · have hm : j % 1 = 0 := Nat.mod_one j
      simp [h, Value.cells, Array.getElem?_range, hm]
    · simp [h, Array.getElem?_range]
  rw [e] at this
  simpa using this

theorem blk_own {α : Type} {B : Nat} (g : α → Nat) (t : TypeId) (cs : α → Array Value) : OwnFrom B (fun (s : α) (W : World) => Blk W (g s) t (cs s)) := fun s A C row h hg hr => Blk.grown h hg (fun e => by
  obtain ⟨_, o, ho, hc⟩ := hr _ e.symm
  rw [show A.heap[g s]? = _ from h] at ho; cases ho; cases hc)
end Go.Proofs.YtjpobkmlcjbpiaaGreat

namespace Go.Proofs.YtjpobkmlcjbpiaaGreat
open Go.RowKit Go.Proofs

theorem own_ge {w : World} {base : Nat} {e : TypeId} {size n : Nat} {v : Value} {xs : List Value} (h : w.ownsRow base e size v n xs) {g : Nat} (hg : g < base) : some g ≠ v.ownBlock := by
  intro e
  rcases h.2 with ⟨rfl, _⟩ | ⟨g', cap, cur, rfl, hb, _⟩
  · simp [Value.ownBlock] at e
  · simp [Value.ownBlock] at e; omega
/-- Rows whose elements differ in type lie in different blocks; and a row lies in no block of another type. -/
theorem own_ty {W : World} {base : Nat} {e : TypeId} {size n : Nat} {v : Value} {xs : List Value} (h : W.ownsRow base e size v n xs) {g : Nat} (hg : v.ownBlock = some g) : ∃ cur, W.heap[g]? = some (.cells cur e (0, 0)) := by
  rcases h.2 with ⟨rfl, _⟩ | ⟨g', cap, cur, rfl, _, hb, _⟩
  · simp [Value.ownBlock] at hg
  · simp [Value.ownBlock] at hg; subst hg; exact ⟨cur, hb⟩
theorem own_own_ne {W : World} {base base' : Nat} {e e' : TypeId} {size size' n n' : Nat} {v v' : Value} {xs xs' : List Value} (h : W.ownsRow base e size v n xs) (h' : W.ownsRow base' e' size' v' n' xs') (hne : e ≠ e') {g : Nat} (hg : v.ownBlock = some g) : v'.ownBlock ≠ some g := by
  intro hg'
  obtain ⟨c1, h1⟩ := own_ty h hg
  obtain ⟨c2, h2⟩ := own_ty h' hg'
  rw [h1] at h2; injection h2 with h2; injection h2 with _ h2; exact hne h2
theorem own_blk_ne {W : World} {base : Nat} {e t : TypeId} {size n g : Nat} {v : Value} {xs : List Value} {cs : Array Value} (h : W.ownsRow base e size v n xs) (hb : Blk W g t cs) (hne : e ≠ t) : v.ownBlock ≠ some g := by
  intro hg
  obtain ⟨c1, h1⟩ := own_ty h hg
  rw [show W.heap[g]? = _ from hb] at h1; injection h1 with h1; injection h1 with _ h2; exact hne h2.symm
/-- Nothing that lay has turned, but for the blocks that E names. -/
structure Fr (E : Nat → Prop) (w w' : World) : Prop where
  os : w'.os = w.os
  tape : w'.tape = w.tape
  output : w'.output = w.output
  size : w.heap.size ≤ w'.heap.size
  block : ∀ g, g < w.heap.size → ¬ E g → w'.heap[g]? = w.heap[g]?
section
variable {E : Nat → Prop} {a b c : World}
theorem Fr.refl (E : Nat → Prop) (w : World) : Fr E w w := ⟨rfl, rfl, rfl, Nat.le_refl _, fun _ _ _ => rfl⟩
theorem Fr.trans (h : Fr E a b) (k : Fr E b c) : Fr E a c := ⟨k.os.trans h.os, k.tape.trans h.tape, k.output.trans h.output, Nat.le_trans h.size k.size, fun g hg hE => (k.block g (Nat.lt_of_lt_of_le hg h.size) hE).trans (h.block g hg hE)⟩
theorem Fr.wide {E' : Nat → Prop} (h : Fr E a b) (hw : ∀ g, g < a.heap.size → E g → E' g) : Fr E' a b := ⟨h.os, h.tape, h.output, h.size, fun g hg hE => h.block g hg fun he => hE (hw g hg he)⟩
theorem Fr.of_below (h : Below a.heap.size a b) (E : Nat → Prop) : Fr E a b := ⟨h.os, h.tape, h.output, h.size, fun g hg _ => h.block g hg⟩
theorem Fr.of_grown {row : Option Nat} (h : a.grownBy b row) (hE : ∀ g, row = some g → g < a.heap.size → E g) : Fr E a b :=
  ⟨h.os, h.tape, h.output, h.size, fun g hg hn => h.block g hg fun e => hn (hE g e.symm hg)⟩
theorem Fr.below {n₀ : Nat} (h : Fr E a b) (hn : n₀ ≤ a.heap.size) (hE : ∀ g, E g → n₀ ≤ g) : Below n₀ a b :=
  ⟨h.os, h.tape, h.output, h.size, fun g hg => h.block g (by omega) fun e => by have := hE g e; omega⟩
theorem Fr.setCell (h : Fr E a b) {g : Nat} (hg : E g ∨ a.heap.size ≤ g) (v : Value) : Fr E a (b.setCell ⟨g, 0, none⟩ v) :=
  ⟨h.os, h.tape, h.output, by simpa [World.setCell] using h.size, fun i hi hn => (Below.heap_setCell b ⟨g, 0, none⟩ v i (by
    rintro rfl
    rcases hg with hg | hg
    · exact hn hg
    · omega)).trans (h.block i hi hn)⟩
theorem Fr.step {row : Option Nat} (h : Fr E a b) (hg : b.grownBy c row) (hE : ∀ g, row = some g → E g ∨ a.heap.size ≤ g) : Fr E a c :=
  ⟨hg.os.trans h.os, hg.tape.trans h.tape, hg.output.trans h.output, Nat.le_trans h.size hg.size, fun g hlt hn => (hg.block g (Nat.lt_of_lt_of_le hlt h.size) fun e => by
    rcases hE g e.symm with h1 | h1
    · exact hn h1
    · omega).trans (h.block g hlt hn)⟩
theorem Fr.kept (h : Fr E a b) {g : Nat} {o : Obj} (hg : a.heap[g]? = some o) (hE : ¬ E g) : b.heap[g]? = some o := (h.block g (Array.getElem?_eq_some_iff.1 hg).1 hE).trans hg
theorem Fr.boxed (h : Fr E a b) {g : Nat} {t : TypeId} {v : Value} (hg : Boxed a g t v) (hE : ¬ E g) : Boxed b g t v := h.kept hg hE
theorem Fr.row (h : Fr E a b) {base : Nat} {e : TypeId} {size n : Nat} {v : Value} {xs : List Value} (hr : a.ownsRow base e size v n xs) (hE : ∀ g, v.ownBlock = some g → ¬ E g) : b.ownsRow base e size v n xs := by
  refine ⟨hr.1, ?_⟩
  rcases hr.2 with h0 | ⟨g, cap, cur, hv, hbase, hg, hrest⟩
  · exact .inl h0
  · exact .inr ⟨g, cap, cur, hv, hbase, h.kept hg (hE g (by rw [hv]; rfl)), hrest⟩
end


theorem Fr.comp {E E2 : Nat → Prop} {a b c : World} (h : Fr E a b) (k : Fr E2 b c) (hE : ∀ g, E2 g → E g ∨ a.heap.size ≤ g) : Fr E a c :=
  ⟨k.os.trans h.os, k.tape.trans h.tape, k.output.trans h.output, Nat.le_trans h.size k.size, fun g hlt hn => (k.block g (Nat.lt_of_lt_of_le hlt h.size) fun e => by
    rcases hE g e with h1 | h1
    · exact hn h1
    · omega).trans (h.block g hlt hn)⟩
theorem Fr.setAt {E : Nat → Prop} {a b : World} (h : Fr E a b) {p : Addr} (hg : E p.block ∨ a.heap.size ≤ p.block) (v : Value) : Fr E a (b.setCell p v) :=
  ⟨h.os, h.tape, h.output, by simpa [World.setCell] using h.size, fun i hi hn => (Below.heap_setCell b p v i (by
    rintro rfl
    rcases hg with hg | hg
    · exact hn hg
    · omega)).trans (h.block i hi hn)⟩
theorem Fr.blk {E : Nat → Prop} {a b : World} (h : Fr E a b) {g : Nat} {t : TypeId} {cs : Array Value} (hg : Blk a g t cs) (hE : ¬ E g) : Blk b g t cs := h.kept hg hE
theorem Fr.rd {E : Nat → Prop} {a b : World} (h : Fr E a b) {α : Type} {enc : α → List Value} {k : Nat} {A : Option Addr} {n : Nat} {l : List α} (hr : Rd enc k a A n l) (hE : ∀ ad, A = some ad → ¬ E ad.block) : Rd enc k b A n l :=
  ⟨hr.1, fun hn => by
    obtain ⟨bb, o, e, hlt, hc⟩ := hr.2 hn
    refine ⟨bb, o, e, Nat.lt_of_lt_of_le hlt h.size, fun i x hx j v hv => ?_⟩
    rw [World.cell?_of_block (w := a) (a := ⟨bb, _, none⟩) (h.block bb hlt (hE _ e))]
    exact hc i x hx j v hv⟩
theorem own_pre {w : World} {base : Nat} {e : TypeId} {v v' : Value} {n : Nat} {xs : List Value} {u : Value} {w2 : World} (h : w.ownsRow base e 1 v n xs) (h' : w.ownsRow base e 1 v' (n + 1) (xs ++ [u])) (hv : v'.ownBlock = v.ownBlock) (h2 : w2.ownsRow base e 1 v' (n + 1) (xs ++ [u])) : w2.ownsRow base e 1 v n xs := by
  refine ⟨h.1, ?_⟩
  rcases h.2 with h0 | ⟨g, cap, cur, rfl, hb, hg, hnc, hcm, hcs, htk⟩
  · exact .inl h0
  · rcases h'.2 with ⟨rfl, h0⟩ | ⟨g', cap', cur', rfl, hb', hg', hnc', hcm', hcs', htk'⟩
    · omega
    · simp only [Value.ownBlock, Option.some.injEq] at hv
      subst hv
      rw [hg] at hg'
      cases hg'
      rcases h2.2 with ⟨h0, _⟩ | ⟨g2, cap2, cur2, he2, hb2, hg2, hnc2, hcm2, hcs2, htk2⟩
      · cases h0
      · simp only [Value.slice.injEq, Option.some.injEq, Addr.mk.injEq, and_true, true_and] at he2
        obtain ⟨rfl, rfl⟩ := he2
        refine .inr ⟨g', cap, cur2, rfl, hb, hg2, hnc, hcm, by omega, ?_⟩
        have hxl : xs.length = n * 1 := h.1
        have : cur2.toList.take (n * 1) = (cur2.toList.take ((n + 1) * 1)).take (n * 1) := by rw [List.take_take]; congr 1; omega
        rw [this, htk2, ← hxl, List.take_left]
theorem own_cut {w : World} {base : Nat} {e : TypeId} {g cap n : Nat} {xs : List Value} {u : Value} (h : w.ownsRow base e 1 (.slice (some ⟨g, 0, none⟩) (n + 1) cap) (n + 1) (xs ++ [u])) (hx : xs.length = n) : w.ownsRow base e 1 (.slice (some ⟨g, 0, none⟩) n cap) n xs := by
  rcases h.2 with ⟨h0, _⟩ | ⟨g2, cap2, cur2, he2, hb2, hg2, hnc2, hcm2, hcs2, htk2⟩
  · cases h0
  · simp only [Value.slice.injEq, Option.some.injEq, Addr.mk.injEq, and_true, true_and] at he2
    obtain ⟨rfl, rfl⟩ := he2
    refine ⟨by omega, .inr ⟨g, cap, cur2, rfl, hb2, hg2, by omega, hcm2, hcs2, ?_⟩⟩
    have : cur2.toList.take (n * 1) = (cur2.toList.take ((n + 1) * 1)).take (n * 1) := by rw [List.take_take]; congr 1; omega
    rw [this, htk2, ← hx, Nat.mul_one, List.take_left]
theorem run_app1 {P : Program} (w : World) (base : Nat) (t ty e : TypeId) (i : TypeInfo) (z : Value) (ht : P.underlying t = some (.slice e)) (hi : P.info? e = some i) (hz : i.zero = some z) (hsize : i.size = 1) (hby : i.bytes = 8) (hzs : z.cells.size = 1)
    (v : Value) (n : Nat) (xs : List Value) (hown : w.ownsRow base e 1 v n xs) (a : Addr) (c : Nat) (u : Value) (hu : w.cell? a = some u) (h1 : u.oneCell' = true) (hn : n ≤ 1000) (hbase : base ≤ w.heap.size) :
    ∃ v' w', (Builtin.append_ #[t, t] ty #[v, .slice (some a) 1 c]).run P w = .ok v' w' ∧ w'.ownsRow base e 1 v' (n + 1) (xs ++ [u]) ∧ w.grownBy w' v.ownBlock ∧ (v'.ownBlock = v.ownBlock ∨ v'.ownBlock = some w.heap.size) ∧ w'.ownsRow base e 1 v n xs := by
  have hnews : ∀ j x, [u][j]? = some x → w.cell? (a.add j) = some x := by
    intro j x hx
    have hj : j = 0 := by have := (List.getElem?_eq_some_iff.1 hx).1; simp at this; exact this
    subst hj
    simp at hx
    subst hx
    simpa [Addr.add] using hu
  have ho : ∀ x ∈ [u], x.oneCell' = true := by intro x hx; simp at hx; subst hx; exact h1
  obtain ⟨v', w', hr, h2, h3, _, h5⟩ := run_append_own_at (P := P) w base t ty e i z 1 8 ht hi hz hsize hby hzs (by omega) v n xs hown a 1 c [u] rfl hnews ho (by unfold maxLen; omega) (by omega) hbase
  refine ⟨v', w', hr, h2, h3, h5, ?_⟩
  rcases hown.2 with ⟨rfl, rfl⟩ | ⟨g, cap, cur, rfl, hbg, hg, hnc, hcm, hcs, htake⟩
  · have : xs = [] := List.eq_nil_of_length_eq_zero (by simpa using hown.1)
    subst this
    exact World.ownsRow_nil _ _ _ _
  · by_cases hroom : n + 1 ≤ cap
    · have hfit : n * i.size + [u].length ≤ cur.size := by rw [hcs, hsize]; simp; omega
      have hr' := run_append_room (P := P) w t ty e i ht hi g n cap cur hg a 1 c [u] (by rw [hsize]; rfl) hnews ho hroom hfit
      rw [hr'] at hr
      cases hr
      exact own_cut h2 (by simpa using hown.1)
    · have holds : ∀ j x, xs[j]? = some x → w.cell? ((⟨g, 0, none⟩ : Addr).add j) = some x := hown.cells (g := g) rfl
      have hr' := run_append_grow (P := P) w t ty e i z ht hi hz ⟨g, 0, none⟩ n cap xs (by rw [hsize]; exact hown.1) holds a 1 c [u] (by rw [hsize]; rfl) hnews (by omega) (by omega) (growslice_fits (by omega) (by rw [hby]; omega))
      rw [hr'] at hr
      cases hr
      exact own_mono hown (((Below.refl w.heap.size w).drew).alloc (Nat.le_refl _) _)
theorem step_append_run {P : Program} {w : World} {ops : Array Oper} {o : Oper} {a : Act} {K : Act → World → Prop} {Q : Exit → Act → World → Prop} {E : Prop} (hgd : o.guard = none) (s x : Operand) (t : TypeId)
    (ho : o.op = .call { callee := .builtin .append, args := #[s, x], argTypes := #[t, t] }) (vs vx v' : Value) (w' : World) (hs : a.eval s = vs) (hx : a.eval x = vx) (hrun : (Builtin.append_ #[t, t] o.type #[vs, vx]).run P w = .ok v' w') (h : K (a.put o.dst v') w') :
    if Region.wanted o (yielded ops a.tmps) = true then Oper.wp P o a w K Q else E := by
  have hw : Region.wanted o (yielded ops a.tmps) = true := by simp [Region.wanted, hgd]
  rw [if_pos hw]
  unfold Oper.wp
  simp [execOp, ho, resolve, invoke, builtin, hs, hx, hrun, Result.andThen]
  exact h
theorem Fr.keeps {E : Nat → Prop} {B : Nat} {W w1 : World} (h : Fr E W w1) (hE : ∀ g o, E g → B ≤ g → W.heap[g]? = some o → o.isCells = true) : KeepsFrom B W w1 :=
  ⟨h.size, fun k o hk ho hc => h.kept ho fun he => by rw [hE k o he hk ho] at hc; cases hc⟩
end Go.Proofs.YtjpobkmlcjbpiaaGreat
