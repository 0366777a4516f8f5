/- A LAW FOR A REGION WITHIN A ROUND: what leaves the world alone in the drawn order, and one operation that comes behind all others. -/
import Derived.Sort.QuietThIn
import Derived.Sort.BigQuietIn
import Derived.WalkKit
set_option linter.unusedVariables false
set_option linter.unusedSimpArgs false
namespace Go.Proofs.Ytphdndiikikecaa
open Go

section
variable {F : Fence} {n : Nat} {P : Program}

theorem wpIn_inRound {l : Nat} {o : Oper} {a : Act} {w : World} {K : Act → World → Prop} {Q : Exit → Act → World → Prop} (hro : F.round = none) (hd : ∀ c, o.op ≠ .defer c)
    (h : o.wpIn F n P a w K Q) : o.wpIn (F.inRound l) n P a w K Q := by
  unfold Oper.wpIn at h ⊢
  rw [hro, Oper.semAt_none] at h
  rw [Oper.semAt_eq _ _ _ hd]
  refine ⟨h.1, ?_⟩
  have h2 := h.2
  generalize (execOp a.eval o).run P w = r at *
  cases r with
  | ok x w' => cases x <;> exact h2
  | halt x w' => cases x <;> exact h2

def backB (l : List Oper) : Bool := (List.range l.length).all fun i => ((l[i]?).map fun o => o.after.all fun e => decide (e.on < i)).getD true
def tailB (l : List Oper) (st : Oper) : Bool := (List.range l.length).all (fun i => st.after.any fun e => Region.binds .any e && e.on == i)
def plainB (l : List Oper) : Bool := l.all fun o => o.guard.isNone && match o.op with | .defer _ => false | _ => true
theorem plainB_guard {l : List Oper} (h : plainB l = true) {i : Nat} {o : Oper} (ho : l[i]? = some o) : o.guard = none ∧ ∀ c, o.op ≠ .defer c := by
  have := List.all_eq_true.1 h o (List.mem_of_getElem? ho)
  simp only [Bool.and_eq_true, Option.isNone_iff_eq_none] at this
  refine ⟨this.1, fun c hc => ?_⟩
  have h2 := this.2
  rw [hc] at h2
  cases h2

theorem ready_none {l : List Oper} {listed : Array Bool} (hb : backB l = true) (hs : listed.size = l.length) (h : Region.ready .any l.toArray listed = []) : ∀ i, i < l.length → listed.getD i false = true := by
  intro i
  induction i using Nat.strongRecOn with
  | ind i ih =>
    intro hi
    refine Classical.byContradiction fun hn => ?_
    have hmem : i ∈ Region.ready .any l.toArray listed := by
      unfold Region.ready
      rw [List.mem_filter]
      refine ⟨by simpa using hi, ?_⟩
      have hil : i < listed.size := by omega
      have h1 : listed.getD i true = false := by
        have : listed.getD i false = listed.getD i true := by simp [Array.getD, hil]
        rw [← this]; simpa using hn
      have hb1 := List.all_eq_true.1 hb i (by simpa using hi)
      have hl : l[i]? = some l[i] := List.getElem?_eq_getElem hi
      rw [hl] at hb1
      simp only [h1, Bool.not_false, Bool.true_and, List.getElem?_toArray, hl, Option.map_some, Option.getD_some] at hb1 ⊢
      rw [Array.all_eq_true_iff_forall_mem] at hb1 ⊢
      intro e he
      have := hb1 e he
      simp only [decide_eq_true_eq] at this
      rw [ih e.on this (by omega)]
      simp
    rw [h] at hmem
    cases hmem

theorem push_getD {A : Array Bool} {j : Nat} : (A.push false).getD j false = A.getD j false := by
  simp only [Array.getD_eq_getD_getElem?, Array.getElem?_push]
  split
  · rename_i h; subst h; simp
  · rfl
theorem push_getD_true {A : Array Bool} {j : Nat} (h : j < A.size) : (A.push false).getD j true = A.getD j true := by
  simp only [Array.getD_eq_getD_getElem?, Array.getElem?_push]
  split
  · omega
  · rfl
theorem ready_push {l : List Oper} {st : Oper} {listed : Array Bool} (hs : listed.size = l.length) {i : Nat} (h : i ∈ Region.ready .any (l ++ [st]).toArray (listed.push false)) :
    (i < l.length ∧ i ∈ Region.ready .any l.toArray listed) ∨ (i = l.length ∧ ∀ e ∈ st.after, Region.binds .any e = true → listed.getD e.on false = true) := by
  unfold Region.ready at h
  rw [List.mem_filter] at h
  obtain ⟨h1, h2⟩ := h
  simp only [List.size_toArray, List.length_append, List.length_cons, List.length_nil, List.mem_range] at h1
  rw [Bool.and_eq_true] at h2
  obtain ⟨h3, h4⟩ := h2
  rcases Nat.lt_or_ge i l.length with hi | hi
  · refine .inl ⟨hi, ?_⟩
    unfold Region.ready
    rw [List.mem_filter]
    refine ⟨by simpa using hi, ?_⟩
    rw [push_getD_true (by omega)] at h3
    rw [h3, Bool.true_and]
    rw [List.getElem?_toArray, List.getElem?_append_left hi] at h4
    rw [List.getElem?_toArray]
    simpa only [push_getD] using h4
  · obtain rfl : i = l.length := by omega
    refine .inr ⟨rfl, fun e he hb => ?_⟩
    rw [List.getElem?_toArray, List.getElem?_append_right (Nat.le_refl _)] at h4
    simp only [Nat.sub_self, List.getElem?_cons_zero, Option.map_some, Option.getD_some, push_getD] at h4
    have := Array.all_eq_true_iff_forall_mem.1 h4 e he
    simpa [hb] using this
theorem tail_all {l : List Oper} {st : Oper} {listed : Array Bool} (ht : tailB l st = true) (h : ∀ e ∈ st.after, Region.binds .any e = true → listed.getD e.on false = true) : ∀ i, i < l.length → listed.getD i false = true := by
  intro i hi
  have := List.all_eq_true.1 ht i (by simpa using hi)
  simp only [Array.any_eq_true, Bool.and_eq_true, beq_iff_eq] at this
  obtain ⟨j, hj, hb, he⟩ := this
  rw [← he]
  exact h _ (Array.getElem_mem hj) hb
theorem all_none {l : List Oper} {listed : Array Bool} (hs : listed.size = l.length) (h : ∀ i, i < l.length → listed.getD i false = true) : Region.ready .any l.toArray listed = [] := by
  unfold Region.ready
  rw [List.filter_eq_nil_iff]
  intro i hi
  have hi' : i < l.length := by simpa using hi
  have h1 : listed.getD i true = true := by
    have h2 : i < listed.size := by omega
    have : listed.getD i false = listed.getD i true := by simp [Array.getD, h2]
    rw [← this]; exact h i hi'
  simp [h1]
theorem st_ready {l : List Oper} {st : Oper} {listed : Array Bool} (hs : listed.size = l.length) (hst : st.after.all (fun e => decide (e.on < l.length)) = true) (h : ∀ i, i < l.length → listed.getD i false = true) : l.length ∈ Region.ready .any (l ++ [st]).toArray (listed.push false) := by
  unfold Region.ready
  rw [List.mem_filter]
  refine ⟨by simp, ?_⟩
  have h1 : (listed.push false).getD l.length true = false := by
    rw [← hs]; simp [Array.getD]
  rw [h1, List.getElem?_toArray, List.getElem?_append_right (Nat.le_refl _)]
  simp only [Nat.sub_self, List.getElem?_cons_zero, Option.map_some, Option.getD_some, push_getD, Bool.not_false, Bool.true_and]
  rw [Array.all_eq_true_iff_forall_mem]
  intro e he
  have := Array.all_eq_true_iff_forall_mem.1 hst e he
  rw [h e.on (by simpa using this)]
  simp

theorem all_after {l : List Oper} {st : Oper} {listed : Array Bool} (hs : listed.size = l.length) (h : ∀ i, i < l.length → listed.getD i false = true) : Region.ready .any (l ++ [st]).toArray ((listed.push false).setIfInBounds l.length true) = [] := by
  have : (listed.push false).setIfInBounds l.length true = listed.push true := by
    rw [← hs]; apply Array.ext_getElem?; intro i
    simp only [Array.getElem?_setIfInBounds, Array.getElem?_push, Array.size_push]
    split <;> split <;> simp_all <;> omega
  rw [this]
  refine all_none (by simp [hs]) fun i hi => ?_
  simp only [List.length_append, List.length_cons, List.length_nil] at hi
  simp only [Array.getD_eq_getD_getElem?, Array.getElem?_push]
  split
  · rfl
  · have := h i (by omega)
    rw [Array.getD_eq_getD_getElem?] at this
    exact this

theorem wpOpIn_round {l : Nat} {ops ops' : Array Oper} {C : World → Prop} {Q : Exit → Act → World → Prop} {i : Nat} {o : Oper} {a : Act} {w : World} {K : Act → Prop} {K' : Act → World → Prop} (hro : F.round = none) (hC : C w) (ho : ops[i]? = some o) (ho' : ops'[i]? = some o)
    (hg : o.guard = none) (hd : ∀ c, o.op ≠ .defer c) (h : ∀ a w', C w' → K a → K' a w') (hh : qOpIn F n P ops C i K a) : wpOpIn (F.inRound l) n P ops' Q i K' a w := by
  have hw : ∀ f, Region.wanted o f = true := fun f => by simp [Region.wanted, hg]
  unfold qOpIn at hh
  unfold wpOpIn
  simp only [ho, hw, if_true] at hh
  simp only [ho', hw, if_true]
  exact wpIn_inRound hro hd (Oper.wpIn_of_quiet hro hC h hh.1 hh.2)

theorem any_store {l : Nat} {ops : List Oper} {st : Oper} {C : World → Prop} {Qm : Act → Prop} {Q : Exit → Act → World → Prop} (hro : F.round = none) (hp : plainB (ops ++ [st]) = true) (hb : backB ops = true) (ht : tailB ops st = true) (hst : st.after.all (fun e => decide (e.on < ops.length)) = true)
    (hs : ∀ a w, C w → Qm a → st.wpIn F n P a w (fun a w => Q .normal a w) Q) :
    ∀ (fuel : Nat) (listed : Array Bool) (a : Act) (w : World), listed.size = ops.length → C w → wpAnyQIn F n P .any ops.toArray C Qm fuel listed a → wpAnyIn (F.inRound l) n P .any (ops ++ [st]).toArray Q (fuel + 1) (listed.push false) a w := by
  have hlast : (ops ++ [st]).toArray[ops.length]? = some st := by simp
  have hlp := plainB_guard hp (i := ops.length) (o := st) (by simp)
  have hend : ∀ (fuel : Nat) (listed : Array Bool) (a : Act) (w : World), listed.size = ops.length → C w → Region.ready .any ops.toArray listed = [] → Qm a → wpAnyIn (F.inRound l) n P .any (ops ++ [st]).toArray Q (fuel + 1) (listed.push false) a w := by
    intro fuel listed a w hsz hC hr hq
    have hall := ready_none hb hsz hr
    refine ⟨fun h0 => ?_, fun i hi => ?_⟩
    · have := st_ready (st := st) hsz hst hall
      rw [h0] at this; cases this
    · rcases ready_push hsz hi with ⟨_, h2⟩ | ⟨rfl, _⟩
      · rw [hr] at h2; cases h2
      · unfold wpOpIn
        have hw : ∀ f, Region.wanted st f = true := fun f => by simp [Region.wanted, hlp.1]
        simp only [hlast, hw, if_true]
        refine wpIn_inRound hro hlp.2 (Oper.wpIn_mono (fun a w h => ?_) (hs a w hC hq))
        have h0 := all_after (st := st) hsz hall
        cases fuel with
        | zero => exact ⟨h0, h⟩
        | succ fuel => exact ⟨fun _ => h, fun j hj => by rw [h0] at hj; cases hj⟩
  intro fuel
  induction fuel with
  | zero => intro listed a w hsz hC h; exact hend 0 listed a w hsz hC h.1 h.2
  | succ fuel ih =>
    intro listed a w hsz hC h
    by_cases hr : Region.ready .any ops.toArray listed = []
    · exact hend (fuel + 1) listed a w hsz hC hr (h.1 hr)
    · refine ⟨fun h0 => ?_, fun i hi => ?_⟩
      · obtain ⟨i, hi⟩ := List.exists_mem_of_ne_nil _ hr
        have hi' := hi
        unfold Region.ready at hi
        rw [List.mem_filter] at hi
        have hlt : i < ops.length := by simpa using hi.1
        have : i ∈ Region.ready .any (ops ++ [st]).toArray (listed.push false) := by
          unfold Region.ready
          rw [List.mem_filter]
          refine ⟨by simp; omega, ?_⟩
          rw [push_getD_true (by omega), List.getElem?_toArray, List.getElem?_append_left hlt]
          simpa only [push_getD, List.getElem?_toArray] using hi.2
        rw [h0] at this; cases this
      · rcases ready_push hsz hi with ⟨hlt, h2⟩ | ⟨rfl, h2⟩
        · have ho : ops[i]? = some ops[i] := List.getElem?_eq_getElem hlt
          have hpl := plainB_guard hp (i := i) (o := ops[i]) (by rw [List.getElem?_append_left hlt]; exact ho)
          refine wpOpIn_round hro hC (by rw [List.getElem?_toArray]; exact ho) (by rw [List.getElem?_toArray, List.getElem?_append_left hlt]; exact ho) hpl.1 hpl.2 (fun a w' hC' h3 => ?_) (h.2 i h2)
          have := ih (listed.setIfInBounds i true) a w' (by simp [hsz]) hC' h3
          have e : (listed.push false).setIfInBounds i true = (listed.setIfInBounds i true).push false := by
            apply Array.ext_getElem?; intro j
            have hi1 : i < listed.size := by omega
            by_cases h1 : i = j
            · subst h1
              have h4 : ¬ i = listed.size := by omega
              simp [Array.getElem?_setIfInBounds, Array.getElem?_push, h4, hi1, Nat.lt_succ_of_lt hi1]
              rw [Array.getElem_push_lt (by simpa using hi1)]
              simp
            · simp [Array.getElem?_setIfInBounds, Array.getElem?_push, h1]
          rw [e]; exact this
        · exact absurd (all_none hsz (tail_all ht h2)) hr

/-- A region within a round: all but its last operation leave the world alone; the last one comes behind them all. -/
theorem wpIn_region_round_store {l id : Nat} {ops : List Oper} {st : Oper} {Q : Exit → Act → World → Prop} {a : Act} {w : World} (hro : F.round = none) (hm : P.follows .mixedOrders = true) (hB : Region.lexB .any ops.toArray = true)
    (hp : plainB (ops ++ [st]) = true) (hb : backB ops = true) (ht : tailB ops st = true) (hst : st.after.all (fun e => decide (e.on < ops.length)) = true)
    (h : wpQuietIn F n P ops.toArray (fun w' => ∃ n, w' = w.drewN n) (fun a' => ∀ m K, (∀ a w, Q .normal a w → K a w) → st.wpIn F n P a' (w.drewN m) K Q) ops a) : (Code.region id (ops ++ [st]).toArray true).wpIn (F.inRound l) n P Q a w := by
  simp only [Region.lexB, Bool.and_eq_true] at hB
  refine wpIn_region_any hm ?_
  have h1 := wpAnyQIn_lex (F := F) (n := n) (C := fun w' => ∃ n, w' = w.drewN n) (md := .any) hB.1 ops 0 (Array.replicate ops.length false) a (by simp) (by simpa using hB.2) h
  have h2 := any_store (l := l) (st := st) (Q := Q) hro hp hb ht hst (by rintro a' w' ⟨m, rfl⟩ hq; exact hq m _ (fun _ _ h => h)) ops.length (Array.replicate ops.length false) a { w with drawn := w.drawn + 1 } (by simp) ⟨1, rfl⟩ h1
  have e : Array.replicate (ops ++ [st]).toArray.size false = (Array.replicate ops.length false).push false := by
    simp [Array.replicate_succ]
  rw [e]
  simpa using h2
end
end Go.Proofs.Ytphdndiikikecaa
