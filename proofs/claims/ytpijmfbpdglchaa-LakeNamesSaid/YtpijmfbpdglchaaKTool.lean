/- A LAW: in a region that draws its order, loads may be taken first also of cells that the region's last operations write: a condition on the world that holds until one of these comes up. -/
import Derived.OrdersHeld
import Derived.Deep.RegionHeld
import Derived.WalkKit
import Derived.OrdersIn
import Derived.OwnWalkIn
import Derived.RangeFuncCalls
import Derived.Deep.RegionHeld3
import Derived.Test.YtpijmfbpdglchaaVoc
import Derived.RangeFuncNested
import Derived.RangeFuncBound
import Derived.RangeFuncBox
import Derived.Maps.AppendAt
import Derived.Test.YtpijmfbpdglchaaProg
import Derived.Shelf.SlSortCmp.NoneTotal
import Derived.Shelf.SlicesE.Clone
set_option linter.unusedVariables false
set_option linter.unusedSimpArgs false
namespace Go.Proofs.Ytpijmfbpdglchaa
open Go.RowKit Go.Proofs
section
variable {P : Program} {ops : Array Oper} {Q : Exit → Act → World → Prop} {md : Region.Mode} {fins : List Nat} {S : World → Prop}
/-- has one of the last operations come up? -/
def ended (fins : List Nat) (listed : Array Bool) : Bool := fins.any fun f => listed.getD f false
/-- the condition, until one of the last operations has come up -/
def Till (fins : List Nat) (S : World → Prop) (listed : Array Bool) (w : World) : Prop := ended fins listed = false → S w
def wpAnyL (P : Program) (md : Region.Mode) (ops : Array Oper) (Q : Exit → Act → World → Prop) (fins : List Nat) (S : World → Prop) : Nat → Array Bool → Act → World → Prop
  | 0, listed, a, w => Region.ready md ops listed = [] ∧ Q .normal a w
  | fuel + 1, listed, a, w =>
    (Region.ready md ops listed = [] → Q .normal a w) ∧
    ∀ i ∈ Region.ready md ops listed, wpOp P ops Q i (fun a' w' => Till fins S (listed.setIfInBounds i true) w' ∧ wpAnyL P md ops Q fins S fuel (listed.setIfInBounds i true) a' w') a w
theorem wpAny_of_till : ∀ (fuel : Nat) (listed : Array Bool) (a : Act) (w : World), wpAnyL P md ops Q fins S fuel listed a w → wpAny P md ops Q fuel listed a w
  | 0, _, _, _, h => h
  | fuel + 1, _, _, _, h => ⟨h.1, fun i hi => wpOp_mono (fun a' w' h' => wpAny_of_till fuel _ a' w' h'.2) (h.2 i hi)⟩
theorem ended_set {listed : Array Bool} {i : Nat} (h : ended fins (listed.setIfInBounds i true) = false) : ended fins listed = false := by
  unfold ended at *
  rw [List.any_eq_false] at *
  intro f hf hl
  refine h f hf ?_
  simp only [Array.getD_eq_getD_getElem?, Array.getElem?_setIfInBounds] at hl ⊢
  split
  · rename_i e
    subst e
    split
    · rfl
    · rename_i h1
      have : listed[i]? = none := Array.getElem?_eq_none (by omega)
      rw [this] at hl; exact hl
  · exact hl
theorem ended_set_not {listed : Array Bool} {i : Nat} (h : ended fins listed = false) (hi : i ∉ fins) : ended fins (listed.setIfInBounds i true) = false := by
  unfold ended at *
  rw [List.any_eq_false] at *
  intro f hf hl
  have hne : i ≠ f := fun e => hi (e ▸ hf)
  refine h f hf ?_
  simpa only [Array.getD_eq_getD_getElem?, Array.getElem?_setIfInBounds, if_neg hne] using hl
/-- what has come up is closed: all that it waits for has come up -/
def Closed (md : Region.Mode) (ops : Array Oper) (listed : Array Bool) : Prop := ∀ k o, ops[k]? = some o → listed.getD k false = true → ∀ e ∈ o.after, Region.binds md e = true → listed.getD e.on false = true
def closedB (md : Region.Mode) (ops : Array Oper) (listed : Array Bool) : Bool := (List.range ops.size).all fun k => !listed.getD k false || match ops[k]? with | some o => o.after.all fun e => !Region.binds md e || listed.getD e.on false | none => true
theorem Closed.of {listed : Array Bool} (h : closedB md ops listed = true) : Closed md ops listed := fun k o ho hl e he hb => by
  have := List.all_eq_true.1 h k (List.mem_range.2 (Array.getElem?_eq_some_iff.1 ho).1)
  rw [ho, hl] at this
  simp only [Bool.not_true, Bool.false_or, Array.all_eq_true_iff_forall_mem] at this
  have := this e he
  rwa [hb, Bool.not_true, Bool.false_or] at this
theorem Closed.add {listed : Array Bool} {j : Nat} (h : Closed md ops listed) (hj : j ∈ Region.ready md ops listed) : Closed md ops (listed.setIfInBounds j true) := fun k o ho hl e he hb => by
  by_cases hjk : j = k
  · subst hjk
    obtain ⟨_, o', ho', hall⟩ := mem_ready.1 hj
    rw [ho] at ho'; cases ho'
    exact getD_set_true (hall e he hb)
  · rw [getD_set_ne false hjk] at hl
    exact getD_set_true (h k o ho hl e he hb)
/-- does f wait for i, over at most n steps more? -/
def depB (md : Region.Mode) (ops : Array Oper) (i : Nat) : Nat → Nat → Bool
  | 0, f => match ops[f]? with | some o => o.after.any fun e => Region.binds md e && e.on == i | none => false
  | n + 1, f => match ops[f]? with | some o => o.after.any fun e => Region.binds md e && (e.on == i || depB md ops i n e.on) | none => false
theorem depB_listed {listed : Array Bool} (hc : Closed md ops listed) {i : Nat} : ∀ (n f : Nat), (∀ o, ops[f]? = some o → ∀ e ∈ o.after, Region.binds md e = true → listed.getD e.on false = true) → depB md ops i n f = true → listed.getD i false = true
  | 0, f, hf, h => by
    unfold depB at h
    cases ho : ops[f]? with
    | none => rw [ho] at h; cases h
    | some o =>
      rw [ho] at h
      simp only [Array.any_eq_true, Bool.and_eq_true, beq_iff_eq] at h
      obtain ⟨k, hk, h1, h2⟩ := h
      exact h2 ▸ hf o ho o.after[k] (Array.getElem_mem _) h1
  | n + 1, f, hf, h => by
    unfold depB at h
    cases ho : ops[f]? with
    | none => rw [ho] at h; cases h
    | some o =>
      rw [ho] at h
      simp only [Array.any_eq_true, Bool.and_eq_true, Bool.or_eq_true, beq_iff_eq] at h
      obtain ⟨k, hk, h1, h2⟩ := h
      have h3 := hf o ho o.after[k] (Array.getElem_mem _) h1
      rcases h2 with h2 | h2
      · exact h2 ▸ h3
      · exact depB_listed hc n _ (fun o' ho' e he hb => hc _ o' ho' h3 e he hb) h2
theorem wpAnyL_first {n i : Nat} {oi : Oper} {v : Value} (hi : ops[i]? = some oi) (hsel : ∀ (j : Nat) (o : Oper) cs b, ops[j]? = some o → o.op ≠ .select cs b)
    (hQ : ∀ c a w, Q (.panic c) (a.put oi.dst v) w → Q (.panic c) a w) (hfi : i ∉ fins)
    (hfin : ∀ f ∈ fins, depB md ops i n f = true) :
    ∀ (fuel : Nat) (listed : Array Bool) (a : Act) (w : World),
      (∀ j oj, ops[j]? = some oj → j ≠ i → listed.getD j true = false → (∀ e ∈ oj.after, Region.binds md e = true → e.on ≠ i) → oi.apart ops oj = true) →
      i ∈ Region.ready md ops listed → YieldsIf P ops S oi v a → ended fins listed = false → Closed md ops listed → S w →
      wpAnyL P md ops Q fins S fuel (listed.setIfInBounds i true) (a.put oi.dst v) w → wpAnyL P md ops Q fins S (fuel + 1) listed a w := by
  intro fuel
  induction fuel with
  | zero =>
    intro listed a w _ hr hy he hcl hS H
    refine ⟨fun h => (by rw [h] at hr; cases hr), fun j hj => ?_⟩
    by_cases hji : j = i
    · subst hji; exact hy.wpOp hi hS ⟨fun _ => hS, H⟩
    · have := ready_mono hj hji
      rw [H.1] at this
      cases this
  | succ fuel ih =>
    intro listed a w hfree hr hy he hcl hS H
    refine ⟨fun h => (by rw [h] at hr; cases hr), fun j hj => ?_⟩
    by_cases hji : j = i
    · subst hji; exact hy.wpOp hi hS ⟨fun _ => hS, H⟩
    · have h1 := H.2 j (ready_mono hj hji)
      obtain ⟨hjun, oj, hoj, hall⟩ := mem_ready.1 hj
      have hnot : ∀ e ∈ oj.after, Region.binds md e = true → e.on ≠ i := fun e he hb heq => by
        have h1 := hall e he hb
        have h0 := (mem_ready.1 hr).1
        rw [heq] at h1
        rcases Nat.lt_or_ge i listed.size with h' | h'
        · simp [h'] at h0 h1; rw [h0] at h1; cases h1
        · simp [Array.getElem?_eq_none h'] at h1
      have hjf : j ∉ fins := fun hjf => by
        have h0 := (mem_ready.1 hr).1
        have h1 := depB_listed hcl n j (fun o' ho' e he hb => by rw [hoj] at ho'; cases ho'; exact hall e he hb) (hfin j hjf)
        rcases Nat.lt_or_ge i listed.size with h' | h'
        · simp [h'] at h0 h1; rw [h0] at h1; cases h1
        · simp [Array.getElem?_eq_none h'] at h1
      have hej := ended_set_not he hjf
      have hej' : ended fins ((listed.setIfInBounds i true).setIfInBounds j true) = false := ended_set_not (ended_set_not he hfi) hjf
      have h2 := wpOp_putIf hoj (hfree j oj hoj hji hjun hnot) (fun cs b => hsel i oi cs b hi) (fun cs b => hsel j oj cs b hoj) hQ hy h1
      have hfree' : ∀ k ok, ops[k]? = some ok → k ≠ i → (listed.setIfInBounds j true).getD k true = false →
          (∀ e ∈ ok.after, Region.binds md e = true → e.on ≠ i) → oi.apart ops ok = true := fun k ok hk hki hun hno => by
        refine hfree k ok hk hki ?_ hno
        by_cases hjk : j = k
        · subst hjk; exact hjun
        · rw [getD_set_ne true hjk] at hun; exact hun
      refine wpOp_mono (fun a' w' h3 => ?_) h2
      have hS' := h3.2.1 hej'
      refine ⟨fun _ => hS', ih (listed.setIfInBounds j true) a' w' hfree' (ready_mono hr (Ne.symm hji)) h3.1 hej (hcl.add hj) hS' ?_⟩
      rw [Array.setIfInBounds_comm _ _ hji]
      exact h3.2.2
/-- do the last operations wait for number i? -/
def waitB (md : Region.Mode) (ops : Array Oper) (fins : List Nat) (n i : Nat) : Bool := !fins.contains i && fins.all fun f => depB md ops i n f
theorem wpAnyL_take {n i : Nat} {oi : Oper} {v : Value} {fuel : Nat} {listed : Array Bool} {a : Act} {w : World} (hi : ops[i]? = some oi)
    (hs : Region.noSelect ops = true) (hf : Region.free md ops listed i = true) (hr : (Region.ready md ops listed).contains i = true) (hw : waitB md ops fins n i = true) (he : ended fins listed = false) (hc : closedB md ops listed = true)
    (hQ : ∀ c a w, Q (.panic c) (a.put oi.dst v) w → Q (.panic c) a w) (hy : YieldsIf P ops S oi v a) (hS : S w)
    (h : wpAnyL P md ops Q fins S fuel (listed.setIfInBounds i true) (a.put oi.dst v) w) : wpAnyL P md ops Q fins S (fuel + 1) listed a w := by
  simp only [waitB, Bool.and_eq_true, Bool.not_eq_true', List.all_eq_true] at hw
  exact wpAnyL_first hi (Region.noSelect_spec hs) hQ (by simpa using hw.1) hw.2 fuel listed a w (Region.free_spec hi hf) (by simpa using hr) hy he (.of hc) hS h
/-- an operation that yields its value in every world, behind one of the last ones or not -/
theorem wpAnyL_pure {i : Nat} {oi : Oper} {v : Value} (hi : ops[i]? = some oi) (hsel : ∀ (j : Nat) (o : Oper) cs b, ops[j]? = some o → o.op ≠ .select cs b)
    (hQ : ∀ c a w, Q (.panic c) (a.put oi.dst v) w → Q (.panic c) a w) (hfi : i ∉ fins) :
    ∀ (fuel : Nat) (listed : Array Bool) (a : Act) (w : World),
      (∀ j oj, ops[j]? = some oj → j ≠ i → listed.getD j true = false → (∀ e ∈ oj.after, Region.binds md e = true → e.on ≠ i) → oi.apart ops oj = true) →
      i ∈ Region.ready md ops listed → YieldsIf P ops (fun _ => True) oi v a → Till fins S listed w →
      wpAnyL P md ops Q fins S fuel (listed.setIfInBounds i true) (a.put oi.dst v) w → wpAnyL P md ops Q fins S (fuel + 1) listed a w := by
  intro fuel
  induction fuel with
  | zero =>
    intro listed a w _ hr hy hS H
    refine ⟨fun h => (by rw [h] at hr; cases hr), fun j hj => ?_⟩
    by_cases hji : j = i
    · subst hji; exact hy.wpOp hi trivial ⟨fun h => hS (ended_set h), H⟩
    · have := ready_mono hj hji
      rw [H.1] at this
      cases this
  | succ fuel ih =>
    intro listed a w hfree hr hy hS H
    refine ⟨fun h => (by rw [h] at hr; cases hr), fun j hj => ?_⟩
    by_cases hji : j = i
    · subst hji; exact hy.wpOp hi trivial ⟨fun h => hS (ended_set h), H⟩
    · have h1 := H.2 j (ready_mono hj hji)
      obtain ⟨hjun, oj, hoj, hall⟩ := mem_ready.1 hj
      have hnot : ∀ e ∈ oj.after, Region.binds md e = true → e.on ≠ i := fun e he hb heq => by
        have h1 := hall e he hb
        have h0 := (mem_ready.1 hr).1
        rw [heq] at h1
        rcases Nat.lt_or_ge i listed.size with h' | h'
        · simp [h'] at h0 h1; rw [h0] at h1; cases h1
        · simp [Array.getElem?_eq_none h'] at h1
      have h2 := wpOp_putIf hoj (hfree j oj hoj hji hjun hnot) (fun cs b => hsel i oi cs b hi) (fun cs b => hsel j oj cs b hoj) hQ hy h1
      have hfree' : ∀ k ok, ops[k]? = some ok → k ≠ i → (listed.setIfInBounds j true).getD k true = false →
          (∀ e ∈ ok.after, Region.binds md e = true → e.on ≠ i) → oi.apart ops ok = true := fun k ok hk hki hun hno => by
        refine hfree k ok hk hki ?_ hno
        by_cases hjk : j = k
        · subst hjk; exact hjun
        · rw [getD_set_ne true hjk] at hun; exact hun
      refine wpOp_mono (fun a' w' h3 => ?_) h2
      have hS' : Till fins S (listed.setIfInBounds j true) w' := fun he => h3.2.1 (by rw [Array.setIfInBounds_comm _ _ (Ne.symm hji)]; exact ended_set_not he hfi)
      refine ⟨hS', ih (listed.setIfInBounds j true) a' w' hfree' (ready_mono hr (Ne.symm hji)) h3.1 hS' ?_⟩
      rw [Array.setIfInBounds_comm _ _ hji]
      exact h3.2.2
/-- the same behind the last operations, where the condition is asked no more -/
theorem wpAnyL_free {i : Nat} {oi : Oper} {v : Value} {fuel : Nat} {listed : Array Bool} {a : Act} {w : World} (hi : ops[i]? = some oi)
    (hs : Region.noSelect ops = true) (hf : Region.free md ops listed i = true) (hr : (Region.ready md ops listed).contains i = true) (hn : fins.contains i = false) (he : ended fins listed = true)
    (hQ : ∀ c a w, Q (.panic c) (a.put oi.dst v) w → Q (.panic c) a w) (hy : YieldsIf P ops (fun _ => True) oi v a)
    (h : wpAnyL P md ops Q fins S fuel (listed.setIfInBounds i true) (a.put oi.dst v) w) : wpAnyL P md ops Q fins S (fuel + 1) listed a w :=
  wpAnyL_pure hi (Region.noSelect_spec hs) hQ (by simpa using hn) fuel listed a w (Region.free_spec hi hf) (by simpa using hr) hy (fun h => by rw [he] at h; cases h) h
/-- the same before them -/
theorem wpAnyL_freeS {i : Nat} {oi : Oper} {v : Value} {fuel : Nat} {listed : Array Bool} {a : Act} {w : World} (hi : ops[i]? = some oi)
    (hs : Region.noSelect ops = true) (hf : Region.free md ops listed i = true) (hr : (Region.ready md ops listed).contains i = true) (hn : fins.contains i = false)
    (hQ : ∀ c a w, Q (.panic c) (a.put oi.dst v) w → Q (.panic c) a w) (hy : YieldsIf P ops (fun _ => True) oi v a) (hS : S w)
    (h : wpAnyL P md ops Q fins S fuel (listed.setIfInBounds i true) (a.put oi.dst v) w) : wpAnyL P md ops Q fins S (fuel + 1) listed a w :=
  wpAnyL_pure hi (Region.noSelect_spec hs) hQ (by simpa using hn) fuel listed a w (Region.free_spec hi hf) (by simpa using hr) hy (fun _ => hS) h
theorem wpAnyL_done {listed : Array Bool} {a : Act} {w : World} (hr : Region.ready md ops listed = []) (h : Q .normal a w) :
    ∀ fuel, wpAnyL P md ops Q fins S fuel listed a w
  | 0 => ⟨hr, h⟩
  | _ + 1 => ⟨fun _ => h, by rw [hr]; simp⟩
def AllReadyL (P : Program) (md : Region.Mode) (ops : Array Oper) (Q : Exit → Act → World → Prop) (fins : List Nat) (S : World → Prop) (fuel : Nat) (listed : Array Bool) (a : Act) (w : World) (rs : List Nat) : Prop :=
  ∀ i ∈ rs, wpOp P ops Q i (fun a' w' => Till fins S (listed.setIfInBounds i true) w' ∧ wpAnyL P md ops Q fins S fuel (listed.setIfInBounds i true) a' w') a w
theorem AllReadyL.nil {fuel : Nat} {listed : Array Bool} {a : Act} {w : World} : AllReadyL P md ops Q fins S fuel listed a w [] := fun _ h => by cases h
/-- an operation behind which the condition still holds -/
theorem AllReadyL.cons {fuel : Nat} {listed : Array Bool} {a : Act} {w : World} {i : Nat} {o : Oper} {rs : List Nat} (ho : ops[i]? = some o)
    (h : ∀ K' : Act → World → Prop, Shut (∀ a w, S w → (S w → wpAnyL P md ops Q fins S fuel (listed.setIfInBounds i true) a w) → K' a w) → if Region.wanted o (yielded ops a.tmps) = true then Oper.wp P o a w K' Q else K' (a.put o.dst undef) w)
    (hs : AllReadyL P md ops Q fins S fuel listed a w rs) : AllReadyL P md ops Q fins S fuel listed a w (i :: rs) := fun j hj => by
  rcases List.mem_cons.1 hj with rfl | hj
  · exact wpOp_step ho (fun K' hK => h K' (fun a w hS hW => hK a w ⟨fun _ => hS, hW hS⟩))
  · exact hs j hj
/-- an operation behind which it need not hold -/
theorem AllReadyL.last {fuel : Nat} {listed : Array Bool} {a : Act} {w : World} {i : Nat} {o : Oper} {rs : List Nat} (ho : ops[i]? = some o) (he : ended fins (listed.setIfInBounds i true) = true)
    (h : ∀ K' : Act → World → Prop, Shut (∀ a w, wpAnyL P md ops Q fins S fuel (listed.setIfInBounds i true) a w → K' a w) → if Region.wanted o (yielded ops a.tmps) = true then Oper.wp P o a w K' Q else K' (a.put o.dst undef) w)
    (hs : AllReadyL P md ops Q fins S fuel listed a w rs) : AllReadyL P md ops Q fins S fuel listed a w (i :: rs) := fun j hj => by
  rcases List.mem_cons.1 hj with rfl | hj
  · exact wpOp_step ho (fun K' hK => h K' (fun a w hW => hK a w ⟨fun h' => by (rw [he] at h'; cases h'), hW⟩))
  · exact hs j hj
theorem wpAnyL_ready {rs : List Nat} {fuel : Nat} {listed : Array Bool} {a : Act} {w : World} (hr : Region.ready md ops listed = rs) (hne : rs ≠ [])
    (h : AllReadyL P md ops Q fins S fuel listed a w rs) : wpAnyL P md ops Q fins S (fuel + 1) listed a w :=
  ⟨fun h0 => absurd (hr ▸ h0) hne, hr ▸ h⟩
theorem wp_region_till {id : Nat} {a : Act} {w : World} (fins : List Nat) (S : World → Prop) (hm : P.follows .mixedOrders = true) (hS : S w.drew)
    (h : S w.drew → wpAnyL P .any ops Q fins S ops.size (Array.replicate ops.size false) a w.drew) : (Code.region id ops true).wp P Q a w :=
  wp_region_any hm (wpAny_of_till _ _ _ _ (h hS))
end
end Go.Proofs.Ytpijmfbpdglchaa

namespace Go.Proofs.Ytpijmfbpdglchaa
open Go.RowKit Go.Proofs

/-- the posts of a way on alone -/
def OnlyN (Q : Exit → Act → World → Prop) : Exit → Act → World → Prop
  | .normal, a, w => Q .normal a w
  | _, _, _ => False
def noDefer (ops : Array Oper) : Bool := ops.toList.all fun o => match o.op with | .defer _ => false | _ => true
theorem noDefer_at {ops : Array Oper} (h : noDefer ops = true) {i : Nat} {o : Oper} (ho : ops[i]? = some o) : ∀ c, o.op ≠ .defer c := by
  intro c e
  unfold noDefer at h
  rw [List.all_eq_true] at h
  have := h o (List.mem_of_getElem? (i := i) (by simpa using ho))
  rw [e] at this; cases this
section
variable {n : Nat} {P : Program} {Q : Exit → Act → World → Prop}
theorem wpIn_of_wp {l : Nat} {o : Oper} {a : Act} {w : World} {K : Act → World → Prop} (hd : ∀ c, o.op ≠ .defer c) (h : o.wp P a w K (OnlyN Q)) : o.wpIn (Fence.wide.inRound l) n P a w K Q := by
  unfold Oper.wp at h
  unfold Oper.wpIn
  refine ⟨fun f _ => trivial, ?_⟩
  rw [Oper.semAt_plain _ _ _ hd]
  generalize (execOp a.eval o).run P w = r at *
  cases r with
  | ok x w' =>
    cases x <;> simp only [Oper.uponIn, Oper.upon] at h ⊢
    · exact h
    · exact h
    · refine ⟨fun hh => (by cases hh), CallsIn.inRound l (callsIn_wide.2 (Calls.mono h fun e w'' he => ?_))⟩
      cases e with
      | returned v => exact he
      | panicked chain => exact he.elim
      | outgrown => obtain ⟨_, _, he⟩ := he; exact he.elim
    · exact h
    · exact ⟨fun hh => (by cases hh), fun c cs _ => let ⟨v, w2, k, s⟩ := h c cs; ⟨v, w2, k, stepsIn_wide.2 s⟩⟩
  | halt x w' => cases x <;> simp only [Oper.uponIn, Oper.upon] at h ⊢ <;> exact h.elim
theorem wpOpIn_of_wpOp {l : Nat} {ops : Array Oper} (hd : noDefer ops = true) {i : Nat} {K K' : Act → World → Prop} (hK : ∀ a w, K a w → K' a w) {a : Act} {w : World} (h : wpOp P ops (OnlyN Q) i K a w) : wpOpIn (Fence.wide.inRound l) n P ops Q i K' a w := by
  unfold wpOp at h
  unfold wpOpIn
  cases ho : ops[i]? with
  | none => simp only [ho] at h ⊢; exact hK _ _ h
  | some o =>
    simp only [ho] at h ⊢
    split at h
    · rename_i hw
      rw [if_pos hw]
      rcases h with h | ⟨_, _, _, h⟩
      · exact Oper.wpIn_mono hK (wpIn_of_wp (noDefer_at hd ho) h)
      · exact h.elim
    · rename_i hw
      rw [if_neg hw]
      exact ⟨fun f _ => trivial, hK _ _ h⟩
theorem wpAnyIn_of_wpAny {l : Nat} {ops : Array Oper} (hd : noDefer ops = true) {md : Region.Mode} : ∀ (fuel : Nat) (listed : Array Bool) (a : Act) (w : World), wpAny P md ops (OnlyN Q) fuel listed a w → wpAnyIn (Fence.wide.inRound l) n P md ops Q fuel listed a w
  | 0, listed, a, w, h => h
  | fuel + 1, listed, a, w, h => ⟨h.1, fun i hi => wpOpIn_of_wpOp hd (fun a w h => wpAnyIn_of_wpAny hd fuel _ a w h) (h.2 i hi)⟩
/-- A region within a round, from its held walk. -/
theorem wpIn_region_held_round {l id : Nat} {ops : Array Oper} {S : World → Prop} {a : Act} {w : World} (hm : P.follows .mixedOrders = true) (hd : noDefer ops = true) (hS : S w.drew)
    (h : S w.drew → wpAnyH P .any ops (OnlyN Q) S ops.size (Array.replicate ops.size false) a w.drew) : (Code.region id ops true).wpIn (Fence.wide.inRound l) n P Q a w :=
  wpIn_region_any hm (wpAnyIn_of_wpAny hd _ _ _ _ (wpAny_of_held _ _ _ _ (h hS)))
end
end Go.Proofs.Ytpijmfbpdglchaa

namespace Go.Proofs.Ytpijmfbpdglchaa
open Go.RowKit Go.Proofs

theorem own_ge {w : World} {base : Nat} {e : TypeId} {size n : Nat} {v : Value} {xs : List Value} (h : w.ownsRow base e size v n xs) {g : Nat} (hg : g < base) : some g ≠ v.ownBlock := by
  intro e
  rcases h.2 with ⟨rfl, _⟩ | ⟨g', cap, cur, rfl, hb, _⟩
  · simp [Value.ownBlock] at e
  · simp [Value.ownBlock] at e; omega
/-- Rows whose elements differ in type lie in different blocks; and a row lies in no block of another type. -/
theorem own_ty {W : World} {base : Nat} {e : TypeId} {size n : Nat} {v : Value} {xs : List Value} (h : W.ownsRow base e size v n xs) {g : Nat} (hg : v.ownBlock = some g) : ∃ cur, W.heap[g]? = some (.cells cur e (0, 0)) := by
  rcases h.2 with ⟨rfl, _⟩ | ⟨g', cap, cur, rfl, _, hb, _⟩
  · simp [Value.ownBlock] at hg
  · simp [Value.ownBlock] at hg; subst hg; exact ⟨cur, hb⟩
theorem own_own_ne {W : World} {base base' : Nat} {e e' : TypeId} {size size' n n' : Nat} {v v' : Value} {xs xs' : List Value} (h : W.ownsRow base e size v n xs) (h' : W.ownsRow base' e' size' v' n' xs') (hne : e ≠ e') {g : Nat} (hg : v.ownBlock = some g) : v'.ownBlock ≠ some g := by
  intro hg'
  obtain ⟨c1, h1⟩ := own_ty h hg
  obtain ⟨c2, h2⟩ := own_ty h' hg'
  rw [h1] at h2; injection h2 with h2; injection h2 with _ h2; exact hne h2
theorem own_blk_ne {W : World} {base : Nat} {e t : TypeId} {size n g : Nat} {v : Value} {xs : List Value} {cs : Array Value} (h : W.ownsRow base e size v n xs) (hb : Blk W g t cs) (hne : e ≠ t) : v.ownBlock ≠ some g := by
  intro hg
  obtain ⟨c1, h1⟩ := own_ty h hg
  rw [show W.heap[g]? = _ from hb] at h1; injection h1 with h1; injection h1 with _ h2; exact hne h2.symm
/-- Nothing that lay has turned, but for the blocks that E names. -/
structure Fr (E : Nat → Prop) (w w' : World) : Prop where
  os : w'.os = w.os
  tape : w'.tape = w.tape
  output : w'.output = w.output
  size : w.heap.size ≤ w'.heap.size
  block : ∀ g, g < w.heap.size → ¬ E g → w'.heap[g]? = w.heap[g]?
section
variable {E : Nat → Prop} {a b c : World}
theorem Fr.refl (E : Nat → Prop) (w : World) : Fr E w w := ⟨rfl, rfl, rfl, Nat.le_refl _, fun _ _ _ => rfl⟩
theorem Fr.trans (h : Fr E a b) (k : Fr E b c) : Fr E a c := ⟨k.os.trans h.os, k.tape.trans h.tape, k.output.trans h.output, Nat.le_trans h.size k.size, fun g hg hE => (k.block g (Nat.lt_of_lt_of_le hg h.size) hE).trans (h.block g hg hE)⟩
theorem Fr.wide {E' : Nat → Prop} (h : Fr E a b) (hw : ∀ g, g < a.heap.size → E g → E' g) : Fr E' a b := ⟨h.os, h.tape, h.output, h.size, fun g hg hE => h.block g hg fun he => hE (hw g hg he)⟩
theorem Fr.of_below (h : Below a.heap.size a b) (E : Nat → Prop) : Fr E a b := ⟨h.os, h.tape, h.output, h.size, fun g hg _ => h.block g hg⟩
theorem Fr.of_grown {row : Option Nat} (h : a.grownBy b row) (hE : ∀ g, row = some g → g < a.heap.size → E g) : Fr E a b :=
  ⟨h.os, h.tape, h.output, h.size, fun g hg hn => h.block g hg fun e => hn (hE g e.symm hg)⟩
theorem Fr.below {n₀ : Nat} (h : Fr E a b) (hn : n₀ ≤ a.heap.size) (hE : ∀ g, E g → n₀ ≤ g) : Below n₀ a b :=
  ⟨h.os, h.tape, h.output, h.size, fun g hg => h.block g (by omega) fun e => by have := hE g e; omega⟩
theorem Fr.setCell (h : Fr E a b) {g : Nat} (hg : E g ∨ a.heap.size ≤ g) (v : Value) : Fr E a (b.setCell ⟨g, 0, none⟩ v) :=
  ⟨h.os, h.tape, h.output, by simpa [World.setCell] using h.size, fun i hi hn => (Below.heap_setCell b ⟨g, 0, none⟩ v i (by
    rintro rfl
    rcases hg with hg | hg
    · exact hn hg
    · omega)).trans (h.block i hi hn)⟩
theorem Fr.step {row : Option Nat} (h : Fr E a b) (hg : b.grownBy c row) (hE : ∀ g, row = some g → E g ∨ a.heap.size ≤ g) : Fr E a c :=
  ⟨hg.os.trans h.os, hg.tape.trans h.tape, hg.output.trans h.output, Nat.le_trans h.size hg.size, fun g hlt hn => (hg.block g (Nat.lt_of_lt_of_le hlt h.size) fun e => by
    rcases hE g e.symm with h1 | h1
    · exact hn h1
    · omega).trans (h.block g hlt hn)⟩
theorem Fr.kept (h : Fr E a b) {g : Nat} {o : Obj} (hg : a.heap[g]? = some o) (hE : ¬ E g) : b.heap[g]? = some o := (h.block g (Array.getElem?_eq_some_iff.1 hg).1 hE).trans hg
theorem Fr.boxed (h : Fr E a b) {g : Nat} {t : TypeId} {v : Value} (hg : Boxed a g t v) (hE : ¬ E g) : Boxed b g t v := h.kept hg hE
theorem Fr.row (h : Fr E a b) {base : Nat} {e : TypeId} {size n : Nat} {v : Value} {xs : List Value} (hr : a.ownsRow base e size v n xs) (hE : ∀ g, v.ownBlock = some g → ¬ E g) : b.ownsRow base e size v n xs := by
  refine ⟨hr.1, ?_⟩
  rcases hr.2 with h0 | ⟨g, cap, cur, hv, hbase, hg, hrest⟩
  · exact .inl h0
  · exact .inr ⟨g, cap, cur, hv, hbase, h.kept hg (hE g (by rw [hv]; rfl)), hrest⟩
end


theorem Fr.comp {E E2 : Nat → Prop} {a b c : World} (h : Fr E a b) (k : Fr E2 b c) (hE : ∀ g, E2 g → E g ∨ a.heap.size ≤ g) : Fr E a c :=
  ⟨k.os.trans h.os, k.tape.trans h.tape, k.output.trans h.output, Nat.le_trans h.size k.size, fun g hlt hn => (k.block g (Nat.lt_of_lt_of_le hlt h.size) fun e => by
    rcases hE g e with h1 | h1
    · exact hn h1
    · omega).trans (h.block g hlt hn)⟩
theorem Fr.setAt {E : Nat → Prop} {a b : World} (h : Fr E a b) {p : Addr} (hg : E p.block ∨ a.heap.size ≤ p.block) (v : Value) : Fr E a (b.setCell p v) :=
  ⟨h.os, h.tape, h.output, by simpa [World.setCell] using h.size, fun i hi hn => (Below.heap_setCell b p v i (by
    rintro rfl
    rcases hg with hg | hg
    · exact hn hg
    · omega)).trans (h.block i hi hn)⟩
theorem Fr.blk {E : Nat → Prop} {a b : World} (h : Fr E a b) {g : Nat} {t : TypeId} {cs : Array Value} (hg : Blk a g t cs) (hE : ¬ E g) : Blk b g t cs := h.kept hg hE
theorem Fr.rd {E : Nat → Prop} {a b : World} (h : Fr E a b) {α : Type} {enc : α → List Value} {k : Nat} {A : Option Addr} {n : Nat} {l : List α} (hr : Rd enc k a A n l) (hE : ∀ ad, A = some ad → ¬ E ad.block) : Rd enc k b A n l :=
  ⟨hr.1, fun hn => by
    obtain ⟨bb, o, e, hlt, hc⟩ := hr.2 hn
    refine ⟨bb, o, e, Nat.lt_of_lt_of_le hlt h.size, fun i x hx j v hv => ?_⟩
    rw [World.cell?_of_block (w := a) (a := ⟨bb, _, none⟩) (h.block bb hlt (hE _ e))]
    exact hc i x hx j v hv⟩
theorem own_pre {w : World} {base : Nat} {e : TypeId} {v v' : Value} {n : Nat} {xs : List Value} {u : Value} {w2 : World} (h : w.ownsRow base e 1 v n xs) (h' : w.ownsRow base e 1 v' (n + 1) (xs ++ [u])) (hv : v'.ownBlock = v.ownBlock) (h2 : w2.ownsRow base e 1 v' (n + 1) (xs ++ [u])) : w2.ownsRow base e 1 v n xs := by
  refine ⟨h.1, ?_⟩
  rcases h.2 with h0 | ⟨g, cap, cur, rfl, hb, hg, hnc, hcm, hcs, htk⟩
  · exact .inl h0
  · rcases h'.2 with ⟨rfl, h0⟩ | ⟨g', cap', cur', rfl, hb', hg', hnc', hcm', hcs', htk'⟩
    · omega
    · simp only [Value.ownBlock, Option.some.injEq] at hv
      subst hv
      rw [hg] at hg'
      cases hg'
      rcases h2.2 with ⟨h0, _⟩ | ⟨g2, cap2, cur2, he2, hb2, hg2, hnc2, hcm2, hcs2, htk2⟩
      · cases h0
      · simp only [Value.slice.injEq, Option.some.injEq, Addr.mk.injEq, and_true, true_and] at he2
        obtain ⟨rfl, rfl⟩ := he2
        refine .inr ⟨g', cap, cur2, rfl, hb, hg2, hnc, hcm, by omega, ?_⟩
        have hxl : xs.length = n * 1 := h.1
        have : cur2.toList.take (n * 1) = (cur2.toList.take ((n + 1) * 1)).take (n * 1) := by rw [List.take_take]; congr 1; omega
        rw [this, htk2, ← hxl, List.take_left]
theorem own_cut {w : World} {base : Nat} {e : TypeId} {g cap n : Nat} {xs : List Value} {u : Value} (h : w.ownsRow base e 1 (.slice (some ⟨g, 0, none⟩) (n + 1) cap) (n + 1) (xs ++ [u])) (hx : xs.length = n) : w.ownsRow base e 1 (.slice (some ⟨g, 0, none⟩) n cap) n xs := by
  rcases h.2 with ⟨h0, _⟩ | ⟨g2, cap2, cur2, he2, hb2, hg2, hnc2, hcm2, hcs2, htk2⟩
  · cases h0
  · simp only [Value.slice.injEq, Option.some.injEq, Addr.mk.injEq, and_true, true_and] at he2
    obtain ⟨rfl, rfl⟩ := he2
    refine ⟨by omega, .inr ⟨g, cap, cur2, rfl, hb2, hg2, by omega, hcm2, hcs2, ?_⟩⟩
    have : cur2.toList.take (n * 1) = (cur2.toList.take ((n + 1) * 1)).take (n * 1) := by rw [List.take_take]; congr 1; omega
    rw [this, htk2, ← hx, Nat.mul_one, List.take_left]
theorem run_app1 {P : Program} (w : World) (base : Nat) (t ty e : TypeId) (i : TypeInfo) (z : Value) (ht : P.underlying t = some (.slice e)) (hi : P.info? e = some i) (hz : i.zero = some z) (hsize : i.size = 1) (hby : i.bytes = 8) (hzs : z.cells.size = 1)
    (v : Value) (n : Nat) (xs : List Value) (hown : w.ownsRow base e 1 v n xs) (a : Addr) (c : Nat) (u : Value) (hu : w.cell? a = some u) (h1 : u.oneCell' = true) (hn : n ≤ 1000) (hbase : base ≤ w.heap.size) :
    ∃ v' w', (Builtin.append_ #[t, t] ty #[v, .slice (some a) 1 c]).run P w = .ok v' w' ∧ w'.ownsRow base e 1 v' (n + 1) (xs ++ [u]) ∧ w.grownBy w' v.ownBlock ∧ (v'.ownBlock = v.ownBlock ∨ v'.ownBlock = some w.heap.size) ∧ w'.ownsRow base e 1 v n xs := by
  have hnews : ∀ j x, [u][j]? = some x → w.cell? (a.add j) = some x := by
    intro j x hx
    have hj : j = 0 := by have := (List.getElem?_eq_some_iff.1 hx).1; simp at this; exact this
    subst hj
    simp at hx
    subst hx
    simpa [Addr.add] using hu
  have ho : ∀ x ∈ [u], x.oneCell' = true := by intro x hx; simp at hx; subst hx; exact h1
  obtain ⟨v', w', hr, h2, h3, _, h5⟩ := run_append_own_at (P := P) w base t ty e i z 1 8 ht hi hz hsize hby hzs (by omega) v n xs hown a 1 c [u] rfl hnews ho (by unfold maxLen; omega) (by omega) hbase
  refine ⟨v', w', hr, h2, h3, h5, ?_⟩
  rcases hown.2 with ⟨rfl, rfl⟩ | ⟨g, cap, cur, rfl, hbg, hg, hnc, hcm, hcs, htake⟩
  · have : xs = [] := List.eq_nil_of_length_eq_zero (by simpa using hown.1)
    subst this
    exact World.ownsRow_nil _ _ _ _
  · by_cases hroom : n + 1 ≤ cap
    · have hfit : n * i.size + [u].length ≤ cur.size := by rw [hcs, hsize]; simp; omega
      have hr' := run_append_room (P := P) w t ty e i ht hi g n cap cur hg a 1 c [u] (by rw [hsize]; rfl) hnews ho hroom hfit
      rw [hr'] at hr
      cases hr
      exact own_cut h2 (by simpa using hown.1)
    · have holds : ∀ j x, xs[j]? = some x → w.cell? ((⟨g, 0, none⟩ : Addr).add j) = some x := hown.cells (g := g) rfl
      have hr' := run_append_grow (P := P) w t ty e i z ht hi hz ⟨g, 0, none⟩ n cap xs (by rw [hsize]; exact hown.1) holds a 1 c [u] (by rw [hsize]; rfl) hnews (by omega) (by omega) (growslice_fits (by omega) (by rw [hby]; omega))
      rw [hr'] at hr
      cases hr
      exact own_mono hown (((Below.refl w.heap.size w).drew).alloc (Nat.le_refl _) _)
theorem step_append_run {P : Program} {w : World} {ops : Array Oper} {o : Oper} {a : Act} {K : Act → World → Prop} {Q : Exit → Act → World → Prop} {E : Prop} (hgd : o.guard = none) (s x : Operand) (t : TypeId)
    (ho : o.op = .call { callee := .builtin .append, args := #[s, x], argTypes := #[t, t] }) (vs vx v' : Value) (w' : World) (hs : a.eval s = vs) (hx : a.eval x = vx) (hrun : (Builtin.append_ #[t, t] o.type #[vs, vx]).run P w = .ok v' w') (h : K (a.put o.dst v') w') :
    if Region.wanted o (yielded ops a.tmps) = true then Oper.wp P o a w K Q else E := by
  have hw : Region.wanted o (yielded ops a.tmps) = true := by simp [Region.wanted, hgd]
  rw [if_pos hw]
  unfold Oper.wp
  simp [execOp, ho, resolve, invoke, builtin, hs, hx, hrun, Result.andThen]
  exact h
theorem Fr.keeps {E : Nat → Prop} {B : Nat} {W w1 : World} (h : Fr E W w1) (hE : ∀ g o, E g → B ≤ g → W.heap[g]? = some o → o.isCells = true) : KeepsFrom B W w1 :=
  ⟨h.size, fun k o hk ho hc => h.kept ho fun he => by rw [hE k o he hk ho] at hc; cases hc⟩
end Go.Proofs.Ytpijmfbpdglchaa

namespace Go.Proofs.Ytpijmfbpdglchaa
open Go.Shelf Go.Proofs
def sortR_ren : Go.Shelf.Ren := ⟨fun | 6 => 89 | 15 => 104 | 14 => 103 | 28 => 124 | 29 => 125 | 20 => 116 | 21 => 117 | 22 => 118 | 23 => 119 | 24 => 120 | 25 => 121 | 26 => 122 | 27 => 123 | 46 => 129 | 47 => 130 | 48 => 131 | 49 => 132 | 50 => 133 | 57 => 134 | n => n, fun | 22 => 121 | 24 => 124 | 25 => 163 | 3 => 3 | 39 => 132 | 0 => 0 | 53 => 190 | 55 => 192 | 4 => 4 | 46 => 183 | 45 => 182 | 50 => 187 | 5 => 5 | 9 => 9 | 66 => 195 | 70 => 199 | 76 => 201 | 77 => 67 | n => n, fun | n => n⟩
theorem sortR : Go.Proofs.SlLaysF0.n6 Try.prog sortR_ren := {
  mixed := by kernel_rfl
  f6 := ⟨Try.f89.name, by decide, Try.func89.trans (congrArg some (by kernel_rfl))⟩
  f14 := ⟨Try.f103.name, by decide, Try.func103.trans (congrArg some (by kernel_rfl))⟩
  f15 := Try.func104.trans (congrArg some (by kernel_rfl))
  f20 := ⟨Try.f116.name, by decide, Try.func116.trans (congrArg some (by kernel_rfl))⟩
  f21 := ⟨Try.f117.name, by decide, Try.func117.trans (congrArg some (by kernel_rfl))⟩
  f22 := ⟨Try.f118.name, by decide, Try.func118.trans (congrArg some (by kernel_rfl))⟩
  f23 := ⟨Try.f119.name, by decide, Try.func119.trans (congrArg some (by kernel_rfl))⟩
  f24 := ⟨Try.f120.name, by decide, Try.func120.trans (congrArg some (by kernel_rfl))⟩
  f25 := ⟨Try.f121.name, by decide, Try.func121.trans (congrArg some (by kernel_rfl))⟩
  f26 := ⟨Try.f122.name, by decide, Try.func122.trans (congrArg some (by kernel_rfl))⟩
  f27 := ⟨Try.f123.name, by decide, Try.func123.trans (congrArg some (by kernel_rfl))⟩
  f28 := Try.func124.trans (congrArg some (by kernel_rfl))
  f29 := Try.func125.trans (congrArg some (by kernel_rfl))
  f46 := ⟨Try.f129.name, by decide, Try.func129.trans (congrArg some (by kernel_rfl))⟩
  f47 := Try.func130.trans (congrArg some (by kernel_rfl))
  f48 := Try.func131.trans (congrArg some (by kernel_rfl))
  f49 := ⟨Try.f132.name, by decide, Try.func132.trans (congrArg some (by kernel_rfl))⟩
  f50 := ⟨Try.f133.name, by decide, Try.func133.trans (congrArg some (by kernel_rfl))⟩
  f57 := ⟨Try.f134.name, by decide, Try.func134.trans (congrArg some (by kernel_rfl))⟩
  t0 := Try.underlying0
  a0 := Try.isAgg0
  z0 := Try.sizeOf0
  v0 := Try.zeroValue0
  t3 := Try.underlying3
  a3 := Try.isAgg3
  z3 := Try.sizeOf3
  v3 := Try.zeroValue3
  t4 := Try.underlying4
  a4 := Try.isAgg4
  z4 := Try.sizeOf4
  v4 := Try.zeroValue4
  t5 := Try.underlying5
  a5 := Try.isAgg5
  z5 := Try.sizeOf5
  v5 := Try.zeroValue5
  t9 := Try.underlying9
  a9 := Try.isAgg9
  z9 := Try.sizeOf9
  v9 := Try.zeroValue9
  t22 := Try.underlying121
  a22 := Try.isAgg121
  z22 := Try.sizeOf121
  v22 := Try.zeroValue121
  t25 := Try.underlying163
  a25 := Try.isAgg163
  z25 := Try.sizeOf163
  v25 := Try.zeroValue163
  t39 := Try.underlying132
  a39 := Try.isAgg132
  z39 := Try.sizeOf132
  v39 := Try.zeroValue132
  t45 := Try.underlying182
  a45 := Try.isAgg182
  z45 := Try.sizeOf182
  v45 := Try.zeroValue182
  t46 := Try.underlying183
  a46 := Try.isAgg183
  z46 := Try.sizeOf183
  v46 := Try.zeroValue183
  t50 := Try.underlying187
  a50 := Try.isAgg187
  z50 := Try.sizeOf187
  v50 := Try.zeroValue187
  t53 := Try.underlying190
  a53 := Try.isAgg190
  z53 := Try.sizeOf190
  v53 := Try.zeroValue190
  t55 := Try.underlying192
  a55 := Try.isAgg192
  z55 := Try.sizeOf192
  v55 := Try.zeroValue192
  t66 := Try.underlying195
  a66 := Try.isAgg195
  z66 := Try.sizeOf195
  v66 := Try.zeroValue195
  t70 := Try.underlying199
  a70 := Try.isAgg199
  z70 := Try.sizeOf199
  v70 := Try.zeroValue199
  t76 := Try.underlying201
  a76 := Try.isAgg201
  z76 := Try.sizeOf201
  v76 := Try.zeroValue201
  t77 := Try.underlying67
  a77 := Try.isAgg67
  z77 := Try.sizeOf67
  v77 := Try.zeroValue67 }

end Go.Proofs.Ytpijmfbpdglchaa
