/- A LAW: in a region that draws its order, loads may be taken first also of cells that the region's last operations write: a condition on the world that holds until one of these comes up. -/
import Derived.OrdersHeld
import Derived.Deep.RegionHeld
import Derived.WalkKit
import Derived.Test.YtjpobkmlcjbpiaaGreatYAllCel
import Derived.Test.YtjpobkmlcjbpiaaGreatZHits
import Derived.Test.YtjpobkmlcjbpiaaGreatKFr
set_option linter.unusedVariables false
set_option linter.unusedSimpArgs false
namespace Go.Proofs.YtjpobkmlcjbpiaaGreat
open Go.RowKit Go.Proofs
section
variable {P : Program} {ops : Array Oper} {Q : Exit → Act → World → Prop} {md : Region.Mode} {fins : List Nat} {S : World → Prop}
/-- has one of the last operations come up? -/
def ended (fins : List Nat) (listed : Array Bool) : Bool := fins.any fun f => listed.getD f false
/-- the condition, until one of the last operations has come up -/
def Till (fins : List Nat) (S : World → Prop) (listed : Array Bool) (w : World) : Prop := ended fins listed = false → S w
def wpAnyL (P : Program) (md : Region.Mode) (ops : Array Oper) (Q : Exit → Act → World → Prop) (fins : List Nat) (S : World → Prop) : Nat → Array Bool → Act → World → Prop
  | 0, listed, a, w => Region.ready md ops listed = [] ∧ Q .normal a w
  | fuel + 1, listed, a, w =>
    (Region.ready md ops listed = [] → Q .normal a w) ∧
    ∀ i ∈ Region.ready md ops listed, wpOp P ops Q i (fun a' w' => Till fins S (listed.setIfInBounds i true) w' ∧ wpAnyL P md ops Q fins S fuel (listed.setIfInBounds i true) a' w') a w
theorem wpAny_of_till : ∀ (fuel : Nat) (listed : Array Bool) (a : Act) (w : World), wpAnyL P md ops Q fins S fuel listed a w → wpAny P md ops Q fuel listed a w
  | 0, _, _, _, h => h
  | fuel + 1, _, _, _, h => ⟨h.1, fun i hi => wpOp_mono (fun a' w' h' => wpAny_of_till fuel _ a' w' h'.2) (h.2 i hi)⟩
theorem ended_set {listed : Array Bool} {i : Nat} (h : ended fins (listed.setIfInBounds i true) = false) : ended fins listed = false := by
  unfold ended at *
  rw [List.any_eq_false] at *
  intro f hf hl
  refine h f hf ?_
  simp only [Array.getD_eq_getD_getElem?, Array.getElem?_setIfInBounds] at hl ⊢
  split
  · rename_i e
    subst e
    split
    · rfl
    · rename_i h1
      have : listed[i]? = none := Array.getElem?_eq_none (by omega)
      rw [this] at hl; exact hl
  · exact hl
theorem ended_set_not {listed : Array Bool} {i : Nat} (h : ended fins listed = false) (hi : i ∉ fins) : ended fins (listed.setIfInBounds i true) = false := by
  unfold ended at *
  rw [List.any_eq_false] at *
  intro f hf hl
  have hne : i ≠ f := fun e => hi (e ▸ hf)
  refine h f hf ?_
  simpa only [Array.getD_eq_getD_getElem?, Array.getElem?_setIfInBounds, if_neg hne] using hl
/-- what has come up is closed: all that it waits for has come up -/
def Closed (md : Region.Mode) (ops : Array Oper) (listed : Array Bool) : Prop := ∀ k o, ops[k]? = some o → listed.getD k false = true → ∀ e ∈ o.after, Region.binds md e = true → listed.getD e.on false = true
def closedB (md : Region.Mode) (ops : Array Oper) (listed : Array Bool) : Bool := (List.range ops.size).all fun k => !listed.getD k false || match ops[k]? with | some o => o.after.all fun e => !Region.binds md e || listed.getD e.on false | none => true
theorem Closed.of {listed : Array Bool} (h : closedB md ops listed = true) : Closed md ops listed := fun k o ho hl e he hb => by
  have := List.all_eq_true.1 h k (List.mem_range.2 (Array.getElem?_eq_some_iff.1 ho).1)
  rw [ho, hl] at this
  simp only [Bool.not_true, Bool.false_or, Array.all_eq_true_iff_forall_mem] at this
  have := this e he
  rwa [hb, Bool.not_true, Bool.false_or] at this
theorem Closed.add {listed : Array Bool} {j : Nat} (h : Closed md ops listed) (hj : j ∈ Region.ready md ops listed) : Closed md ops (listed.setIfInBounds j true) := fun k o ho hl e he hb => by
  by_cases hjk : j = k
  · subst hjk
    obtain ⟨_, o', ho', hall⟩ := mem_ready.1 hj
    rw [ho] at ho'; cases ho'
    exact getD_set_true (hall e he hb)
  · rw [getD_set_ne false hjk] at hl
    exact getD_set_true (h k o ho hl e he hb)
/-- does f wait for i, over at most n steps more? -/
def depB (md : Region.Mode) (ops : Array Oper) (i : Nat) : Nat → Nat → Bool
  | 0, f => match ops[f]? with | some o => o.after.any fun e => Region.binds md e && e.on == i | none => false
  | n + 1, f => match ops[f]? with | some o => o.after.any fun e => Region.binds md e && (e.on == i || depB md ops i n e.on) | none => false
theorem depB_listed {listed : Array Bool} (hc : Closed md ops listed) {i : Nat} : ∀ (n f : Nat), (∀ o, ops[f]? = some o → ∀ e ∈ o.after, Region.binds md e = true → listed.getD e.on false = true) → depB md ops i n f = true → listed.getD i false = true
  | 0, f, hf, h => by
    unfold depB at h
    cases ho : ops[f]? with
    | none => rw [ho] at h; cases h
    | some o =>
      rw [ho] at h
      simp only [Array.any_eq_true, Bool.and_eq_true, beq_iff_eq] at h
      obtain ⟨k, hk, h1, h2⟩ := h
      exact h2 ▸ hf o ho o.after[k] (Array.getElem_mem _) h1
  | n + 1, f, hf, h => by
    unfold depB at h
    cases ho : ops[f]? with
    | none => rw [ho] at h; cases h
    | some o =>
      rw [ho] at h
      simp only [Array.any_eq_true, Bool.and_eq_true, Bool.or_eq_true, beq_iff_eq] at h
      obtain ⟨k, hk, h1, h2⟩ := h
      have h3 := hf o ho o.after[k] (Array.getElem_mem _) h1
      rcases h2 with h2 | h2
      · exact h2 ▸ h3
      · exact depB_listed hc n _ (fun o' ho' e he hb => hc _ o' ho' h3 e he hb) h2
theorem wpAnyL_first {n i : Nat} {oi : Oper} {v : Value} (hi : ops[i]? = some oi) (hsel : ∀ (j : Nat) (o : Oper) cs b, ops[j]? = some o → o.op ≠ .select cs b)
    (hQ : ∀ c a w, Q (.panic c) (a.put oi.dst v) w → Q (.panic c) a w) (hfi : i ∉ fins)
    (hfin : ∀ f ∈ fins, depB md ops i n f = true) :
    ∀ (fuel : Nat) (listed : Array Bool) (a : Act) (w : World),
      (∀ j oj, ops[j]? = some oj → j ≠ i → listed.getD j true = false → (∀ e ∈ oj.after, Region.binds md e = true → e.on ≠ i) → oi.apart ops oj = true) →
      i ∈ Region.ready md ops listed → YieldsIf P ops S oi v a → ended fins listed = false → Closed md ops listed → S w →
      wpAnyL P md ops Q fins S fuel (listed.setIfInBounds i true) (a.put oi.dst v) w → wpAnyL P md ops Q fins S (fuel + 1) listed a w := by
  intro fuel
  induction fuel with
  | zero =>
    intro listed a w _ hr hy he hcl hS H
    refine ⟨fun h => (by rw [h] at hr; cases hr), fun j hj => ?_⟩
    by_cases hji : j = i
    · subst hji; exact hy.wpOp hi hS ⟨fun _ => hS, H⟩
    · have := ready_mono hj hji
      rw [H.1] at this
      cases this
  | succ fuel ih =>
    intro listed a w hfree hr hy he hcl hS H
    refine ⟨fun h => (by rw [h] at hr; cases hr), fun j hj => ?_⟩
    by_cases hji : j = i
    · subst hji; exact hy.wpOp hi hS ⟨fun _ => hS, H⟩
    · have h1 := H.2 j (ready_mono hj hji)
      obtain ⟨hjun, oj, hoj, hall⟩ := mem_ready.1 hj
      have hnot : ∀ e ∈ oj.after, Region.binds md e = true → e.on ≠ i := fun e he hb heq => by
        have h1 := hall e he hb
        have h0 := (mem_ready.1 hr).1
        rw [heq] at h1
        rcases Nat.lt_or_ge i listed.size with h' | h'
        · simp [h'] at h0 h1; rw [h0] at h1; cases h1
        · simp [Array.getElem?_eq_none h'] at h1
      have hjf : j ∉ fins := fun hjf => by
        have h0 := (mem_ready.1 hr).1
        have h1 := depB_listed hcl n j (fun o' ho' e he hb => by rw [hoj] at ho'; cases ho'; exact hall e he hb) (hfin j hjf)
        rcases Nat.lt_or_ge i listed.size with h' | h'
        · simp [h'] at h0 h1; rw [h0] at h1; cases h1
        · simp [Array.getElem?_eq_none h'] at h1
      have hej := ended_set_not he hjf
      have hej' : ended fins ((listed.setIfInBounds i true).setIfInBounds j true) = false := ended_set_not (ended_set_not he hfi) hjf
      have h2 := wpOp_putIf hoj (hfree j oj hoj hji hjun hnot) (fun cs b => hsel i oi cs b hi) (fun cs b => hsel j oj cs b hoj) hQ hy h1
      have hfree' : ∀ k ok, ops[k]? = some ok → k ≠ i → (listed.setIfInBounds j true).getD k true = false →
          (∀ e ∈ ok.after, Region.binds md e = true → e.on ≠ i) → oi.apart ops ok = true := fun k ok hk hki hun hno => by
        refine hfree k ok hk hki ?_ hno
        by_cases hjk : j = k
        · subst hjk; exact hjun
        · rw [getD_set_ne true hjk] at hun; exact hun
      refine wpOp_mono (fun a' w' h3 => ?_) h2
      have hS' := h3.2.1 hej'
      refine ⟨fun _ => hS', ih (listed.setIfInBounds j true) a' w' hfree' (ready_mono hr (Ne.symm hji)) h3.1 hej (hcl.add hj) hS' ?_⟩
      rw [Array.setIfInBounds_comm _ _ hji]
      exact h3.2.2
/-- do the last operations wait for number i? -/
def waitB (md : Region.Mode) (ops : Array Oper) (fins : List Nat) (n i : Nat) : Bool := !fins.contains i && fins.all fun f => depB md ops i n f
theorem wpAnyL_take {n i : Nat} {oi : Oper} {v : Value} {fuel : Nat} {listed : Array Bool} {a : Act} {w : World} (hi : ops[i]? = some oi)
    (hs : Region.noSelect ops = true) (hf : Region.free md ops listed i = true) (hr : (Region.ready md ops listed).contains i = true) (hw : waitB md ops fins n i = true) (he : ended fins listed = false) (hc : closedB md ops listed = true)
    (hQ : ∀ c a w, Q (.panic c) (a.put oi.dst v) w → Q (.panic c) a w) (hy : YieldsIf P ops S oi v a) (hS : S w)
    (h : wpAnyL P md ops Q fins S fuel (listed.setIfInBounds i true) (a.put oi.dst v) w) : wpAnyL P md ops Q fins S (fuel + 1) listed a w := by
  simp only [waitB, Bool.and_eq_true, Bool.not_eq_true', List.all_eq_true] at hw
  exact wpAnyL_first hi (Region.noSelect_spec hs) hQ (by simpa using hw.1) hw.2 fuel listed a w (Region.free_spec hi hf) (by simpa using hr) hy he (.of hc) hS h
/-- an operation that yields its value in every world, behind one of the last ones or not -/
theorem wpAnyL_pure {i : Nat} {oi : Oper} {v : Value} (hi : ops[i]? = some oi) (hsel : ∀ (j : Nat) (o : Oper) cs b, ops[j]? = some o → o.op ≠ .select cs b)
    (hQ : ∀ c a w, Q (.panic c) (a.put oi.dst v) w → Q (.panic c) a w) (hfi : i ∉ fins) :
    ∀ (fuel : Nat) (listed : Array Bool) (a : Act) (w : World),
      (∀ j oj, ops[j]? = some oj → j ≠ i → listed.getD j true = false → (∀ e ∈ oj.after, Region.binds md e = true → e.on ≠ i) → oi.apart ops oj = true) →
      i ∈ Region.ready md ops listed → YieldsIf P ops (fun _ => True) oi v a → Till fins S listed w →
      wpAnyL P md ops Q fins S fuel (listed.setIfInBounds i true) (a.put oi.dst v) w → wpAnyL P md ops Q fins S (fuel + 1) listed a w := by
  intro fuel
  induction fuel with
  | zero =>
    intro listed a w _ hr hy hS H
    refine ⟨fun h => (by rw [h] at hr; cases hr), fun j hj => ?_⟩
    by_cases hji : j = i
    · subst hji; exact hy.wpOp hi trivial ⟨fun h => hS (ended_set h), H⟩
    · have := ready_mono hj hji
      rw [H.1] at this
      cases this
  | succ fuel ih =>
    intro listed a w hfree hr hy hS H
    refine ⟨fun h => (by rw [h] at hr; cases hr), fun j hj => ?_⟩
    by_cases hji : j = i
    · subst hji; exact hy.wpOp hi trivial ⟨fun h => hS (ended_set h), H⟩
    · have h1 := H.2 j (ready_mono hj hji)
      obtain ⟨hjun, oj, hoj, hall⟩ := mem_ready.1 hj
      have hnot : ∀ e ∈ oj.after, Region.binds md e = true → e.on ≠ i := fun e he hb heq => by
        have h1 := hall e he hb
        have h0 := (mem_ready.1 hr).1
        rw [heq] at h1
        rcases Nat.lt_or_ge i listed.size with h' | h'
        · simp [h'] at h0 h1; rw [h0] at h1; cases h1
        · simp [Array.getElem?_eq_none h'] at h1
      have h2 := wpOp_putIf hoj (hfree j oj hoj hji hjun hnot) (fun cs b => hsel i oi cs b hi) (fun cs b => hsel j oj cs b hoj) hQ hy h1
      have hfree' : ∀ k ok, ops[k]? = some ok → k ≠ i → (listed.setIfInBounds j true).getD k true = false →
          (∀ e ∈ ok.after, Region.binds md e = true → e.on ≠ i) → oi.apart ops ok = true := fun k ok hk hki hun hno => by
        refine hfree k ok hk hki ?_ hno
        by_cases hjk : j = k
        · subst hjk; exact hjun
        · rw [getD_set_ne true hjk] at hun; exact hun
      refine wpOp_mono (fun a' w' h3 => ?_) h2
      have hS' : Till fins S (listed.setIfInBounds j true) w' := fun he => h3.2.1 (by rw [Array.setIfInBounds_comm _ _ (Ne.symm hji)]; exact ended_set_not he hfi)
      refine ⟨hS', ih (listed.setIfInBounds j true) a' w' hfree' (ready_mono hr (Ne.symm hji)) h3.1 hS' ?_⟩
      rw [Array.setIfInBounds_comm _ _ hji]
      exact h3.2.2
/-- the same behind the last operations, where the condition is asked no more -/
theorem wpAnyL_free {i : Nat} {oi : Oper} {v : Value} {fuel : Nat} {listed : Array Bool} {a : Act} {w : World} (hi : ops[i]? = some oi)
    (hs : Region.noSelect ops = true) (hf : Region.free md ops listed i = true) (hr : (Region.ready md ops listed).contains i = true) (hn : fins.contains i = false) (he : ended fins listed = true)
    (hQ : ∀ c a w, Q (.panic c) (a.put oi.dst v) w → Q (.panic c) a w) (hy : YieldsIf P ops (fun _ => True) oi v a)
    (h : wpAnyL P md ops Q fins S fuel (listed.setIfInBounds i true) (a.put oi.dst v) w) : wpAnyL P md ops Q fins S (fuel + 1) listed a w :=
  wpAnyL_pure hi (Region.noSelect_spec hs) hQ (by simpa using hn) fuel listed a w (Region.free_spec hi hf) (by simpa using hr) hy (fun h => by rw [he] at h; cases h) h
/-- the same before them -/
theorem wpAnyL_freeS {i : Nat} {oi : Oper} {v : Value} {fuel : Nat} {listed : Array Bool} {a : Act} {w : World} (hi : ops[i]? = some oi)
    (hs : Region.noSelect ops = true) (hf : Region.free md ops listed i = true) (hr : (Region.ready md ops listed).contains i = true) (hn : fins.contains i = false)
    (hQ : ∀ c a w, Q (.panic c) (a.put oi.dst v) w → Q (.panic c) a w) (hy : YieldsIf P ops (fun _ => True) oi v a) (hS : S w)
    (h : wpAnyL P md ops Q fins S fuel (listed.setIfInBounds i true) (a.put oi.dst v) w) : wpAnyL P md ops Q fins S (fuel + 1) listed a w :=
  wpAnyL_pure hi (Region.noSelect_spec hs) hQ (by simpa using hn) fuel listed a w (Region.free_spec hi hf) (by simpa using hr) hy (fun _ => hS) h
theorem wpAnyL_done {listed : Array Bool} {a : Act} {w : World} (hr : Region.ready md ops listed = []) (h : Q .normal a w) :
    ∀ fuel, wpAnyL P md ops Q fins S fuel listed a w
  | 0 => ⟨hr, h⟩
  | _ + 1 => ⟨fun _ => h, by rw [hr]; simp⟩
def AllReadyL (P : Program) (md : Region.Mode) (ops : Array Oper) (Q : Exit → Act → World → Prop) (fins : List Nat) (S : World → Prop) (fuel : Nat) (listed : Array Bool) (a : Act) (w : World) (rs : List Nat) : Prop :=
  ∀ i ∈ rs, wpOp P ops Q i (fun a' w' => Till fins S (listed.setIfInBounds i true) w' ∧ wpAnyL P md ops Q fins S fuel (listed.setIfInBounds i true) a' w') a w
theorem AllReadyL.nil {fuel : Nat} {listed : Array Bool} {a : Act} {w : World} : AllReadyL P md ops Q fins S fuel listed a w [] := fun _ h => by cases h
/-- an operation behind which the condition still holds -/
theorem AllReadyL.cons {fuel : Nat} {listed : Array Bool} {a : Act} {w : World} {i : Nat} {o : Oper} {rs : List Nat} (ho : ops[i]? = some o)
    (h : ∀ K' : Act → World → Prop, Shut (∀ a w, S w → (S w → wpAnyL P md ops Q fins S fuel (listed.setIfInBounds i true) a w) → K' a w) → if Region.wanted o (yielded ops a.tmps) = true then Oper.wp P o a w K' Q else K' (a.put o.dst undef) w)
    (hs : AllReadyL P md ops Q fins S fuel listed a w rs) : AllReadyL P md ops Q fins S fuel listed a w (i :: rs) := fun j hj => by
  rcases List.mem_cons.1 hj with rfl | hj
  · exact wpOp_step ho (fun K' hK => h K' (fun a w hS hW => hK a w ⟨fun _ => hS, hW hS⟩))
  · exact hs j hj
/-- an operation behind which it need not hold -/
theorem AllReadyL.last {fuel : Nat} {listed : Array Bool} {a : Act} {w : World} {i : Nat} {o : Oper} {rs : List Nat} (ho : ops[i]? = some o) (he : ended fins (listed.setIfInBounds i true) = true)
    (h : ∀ K' : Act → World → Prop, Shut (∀ a w, wpAnyL P md ops Q fins S fuel (listed.setIfInBounds i true) a w → K' a w) → if Region.wanted o (yielded ops a.tmps) = true then Oper.wp P o a w K' Q else K' (a.put o.dst undef) w)
    (hs : AllReadyL P md ops Q fins S fuel listed a w rs) : AllReadyL P md ops Q fins S fuel listed a w (i :: rs) := fun j hj => by
  rcases List.mem_cons.1 hj with rfl | hj
  · exact wpOp_step ho (fun K' hK => h K' (fun a w hW => hK a w ⟨fun h' => by (rw [he] at h'; cases h'), hW⟩))
  · exact hs j hj
theorem wpAnyL_ready {rs : List Nat} {fuel : Nat} {listed : Array Bool} {a : Act} {w : World} (hr : Region.ready md ops listed = rs) (hne : rs ≠ [])
    (h : AllReadyL P md ops Q fins S fuel listed a w rs) : wpAnyL P md ops Q fins S (fuel + 1) listed a w :=
  ⟨fun h0 => absurd (hr ▸ h0) hne, hr ▸ h⟩
theorem wp_region_till {id : Nat} {a : Act} {w : World} (fins : List Nat) (S : World → Prop) (hm : P.follows .mixedOrders = true) (hS : S w.drew)
    (h : S w.drew → wpAnyL P .any ops Q fins S ops.size (Array.replicate ops.size false) a w.drew) : (Code.region id ops true).wp P Q a w :=
  wp_region_any hm (wpAny_of_till _ _ _ _ (h hS))
end
end Go.Proofs.YtjpobkmlcjbpiaaGreat

namespace Go.Proofs.YtjpobkmlcjbpiaaGreat
open Go.RowKit Go.Proofs

theorem own_some {w : World} {base : Nat} {e : TypeId} {k n : Nat} {v : Value} {xs : List Value} (h : w.ownsRow base e k v n xs) (hn : 0 < n) : ∃ g c, v = .slice (some ⟨g, 0, none⟩) n c ∧ base ≤ g ∧ g < w.heap.size ∧ ∀ j, w.frozen? ⟨g, j, none⟩ = false := by
  rcases h.2 with ⟨_, h0⟩ | ⟨g, cap, cur, hv, hb, hg, _⟩
  · exfalso
    have := h.1
    rw [h0] at this
    simp at this
    omega
  · subst hv
    exact ⟨g, cap, rfl, hb, (Array.getElem?_eq_some_iff.1 hg).1, fun j => h.frozenAt j⟩

theorem step_append_rd {P : Program} {w : World} {ops : Array Oper} {o : Oper} {a : Act} {K : Act → World → Prop} {Q : Exit → Act → World → Prop} {E : Prop} (hgd : o.guard = none) (s x : Operand) (t : TypeId)
    (ho : o.op = .call { callee := .builtin .append, args := #[s, x], argTypes := #[t, t] })
    (base : Nat) (e : TypeId) (i : TypeInfo) (z : Value) (size bytes : Nat) (ht : P.underlying t = some (.slice e)) (hi : P.info? e = some i) (hz : i.zero = some z)
    (hsize : i.size = size) (hby : i.bytes = bytes) (hzs : z.cells.size = size) (hsz : 0 < size)
    (v : Value) (n : Nat) (xs : List Value) (hs : a.eval s = v) (hown : w.ownsRow base e size v n xs)
    {α : Type} {enc : α → List Value} (hk : ∀ x, (enc x).length = size) (h1 : ∀ x, ∀ u ∈ enc x, u.oneCell' = true)
    (A : Option Addr) (m c : Nat) (l : List α) (hx : a.eval x = .slice A m c) (hr : Rd enc size w A m l)
    (h63 : n + m ≤ maxLen) (hbytes : (n + m) * bytes ≤ 140737488355328) (hbase : base ≤ w.heap.size)
    (h : ∀ v' w', w'.ownsRow base e size v' (n + m) (xs ++ l.flatMap enc) → w.grownBy w' v.ownBlock → K (a.put o.dst v') w') :
    if Region.wanted o (yielded ops a.tmps) = true then Oper.wp P o a w K Q else E := by
  rcases A with _ | ad
  · obtain ⟨rfl, rfl⟩ := hr.none_zero
    have hrun := run_append_nilc (P := P) (w := w) (ty := o.type) ht hi hown c
    exact step_append_run hgd s x t ho _ _ _ _ hs hx hrun (h v w (by simpa using hown) (World.grownBy.refl w _))
  · have hl : (l.flatMap enc).length = m * size := by
      have : ∀ l : List α, (l.flatMap enc).length = l.length * size := fun l => by
        induction l with
        | nil => simp
        | cons x l ih => rw [List.flatMap_cons, List.length_append, ih, hk, List.length_cons, Nat.add_mul, Nat.one_mul, Nat.add_comm]
      rw [this, hr.1]
    obtain ⟨v', w', hrun, h2, h3, _, _⟩ := run_append_own_at (P := P) w base t o.type e i z size bytes ht hi hz hsize hby hzs hsz v n xs hown ad m c (l.flatMap enc) hl (hr.news hk) (fun u hu => by
      obtain ⟨x, _, hx⟩ := List.mem_flatMap.1 hu
      exact h1 x u hx) h63 hbytes hbase
    exact step_append_run hgd s x t ho _ _ _ _ hs hx hrun (h v' w' h2 h3)


theorem Rd.of_blkE {α : Type} {enc : α → List Value} {k n : Nat} {w : World} {g : Nat} {t : TypeId} {cs : Array Value} {l : List α} (henc : ∀ x, (enc x).length = k) (h : Blk w g t cs) (hc : l.flatMap enc = cs.toList) (hl : l.length = n) : Rd enc k w (some ⟨g, 0, none⟩) n l := by
  refine ⟨hl, fun _ => ⟨g, 0, rfl, h.lt, fun i x hx j u hu => ?_⟩⟩
  have := flatMap_get henc l i x j u hx hu
  rw [hc, Array.getElem?_toList] at this
  rw [Nat.zero_add, h.cell, this]
/-- an owned row of some length, with where it lies -/
theorem own_rd {α : Type} {enc : α → List Value} {k n : Nat} {w : World} {base : Nat} {e : TypeId} {v : Value} {l : List α} (henc : ∀ x, (enc x).length = k) (hk : 0 < k) (h : w.ownsRow base e k v n (l.flatMap enc)) (hl : l.length = n) (hn : 0 < n) :
    ∃ g c, v = .slice (some ⟨g, 0, none⟩) n c ∧ base ≤ g ∧ n ≤ c ∧ Rd enc k w (some ⟨g, 0, none⟩) n l := by
  obtain ⟨g, c, rfl, hb, hlt, _⟩ := own_some h (by first | exact hn | exact Nat.mul_pos hn hk)
  obtain ⟨A, c', e, hc⟩ := own_form h
  cases e
  exact ⟨g, c, rfl, hb, hc, Rd.of_own henc h hl⟩
theorem own_low {w : World} {b b' : Nat} {e : TypeId} {k n : Nat} {v : Value} {xs : List Value} (h : w.ownsRow b e k v n xs) (hb : b' ≤ b) : w.ownsRow b' e k v n xs := by
  refine ⟨h.1, ?_⟩
  rcases h.2 with h0 | ⟨g, cap, cur, hv, hbg, r⟩
  · exact .inl h0
  · exact .inr ⟨g, cap, cur, hv, Nat.le_trans hb hbg, r⟩
/-- where a row of the call's own lies -/
structure NewR (base : Nat) {α : Type} (enc : α → List Value) (k : Nat) (w : World) (A : Option Addr) (n c : Nat) (l : List α) : Prop where
  rd : Rd enc k w A n l
  cap : n ≤ c
  new : ∀ ad, A = some ad → base ≤ ad.block
theorem NewR.of_own {α : Type} {enc : α → List Value} {k n : Nat} {w : World} {base : Nat} {e : TypeId} {v : Value} {l : List α} (henc : ∀ x, (enc x).length = k) (h : w.ownsRow base e k v n (l.flatMap enc)) (hl : l.length = n) :
    ∃ A c, v = .slice A n c ∧ NewR base enc k w A n c l := by
  rcases h.2 with ⟨rfl, h0⟩ | ⟨g, cap, cur, rfl, hbg, _, hc, _⟩
  · subst h0
    exact ⟨none, 0, rfl, Rd.of_own henc h hl, Nat.le_refl _, fun ad e => by cases e⟩
  · exact ⟨some ⟨g, 0, none⟩, cap, rfl, Rd.of_own henc h hl, hc, fun ad e => by cases e; exact hbg⟩
end Go.Proofs.YtjpobkmlcjbpiaaGreat
