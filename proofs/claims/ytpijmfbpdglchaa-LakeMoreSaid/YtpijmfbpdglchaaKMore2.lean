/- PLAIN LAW of LakeMore: one work more, a greater flow, less inflow. No program in sight. -/
import Derived.Test.YtpijmfbpdglchaaKMoreLaw
namespace Go.Proofs.Ytpijmfbpdglchaa
/-- is a work taken? -/
def takeB (c : List Int) (k i : Nat) : Bool := decide (i = k) || c.any fun z => z == (i : Int)
def addC (c : List Int) (k : Nat) : Nat → List Int
  | 0 => []
  | m + 1 => addC c k m ++ (if takeB c k m then [(m : Int)] else [])
theorem addC_succ (c : List Int) (k m : Nat) : addC c k (m + 1) = addC c k m ++ (if takeB c k m then [(m : Int)] else []) := rfl
theorem addC_bd {c : List Int} {k : Nat} : ∀ {m : Nat} {x : Int}, x ∈ addC c k m → 0 ≤ x ∧ x < (m : Int)
  | 0, x, h => by simp [addC] at h
  | m + 1, x, h => by
    rw [addC_succ, List.mem_append] at h
    rcases h with h | h
    · have := addC_bd h; omega
    · split at h
      · simp at h; omega
      · simp at h
theorem addC_mem {c : List Int} {k : Nat} : ∀ {m i : Nat}, i < m → takeB c k i = true → (i : Int) ∈ addC c k m
  | 0, i, h, _ => absurd h (by omega)
  | m + 1, i, h, ht => by
    rw [addC_succ, List.mem_append]
    rcases Nat.lt_or_ge i m with h1 | h1
    · exact .inl (addC_mem h1 ht)
    · obtain rfl : i = m := by omega
      right; rw [if_pos ht]; simp
theorem addC_len {c : List Int} {k : Nat} : ∀ m, (addC c k m).length ≤ m
  | 0 => by simp [addC]
  | m + 1 => by
    have := addC_len (c := c) (k := k) m
    rw [addC_succ, List.length_append]
    split <;> simp <;> omega
theorem rise_snoc {l : List Int} {x : Int} (h : ∀ (i : Nat) (a b : Int), l[i]? = some a → l[i + 1]? = some b → a < b) (hx : ∀ a ∈ l, a < x) : ∀ (i : Nat) (a b : Int), (l ++ [x])[i]? = some a → (l ++ [x])[i + 1]? = some b → a < b := fun i a b ha hb => by
  rcases Nat.lt_or_ge (i + 1) l.length with h1 | h1
  · rw [List.getElem?_append_left (by omega)] at ha
    rw [List.getElem?_append_left h1] at hb
    exact h i a b ha hb
  · rw [List.getElem?_append_right h1] at hb
    have h2 := lt_of_get hb
    simp at h2
    obtain rfl : b = x := by
      have : i + 1 - l.length = 0 := by omega
      rw [this] at hb; simpa using hb.symm
    rw [List.getElem?_append_left (by omega)] at ha
    exact hx a (List.mem_of_getElem? ha)
theorem addC_rise {c : List Int} {k : Nat} : ∀ m, ∀ (i : Nat) (a b : Int), (addC c k m)[i]? = some a → (addC c k m)[i + 1]? = some b → a < b
  | 0, i, a, b, ha, _ => by simp [addC] at ha
  | m + 1, i, a, b, ha, hb => by
    rw [addC_succ] at ha hb
    split at ha
    · rename_i ht
      rw [if_pos ht] at hb
      exact rise_snoc (addC_rise m) (fun z hz => (addC_bd hz).2) i a b ha hb
    · rename_i ht
      rw [if_neg ht] at hb
      simp only [List.append_nil] at ha hb
      exact addC_rise m i a b ha hb
theorem addC_cho (c : List Int) (k n : Nat) : choB n (addC c k n) = true :=
  choB_iff.2 ⟨fun i x hx => by have := addC_bd (List.mem_of_getElem? hx); omega, addC_rise n⟩
/-- what one more, a greater flow, or less inflow does to the first hour of the break -/
structure MoreP (l : Lak) (ws : List Wrk) (c : List Int) (I : List Rng) (ws' : List Wrk) (c' : List Int) : Prop where
  ok : LOk (withI l I)
  len : I.length = l.inflow.length
  wk : WOk ws'
  wl : ws'.length = ws.length
  cho : choB ws'.length c' = true
  none : brkF (aftL l (netL l ws c)) = -1 → brkF (aftL (withI l I) (netL (withI l I) ws' c')) = -1
  late : brkF (aftL (withI l I) (netL (withI l I) ws' c')) = -1 ∨ brkF (aftL l (netL l ws c)) ≤ brkF (aftL (withI l I) (netL (withI l I) ws' c'))
section
variable {l : Lak} {ws : List Wrk} {c : List Int}
theorem more_work (hok : LOk l) (hwk : WOk ws) (hcho : choB ws.length c = true) (k : Nat) : MoreP l ws c l.inflow ws (addC c k ws.length) := by
  have h := more_law (I := l.inflow) (ws := ws) (ws' := ws) (c := c) (c' := addC c k ws.length) hok hok rfl (fun h r r' a b => by rw [a] at b; cases b; exact ⟨Int.le_refl _, Int.le_refl _⟩) (fun h => outAt_sub hwk hcho (addC_cho c k _) (fun x hx => by
    obtain ⟨i, hi⟩ := List.getElem?_of_mem hx
    have hb := (choB_iff.1 hcho).1 i x hi
    obtain ⟨j, rfl⟩ : ∃ j : Nat, x = (j : Int) := ⟨x.toNat, by omega⟩
    exact addC_mem (by omega) (by unfold takeB; rw [Bool.or_eq_true]; right; exact List.any_eq_true.2 ⟨_, hx, by simp⟩)) h)
  exact ⟨hok, rfl, hwk, rfl, addC_cho _ _ _, h.1, h.2⟩
def flowW (ws : List Wrk) (k : Nat) (d : Int) : List Wrk := match ws[k]? with | some x => ws.set k ⟨x.frm, min 1000000 (x.flow + d), x.price⟩ | none => ws
theorem flowW_at {k : Nat} {x : Wrk} (hx : ws[k]? = some x) (d : Int) : flowW ws k d = ws.set k ⟨x.frm, min 1000000 (x.flow + d), x.price⟩ := by unfold flowW; rw [hx]
theorem more_flow (hok : LOk l) (hwk : WOk ws) (hcho : choB ws.length c = true) {k : Nat} {x : Wrk} (hx : ws[k]? = some x) {d : Int} (hd : 0 ≤ d) : MoreP l ws c l.inflow (flowW ws k d) c := by
  have hk := lt_of_get hx
  have hxo := okW_iff.1 (hwk.all k x hx)
  rw [flowW_at hx]
  have hwk' : WOk (ws.set k ⟨x.frm, min 1000000 (x.flow + d), x.price⟩) := ⟨by rw [List.length_set]; exact hwk.n, fun i y hy => by
    rw [List.getElem?_set] at hy
    split at hy
    · simp [hk] at hy
      subst hy; exact okW_iff.2 ⟨hxo.1, ⟨by simp only; omega, by simp only; omega⟩, hxo.2.2⟩
    · exact hwk.all i y hy⟩
  have hf : ∀ i h, flowAt ws i h ≤ flowAt (ws.set k ⟨x.frm, min 1000000 (x.flow + d), x.price⟩) i h := fun i h => by
    unfold flowAt
    rw [List.getElem?_set]
    by_cases e : k = i.toNat
    · rw [if_pos e, if_pos hk, ← e, hx]
      simp only
      split <;> omega
    · rw [if_neg e]; exact Int.le_refl _
  have h := more_law (I := l.inflow) (ws := ws) (ws' := ws.set k ⟨x.frm, min 1000000 (x.flow + d), x.price⟩) (c := c) (c' := c) hok hok rfl (fun h r r' a b => by rw [a] at b; cases b; exact ⟨Int.le_refl _, Int.le_refl _⟩) (fun h => outTo_le (fun i => hf i h) c.length)
  exact ⟨hok, rfl, hwk', by rw [List.length_set], by rw [List.length_set]; exact hcho, h.1, h.2⟩
def lessR (d : Int) (r : Rng) : Rng := (max 0 (r.1 - d), max 0 (r.2 - d))
theorem more_less (hok : LOk l) (hwk : WOk ws) (hcho : choB ws.length c = true) {d : Int} (hd : 0 ≤ d) : MoreP l ws c (l.inflow.map (lessR d)) ws c := by
  have hok' : LOk (withI l (l.inflow.map (lessR d))) := withI_ok hok (by rw [List.length_map]; exact hok.h) fun i r hr => by
    simp only [List.getElem?_map, Option.map_eq_some_iff] at hr
    obtain ⟨q, hq, rfl⟩ := hr
    have := hok.inflow i q hq
    simp only [lessR]; omega
  have h := more_law (I := l.inflow.map (lessR d)) (ws := ws) (ws' := ws) (c := c) (c' := c) hok hok' (List.length_map _) (fun h r r' a b => by
    simp only [List.getElem?_map, a, Option.map_some, Option.some.injEq] at b
    subst b
    have := hok.inflow h r a
    simp only [lessR]; omega) (fun h => Int.le_refl _)
  exact ⟨hok', List.length_map _, hwk, rfl, hcho, h.1, h.2⟩
end
end Go.Proofs.Ytpijmfbpdglchaa
