/- PLAIN LAWS of series turned over, moved and flattened, and of a row of pairs with one value set. No program in sight. -/
import Derived.Test.YtkgoojilmnkgiaaOutlLaw
namespace Go.Proofs.Ytkgoojilmnkgiaa

def negP (x : Int × Int) : Int × Int := (x.1, -x.2)
def movP (s : Int) (x : Int × Int) : Int × Int := (x.1, x.2 + s)

theorem stAt_map {g : Int × Int → Int × Int} {far : Int} (hg : ∀ v a b : Int × Int, stB (g v).2 (g a).2 (g b).2 far = stB v.2 a.2 b.2 far) (l : List (Int × Int)) (i : Nat) : stAt (l.map g) far i = stAt l far i := by
  cases i with
  | zero => rw [stAt_zero, stAt_zero]
  | succ i =>
    by_cases h : i + 1 + 1 < l.length
    · obtain ⟨x, hx⟩ := get_of_lt (l := l) (i := i) (by omega)
      obtain ⟨y, hy⟩ := get_of_lt (l := l) (i := i + 1) (by omega)
      obtain ⟨z, hz⟩ := get_of_lt (l := l) (i := i + 1 + 1) h
      rw [stAt_of hx hy hz, stAt_of (x := g x) (y := g y) (z := g z) (by simp [hx]) (by simp [hy]) (by simp [hz]), hg]
    · rw [stAt_end (by simp; omega), stAt_end (by omega)]
theorem outl_map {g : Int × Int → Int × Int} {far : Int} (hg : ∀ v a b : Int × Int, stB (g v).2 (g a).2 (g b).2 far = stB v.2 a.2 b.2 far) (l : List (Int × Int)) : outl (l.map g) far = outl l far := by
  rw [outl, outl, outTo, outTo, List.length_map]
  congr 1
  funext i
  exact stAt_map hg l i
theorem stB_neg (v a b : Int × Int) (far : Int) : stB (negP v).2 (negP a).2 (negP b).2 far = stB v.2 a.2 b.2 far := by
  rw [Bool.eq_iff_iff, stB_iff, stB_iff]; simp only [negP]; omega
theorem stB_mov (s : Int) (v a b : Int × Int) (far : Int) : stB (movP s v).2 (movP s a).2 (movP s b).2 far = stB v.2 a.2 b.2 far := by
  rw [Bool.eq_iff_iff, stB_iff, stB_iff]; simp only [movP]; omega
theorem neg_ok {l : List (Int × Int)} (h : SerOk l) : SerOk (l.map negP) := by
  refine ⟨by rw [List.length_map]; exact h.len, allB_iff.2 fun i x hx => ?_, fun i x y hi hx hy => ?_⟩
  · simp only [List.getElem?_map, Option.map_eq_some_iff] at hx
    obtain ⟨m, hm, rfl⟩ := hx
    have := ptB_iff.1 (h.pt hm)
    exact ptB_iff.2 ⟨this.1, by simp only [negP]; omega⟩
  · simp only [List.getElem?_map, Option.map_eq_some_iff] at hx hy
    obtain ⟨m, hm, rfl⟩ := hx
    obtain ⟨u, hu, rfl⟩ := hy
    have := h.step hm hu
    exact this
theorem neg_asked {l : List (Int × Int)} {far : Int} (h : askedE l far = 0) : askedE (l.map negP) far = 0 := by
  have := askedE_zero.1 h
  exact askedE_zero.2 ⟨neg_ok this.1, this.2⟩
theorem mov_asked {l : List (Int × Int)} {far : Int} (s : Int) (h : askedE l far = 0) : askedE (l.map (movP s)) far = 0 ∨ askedE (l.map (movP s)) far = 1 := by
  have := askedE_zero.1 h
  by_cases hs : SerOk (l.map (movP s))
  · exact .inl (askedE_zero.2 ⟨hs, this.2⟩)
  · have h1 := serE_bad (l := l.map (movP s)) (by rw [List.length_map]; exact this.1.len) hs
    right; unfold askedE; rw [h1]; simp

/-- one value set -/
def flatL (l : List (Int × Int)) (k : Nat) (v : Int) : List (Int × Int) := l.set k ((l.getD k (0, 0)).1, v)
theorem flatL_get {l : List (Int × Int)} {k : Nat} {v : Int} {x : Int × Int} (hx : l[k]? = some x) : flatL l k v = l.set k (x.1, v) := by
  simp [flatL, List.getD, hx]
theorem flat_ok {l : List (Int × Int)} {k : Nat} {v : Int} {x : Int × Int} (h : SerOk l) (hx : l[k]? = some x) (hv : -1000000000 ≤ v ∧ v ≤ 1000000000) : SerOk (l.set k (x.1, v)) := by
  have hfst : ∀ (i : Nat) (y : Int × Int), (l.set k (x.1, v))[i]? = some y → ∃ z, l[i]? = some z ∧ z.1 = y.1 := fun i y hy => by
    rw [List.getElem?_set] at hy
    split at hy
    · rename_i he; subst he
      split at hy
      · cases hy; exact ⟨x, hx, rfl⟩
      · cases hy
    · exact ⟨y, hy, rfl⟩
  refine ⟨by rw [List.length_set]; exact h.len, allB_iff.2 fun i y hy => ?_, fun i y z hi hy hz => ?_⟩
  · have h2 := hy
    rw [List.getElem?_set] at h2
    split at h2
    · split at h2
      · cases h2
        exact ptB_iff.2 ⟨(ptB_iff.1 (h.pt hx)).1, hv⟩
      · cases h2
    · exact h.pt h2
  · obtain ⟨a, ha, ha1⟩ := hfst i y hy
    obtain ⟨b, hb, hb1⟩ := hfst (i + 1) z hz
    have := h.step ha hb
    omega
theorem flat_not {l : List (Int × Int)} {k : Nat} {far v : Int} {a x b : Int × Int} (_hf : 0 ≤ far) (ha : l[k]? = some a) (hx : l[k + 1]? = some x) (hb : l[k + 1 + 1]? = some b) (hv : v = a.2 ∨ v = b.2) : stAt (l.set (k + 1) (x.1, v)) far (k + 1) = false := by
  have hk := lt_of_get hx
  rw [stAt_of (x := a) (y := (x.1, v)) (z := b) (by rw [List.getElem?_set_ne (by omega)]; exact ha) (by rw [List.getElem?_set_self hk]) (by rw [List.getElem?_set_ne (by omega)]; exact hb)]
  rw [Bool.eq_false_iff]
  intro h
  have := stB_iff.1 h
  simp only at this
  omega

theorem flat_not' {l : List (Int × Int)} {k : Nat} {far v : Int} {a x b : Int × Int} (hk : 0 < k) (hf : 0 ≤ far) (ha : l[k - 1]? = some a) (hx : l[k]? = some x) (hb : l[k + 1]? = some b) (hv : v = a.2 ∨ v = b.2) : stAt (l.set k (x.1, v)) far k = false := by
  obtain ⟨j, rfl⟩ : ∃ j, k = j + 1 := ⟨k - 1, by omega⟩
  exact flat_not hf ha hx hb hv

/-- the first j turned by g -/
def mix (g : Int × Int → Int × Int) (l : List (Int × Int)) (j : Nat) : List (Int × Int) := (l.take j).map g ++ l.drop j
theorem mix_zero (g : Int × Int → Int × Int) (l : List (Int × Int)) : mix g l 0 = l := by simp [mix]
theorem mix_all (g : Int × Int → Int × Int) (l : List (Int × Int)) : mix g l l.length = l.map g := by simp [mix]
theorem mix_get {g : Int × Int → Int × Int} {l : List (Int × Int)} {j : Nat} {x : Int × Int} (hx : l[j]? = some x) : (mix g l j)[j]? = some x := by
  have := lt_of_get hx
  rw [mix, List.getElem?_append_right (by simp; omega)]
  simp only [List.length_map, List.length_take, List.getElem?_drop]
  rw [show j + (j - min j l.length) = j by omega, hx]
theorem mix_set {g : Int × Int → Int × Int} {l : List (Int × Int)} {j : Nat} {x : Int × Int} (hx : l[j]? = some x) : (mix g l j).set j (g x) = mix g l (j + 1) := by
  have hj := lt_of_get hx
  rw [mix, mix, List.take_add_one, hx, List.drop_eq_getElem_cons hj]
  rw [List.getElem?_eq_getElem hj] at hx
  cases hx
  have hl : ((l.take j).map g).length = j := by rw [List.length_map, List.length_take]; omega
  rw [List.set_append_right _ _ (by omega), hl, Nat.sub_self, List.set_cons_zero, List.map_append, List.append_assoc]
  rfl
theorem set_flat : ∀ {l : List (Int × Int)} {k : Nat} {x : Int × Int} (v : Int), l[k]? = some x → (l.flatMap enc2).set (k * 2 + 1) (.int .i64 v) = (l.set k (x.1, v)).flatMap enc2
  | [], k, x, v, h => by simp at h
  | y :: t, 0, x, v, h => by simp at h; subst h; simp [enc2]
  | y :: t, k + 1, x, v, h => by
    have := set_flat v (show t[k]? = some x by simpa using h)
    rw [show (k + 1) * 2 + 1 = (k * 2 + 1) + 1 + 1 by omega]
    simp only [List.flatMap_cons, enc2, List.cons_append, List.nil_append, List.set_cons_succ] at this ⊢
    rw [this]
theorem get_flat : ∀ {l : List (Int × Int)} {k : Nat} {x : Int × Int}, l[k]? = some x → (l.flatMap enc2)[k * 2 + 1]? = some (.int .i64 x.2)
  | [], k, x, h => by simp at h
  | y :: t, 0, x, h => by simp at h; subst h; simp [enc2]
  | y :: t, k + 1, x, h => by
    have := get_flat (show t[k]? = some x by simpa using h)
    rw [show (k + 1) * 2 + 1 = (k * 2 + 1) + 1 + 1 by omega]
    simpa [enc2] using this
end Go.Proofs.Ytkgoojilmnkgiaa
