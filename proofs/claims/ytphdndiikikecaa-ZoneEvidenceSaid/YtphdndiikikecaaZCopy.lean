/- WORDS for laws that play copies of a valley: two boxes, rows that are written at one cell. -/
import Derived.Test.YtphdndiikikecaaZReady
import Derived.Test.YtphdndiikikecaaZFr
import Derived.Test.YtphdndiikikecaaZAppRd
namespace Go.Proofs.Ytphdndiikikecaa
open Go.RowKit Go.Proofs

/-- A row that reads as a list, stored into at one cell. -/
theorem Rd.set1 {α : Type} {enc : α → List Value} {k : Nat} (hk : ∀ x, (enc x).length = k) {w : World} {g o n : Nat} {l : List α} (h : Rd enc k w (some ⟨g, o, none⟩) n l) {i r : Nat} {x x' : α} {u : Value} (hx : l[i]? = some x) (hr : r < k)
    (hu : (enc x')[r]? = some u) (hrest : ∀ j, j < k → j ≠ r → (enc x')[j]? = (enc x)[j]?) : Rd enc k (w.setCell ⟨g, o + i * k + r, none⟩ u) (some ⟨g, o, none⟩) n (l.set i x') := by
  refine ⟨by rw [List.length_set]; exact h.1, fun hn => ?_⟩
  obtain ⟨b, o', e, hlt, hc⟩ := h.2 hn
  cases e
  refine ⟨g, o, rfl, by simpa [World.setCell] using hlt, fun i' y hy j v hv => ?_⟩
  have hjk : j < k := by have := (List.getElem?_eq_some_iff.1 hv).1; rw [hk] at this; exact this
  rw [List.getElem?_set] at hy
  by_cases hi : i = i'
  · subst hi
    have hil := (List.getElem?_eq_some_iff.1 hx).1
    rw [if_pos rfl, if_pos hil] at hy
    cases hy
    by_cases hj : j = r
    · subst hj
      rw [hu] at hv; cases hv
      obtain ⟨z, hz⟩ : ∃ z, (enc x)[j]? = some z := ⟨_, List.getElem?_eq_getElem (by rw [hk]; exact hr)⟩
      exact World.cell?_setCell_same _ _ _ (hc i x hx j z hz)
    · rw [World.cell?_setCell_other _ _ _ _ (fun e => hj (by injection e with e1 e2; omega))]
      exact hc i x hx j v (by rw [← hrest j hjk hj]; exact hv)
  · rw [if_neg hi] at hy
    rw [World.cell?_setCell_other _ _ _ _ (fun e => hi (by
      injection e with e1 e2
      rcases Nat.lt_trichotomy i i' with h1 | h1 | h1
      · have : (i + 1) * k ≤ i' * k := Nat.mul_le_mul_right _ h1
        rw [Nat.add_mul] at this; omega
      · exact h1
      · have : (i' + 1) * k ≤ i * k := Nat.mul_le_mul_right _ h1
        rw [Nat.add_mul] at this; omega))]
    exact hc i' y hy j v hv
theorem Rd.far {α : Type} {enc : α → List Value} {k : Nat} {w : World} {A : Option Addr} {n : Nat} {l : List α} (h : Rd enc k w A n l) {p : Addr} (hp : ∀ a, A = some a → a.block ≠ p.block) (u : Value) : Rd enc k (w.setCell p u) A n l := by
  refine ⟨h.1, fun hn => ?_⟩
  obtain ⟨b, o', e, hlt, hc⟩ := h.2 hn
  refine ⟨b, o', e, by simpa [World.setCell] using hlt, fun i y hy j v hv => ?_⟩
  have hb := hp _ e
  rw [World.cell?_setCell_other _ _ _ _ (fun e => hb (by rw [e]))]
  exact hc i y hy j v hv
/-- an own row of some elements has an address -/
theorem own_some {w : World} {base : Nat} {e : TypeId} {k n : Nat} {v : Value} {xs : List Value} (h : w.ownsRow base e k v n xs) (hn : 0 < n) : ∃ g c, v = .slice (some ⟨g, 0, none⟩) n c ∧ base ≤ g ∧ g < w.heap.size ∧ ∀ j, w.frozen? ⟨g, j, none⟩ = false := by
  rcases h.2 with ⟨_, h0⟩ | ⟨g, cap, cur, hv, hb, hg, _⟩
  · exfalso
    have := h.1
    rw [h0] at this
    simp at this
    omega
  · subst hv
    exact ⟨g, cap, rfl, hb, (Array.getElem?_eq_some_iff.1 hg).1, fun j => h.frozenAt j⟩

/-- the world of two copies of a valley's box -/
structure MS (w : World) (s bx bz : Nat) (VC XC ZC : Array Value) (W : World) : Prop where
  bel : Below w.heap.size w W
  vs : Blk W s 26 VC
  xs : Blk W bx 26 XC
  zs : Blk W bz 26 ZC
  ne : s ≠ bx ∧ s ≠ bz ∧ bx ≠ bz ∧ w.heap.size ≤ bx ∧ w.heap.size ≤ bz
section
variable {w W W' : World} {s bx bz : Nat} {VC XC ZC : Array Value}
theorem MS.below (h : MS w s bx bz VC XC ZC W) (hb : Below W.heap.size W W') : MS w s bx bz VC XC ZC W' :=
  ⟨below_tr h.bel hb, h.vs.below hb h.vs.lt, h.xs.below hb h.xs.lt, h.zs.below hb h.zs.lt, h.ne⟩
theorem MS.drew (h : MS w s bx bz VC XC ZC W) : MS w s bx bz VC XC ZC W.drew := h.below (Below.refl _ _).drew
theorem MS.drewN (h : MS w s bx bz VC XC ZC W) (n : Nat) : MS w s bx bz VC XC ZC (W.drewN n) := h.below (below_drewN (Below.refl _ _) n)
theorem MS.setX (h : MS w s bx bz VC XC ZC W) (i : Nat) (u : Value) : MS w s bx bz VC (XC.setIfInBounds i u) ZC (W.setCell ⟨bx, i, none⟩ u) :=
  ⟨h.bel.setCell (by simpa using h.ne.2.2.2.1) u, h.vs.far h.ne.1 u, h.xs.set_ i u, h.zs.far (Ne.symm h.ne.2.2.1) u, h.ne⟩
theorem MS.setZ (h : MS w s bx bz VC XC ZC W) (i : Nat) (u : Value) : MS w s bx bz VC XC (ZC.setIfInBounds i u) (W.setCell ⟨bz, i, none⟩ u) :=
  ⟨h.bel.setCell (by simpa using h.ne.2.2.2.2) u, h.vs.far h.ne.2.1 u, h.xs.far h.ne.2.2.1 u, h.zs.set_ i u, h.ne⟩
theorem MS.setO (h : MS w s bx bz VC XC ZC W) {p : Addr} (hp : w.heap.size ≤ p.block ∧ s ≠ p.block ∧ bx ≠ p.block ∧ bz ≠ p.block) (u : Value) : MS w s bx bz VC XC ZC (W.setCell p u) :=
  ⟨h.bel.setCell hp.1 u, h.vs.far hp.2.1 u, h.xs.far hp.2.2.1 u, h.zs.far hp.2.2.2 u, h.ne⟩
end
/-- how a copy of a slice ends -/
theorem copy_below {W w1 : World} {e : TypeId} {g : Nat} (hg : g = W.heap.size) (h : (W.alloc (.cells #[] e)).grownBy w1 (some g)) : Below W.heap.size W w1 :=
  ((Below.refl _ W).alloc (Nat.le_refl _) _).grown h (by simp) (fun b hb => by cases hb; omega)
end Go.Proofs.Ytphdndiikikecaa
