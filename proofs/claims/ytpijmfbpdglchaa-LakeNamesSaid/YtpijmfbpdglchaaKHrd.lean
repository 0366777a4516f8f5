/- THE HOURS of the reference as they lie in memory, with the contracts of most and At. -/
import Derived.Test.YtpijmfbpdglchaaKPlain
import Derived.Test.YtpijmfbpdglchaaKRef4
import Derived.Test.YtpijmfbpdglchaaKTool
import Derived.Test.YtpijmfbpdglchaaKReal
set_option linter.unusedVariables false
set_option linter.unusedSimpArgs false
namespace Go.Proofs.Ytpijmfbpdglchaa
open Go.RowKit Go.Proofs
attribute [local go_sem ↓] Go.wp_at_zero Go.wp_at_succ
def boolA (m : Nat) (P : Nat → Bool) : Array Value := ((List.range m).map fun j => Value.bool (P j)).toArray
theorem boolA_size (m : Nat) (P : Nat → Bool) : (boolA m P).size = m := by simp [boolA]
theorem boolA_get {m : Nat} {P : Nat → Bool} {j : Nat} (h : j < m) : (boolA m P)[j]? = some (.bool (P j)) := by simp [boolA, List.getElem?_range h]
theorem boolA_set (m : Nat) (P : Nat → Bool) (j : Nat) : (boolA m P).setIfInBounds j (.bool true) = boolA m (updB P j) := by
  apply Array.ext_getElem?
  intro i
  rw [Array.getElem?_setIfInBounds]
  by_cases hi : i < m
  · simp only [boolA_get hi, boolA_size]
    split
    · rename_i e; subst e
      simp [updB, hi]
    · rename_i e
      simp [updB, Ne.symm e]
  · have e1 : (boolA m P)[i]? = none := Array.getElem?_eq_none (by rw [boolA_size]; omega)
    have e2 : (boolA m (updB P j))[i]? = none := Array.getElem?_eq_none (by rw [boolA_size]; omega)
    rw [e1, e2]
    split
    · rename_i e; subst e; rw [if_neg (by rw [boolA_size]; exact hi)]
    · rfl
theorem boolA_cell {w : World} {g : Nat} {t : TypeId} {m : Nat} {P : Nat → Bool} (h : Blk w g t (boolA m P)) {j : Nat} (hj : j < m) : w.cell? ⟨g, j, none⟩ = some (.bool (P j)) := by rw [h.cell, boolA_get hj]
def encHr (m : Nat) (b : Nat × Nat) : List Value := [.slice (some ⟨b.1, 0, none⟩) m m, .slice (some ⟨b.2, 0, none⟩) m m]
theorem encHr_len (m : Nat) (b : Nat × Nat) : (encHr m b).length = 2 := rfl
abbrev hrA (m : Nat) (b : Nat × Nat) : Array Value := #[.slice (some ⟨b.1, 0, none⟩) m m, .slice (some ⟨b.2, 0, none⟩) m m]
/-- hours that lie in memory: rows of Bools -/
def RdHr (w : World) (O : Option Addr) (n m : Nat) (Hd Bk : Nat → Nat → Bool) : Prop :=
  ∃ bs : List (Nat × Nat), Rd (encHr m) 2 w O n bs ∧ ∀ (h : Nat) (b : Nat × Nat), bs[h]? = some b → Blk w b.1 4 (boolA m (Hd h)) ∧ Blk w b.2 4 (boolA m (Bk h))
section
variable {w w' : World} {O : Option Addr} {n m : Nat} {Hd Bk : Nat → Nat → Bool}
theorem RdHr.below (h : RdHr w O n m Hd Bk) (hb : Below w.heap.size w w') : RdHr w' O n m Hd Bk := by
  obtain ⟨bs, h1, h2⟩ := h
  exact ⟨bs, h1.below hb, fun i b hi => ⟨(h2 i b hi).1.below hb (h2 i b hi).1.lt, (h2 i b hi).2.below hb (h2 i b hi).2.lt⟩⟩
theorem RdHr.atR (h : RdHr w O n m Hd Bk) {i : Nat} (hi : i < n) : ∃ (b o : Nat) (x : Nat × Nat), O = some ⟨b, o, none⟩ ∧ w.cell? ⟨b, o + i * 2, none⟩ = some (.slice (some ⟨x.1, 0, none⟩) m m) ∧ w.cell? ⟨b, o + i * 2 + 1, none⟩ = some (.slice (some ⟨x.2, 0, none⟩) m m) ∧
    Blk w x.1 4 (boolA m (Hd i)) ∧ Blk w x.2 4 (boolA m (Bk i)) := by
  obtain ⟨bs, h1, h2⟩ := h
  obtain ⟨b, o, x, e, hlt, hx, hc⟩ := h1.at_ hi
  exact ⟨b, o, x, e, hc 0 _ rfl, hc 1 _ rfl, (h2 i x hx).1, (h2 i x hx).2⟩
end
theorem lastTo_none {r : List Bool} {m : Nat} (h : ∀ j, j < m → rowB r j = false) : lastTo r m = -1 := by
  rcases lastTo_cases r m with ⟨h1, _⟩ | ⟨j, h1, _, h3, _⟩
  · exact h1
  · rw [h j h1] at h3; cases h3
theorem lastTo_at {r : List Bool} {m k : Nat} (hk : k < m) (h : rowB r k = true) (hn : ∀ j, k < j → j < m → rowB r j = false) : lastTo r m = (k : Int) := by
  rcases lastTo_cases r m with ⟨_, h2⟩ | ⟨j, h1, h2, h3, h4⟩
  · rw [h2 k hk] at h; cases h
  · rcases Nat.lt_trichotomy j k with h5 | h5 | h5
    · rw [h4 k h5 hk] at h; cases h
    · rw [h2, h5]
    · rw [hn j h5 h1] at h3; cases h3
section
variable {w : World} {b : Nat × Nat} {m : Nat} {P Q : Nat → Bool}
set_option maxRecDepth 100000 in
set_option maxHeartbeats 1000000 in
theorem rmost_c (hm : m ≤ 100000000) (hP : Blk w b.2 4 (boolA m P)) :
    Calls Try.prog 74 #[.agg (hrA m b)] w fun e w' => e = .returned (.int .i64 (lastTo (rowOf m P) m)) ∧ Below w.heap.size w w' := by
  have hb := (Below.refl w.heap.size w).alloc (Nat.le_refl _) (.cells (hrA m b) 65)
  have hx := Blk.new w 65 (hrA m b)
  have HP := Lib.hid (hP.alloc (.cells (hrA m b) 65))
  have HB := Lib.hid hb
  have y1 := hx.cell 1
  simp at y1
  clear hb hx hP
  go_enter Try.func74, Try.ntmps74
  go_wp2_with fail
  go_loopw [3] (fun i wr => ∃ k : Nat, k ≤ m ∧ i = .int .i64 ((k : Int) - 1) ∧ (∀ j, k ≤ j → j < m → P j = false) ∧ wr = w.alloc (.cells (hrA m b) 65)) (fun i _ => (intOf i + 1).toNat)
  case atStart => exact ⟨m, Nat.le_refl _, rfl, fun j h1 h2 => by omega, by first | rfl | trivial⟩
  case round =>
    obtain ⟨k, hk, rfl, hn, rfl⟩ := hrel
    have HN := Lib.hid hn
    clear hn
    rcases Nat.eq_zero_or_pos k with h0 | h0
    · subst h0
      rw [show (((0 : Nat) : Int) - 1) = -1 from rfl]
      go_wp2_with fail
      go_ret
      exact ⟨ret_int (lastTo_none fun j hj => by rw [rowB_of hj]; exact HN.out j (Nat.zero_le _) hj).symm, HB.out⟩
    · obtain ⟨i, rfl⟩ : ∃ i, k = i + 1 := ⟨k - 1, by omega⟩
      have e1 : ((i + 1 : Nat) : Int) - 1 = (i : Int) := by omega
      rw [e1]
      clear e1
      have hc := boolA_cell HP.out (show i < m by omega)
      have him : (i : Int) < (m : Int) := by omega
      have hi0 : (0 : Int) ≤ (i : Int) := by omega
      cases hp : P i
      · rw [hp] at hc
        have HPI := Lib.hid hp
        clear hp
        go_wp2_with fail
        go_roundw
        case rel =>
          refine ⟨i, by omega, rfl, fun j h1 h2 => ?_, by first | rfl | trivial⟩
          rcases Nat.lt_or_ge i j with h3 | h3
          · exact HN.out j h3 h2
          · obtain rfl : i = j := by omega
            exact HPI.out
        case measure => simp [intOf] <;> omega
      · rw [hp] at hc
        have HPI := Lib.hid hp
        clear hp
        go_wp2_with fail
        go_ret
        exact ⟨ret_int (lastTo_at (by omega) (by rw [rowB_of (by omega)]; exact HPI.out) fun j h1 h2 => by rw [rowB_of h2]; exact HN.out j h1 h2).symm, HB.out⟩
end
end Go.Proofs.Ytpijmfbpdglchaa
