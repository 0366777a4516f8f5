/- TABLES in memory: the rows of Bools of the reference's Hours, each in its own block. -/
import Derived.Test.YtpijmfbpdglchaaKHBreak
import Derived.Test.YtpijmfbpdglchaaKBackLaw
set_option linter.unusedVariables false
set_option linter.unusedSimpArgs false
namespace Go.Proofs.Ytpijmfbpdglchaa
open Go.RowKit Go.Proofs
theorem infoBool : (Try.prog.info? 4).map (fun i => (i.zero, i.size, i.bytes)) = some (some (.bool false), 1, 1) := by kernel_rfl
theorem infoHour : (Try.prog.info? 65).map (fun i => (i.zero, i.size, i.bytes)) = some (some (.agg #[.slice none 0 0, .slice none 0 0]), 2, 48) := by kernel_rfl
theorem mk_bools (n : Nat) (hn : n ≤ 100000000) (W : World) : (Instr.makeSlice 63 (.int .i64 (n : Int)) (.int .i64 (n : Int))).run Try.prog W = .ok (.slice (some ⟨W.heap.size, 0, none⟩) n n) (W.alloc (.cells (boolA n fun _ => false) 4)) := by
  obtain ⟨i, h0, hz0, hz1, hz2⟩ := info_parts infoBool
  have := run_make (P := Try.prog) W 63 4 i _ Try.underlying63 h0 hz0 .i64 .i64 n n (by omega) (by omega) (by rw [hz2]; omega) (by omega)
  rw [hz1] at this
  have e : madeCells (Value.bool false).cells ((n : Int).toNat * 1) = boolA n fun _ => false := by
    apply Array.ext_getElem?
    intro j
    simp only [madeCells]
    by_cases h : j < n
    · have hm : j % 1 = 0 := Nat.mod_one j
      rw [boolA_get h]
      simp [h, Value.cells, Array.getElem?_range, hm]
    · have e9 : (boolA n fun _ => false)[j]? = none := Array.getElem?_eq_none (by rw [boolA_size]; omega)
      rw [e9]
      simp [h, Array.getElem?_range]
  rw [e] at this
  simpa using this
structure TabW (w : World) (B C : Nat) (O : Option Addr) (n m : Nat) (bs : List (Nat × Nat)) (Hd Bk : Nat → Nat → Bool) : Prop where
  rd : Rd (encHr m) 2 w O n bs
  blk : ∀ (h : Nat) (b : Nat × Nat), bs[h]? = some b → Blk w b.1 4 (boolA m (Hd h)) ∧ Blk w b.2 4 (boolA m (Bk h))
  ge : ∀ (h : Nat) (b : Nat × Nat), bs[h]? = some b → (B ≤ b.1 ∧ b.1 < C) ∧ (B ≤ b.2 ∧ b.2 < C)
  ne : ∀ (h : Nat) (b : Nat × Nat), bs[h]? = some b → b.1 ≠ b.2
  ap : ∀ (h k : Nat) (b d : Nat × Nat), h ≠ k → bs[h]? = some b → bs[k]? = some d → (b.1 ≠ d.1 ∧ b.1 ≠ d.2) ∧ (b.2 ≠ d.1 ∧ b.2 ≠ d.2)
  sep : ∀ (g o : Nat), O = some ⟨g, o, none⟩ → g < C ∧ ∀ (h : Nat) (b : Nat × Nat), bs[h]? = some b → b.1 ≠ g ∧ b.2 ≠ g
section
variable {w w' : World} {B C : Nat} {O : Option Addr} {n m : Nat} {bs : List (Nat × Nat)} {Hd Bk : Nat → Nat → Bool}
theorem TabW.below (h : TabW w B C O n m bs Hd Bk) (hb : Below w.heap.size w w') : TabW w' B C O n m bs Hd Bk :=
  ⟨h.rd.below hb, fun i b hi => ⟨(h.blk i b hi).1.below hb (h.blk i b hi).1.lt, (h.blk i b hi).2.below hb (h.blk i b hi).2.lt⟩, h.ge, h.ne, h.ap, h.sep⟩
theorem TabW.hr (h : TabW w B C O n m bs Hd Bk) : RdHr w O n m Hd Bk := ⟨bs, h.rd, h.blk⟩
theorem rd_far {α : Type} {enc : α → List Value} {k : Nat} {A : Option Addr} {l : List α} (h : Rd enc k w A n l) {p : Addr} {v : Value} (hp : ∀ g o, A = some ⟨g, o, none⟩ → g ≠ p.block) : Rd enc k (w.setCell p v) A n l := by
  refine ⟨h.1, fun hn => ?_⟩
  obtain ⟨b, o, e, hlt, hc⟩ := h.2 hn
  refine ⟨b, o, e, by simpa using hlt, fun i x hx j u hu => ?_⟩
  rw [World.cell?_setCell_other w p ⟨b, o + i * k + j, none⟩ v (fun q => hp b o e (by rw [q]))]
  exact hc i x hx j u hu
theorem TabW.far (h : TabW w B C O n m bs Hd Bk) {p : Addr} (hp : C ≤ p.block) (v : Value) : TabW (w.setCell p v) B C O n m bs Hd Bk := by
  refine ⟨rd_far h.rd fun g o e => by have := (h.sep g o e).1; omega, fun i b hi => ?_, h.ge, h.ne, h.ap, h.sep⟩
  have hg := h.ge i b hi
  exact ⟨(h.blk i b hi).1.far (by omega) v, (h.blk i b hi).2.far (by omega) v⟩
theorem TabW.setH (h : TabW w B C O n m bs Hd Bk) {k : Nat} {b : Nat × Nat} (hb : bs[k]? = some b) (j : Nat) : TabW (w.setCell ⟨b.1, j, none⟩ (.bool true)) B C O n m bs (updT Hd k j) Bk := by
  refine ⟨rd_far h.rd fun g o e => Ne.symm ((h.sep g o e).2 k b hb).1, fun i d hi => ?_, h.ge, h.ne, h.ap, h.sep⟩
  have hi' := h.blk i d hi
  by_cases e : i = k
  · subst e
    rw [hb] at hi; cases hi
    rw [updT_self, ← boolA_set]
    exact ⟨hi'.1.set_ j _, hi'.2.far (Ne.symm (h.ne i b hb)) _⟩
  · rw [updT_ne e]
    have ha := h.ap k i b d (Ne.symm e) hb hi
    exact ⟨hi'.1.far (Ne.symm ha.1.1) _, hi'.2.far (Ne.symm ha.1.2) _⟩
theorem TabW.setB (h : TabW w B C O n m bs Hd Bk) {k : Nat} {b : Nat × Nat} (hb : bs[k]? = some b) (j : Nat) : TabW (w.setCell ⟨b.2, j, none⟩ (.bool true)) B C O n m bs Hd (updT Bk k j) := by
  refine ⟨rd_far h.rd fun g o e => Ne.symm ((h.sep g o e).2 k b hb).2, fun i d hi => ?_, h.ge, h.ne, h.ap, h.sep⟩
  have hi' := h.blk i d hi
  by_cases e : i = k
  · subst e
    rw [hb] at hi; cases hi
    rw [updT_self, ← boolA_set]
    exact ⟨hi'.1.far (h.ne i b hb) _, hi'.2.set_ j _⟩
  · rw [updT_ne e]
    have ha := h.ap k i b d (Ne.symm e) hb hi
    exact ⟨hi'.1.far (Ne.symm ha.2.1) _, hi'.2.far (Ne.symm ha.2.2) _⟩
/-- the rows that are laid out: all false; each block below the heap's end -/
structure LaidB (w : World) (B : Nat) (m : Nat) (bs : List (Nat × Nat)) : Prop where
  blk : ∀ (h : Nat) (b : Nat × Nat), bs[h]? = some b → Blk w b.1 4 (boolA m fun _ => false) ∧ Blk w b.2 4 (boolA m fun _ => false)
  ge : ∀ (h : Nat) (b : Nat × Nat), bs[h]? = some b → B ≤ b.1 ∧ B ≤ b.2
  ne : ∀ (h : Nat) (b : Nat × Nat), bs[h]? = some b → b.1 ≠ b.2
  ap : ∀ (h k : Nat) (b d : Nat × Nat), h ≠ k → bs[h]? = some b → bs[k]? = some d → (b.1 ≠ d.1 ∧ b.1 ≠ d.2) ∧ (b.2 ≠ d.1 ∧ b.2 ≠ d.2)
theorem LaidB.nil (w : World) (B m : Nat) : LaidB w B m [] := ⟨fun h b e => by simp at e, fun h b e => by simp at e, fun h b e => by simp at e, fun h k b d _ e => by simp at e⟩
theorem LaidB.below (h : LaidB w B m bs) (hb : Below w.heap.size w w') : LaidB w' B m bs :=
  ⟨fun i b hi => ⟨(h.blk i b hi).1.below hb (h.blk i b hi).1.lt, (h.blk i b hi).2.below hb (h.blk i b hi).2.lt⟩, h.ge, h.ne, h.ap⟩
theorem LaidB.grown (h : LaidB w B m bs) {row : Option Nat} (hb : w.grownBy w' row) (hr : ∀ g, row = some g → ∀ cs, ¬ Blk w g 4 cs) : LaidB w' B m bs :=
  ⟨fun i b hi => ⟨(h.blk i b hi).1.grown hb (fun e => hr b.1 e.symm _ (h.blk i b hi).1), (h.blk i b hi).2.grown hb (fun e => hr b.2 e.symm _ (h.blk i b hi).2)⟩, h.ge, h.ne, h.ap⟩
theorem snoc_get {α : Type} {l : List α} {x y : α} {h : Nat} (e : (l ++ [x])[h]? = some y) : l[h]? = some y ∨ (h = l.length ∧ y = x) := by
  rw [List.getElem?_append] at e
  split at e
  · exact .inl e
  · rename_i hh
    have := lt_of_get e
    simp at this
    have h0 : h = l.length := by omega
    subst h0
    simp at e
    exact .inr ⟨rfl, e.symm⟩
theorem LaidB.snoc (h : LaidB w B m bs) {b : Nat × Nat} (h1 : Blk w b.1 4 (boolA m fun _ => false)) (h2 : Blk w b.2 4 (boolA m fun _ => false)) (hb : B ≤ b.1 ∧ B ≤ b.2) (hn : b.1 ≠ b.2)
    (ha : ∀ (h : Nat) (d : Nat × Nat), bs[h]? = some d → (d.1 ≠ b.1 ∧ d.1 ≠ b.2) ∧ (d.2 ≠ b.1 ∧ d.2 ≠ b.2)) : LaidB w B m (bs ++ [b]) := by
  refine ⟨fun i d hi => ?_, fun i d hi => ?_, fun i d hi => ?_, fun i k d e hik hi hk => ?_⟩
  · rcases snoc_get hi with h' | ⟨_, rfl⟩
    · exact h.blk i d h'
    · exact ⟨h1, h2⟩
  · rcases snoc_get hi with h' | ⟨_, rfl⟩
    · exact h.ge i d h'
    · exact hb
  · rcases snoc_get hi with h' | ⟨_, rfl⟩
    · exact h.ne i d h'
    · exact hn
  · rcases snoc_get hi with h' | ⟨e1, rfl⟩ <;> rcases snoc_get hk with h'' | ⟨e2, rfl⟩
    · exact h.ap i k d e hik h' h''
    · exact ha i d h'
    · have := ha k e h''
      exact ⟨⟨Ne.symm this.1.1, Ne.symm this.2.1⟩, ⟨Ne.symm this.1.2, Ne.symm this.2.2⟩⟩
    · omega
/-- the laid rows and the list of them make a table -/
theorem LaidB.tab (h : LaidB w B m bs) {W0 : Nat} {c : Nat} (ho : w.ownsRow W0 65 2 (.slice O n c) n (bs.flatMap (encHr m))) (hl : bs.length = n) : TabW w B w.heap.size O n m bs (fun _ _ => false) (fun _ _ => false) := by
  refine ⟨Rd.of_own (encHr_len m) ho hl, h.blk, fun i b hi => ⟨⟨(h.ge i b hi).1, (h.blk i b hi).1.lt⟩, ⟨(h.ge i b hi).2, (h.blk i b hi).2.lt⟩⟩, h.ne, h.ap, fun g o e => ?_⟩
  have hob : (Value.slice O n c).ownBlock = some g := by rw [e]; rfl
  exact ⟨own_block_lt ho hob, fun i b hi => ⟨fun e2 => own_blk_ne ho (h.blk i b hi).1 (by decide) (by rw [e2]; exact hob), fun e2 => own_blk_ne ho (h.blk i b hi).2 (by decide) (by rw [e2]; exact hob)⟩⟩
end
end Go.Proofs.Ytpijmfbpdglchaa
