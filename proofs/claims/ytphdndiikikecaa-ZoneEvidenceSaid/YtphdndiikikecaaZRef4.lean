/- THE CONTRACT of the law's dangers: two rows that grow side by side. -/
import Derived.Test.YtphdndiikikecaaZRef3
namespace Go.Proofs.Ytphdndiikikecaa
open Go.RowKit Go.Proofs
attribute [local go_sem ↓] Go.wp_at_zero Go.wp_at_succ

/-- Two rows of ints, in two blocks; a box; an element that has been laid for either row, or not. -/
def JJ (w : World) (s : Nat) (t : TypeId) (cs : Array Value) (base : Nat) (n z : Int) (ga gb : Option Nat) (va vb : Value) (ka kb : Nat) (la lb : List Int) (W : World) : Prop :=
  W.ownsRow base 3 1 va ka (la.flatMap enc1) ∧ W.ownsRow base 3 1 vb kb (lb.flatMap enc1) ∧ (∀ g, va.ownBlock = some g → vb.ownBlock ≠ some g) ∧ Blk W s t cs ∧ Below w.heap.size w W ∧ (base ≤ W.heap.size ∧ s < base ∧ w.heap.size ≤ s ∧ ka ≤ 1000 ∧ kb ≤ 1000) ∧
  (∀ g, ga = some g → W.cell? ⟨g, 0, none⟩ = some (.int .i64 n) ∧ g < W.heap.size ∧ va.ownBlock ≠ some g ∧ vb.ownBlock ≠ some g) ∧ (∀ g, gb = some g → W.cell? ⟨g, 0, none⟩ = some (.int .i64 z) ∧ g < W.heap.size ∧ va.ownBlock ≠ some g ∧ vb.ownBlock ≠ some g)
section
variable {w : World} {s : Nat} {t : TypeId} {cs : Array Value} {base : Nat} {n z : Int} {ga gb : Option Nat} {va vb : Value} {ka kb : Nat} {la lb : List Int} {W W' : World}
theorem JJ.below (h : JJ w s t cs base n z ga gb va vb ka kb la lb W) (hb : Below W.heap.size W W') : JJ w s t cs base n z ga gb va vb ka kb la lb W' := by
  obtain ⟨h1, h2, h3, h4, h5, h6, h7, h8⟩ := h
  exact ⟨own_mono h1 hb, own_mono h2 hb, h3, h4.below hb h4.lt, below_tr h5 hb, ⟨Nat.le_trans h6.1 hb.size, h6.2⟩,
    fun g hg => ⟨(hb.cell (p := ⟨g, 0, none⟩) (h7 g hg).2.1).trans (h7 g hg).1, Nat.lt_of_lt_of_le (h7 g hg).2.1 hb.size, (h7 g hg).2.2⟩,
    fun g hg => ⟨(hb.cell (p := ⟨g, 0, none⟩) (h8 g hg).2.1).trans (h8 g hg).1, Nat.lt_of_lt_of_le (h8 g hg).2.1 hb.size, (h8 g hg).2.2⟩⟩
theorem JJ.drew (h : JJ w s t cs base n z ga gb va vb ka kb la lb W) : JJ w s t cs base n z ga gb va vb ka kb la lb W.drew := h.below (Below.refl _ _).drew
theorem own_new_ne {base : Nat} {e : TypeId} {size k : Nat} {v : Value} {xs : List Value} (h : W.ownsRow base e size v k xs) : v.ownBlock ≠ some W.heap.size := fun e => by have := (h.lt _ e).2; omega
theorem JJ.b1 (h : JJ w s t cs base n z ga gb va vb ka kb la lb W) : JJ w s t cs base n z (some W.heap.size) gb va vb ka kb la lb (W.alloc (.cells #[.int .i64 n] 3)) := by
  have ha := h.below ((Below.refl _ W).alloc (Nat.le_refl _) (.cells #[.int .i64 n] 3))
  obtain ⟨h1, h2, h3, h4, h5, h6, h7, h8⟩ := ha
  refine ⟨h1, h2, h3, h4, h5, h6, fun g hg => ?_, h8⟩
  cases hg
  exact ⟨by simp, by simp, own_new_ne h.1, own_new_ne h.2.1⟩
theorem JJ.b2 (h : JJ w s t cs base n z ga gb va vb ka kb la lb W) : JJ w s t cs base n z ga (some W.heap.size) va vb ka kb la lb (W.alloc (.cells #[.int .i64 z] 3)) := by
  have ha := h.below ((Below.refl _ W).alloc (Nat.le_refl _) (.cells #[.int .i64 z] 3))
  obtain ⟨h1, h2, h3, h4, h5, h6, h7, h8⟩ := ha
  refine ⟨h1, h2, h3, h4, h5, h6, h7, fun g hg => ?_⟩
  cases hg
  exact ⟨by simp, by simp, own_new_ne h.1, own_new_ne h.2.1⟩
theorem JJ.swap (h : JJ w s t cs base n z ga gb va vb ka kb la lb W) : JJ w s t cs base z n gb ga vb va kb ka lb la W :=
  ⟨h.2.1, h.1, fun g h1 h2 => h.2.2.1 g h2 h1, h.2.2.2.1, h.2.2.2.2.1, ⟨h.2.2.2.2.2.1.1, h.2.2.2.2.2.1.2.1, h.2.2.2.2.2.1.2.2.1, h.2.2.2.2.2.1.2.2.2.2, h.2.2.2.2.2.1.2.2.2.1⟩,
    fun g hg => ⟨(h.2.2.2.2.2.2.2 g hg).1, (h.2.2.2.2.2.2.2 g hg).2.1, (h.2.2.2.2.2.2.2 g hg).2.2.2, (h.2.2.2.2.2.2.2 g hg).2.2.1⟩, fun g hg => ⟨(h.2.2.2.2.2.2.1 g hg).1, (h.2.2.2.2.2.2.1 g hg).2.1, (h.2.2.2.2.2.2.1 g hg).2.2.2, (h.2.2.2.2.2.2.1 g hg).2.2.1⟩⟩
theorem JJ.app {g : Nat} (h : JJ w s t cs base n z (some g) gb va vb ka kb la lb W) (hka : ka < 1000) {ty : TypeId} :
    ∃ v' W', (Builtin.append_ #[39, 39] ty #[va, .slice (some ⟨g, 0, none⟩) 1 1]).run Try.prog W = .ok v' W' ∧ JJ w s t cs base n z none gb v' vb (ka + 1) kb (la ++ [n]) lb W' := by
  obtain ⟨i0, hi0, hz0, hz1, hz2⟩ := info_parts infoZ
  obtain ⟨h1, h2, h3, h4, h5, h6, h7, h8⟩ := h
  obtain ⟨v', W', hr, ho, hg, hl, _⟩ := run_app1 (P := Try.prog) W base 39 ty 3 i0 (.int .i64 0) Try.underlying39 hi0 hz0 hz1 hz2 rfl va ka (la.flatMap enc1) h1 ⟨g, 0, none⟩ 1 (.int .i64 n) (h7 g rfl).1 rfl (by omega) h6.1
  refine ⟨v', W', hr, by rw [List.flatMap_append]; exact ho, own_kept h2 hg (fun b hb e => h3 b e hb), fun b hb => ?_, h4.grown hg (fun e => own_ge h1 h6.2.1 e), h5.grown hg h5.size (fun b hb => by have := (h1.lt b hb).1; omega), ⟨Nat.le_trans h6.1 hg.size, h6.2.1, h6.2.2.1, by omega, h6.2.2.2.2⟩, fun b hb => (by cases hb), fun b hb => ?_⟩
  · rcases hl with e | e
    · exact h3 b (by rw [← e]; exact hb)
    · rw [e] at hb; cases hb; exact own_new_ne h2
  · have hh := h8 b hb
    refine ⟨?_, Nat.lt_of_lt_of_le hh.2.1 hg.size, fun e => ?_, hh.2.2.2⟩
    · rw [World.cell?_of_block (w := W) (a := ⟨b, 0, none⟩) (hg.block b hh.2.1 (fun e => hh.2.2.1 e.symm))]; exact hh.1
    · rcases hl with e2 | e2
      · exact hh.2.2.1 (by rw [← e2]; exact e)
      · rw [e2] at e; cases e; have := hh.2.1; omega
theorem JJ.app2 {g : Nat} (h : JJ w s t cs base n z ga (some g) va vb ka kb la lb W) (hkb : kb < 1000) {ty : TypeId} :
    ∃ v' W', (Builtin.append_ #[39, 39] ty #[vb, .slice (some ⟨g, 0, none⟩) 1 1]).run Try.prog W = .ok v' W' ∧ JJ w s t cs base n z ga none va v' ka (kb + 1) la (lb ++ [z]) W' := by
  obtain ⟨v', W', hr, h'⟩ := h.swap.app hkb (ty := ty)
  exact ⟨v', W', hr, h'.swap⟩
theorem JJ.step1 {ops : Array Oper} {o : Oper} {a : Act} {K : Act → World → Prop} {Q : Exit → Act → World → Prop} {E : Prop} {g : Nat} (hgd : o.guard = none) (x1 x2 : Operand) (ho : o.op = .call { callee := .builtin .append, args := #[x1, x2], argTypes := #[39, 39] })
    (h : JJ w s t cs base n z (some g) gb va vb ka kb la lb W) (hka : ka < 1000) (hs : a.eval x1 = va) (hx : a.eval x2 = .slice (some ⟨g, 0, none⟩) 1 1)
    (hK : ∀ v' W', JJ w s t cs base n z none gb v' vb (ka + 1) kb (la ++ [n]) lb W' → K (a.put o.dst v') W') : if Region.wanted o (yielded ops a.tmps) = true then Oper.wp Try.prog o a W K Q else E := by
  obtain ⟨v', W', hr, h'⟩ := h.app hka (ty := o.type)
  exact step_append_run hgd x1 x2 39 ho _ _ v' W' hs hx hr (hK v' W' h')
theorem JJ.step2 {ops : Array Oper} {o : Oper} {a : Act} {K : Act → World → Prop} {Q : Exit → Act → World → Prop} {E : Prop} {g : Nat} (hgd : o.guard = none) (x1 x2 : Operand) (ho : o.op = .call { callee := .builtin .append, args := #[x1, x2], argTypes := #[39, 39] })
    (h : JJ w s t cs base n z ga (some g) va vb ka kb la lb W) (hkb : kb < 1000) (hs : a.eval x1 = vb) (hx : a.eval x2 = .slice (some ⟨g, 0, none⟩) 1 1)
    (hK : ∀ v' W', JJ w s t cs base n z ga none va v' ka (kb + 1) la (lb ++ [z]) W' → K (a.put o.dst v') W') : if Region.wanted o (yielded ops a.tmps) = true then Oper.wp Try.prog o a W K Q else E := by
  obtain ⟨v', W', hr, h'⟩ := h.app2 hkb (ty := o.type)
  exact step_append_run hgd x1 x2 39 ho _ _ v' W' hs hx hr (hK v' W' h')
theorem JJ.cells {PA SA : Option Addr} {pn pc sn sc : Nat} {v : Vly} (h : JJ w s t (vA PA pn pc SA sn sc v) base n z ga gb va vb ka kb la lb W) :
    W.cell? ⟨s, 0, none⟩ = some (.slice PA pn pc) ∧ W.cell? ⟨s, 1, none⟩ = some (.slice SA sn sc) ∧ W.cell? ⟨s, 2, none⟩ = some (.int .i64 v.s0) ∧ W.cell? ⟨s, 3, none⟩ = some (.int .i64 v.s1) ∧ W.cell? ⟨s, 4, none⟩ = some (.int .i64 v.s2) := by
  have hb := h.2.2.2.1
  refine ⟨?_, ?_, ?_, ?_, ?_⟩
  · rw [hb.cell 0]; rfl
  · rw [hb.cell 1]; rfl
  · rw [hb.cell 2]; rfl
  · rw [hb.cell 3]; rfl
  · rw [hb.cell 4]; rfl
end
end Go.Proofs.Ytphdndiikikecaa
