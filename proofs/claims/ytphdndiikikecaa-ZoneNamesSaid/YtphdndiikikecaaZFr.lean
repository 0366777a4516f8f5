/- WORDS for worlds that turn at few blocks alone; an append of one int that keeps the old row too. -/
import Derived.Test.YtphdndiikikecaaZPremC
import Derived.RangeFuncBox
import Derived.Maps.AppendAt
set_option linter.unusedVariables false
set_option linter.unusedSimpArgs false
namespace Go.Proofs.Ytphdndiikikecaa
open Go.RowKit Go.Proofs

/-- Nothing that lay has turned, but for the blocks that E names. -/
structure Fr (E : Nat → Prop) (w w' : World) : Prop where
  os : w'.os = w.os
  tape : w'.tape = w.tape
  output : w'.output = w.output
  size : w.heap.size ≤ w'.heap.size
  block : ∀ g, g < w.heap.size → ¬ E g → w'.heap[g]? = w.heap[g]?
section
variable {E : Nat → Prop} {a b c : World}
theorem Fr.refl (E : Nat → Prop) (w : World) : Fr E w w := ⟨rfl, rfl, rfl, Nat.le_refl _, fun _ _ _ => rfl⟩
theorem Fr.trans (h : Fr E a b) (k : Fr E b c) : Fr E a c := ⟨k.os.trans h.os, k.tape.trans h.tape, k.output.trans h.output, Nat.le_trans h.size k.size, fun g hg hE => (k.block g (Nat.lt_of_lt_of_le hg h.size) hE).trans (h.block g hg hE)⟩
theorem Fr.wide {E' : Nat → Prop} (h : Fr E a b) (hw : ∀ g, g < a.heap.size → E g → E' g) : Fr E' a b := ⟨h.os, h.tape, h.output, h.size, fun g hg hE => h.block g hg fun he => hE (hw g hg he)⟩
theorem Fr.of_below (h : Below a.heap.size a b) (E : Nat → Prop) : Fr E a b := ⟨h.os, h.tape, h.output, h.size, fun g hg _ => h.block g hg⟩
theorem Fr.of_grown {row : Option Nat} (h : a.grownBy b row) (hE : ∀ g, row = some g → g < a.heap.size → E g) : Fr E a b :=
  ⟨h.os, h.tape, h.output, h.size, fun g hg hn => h.block g hg fun e => hn (hE g e.symm hg)⟩
theorem Fr.below {n₀ : Nat} (h : Fr E a b) (hn : n₀ ≤ a.heap.size) (hE : ∀ g, E g → n₀ ≤ g) : Below n₀ a b :=
  ⟨h.os, h.tape, h.output, h.size, fun g hg => h.block g (by omega) fun e => by have := hE g e; omega⟩
theorem Fr.setCell (h : Fr E a b) {g : Nat} (hg : E g ∨ a.heap.size ≤ g) (v : Value) : Fr E a (b.setCell ⟨g, 0, none⟩ v) :=
  ⟨h.os, h.tape, h.output, by simpa [World.setCell] using h.size, fun i hi hn => (Below.heap_setCell b ⟨g, 0, none⟩ v i (by
    rintro rfl
    rcases hg with hg | hg
    · exact hn hg
    · omega)).trans (h.block i hi hn)⟩
theorem Fr.step {row : Option Nat} (h : Fr E a b) (hg : b.grownBy c row) (hE : ∀ g, row = some g → E g ∨ a.heap.size ≤ g) : Fr E a c :=
  ⟨hg.os.trans h.os, hg.tape.trans h.tape, hg.output.trans h.output, Nat.le_trans h.size hg.size, fun g hlt hn => (hg.block g (Nat.lt_of_lt_of_le hlt h.size) fun e => by
    rcases hE g e.symm with h1 | h1
    · exact hn h1
    · omega).trans (h.block g hlt hn)⟩
theorem Fr.kept (h : Fr E a b) {g : Nat} {o : Obj} (hg : a.heap[g]? = some o) (hE : ¬ E g) : b.heap[g]? = some o := (h.block g (Array.getElem?_eq_some_iff.1 hg).1 hE).trans hg
theorem Fr.boxed (h : Fr E a b) {g : Nat} {t : TypeId} {v : Value} (hg : Boxed a g t v) (hE : ¬ E g) : Boxed b g t v := h.kept hg hE
theorem Fr.row (h : Fr E a b) {base : Nat} {e : TypeId} {size n : Nat} {v : Value} {xs : List Value} (hr : a.ownsRow base e size v n xs) (hE : ∀ g, v.ownBlock = some g → ¬ E g) : b.ownsRow base e size v n xs := by
  refine ⟨hr.1, ?_⟩
  rcases hr.2 with h0 | ⟨g, cap, cur, hv, hbase, hg, hrest⟩
  · exact .inl h0
  · exact .inr ⟨g, cap, cur, hv, hbase, h.kept hg (hE g (by rw [hv]; rfl)), hrest⟩
end


theorem Fr.comp {E E2 : Nat → Prop} {a b c : World} (h : Fr E a b) (k : Fr E2 b c) (hE : ∀ g, E2 g → E g ∨ a.heap.size ≤ g) : Fr E a c :=
  ⟨k.os.trans h.os, k.tape.trans h.tape, k.output.trans h.output, Nat.le_trans h.size k.size, fun g hlt hn => (k.block g (Nat.lt_of_lt_of_le hlt h.size) fun e => by
    rcases hE g e with h1 | h1
    · exact hn h1
    · omega).trans (h.block g hlt hn)⟩
theorem Fr.setAt {E : Nat → Prop} {a b : World} (h : Fr E a b) {p : Addr} (hg : E p.block ∨ a.heap.size ≤ p.block) (v : Value) : Fr E a (b.setCell p v) :=
  ⟨h.os, h.tape, h.output, by simpa [World.setCell] using h.size, fun i hi hn => (Below.heap_setCell b p v i (by
    rintro rfl
    rcases hg with hg | hg
    · exact hn hg
    · omega)).trans (h.block i hi hn)⟩
theorem Fr.blk {E : Nat → Prop} {a b : World} (h : Fr E a b) {g : Nat} {t : TypeId} {cs : Array Value} (hg : Blk a g t cs) (hE : ¬ E g) : Blk b g t cs := h.kept hg hE
theorem Fr.rd {E : Nat → Prop} {a b : World} (h : Fr E a b) {α : Type} {enc : α → List Value} {k : Nat} {A : Option Addr} {n : Nat} {l : List α} (hr : Rd enc k a A n l) (hE : ∀ ad, A = some ad → ¬ E ad.block) : Rd enc k b A n l :=
  ⟨hr.1, fun hn => by
    obtain ⟨bb, o, e, hlt, hc⟩ := hr.2 hn
    refine ⟨bb, o, e, Nat.lt_of_lt_of_le hlt h.size, fun i x hx j v hv => ?_⟩
    rw [World.cell?_of_block (w := a) (a := ⟨bb, _, none⟩) (h.block bb hlt (hE _ e))]
    exact hc i x hx j v hv⟩
theorem own_pre {w : World} {base : Nat} {e : TypeId} {v v' : Value} {n : Nat} {xs : List Value} {u : Value} {w2 : World} (h : w.ownsRow base e 1 v n xs) (h' : w.ownsRow base e 1 v' (n + 1) (xs ++ [u])) (hv : v'.ownBlock = v.ownBlock) (h2 : w2.ownsRow base e 1 v' (n + 1) (xs ++ [u])) : w2.ownsRow base e 1 v n xs := by
  refine ⟨h.1, ?_⟩
  rcases h.2 with h0 | ⟨g, cap, cur, rfl, hb, hg, hnc, hcm, hcs, htk⟩
  · exact .inl h0
  · rcases h'.2 with ⟨rfl, h0⟩ | ⟨g', cap', cur', rfl, hb', hg', hnc', hcm', hcs', htk'⟩
    · omega
    · simp only [Value.ownBlock, Option.some.injEq] at hv
      subst hv
      rw [hg] at hg'
      cases hg'
      rcases h2.2 with ⟨h0, _⟩ | ⟨g2, cap2, cur2, he2, hb2, hg2, hnc2, hcm2, hcs2, htk2⟩
      · cases h0
      · simp only [Value.slice.injEq, Option.some.injEq, Addr.mk.injEq, and_true, true_and] at he2
        obtain ⟨rfl, rfl⟩ := he2
        refine .inr ⟨g', cap, cur2, rfl, hb, hg2, hnc, hcm, by omega, ?_⟩
        have hxl : xs.length = n * 1 := h.1
        have : cur2.toList.take (n * 1) = (cur2.toList.take ((n + 1) * 1)).take (n * 1) := by rw [List.take_take]; congr 1; omega
        rw [this, htk2, ← hxl, List.take_left]
theorem own_cut {w : World} {base : Nat} {e : TypeId} {g cap n : Nat} {xs : List Value} {u : Value} (h : w.ownsRow base e 1 (.slice (some ⟨g, 0, none⟩) (n + 1) cap) (n + 1) (xs ++ [u])) (hx : xs.length = n) : w.ownsRow base e 1 (.slice (some ⟨g, 0, none⟩) n cap) n xs := by
  rcases h.2 with ⟨h0, _⟩ | ⟨g2, cap2, cur2, he2, hb2, hg2, hnc2, hcm2, hcs2, htk2⟩
  · cases h0
  · simp only [Value.slice.injEq, Option.some.injEq, Addr.mk.injEq, and_true, true_and] at he2
    obtain ⟨rfl, rfl⟩ := he2
    refine ⟨by omega, .inr ⟨g, cap, cur2, rfl, hb2, hg2, by omega, hcm2, hcs2, ?_⟩⟩
    have : cur2.toList.take (n * 1) = (cur2.toList.take ((n + 1) * 1)).take (n * 1) := by rw [List.take_take]; congr 1; omega
    rw [this, htk2, ← hx, Nat.mul_one, List.take_left]
theorem run_app1 {P : Program} (w : World) (base : Nat) (t ty e : TypeId) (i : TypeInfo) (z : Value) (ht : P.underlying t = some (.slice e)) (hi : P.info? e = some i) (hz : i.zero = some z) (hsize : i.size = 1) (hby : i.bytes = 8) (hzs : z.cells.size = 1)
    (v : Value) (n : Nat) (xs : List Value) (hown : w.ownsRow base e 1 v n xs) (a : Addr) (c : Nat) (u : Value) (hu : w.cell? a = some u) (h1 : u.oneCell' = true) (hn : n ≤ 1000) (hbase : base ≤ w.heap.size) :
    ∃ v' w', (Builtin.append_ #[t, t] ty #[v, .slice (some a) 1 c]).run P w = .ok v' w' ∧ w'.ownsRow base e 1 v' (n + 1) (xs ++ [u]) ∧ w.grownBy w' v.ownBlock ∧ (v'.ownBlock = v.ownBlock ∨ v'.ownBlock = some w.heap.size) ∧ w'.ownsRow base e 1 v n xs := by
  have hnews : ∀ j x, [u][j]? = some x → w.cell? (a.add j) = some x := by
    intro j x hx
    have hj : j = 0 := by have := (List.getElem?_eq_some_iff.1 hx).1; simp at this; exact this
    subst hj
    simp at hx
    subst hx
    simpa [Addr.add] using hu
  have ho : ∀ x ∈ [u], x.oneCell' = true := by intro x hx; simp at hx; subst hx; exact h1
  obtain ⟨v', w', hr, h2, h3, _, h5⟩ := run_append_own_at (P := P) w base t ty e i z 1 8 ht hi hz hsize hby hzs (by omega) v n xs hown a 1 c [u] rfl hnews ho (by unfold maxLen; omega) (by omega) hbase
  refine ⟨v', w', hr, h2, h3, h5, ?_⟩
  rcases hown.2 with ⟨rfl, rfl⟩ | ⟨g, cap, cur, rfl, hbg, hg, hnc, hcm, hcs, htake⟩
  · have : xs = [] := List.eq_nil_of_length_eq_zero (by simpa using hown.1)
    subst this
    exact World.ownsRow_nil _ _ _ _
  · by_cases hroom : n + 1 ≤ cap
    · have hfit : n * i.size + [u].length ≤ cur.size := by rw [hcs, hsize]; simp; omega
      have hr' := run_append_room (P := P) w t ty e i ht hi g n cap cur hg a 1 c [u] (by rw [hsize]; rfl) hnews ho hroom hfit
      rw [hr'] at hr
      cases hr
      exact own_cut h2 (by simpa using hown.1)
    · have holds : ∀ j x, xs[j]? = some x → w.cell? ((⟨g, 0, none⟩ : Addr).add j) = some x := hown.cells (g := g) rfl
      have hr' := run_append_grow (P := P) w t ty e i z ht hi hz ⟨g, 0, none⟩ n cap xs (by rw [hsize]; exact hown.1) holds a 1 c [u] (by rw [hsize]; rfl) hnews (by omega) (by omega) (growslice_fits (by omega) (by rw [hby]; omega))
      rw [hr'] at hr
      cases hr
      exact own_mono hown (((Below.refl w.heap.size w).drew).alloc (Nat.le_refl _) _)
theorem step_append_run {P : Program} {w : World} {ops : Array Oper} {o : Oper} {a : Act} {K : Act → World → Prop} {Q : Exit → Act → World → Prop} {E : Prop} (hgd : o.guard = none) (s x : Operand) (t : TypeId)
    (ho : o.op = .call { callee := .builtin .append, args := #[s, x], argTypes := #[t, t] }) (vs vx v' : Value) (w' : World) (hs : a.eval s = vs) (hx : a.eval x = vx) (hrun : (Builtin.append_ #[t, t] o.type #[vs, vx]).run P w = .ok v' w') (h : K (a.put o.dst v') w') :
    if Region.wanted o (yielded ops a.tmps) = true then Oper.wp P o a w K Q else E := by
  have hw : Region.wanted o (yielded ops a.tmps) = true := by simp [Region.wanted, hgd]
  rw [if_pos hw]
  unfold Oper.wp
  simp [execOp, ho, resolve, invoke, builtin, hs, hx, hrun, Result.andThen]
  exact h
end Go.Proofs.Ytphdndiikikecaa
