/- THE CONTRACT of zone.better. -/
import Derived.Test.YtphdndiikikecaaZCoin
import Derived.Test.YtphdndiikikecaaZInts
import Derived.Maps.AppendAt
import Derived.Laws.AppendOwnNone
set_option linter.unusedVariables false
set_option linter.unusedSimpArgs false
namespace Go.Proofs.Ytphdndiikikecaa
open Go.RowKit Go.Proofs

theorem run_eql_bought (a b c d : Int) (W : World) : (binOp .eql 117 (.agg #[.int .i64 a, .int .i64 b]) (.agg #[.int .i64 c, .int .i64 d])).run Try.prog W = .ok (.bool (decide (a = c ∧ b = d))) W := by
  rw [run_eql_struct]
  have : (Op.equalIn 10000 117 (.agg #[.int .i64 a, .int .i64 b]) (.agg #[.int .i64 c, .int .i64 d])).run Try.prog W = .ok (decide (a = c ∧ b = d)) W := by
    simp [go_sem, Try.underlying117]
    by_cases h1 : a = c <;> by_cases h2 : b = d <;> simp [h1, h2]
  rw [this]; rfl

theorem rd_two (w : World) (a b : Int) {g : Nat} (hg : g = w.heap.size) : Rd enc1 1 (w.alloc (.cells #[.int .i64 a, .int .i64 b] 3)) (some ⟨g, 0, none⟩) 2 [a, b] := by
  subst hg
  refine ⟨rfl, fun _ => ⟨w.heap.size, 0, rfl, by simp, fun i x hx j u hu => ?_⟩⟩
  have hj : j = 0 := by
    have := (List.getElem?_eq_some_iff.1 hu).1
    simp [enc1] at this; exact this
  subst hj
  simp [enc1] at hu
  subst hu
  have hc := (Blk.new w 3 #[.int .i64 a, .int .i64 b]).cell i
  have hi : i = 0 ∨ i = 1 := by have := (List.getElem?_eq_some_iff.1 hx).1; simp at this; omega
  rcases hi with rfl | rfl
  · simp at hx; subst hx; simp
  · simp at hx; subst hx; simp
set_option maxRecDepth 100000 in
set_option maxHeartbeats 1000000 in
theorem better_c {g c : Int} {b : Bst} {l : List Int} {A A' : Option Addr} {n n' cp cp' : Nat} {w : World} (h : Rd enc1 1 w A n l) (h' : Rd enc1 1 w A' n' b.set) (hn : n ≤ 1000000) (hn' : n' ≤ 1000000)
    (hb : -1000000000000 ≤ g ∧ g ≤ 1000000000000 ∧ -1000000000000 ≤ c ∧ c ≤ 1000000000000) (hb' : -1000000000000 ≤ b.gain ∧ b.gain ≤ 1000000000000 ∧ -1000000000000 ≤ b.cost ∧ b.cost ≤ 1000000000000) :
    Calls Try.prog 66 #[.agg #[.int .i64 g, .int .i64 c], .agg #[.int .i64 b.gain, .int .i64 b.cost], .slice A n cp, .slice A' n' cp'] w fun e w' => e = .returned (.bool (betterB g c l b)) ∧ Below w.heap.size w w' := by
  obtain ⟨G, C, S⟩ := b
  simp only at h' hb' ⊢
  have b2 : Below w.heap.size w ((w.alloc (.cells #[.int .i64 g, .int .i64 c] 117)).alloc (.cells #[.int .i64 G, .int .i64 C] 117)) := ((Below.refl _ w).alloc (Nat.le_refl _) _).alloc (by simp) _
  have HB := Lib.hid b2
  have hR : betterB g c l ⟨G, C, S⟩ = if g = G ∧ c = C then decide (cmpL l S < 0) else decide (orL [G - g, c - C] < 0) := by
    unfold betterB
    simp only [orL_two]
    by_cases h1 : g = G ∧ c = C
    · rw [if_pos h1, if_pos h1]
    · rw [if_neg h1, if_neg h1]
      split <;> rfl
  by_cases heq : g = G ∧ c = C
  · rw [if_pos heq] at hR
    obtain ⟨rfl, rfl⟩ := heq
    have HR := Lib.hid hR
    have HC := Lib.hid (CompareL_c (c := cp) (c' := cp') (h.below b2) (h'.below b2) hn hn')
    clear hR b2
    go_enter Try.func66, Try.ntmps66
    go_wp2_with (go_at_call 86; refine HC.out.mono ?_; rintro e w' ⟨rfl, rfl⟩)
    go_ret
    exact ⟨ret_bool HR.out.symm, HB.out⟩
  · rw [if_neg heq] at hR
    have HR := Lib.hid hR
    have hw1 : IntKind.i64.wrap (G - g) = G - g := wi (by omega)
    have hw2 : IntKind.i64.wrap (c - C) = c - C := wi (by omega)
    have hcap := rd_two ((w.alloc (.cells #[.int .i64 g, .int .i64 c] 117)).alloc (.cells #[.int .i64 G, .int .i64 C] 117)) (G - g) (c - C) (g := w.heap.size + 1 + 1) (by simp)
    have HC := Lib.hid (Or_c (c := 2) hcap (by omega))
    have HB3 := Lib.hid (b2.alloc b2.size (.cells #[.int .i64 (G - g), .int .i64 (c - C)] 3))
    clear hR b2 hcap
    have heqv := fun W => run_eql_bought g c G C W
    rw [decide_eq_false heq] at heqv
    go_enter Try.func66, Try.ntmps66
    go_wp2_with (go_at_call 85; refine HC.out.mono ?_; rintro e w' ⟨rfl, rfl⟩)
    go_ret
    exact ⟨ret_bool HR.out.symm, HB3.out⟩
end Go.Proofs.Ytphdndiikikecaa

namespace Go.Proofs.Ytphdndiikikecaa
open Go.RowKit Go.Proofs

theorem flat_get {α : Type} {enc : α → List Value} {k : Nat} (hk : ∀ x, (enc x).length = k) : ∀ {l : List α} {j : Nat} {u : Value}, (l.flatMap enc)[j]? = some u → ∃ (i : Nat) (x : α) (r : Nat), l[i]? = some x ∧ (enc x)[r]? = some u ∧ j = i * k + r
  | [], j, u, h => by simp at h
  | x :: l, j, u, h => by
    rw [List.flatMap_cons] at h
    rcases Nat.lt_or_ge j k with hj | hj
    · rw [List.getElem?_append_left (by rw [hk]; exact hj)] at h
      exact ⟨0, x, j, rfl, h, by omega⟩
    · rw [List.getElem?_append_right (by rw [hk]; exact hj), hk] at h
      obtain ⟨i, y, r, h1, h2, h3⟩ := flat_get hk h
      exact ⟨i + 1, y, r, by simpa using h1, h2, by rw [Nat.add_mul, Nat.one_mul]; omega⟩
theorem Rd.news {α : Type} {enc : α → List Value} {k : Nat} (hk : ∀ x, (enc x).length = k) {w : World} {ad : Addr} {n : Nat} {l : List α} (h : Rd enc k w (some ad) n l) : ∀ j u, (l.flatMap enc)[j]? = some u → w.cell? (ad.add j) = some u := by
  intro j u hu
  obtain ⟨i, x, r, h1, h2, rfl⟩ := flat_get hk hu
  have hi := (List.getElem?_eq_some_iff.1 h1).1
  obtain ⟨b, o, e, _, hc⟩ := h.2 (by have := h.1; omega)
  cases e
  have := hc i x h1 r u h2
  by_cases h0 : i * k + r = 0
  · rw [h0]; rw [Nat.add_assoc, h0] at this; exact this
  · simp only [Addr.add, h0, if_false]
    rwa [← Nat.add_assoc]
theorem Rd.none_zero {α : Type} {enc : α → List Value} {k : Nat} {w : World} {n : Nat} {l : List α} (h : Rd enc k w none n l) : n = 0 ∧ l = [] := by
  have hn : n = 0 := by
    rcases Nat.eq_zero_or_pos n with h0 | h0
    · exact h0
    · obtain ⟨b, o, e, _⟩ := h.2 h0; cases e
  exact ⟨hn, List.eq_nil_of_length_eq_zero (by rw [h.1, hn])⟩
theorem run_append_nilc {P : Program} {w : World} {base : Nat} {t ty e : TypeId} {i : TypeInfo} {size : Nat} (ht : P.underlying t = some (.slice e)) (hi : P.info? e = some i)
    {v : Value} {n : Nat} {xs : List Value} (hown : w.ownsRow base e size v n xs) (c : Nat) : (Builtin.append_ #[t, t] ty #[v, .slice none 0 c]).run P w = .ok v w := by
  rcases hown.2 with ⟨rfl, rfl⟩ | ⟨g, cap, cur, rfl, _, _, hnc, _⟩
  · simp [Builtin.append_, run_underlying ht, sizeOf, typeInfo, hi, Builtin.lenOf, Builtin.firstCells]
  · simp [Builtin.append_, run_underlying ht, sizeOf, typeInfo, hi, Builtin.lenOf, Builtin.firstCells, hnc, storeCells]
theorem wpList_append_rd {P : Program} {w : World} {ops : Array Oper} {rest : List Oper} {o : Oper} {a : Act} {Q : Exit → Act → World → Prop} (hgd : o.guard = none) (s x : Operand) (t : TypeId)
    (ho : o.op = .call { callee := .builtin .append, args := #[s, x], argTypes := #[t, t] })
    (base : Nat) (e : TypeId) (i : TypeInfo) (z : Value) (size bytes : Nat) (ht : P.underlying t = some (.slice e)) (hi : P.info? e = some i) (hz : i.zero = some z)
    (hsize : i.size = size) (hby : i.bytes = bytes) (hzs : z.cells.size = size) (hsz : 0 < size)
    (v : Value) (n : Nat) (xs : List Value) (hs : a.eval s = v) (hown : w.ownsRow base e size v n xs)
    {α : Type} {enc : α → List Value} (hk : ∀ x, (enc x).length = size) (h1 : ∀ x, ∀ u ∈ enc x, u.oneCell' = true)
    (A : Option Addr) (m c : Nat) (l : List α) (hx : a.eval x = .slice A m c) (hr : Rd enc size w A m l)
    (h63 : n + m ≤ maxLen) (hbytes : (n + m) * bytes ≤ 140737488355328) (hbase : base ≤ w.heap.size)
    (h : ∀ v' w', w'.ownsRow base e size v' (n + m) (xs ++ l.flatMap enc) → w.grownBy w' v.ownBlock → wpList P ops Q rest (a.put o.dst v') w') :
    wpList P ops Q (o :: rest) a w := by
  rcases A with _ | ad
  · obtain ⟨rfl, rfl⟩ := hr.none_zero
    have hrun := run_append_nilc (P := P) (w := w) (ty := o.type) ht hi hown c
    refine wpList_plain hgd fun K hK => ?_
    unfold Oper.wp
    simp [execOp, ho, resolve, invoke, builtin, hs, hx, hrun, Result.andThen]
    exact hK _ _ (h v w (by simpa using hown) (World.grownBy.refl w _))
  · have hl : (l.flatMap enc).length = m * size := by
      have : ∀ l : List α, (l.flatMap enc).length = l.length * size := fun l => by
        induction l with
        | nil => simp
        | cons x l ih => rw [List.flatMap_cons, List.length_append, ih, hk, List.length_cons, Nat.add_mul, Nat.one_mul, Nat.add_comm]
      rw [this, hr.1]
    exact wpList_append_own_at w hgd s x t ho base e i z size bytes ht hi hz hsize hby hzs hsz v n xs hs hown ad m c (l.flatMap enc) hx hl (hr.news hk) (fun u hu => by
      obtain ⟨x, _, hx⟩ := List.mem_flatMap.1 hu
      exact h1 x u hx) h63 hbytes hbase (fun v' w' h2 h3 _ _ => h v' w' h2 h3)
/-- an empty row, newly made -/
theorem own_empty (w : World) (e : TypeId) (size : Nat) : (w.alloc (.cells #[] e)).ownsRow w.heap.size e size (.slice (some ⟨w.heap.size, 0, none⟩) 0 0) 0 [] :=
  ⟨by simp, .inr ⟨w.heap.size, 0, #[], rfl, Nat.le_refl _, heap_alloc_new w _, Nat.le_refl _, by unfold maxLen; omega, by simp, by simp⟩⟩
end Go.Proofs.Ytphdndiikikecaa
