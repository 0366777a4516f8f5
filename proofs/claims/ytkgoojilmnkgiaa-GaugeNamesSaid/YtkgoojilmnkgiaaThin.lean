/- THE CONTRACT of Thin's inner function rest, and of Thin. -/
import Derived.Test.YtkgoojilmnkgiaaThinLaw
import Derived.Maps.OwnSet
namespace Go.Proofs.Ytkgoojilmnkgiaa
open Go.RowKit Go.Proofs Go.Maps

/-- the key of a number -/
def keyI (a : Nat) : Lit := .int .i64 (a : Int)
theorem keyI_ne {a b : Nat} (h : a ≠ b) : keyI a ≠ keyI b := by unfold keyI; intro e; injection e with _ e; omega
theorem keyI_lit (a : Nat) : WideAt.IsKeyLit (keyI a) := by unfold keyI; trivial
def cntB (D : DataW Unit) : Nat := ((List.range 60).filter fun a => Maps.has D (keyI a)).length
theorem cntB_le (D : DataW Unit) : cntB D ≤ 60 := by
  have := List.length_filter_le (fun a => Maps.has D (keyI a)) (List.range 60)
  simpa [cntB] using this
theorem cnt_step (f g : Nat → Bool) (a : Nat) (hf : f a = false) (hg : g a = true) (ho : ∀ b, b ≠ a → g b = f b) : ∀ n, a < n → ((List.range n).filter g).length = ((List.range n).filter f).length + 1 := by
  have same : ∀ n, n ≤ a → ((List.range n).filter g).length = ((List.range n).filter f).length := by
    intro n
    induction n with
    | zero => intro _; rfl
    | succ n ih =>
      intro hn
      rw [List.range_succ, List.filter_append, List.filter_append, List.length_append, List.length_append, ih (by omega)]
      simp [List.filter_cons, ho n (by omega)]
  intro n
  induction n with
  | zero => intro h; omega
  | succ n ih =>
    intro hn
    rw [List.range_succ, List.filter_append, List.filter_append, List.length_append, List.length_append]
    rcases Nat.lt_or_ge a n with h' | h'
    · rw [ih h']; simp only [List.filter_cons, List.filter_nil, ho n (by omega)]; omega
    · obtain rfl : a = n := by omega
      rw [same a (Nat.le_refl _)]; simp [hf, hg]

/-- The map of what is known: each entry is the least number. -/
def Memo (w : World) (M : Nat) (l : List (Int × Int)) (s : Int) (last : Nat) : Prop :=
  ∃ (n : Nat) (D : DataW Unit), w.ownsMap Try.prog 3 (plainElem Try.prog 3) M n D ∧ n ≤ 60 ∧ Maps.size D ≤ cntB D ∧ Tidy D ∧
    ∀ (a : Nat) (z : DataW Unit), a ≤ last → Maps.has D (keyI a) = true → ∃ r : Nat, D.atKey (keyI a) z = .lit (.int .i64 r) ∧ IsRest l s last a r
theorem Memo.lt {w : World} {M : Nat} {l : List (Int × Int)} {s : Int} {last : Nat} (h : Memo w M l s last) : M < w.heap.size := by
  obtain ⟨n, D, h, _⟩ := h; exact h.lt
theorem Memo.isMap {w : World} {M : Nat} {l : List (Int × Int)} {s : Int} {last : Nat} (h : Memo w M l s last) : ∃ es c, w.heap[M]? = some (.map es c) := by
  obtain ⟨n, D, ⟨es, c, hb, _⟩, _⟩ := h; exact ⟨es, c, hb⟩
theorem Memo.below {w w' : World} {M : Nat} {l : List (Int × Int)} {s : Int} {last : Nat} (h : Memo w M l s last) (hb : Below w.heap.size w w') : Memo w' M l s last := by
  have hlt := h.lt
  obtain ⟨n, D, ⟨es, c, hm, hrest⟩, h2⟩ := h
  exact ⟨n, D, ⟨es, c, (hb.block M hlt).trans hm, hrest⟩, h2⟩

/-- The worlds in which rest runs: the boxes of what it captured, the series, the map. -/
structure RestSt (w : World) (l : List (Int × Int)) (s : Int) (last n c : Nat) (A : Option Addr) (b1 b2 b3 b4 b5 M : Nat) : Prop where
  c1 : w.cell? ⟨b1, 0, none⟩ = some (.int .i64 (last : Int))
  c2 : w.cell? ⟨b2, 0, none⟩ = some (.map (some M))
  c3 : w.cell? ⟨b3, 0, none⟩ = some (.slice A n c)
  c4 : w.cell? ⟨b4, 0, none⟩ = some (.int .i64 s)
  c5 : w.cell? ⟨b5, 0, none⟩ = some (.func (.func 67) #[] #[.pointer (some ⟨b1, 0, none⟩), .pointer (some ⟨b2, 0, none⟩), .pointer (some ⟨b3, 0, none⟩), .pointer (some ⟨b4, 0, none⟩), .pointer (some ⟨b5, 0, none⟩)])
  rd : Rd enc2 2 w A n l
  memo : Memo w M l s last

theorem cell_ne_map {w : World} {M b o : Nat} {v : Value} {es : Array MapEntry} {c : Nat} (h : w.cell? ⟨b, o, none⟩ = some v) (hm : w.heap[M]? = some (.map es c)) : b ≠ M := by
  rintro rfl
  simp [World.cell?, hm] at h
theorem cell_lt {w : World} {b o : Nat} {v : Value} (h : w.cell? ⟨b, o, none⟩ = some v) : b < w.heap.size := World.block_lt_of_cell? w _ h
theorem only_cell {w w' : World} {M b o : Nat} {v : Value} {es : Array MapEntry} {c : Nat} (hg : w.grownBy w' (some M)) (hm : w.heap[M]? = some (.map es c)) (h : w.cell? ⟨b, o, none⟩ = some v) : w'.cell? ⟨b, o, none⟩ = some v :=
  (World.cell?_of_block (hg.block b (cell_lt h) (by intro e; injection e with e; exact cell_ne_map h hm e))).trans h
theorem only_rd {α : Type} {enc : α → List Value} {k : Nat} {w w' : World} {M : Nat} {A : Option Addr} {n : Nat} {l : List α} {es : Array MapEntry} {c : Nat} (hg : w.grownBy w' (some M)) (hm : w.heap[M]? = some (.map es c)) (h : Rd enc k w A n l) : Rd enc k w' A n l :=
  ⟨h.1, fun hn => by
    obtain ⟨b, o, e, hlt, hc⟩ := h.2 hn
    exact ⟨b, o, e, Nat.lt_of_lt_of_le hlt hg.size, fun i x hx j v hv => only_cell hg hm (hc i x hx j v hv)⟩⟩
theorem RestSt.grown {w w' : World} {l : List (Int × Int)} {s : Int} {last n c : Nat} {A : Option Addr} {b1 b2 b3 b4 b5 M : Nat} (h : RestSt w l s last n c A b1 b2 b3 b4 b5 M) (hg : w.grownBy w' (some M)) (hm : Memo w' M l s last) :
    RestSt w' l s last n c A b1 b2 b3 b4 b5 M := by
  obtain ⟨es, k, he⟩ := h.memo.isMap
  exact ⟨only_cell hg he h.c1, only_cell hg he h.c2, only_cell hg he h.c3, only_cell hg he h.c4, only_cell hg he h.c5, only_rd hg he h.rd, hm⟩
theorem RestSt.below {w w' : World} {l : List (Int × Int)} {s : Int} {last n c : Nat} {A : Option Addr} {b1 b2 b3 b4 b5 M : Nat} (h : RestSt w l s last n c A b1 b2 b3 b4 b5 M) (hb : Below w.heap.size w w') :
    RestSt w' l s last n c A b1 b2 b3 b4 b5 M := h.grown (only_of_below hb _) (h.memo.below hb)

theorem own_size {H : Type} {P : Program} {k : TypeId} {R : Value → Option (DataW H × List MemPlace)} {w : World} {b n : Nat} {D : DataW H} (h : w.ownsMap P k R b n D) : w.ownsMap P k R b (Maps.size D) D := by
  obtain ⟨es, clock, hb, F, _, rfl⟩ := h
  exact ⟨es, clock, hb, F, by simp [Maps.size, length_sorted], rfl⟩
theorem Memo.put {w : World} {M : Nat} {l : List (Int × Int)} {s : Int} {last n : Nat} {D : DataW Unit} {a r : Nat} (hn : Maps.size D ≤ cntB D) (hD : Tidy D) (hM : IsMap D)
    (hall : ∀ (a : Nat) (z : DataW Unit), a ≤ last → Maps.has D (keyI a) = true → ∃ r : Nat, D.atKey (keyI a) z = .lit (.int .i64 r) ∧ IsRest l s last a r)
    (ha : a < 60) (hr : IsRest l s last a r) (hown : w.ownsMap Try.prog 3 (plainElem Try.prog 3) M n (D.put (keyI a) (.lit (.int .i64 r)))) : Memo w M l s last := by
  have hsz : Maps.size (D.put (keyI a) (.lit (.int .i64 (r : Int)))) ≤ cntB (D.put (keyI a) (.lit (.int .i64 (r : Int)))) := by
    rw [size_put hD]
    by_cases hno : Maps.has D (keyI a) = true
    · rw [if_pos hno]
      refine Nat.le_trans hn (Nat.le_of_eq ?_)
      unfold cntB
      congr 1
      refine List.filter_congr fun b _ => ?_
      by_cases hb : b = a
      · subst hb; rw [hno, has_put_same hM (keyI_lit b) _]
      · rw [has_put_other (keyI_ne hb)]
    · rw [if_neg hno]
      unfold cntB
      rw [cnt_step (fun b => Maps.has D (keyI b)) (fun b => Maps.has (D.put (keyI a) (.lit (.int .i64 r))) (keyI b)) a (by simpa using hno) (has_put_same hM (keyI_lit a) _) (fun b hb => has_put_other (keyI_ne hb) _) 60 ha]
      unfold cntB at hn; omega
  refine ⟨_, _, own_size hown, Nat.le_trans hsz (cntB_le _), hsz, hown.tidy (int_keyed Try.underlying3), fun b z hb hh => ?_⟩
  by_cases hab : b = a
  · subst hab
    exact ⟨r, atKey_put_same hM (keyI_lit b) _ _, hr⟩
  · rw [has_put_other (keyI_ne hab)] at hh
    obtain ⟨q, h1, h2⟩ := hall b z hb hh
    exact ⟨q, by rw [atKey_put_other (keyI_ne hab)]; exact h1, h2⟩
theorem w64 {e : Int} (h : -9223372036854775808 ≤ e ∧ e ≤ 9223372036854775807) : wrap64 e = e := by unfold wrap64; omega
theorem zero_int (w : World) : (zeroValue 3).run Try.prog w = .ok (.int .i64 0) w := by kernel_rfl
theorem wf_small {a : Nat} (h : a < 61) : (Lit.int .i64 (a : Int)).wf = true := WalkArith.wf_i64 (by omega)
theorem vint_succ {k : Nat} (h : k < 1000) : Value.int .i64 (wrap64 ((k : Int) + 1)) = .int .i64 ((k + 1 : Nat) : Int) := by
  rw [w64 (by omega)]; rfl
theorem meas_succ {n k : Nat} (h : k < n) (h' : k < 1000) : n - (intOf (.int .i64 (wrap64 ((k : Int) + 1)))).toNat < n - (intOf (.int .i64 k)).toNat := by
  rw [w64 (by omega)]; simp only [intOf]; omega
end Go.Proofs.Ytkgoojilmnkgiaa
