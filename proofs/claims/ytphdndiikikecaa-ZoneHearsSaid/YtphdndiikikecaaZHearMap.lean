/- A MAP of ranges by ints, that a call has made. -/
import Derived.Test.YtphdndiikikecaaZLeaf
import Derived.Maps.OwnSet
namespace Go.Proofs.Ytphdndiikikecaa
open Go.RowKit Go.Proofs

def rgD (r : Int × Int) : DataW Unit := .agg [.lit (.int .i64 r.1), .lit (.int .i64 r.2)]
def rgV (r : Int × Int) : Value := .agg #[.int .i64 r.1, .int .i64 r.2]
/-- how an element reads -/
def rgElem (v : Value) : Option (DataW Unit × List MemPlace) := match v with
  | .agg cs => match cs.toList with
    | [.int .i64 a, .int .i64 b] => some (rgD (a, b), [])
    | _ => none
  | _ => none
theorem rgElem_mk (r : Int × Int) : rgElem (rgV r) = some (rgD r, []) := rfl
theorem rgElem_inv {v : Value} {z : DataW Unit × List MemPlace} (h : rgElem v = some z) : ∃ r, v = rgV r ∧ z = (rgD r, []) := by
  unfold rgElem at h
  split at h
  · rename_i cs
    split at h
    · rename_i a b hc
      cases h
      refine ⟨(a, b), ?_, rfl⟩
      show Value.agg cs = _
      have : cs = #[.int .i64 a, .int .i64 b] := Array.ext' hc
      rw [this]; rfl
    · cases h
  · cases h
theorem rgD_inj {r s : Int × Int} (h : rgD r = rgD s) : r = s := by
  simp [rgD] at h
  exact Prod.ext h.1 h.2
theorem keyedI : Maps.Keyed Try.prog 3 := Maps.int_keyed Try.underlying3
theorem key_of {k : Int} (h : -9223372036854775808 ≤ k ∧ k ≤ 9223372036854775807) : keyOf Try.prog 3 (.int .i64 k) = some (.int .i64 k) := by
  have wa : (Lit.int .i64 k).wf = true := WalkArith.wf_i64 (by omega)
  simp [keyOf, Try.underlying3, mapKey, wa]
/-- block M is a map that gives f k at each key k -/
def MapF (w : World) (M n : Nat) (f : Int → Int × Int) : Prop :=
  ∃ D : DataW Unit, w.ownsMap Try.prog 3 rgElem M n D ∧ Maps.IsMap D ∧ ∀ k : Int, D.atKey (.int .i64 k) (rgD (0, 0)) = rgD (f k)
theorem MapF.made (w : World) : MapF (w.alloc (.map #[] 0)) w.heap.size 0 (fun _ => (0, 0)) :=
  ⟨.map [], World.ownsMap_made w _ _ _, Maps.isMap_empty, fun _ => rfl⟩
theorem MapF.lt {w : World} {M n : Nat} {f : Int → Int × Int} (h : MapF w M n f) : M < w.heap.size := by
  obtain ⟨D, h, _⟩ := h; exact h.lt
theorem MapF.grown {w w' : World} {M n : Nat} {f : Int → Int × Int} {row : Option Nat} (h : MapF w M n f) (hg : w.grownBy w' row) (hne : some M ≠ row) : MapF w' M n f := by
  obtain ⟨D, h1, h2⟩ := h; exact ⟨D, h1.kept hg hne, h2⟩
theorem MapF.alloc {w : World} {M n : Nat} {f : Int → Int × Int} (h : MapF w M n f) (o : Obj) : MapF (w.alloc o) M n f := by
  obtain ⟨D, h1, h2⟩ := h; exact ⟨D, h1.alloc o, h2⟩
theorem MapF.below {w w' : World} {M n : Nat} {f : Int → Int × Int} (h : MapF w M n f) (hb : Below w.heap.size w w') : MapF w' M n f := by
  obtain ⟨D, ⟨es, cl, h1, h3⟩, h2⟩ := h
  exact ⟨D, ⟨es, cl, (hb.block M (Array.getElem?_eq_some_iff.1 h1).1).trans h1, h3⟩, h2⟩
theorem zero_rg (w : World) : (zeroValue 67).run Try.prog w = .ok (rgV (0, 0)) w := by kernel_rfl
theorem MapF.look {w : World} {M n : Nat} {f : Int → Int × Int} (h : MapF w M n f) {k : Int} (hk : -9223372036854775808 ≤ k ∧ k ≤ 9223372036854775807) :
    (Instr.lookup 128 (.map (some M)) (.int .i64 k) false).run Try.prog w = .ok (.agg #[.int .i64 (f k).1, .int .i64 (f k).2]) w := by
  obtain ⟨D, h1, _, h3⟩ := h
  obtain ⟨v, ps, hrun, hv⟩ := h1.lookup keyedI Try.underlying128 (zero_rg w) (rgElem_mk (0, 0)) (key_of hk)
  obtain ⟨r, rfl, hz⟩ := rgElem_inv hv
  rw [h3] at hz
  have : f k = r := rgD_inj (by injection hz)
  rw [hrun, this]; rfl
theorem MapF.upd {w : World} {M n : Nat} {f : Int → Int × Int} (h : MapF w M n f) {k : Int} (hk : -9223372036854775808 ≤ k ∧ k ≤ 9223372036854775807) (hn : n < 1000000) (r : Int × Int) :
    ∃ w', (Instr.mapUpdate 128 (.map (some M)) (.int .i64 k) (.agg #[.int .i64 r.1, .int .i64 r.2])).run Try.prog w = .ok () w' ∧ MapF w' M (n + 1) (fun j => if j = k then r else f j) ∧ w.grownBy w' (some M) := by
  obtain ⟨D, h1, h2, h3⟩ := h
  obtain ⟨w', hrun, h4, h5⟩ := h1.update keyedI Try.underlying128 (by unfold maxLen; omega) (key_of hk) (rgElem_mk r)
  refine ⟨w', hrun, ⟨_, h4, h2.put _ _, fun j => ?_⟩, h5⟩
  by_cases hj : j = k
  · subst hj
    show _ = rgD (if j = j then r else f j)
    rw [if_pos rfl, Maps.atKey_put_same h2 (keyedI.key (key_of hk))]
  · show _ = rgD (if j = k then r else f j)
    rw [if_neg hj, Maps.atKey_put_other (by intro e; injection e with e1 e2; exact hj e2), h3]
/-- a store into the map, for the walk -/
theorem wpList_mapF {w : World} {ops : Array Oper} {rest : List Oper} {o : Oper} {a : Act} {Q : Exit → Act → World → Prop}
    (hg : o.guard = none) (m x v : Operand) (hop : o.op = Op.mapUpdate 128 m x v) (M n : Nat) (f : Int → Int × Int) (hm : a.eval m = .map (some M)) (h : MapF w M n f)
    (k : Int) (hx : a.eval x = .int .i64 k) (hk : -9223372036854775808 ≤ k ∧ k ≤ 9223372036854775807) (hn : n < 1000000) (r : Int × Int) (hv : a.eval v = .agg #[.int .i64 r.1, .int .i64 r.2])
    (hK : ∀ w', MapF w' M (n + 1) (fun j => if j = k then r else f j) → w.grownBy w' (some M) → wpList Try.prog ops Q rest (a.put o.dst undef) w') :
    wpList Try.prog ops Q (o :: rest) a w := by
  refine wpList_plain hg fun K' hK' => ?_
  obtain ⟨w', hrun, r1, r2⟩ := h.upd hk hn r
  unfold Oper.wp
  simp [execOp, hop, hm, hx, hv, hrun, Result.andThen]
  exact hK' _ _ (hK w' r1 r2)
end Go.Proofs.Ytphdndiikikecaa
