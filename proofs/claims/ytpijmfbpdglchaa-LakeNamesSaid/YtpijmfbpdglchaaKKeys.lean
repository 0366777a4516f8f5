/- A MAP of bools by keys of sixty ints, that a call has made. -/
import Derived.Test.YtpijmfbpdglchaaKBase
import Derived.Maps.OwnSet
import Derived.DeepKeys4
set_option linter.unusedVariables false
set_option linter.unusedSimpArgs false
namespace Go.Proofs.Ytpijmfbpdglchaa
open Go.RowKit Go.Proofs

theorem laidK : laidOutB Try.prog = true := by kernel_rfl
theorem rowK : 128 < Try.prog.types.size := by
  have h : Nat.ble (Nat.succ 128) Try.prog.types.size = true := by kernel_rfl
  exact Nat.lt_of_succ_le (Nat.le_of_ble_eq_true h)
theorem lawK : WideMaps.KeyLaw Try.prog 128 := deep_law_laid laidK (m := 2) (by omega) rowK (by kernel_rfl) (by rw [Try.underlying128])
theorem keyedK : Maps.Keyed Try.prog 128 := Maps.Keyed.of_law lawK
/-- a key -/
def keyC (F : List Int) : Array Value := (F.map fun n => Value.int .i64 n).toArray
def keyV (F : List Int) : Value := .agg (keyC F)
theorem keyC_size (F : List Int) : (keyC F).size = F.length := by simp [keyC]
theorem keyV_inj {F G : List Int} (h : keyV F = keyV G) : F = G := by
  have h1 : keyC F = keyC G := by injection h
  have h2 := congrArg Array.toList h1
  simp only [keyC] at h2
  exact (List.map_inj_right (fun x y h => by injection h)).1 h2
structure OkK (F : List Int) : Prop where
  len : F.length = 60
  bd : ∀ x ∈ F, -9223372036854775808 ≤ x ∧ x ≤ 9223372036854775807
theorem mapM_some {α β : Type} {f : α → Option β} : ∀ {l : List α}, (∀ x ∈ l, ∃ y, f x = some y) → ∃ r, l.mapM f = some r
  | [], _ => ⟨[], by simp⟩
  | a :: l, h => by
    obtain ⟨y, hy⟩ := h a (by simp)
    obtain ⟨r, hr⟩ := mapM_some (l := l) fun x hx => h x (by simp [hx])
    exact ⟨y :: r, by simp [List.mapM_cons, hy, hr]⟩
theorem keyOf_key {F : List Int} (h : OkK F) : ∃ l, keyOf Try.prog 128 (keyV F) = some l := by
  have hk : Try.prog.keyType 128 = true := by kernel_rfl
  unfold keyOf
  simp only [Try.underlying128]
  have c1 : Try.prog.cellsOf 128 = 60 := by kernel_rfl
  have c2 : Try.prog.cellsOf 3 = 1 := by kernel_rfl
  rw [if_pos (by simp [hk, Value.formed, keyV, Try.underlying128, c1, keyC_size, h.len])]
  obtain ⟨m, hm⟩ : ∃ m, Try.prog.types.size = m + 1 := ⟨Try.prog.types.size - 1, by have := rowK; omega⟩
  rw [hm]
  have hl : (Value.cells (keyV F)).toList = F.map fun n => Value.int .i64 n := by simp [keyV, Value.cells, keyC]
  rw [hl]
  have : ∃ r, Try.prog.keyLits (m + 1 + 1) 128 (F.map fun n => Value.int .i64 n) = some r := by
    unfold Program.keyLits
    simp only [Try.underlying128]
    rw [if_pos (by rw [c1, List.length_map, h.len])]
    obtain ⟨r, hr⟩ := mapM_some (f := fun i => Try.prog.keyLits (m + 1) 3 (((F.map fun n => Value.int .i64 n).drop (i * Try.prog.cellsOf 3)).take (Try.prog.cellsOf 3))) (l := List.range 60) fun i hi => by
      rw [List.mem_range] at hi
      have hg := List.getElem?_eq_getElem (show i < F.length by rw [h.len]; exact hi)
      obtain ⟨x, hx⟩ : ∃ x, F[i]? = some x := ⟨_, hg⟩
      have hb := h.bd x (List.mem_of_getElem? hx)
      have wx : (Lit.int .i64 x).wf = true := WalkArith.wf_i64 (by omega)
      have e : ((F.map fun n => Value.int .i64 n).drop (i * 1)).take 1 = [Value.int .i64 x] := by
        apply List.ext_getElem?
        intro j
        rw [Nat.mul_one]
        rcases Nat.lt_or_ge j 1 with hj | hj
        · obtain rfl : j = 0 := by omega
          rw [List.getElem?_take_of_lt (by omega), List.getElem?_drop, List.getElem?_map, Nat.add_zero, hx]; rfl
        · rw [List.getElem?_take_eq_none (by omega), List.getElem?_eq_none (by simp; omega)]
      refine ⟨[.int .i64 x], ?_⟩
      rw [c2, e]
      simp [Program.keyLits, Try.underlying3, wx]
    rw [hr]
    exact ⟨r.flatten, rfl⟩
  obtain ⟨r, hr⟩ := this
  rw [hr]
  exact ⟨_, rfl⟩
def blD (b : Bool) : DataW Unit := .lit (.bool b)
def blElem (v : Value) : Option (DataW Unit × List MemPlace) := match v with
  | .bool b => some (blD b, [])
  | _ => none
theorem blElem_inv {v : Value} {z : DataW Unit × List MemPlace} (h : blElem v = some z) : ∃ b, v = .bool b ∧ z = (blD b, []) := by
  unfold blElem at h
  split at h
  · cases h; exact ⟨_, rfl, rfl⟩
  · cases h
theorem blD_inj {a b : Bool} (h : blD a = blD b) : a = b := by simp [blD] at h; exact h
/-- block M is a map that gives T F at each key F -/
def MapK (w : World) (M n : Nat) (T : List Int → Bool) : Prop :=
  ∃ D : DataW Unit, w.ownsMap Try.prog 128 blElem M n D ∧ Maps.IsMap D ∧ ∀ F l, OkK F → keyOf Try.prog 128 (keyV F) = some l → D.atKey l (blD false) = blD (T F)
theorem MapK.made (w : World) : MapK (w.alloc (.map #[] 0)) w.heap.size 0 (fun _ => false) :=
  ⟨.map [], World.ownsMap_made w _ _ _, Maps.isMap_empty, fun _ _ _ _ => rfl⟩
theorem MapK.lt {w : World} {M n : Nat} {T : List Int → Bool} (h : MapK w M n T) : M < w.heap.size := by obtain ⟨D, h, _⟩ := h; exact h.lt
theorem MapK.below {w w' : World} {M n : Nat} {T : List Int → Bool} (h : MapK w M n T) (hb : Below w.heap.size w w') : MapK w' M n T := by
  obtain ⟨D, ⟨es, cl, h1, h3⟩, h2⟩ := h
  exact ⟨D, ⟨es, cl, (hb.block M (Array.getElem?_eq_some_iff.1 h1).1).trans h1, h3⟩, h2⟩
theorem MapK.grown {w w' : World} {M n : Nat} {T : List Int → Bool} {row : Option Nat} (h : MapK w M n T) (hg : w.grownBy w' row) (hne : some M ≠ row) : MapK w' M n T := by
  obtain ⟨D, h1, h2⟩ := h; exact ⟨D, h1.kept hg hne, h2⟩
theorem zero_bl (w : World) : (zeroValue 4).run Try.prog w = .ok (.bool false) w := by kernel_rfl
theorem MapK.look {w : World} {M n : Nat} {T : List Int → Bool} (h : MapK w M n T) {F : List Int} (hF : OkK F) :
    (Instr.lookup 120 (.map (some M)) (.agg (keyC F)) false).run Try.prog w = .ok (.bool (T F)) w := by
  obtain ⟨D, h1, _, h3⟩ := h
  obtain ⟨l, hl⟩ := keyOf_key hF
  obtain ⟨v, ps, hrun, hv⟩ := h1.lookup keyedK Try.underlying120 (zero_bl w) (show blElem (.bool false) = some (blD false, []) from rfl) hl
  obtain ⟨b, rfl, hz⟩ := blElem_inv hv
  rw [h3 F l hF hl] at hz
  have : T F = b := blD_inj (by injection hz)
  rw [show (Value.agg (keyC F)) = keyV F from rfl, hrun, this]
theorem MapK.upd {w : World} {M n : Nat} {T : List Int → Bool} (h : MapK w M n T) {F : List Int} (hF : OkK F) (hn : n < 1000000) :
    ∃ w', (Instr.mapUpdate 120 (.map (some M)) (.agg (keyC F)) (.bool true)).run Try.prog w = .ok () w' ∧ MapK w' M (n + 1) (fun G => decide (G = F) || T G) ∧ w.grownBy w' (some M) := by
  obtain ⟨D, h1, h2, h3⟩ := h
  obtain ⟨l, hl⟩ := keyOf_key hF
  obtain ⟨w', hrun, h4, h5⟩ := h1.update keyedK Try.underlying120 (by unfold maxLen; omega) hl (show blElem (.bool true) = some (blD true, []) from rfl)
  refine ⟨w', hrun, ⟨_, h4, h2.put _ _, fun G g hG hg => ?_⟩, h5⟩
  by_cases hj : G = F
  · subst hj
    rw [hl] at hg; cases hg
    rw [Maps.atKey_put_same h2 (keyedK.key hl)]
    simp
  · have hne : g ≠ l := fun e => hj (keyV_inj (keyedK.inj hg (e ▸ hl)))
    rw [Maps.atKey_put_other hne, h3 G g hG hg]
    simp [hj]
/-- a store into the map, for the walk -/
theorem wpList_mapK {w : World} {ops : Array Oper} {rest : List Oper} {o : Oper} {a : Act} {Q : Exit → Act → World → Prop}
    (hg : o.guard = none) (m x v : Operand) (hop : o.op = Op.mapUpdate 120 m x v) (M n : Nat) (T : List Int → Bool) (hm : a.eval m = .map (some M)) (h : MapK w M n T)
    (F : List Int) (hx : a.eval x = .agg (keyC F)) (hF : OkK F) (hn : n < 1000000) (hv : a.eval v = .bool true)
    (hK : ∀ w', MapK w' M (n + 1) (fun G => decide (G = F) || T G) → w.grownBy w' (some M) → wpList Try.prog ops Q rest (a.put o.dst undef) w') :
    wpList Try.prog ops Q (o :: rest) a w := by
  refine wpList_plain hg fun K' hK' => ?_
  obtain ⟨w', hrun, r1, r2⟩ := h.upd hF hn
  unfold Oper.wp
  simp [execOp, hop, hm, hx, hv, hrun, Result.andThen]
  exact hK' _ _ (hK w' r1 r2)
end Go.Proofs.Ytpijmfbpdglchaa
