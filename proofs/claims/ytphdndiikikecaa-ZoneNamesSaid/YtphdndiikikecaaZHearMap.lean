/- CONTRACTS of 'all' over a slice of zone.Evidence with the function zone.Hear$1: written by mkallz.py. -/
import Derived.Test.YtphdndiikikecaaZInts
import Derived.Test.YtphdndiikikecaaZEv
import Derived.Maps.OwnSet
set_option linter.unusedVariables false
set_option linter.unusedSimpArgs false
namespace Go.Proofs.Ytphdndiikikecaa
open Go.RowKit Go.Proofs

section
variable {p : Evd → Bool}
theorem allEv_1 (x : Evd) (B : Nat) (V : Nat) (w : World) (_hBl : B < w.heap.size) (hB : w.cell? ⟨B, 0, none⟩ = some (.func (.func 78) #[] #[.pointer (some ⟨V, 0, none⟩)]))
    (hp : ∀ W : World, Below w.heap.size w W → Calls Try.prog 78 #[.agg #[.int .i64 x.k, .int .i64 x.lo, .int .i64 x.hi], .pointer (some ⟨V, 0, none⟩)] W fun e w' => e = .returned (.bool (p x)) ∧ Below W.heap.size W w') :
    Calls Try.prog 92 #[.agg #[.int .i64 x.k, .int .i64 x.lo, .int .i64 x.hi], .pointer (some ⟨B, 0, none⟩)] w fun e w' => e = .returned (.bool (!p x)) ∧ Below w.heap.size w w' := by
  have hp' := hp (w.alloc (.cells #[.int .i64 x.k, .int .i64 x.lo, .int .i64 x.hi] 101)) ((Below.refl w.heap.size w).alloc (Nat.le_refl _) (.cells #[.int .i64 x.k, .int .i64 x.lo, .int .i64 x.hi] 101))
  have HP := Lib.hid hp'; clear hp hp'
  go_enter Try.func92, Try.ntmps92
  go_wp2_with (go_at_call 78; refine (HP.out).mono ?_; rintro e w' ⟨rfl, hb⟩)
  go_ret
  exact ⟨rfl, ((Below.refl _ _).alloc (Nat.le_refl _) _).trans (hb.mono (by simp))⟩

theorem idxEv_c {l : List (Evd)} {A : Option Addr} {n c : Nat} {B : Nat} (V : Nat) (w : World) (h : Rd encE 3 w A n l) (hn : n ≤ maxLen) (hBl : B < w.heap.size)
    (hB : w.cell? ⟨B, 0, none⟩ = some (.func (.func 78) #[] #[.pointer (some ⟨V, 0, none⟩)]))
    (hp : ∀ (i : Nat) (x : Evd) (W : World), l[i]? = some x → Below w.heap.size w W → Calls Try.prog 78 #[.agg #[.int .i64 x.k, .int .i64 x.lo, .int .i64 x.hi], .pointer (some ⟨V, 0, none⟩)] W fun e w' => e = .returned (.bool (p x)) ∧ Below W.heap.size W w') :
    Calls Try.prog 99 #[.slice A n c, .func (.func 92) #[] #[.pointer (some ⟨B, 0, none⟩)]] w
      fun e w' => (∃ r : Int, e = .returned (.int .i64 r) ∧ (!decide (r ≥ 0)) = allB p l) ∧ Below w.heap.size w w' := by
  unfold maxLen at hn
  have HP := Lib.hid hp; clear hp
  go_enter Try.func99, Try.ntmps99
  go_wp2_with fail
  go_loopw [5, 8] (fun _ i wr => ∃ k : Nat, k ≤ n ∧ i = .int .i64 k ∧ Below w.heap.size w wr ∧ ∀ (j : Nat) (x : Evd), j < k → l[j]? = some x → p x = true) (fun _ i _ => n - (intOf i).toNat)
  case atStart => exact ⟨0, Nat.zero_le _, rfl, Below.refl _ _, fun j x hj => absurd hj (by omega)⟩
  case round =>
    obtain ⟨k, hk, rfl, hb, hall⟩ := hrel
    have HA := Lib.hid hall; clear hall
    by_cases hlt : k < n
    · obtain ⟨b, o, x, rfl, hbl, hx, h0, h1, h2⟩ := (h.below hb).at3 hlt
      have hx1 := fun W (hW : Below wr.heap.size wr W) => HP.out k x W hx (hb.trans (hW.mono hb.size))
      have HX1 := Lib.hid hx1; clear hx1
      have HX := Lib.hid hx; clear hx
      have hB' := (hb.cell (p := ⟨B, 0, none⟩) hBl).trans hB
      have hBl' : B < wr.heap.size := Nat.lt_of_lt_of_le hBl hb.size
      cases hm : p x
      all_goals
        have HM := Lib.hid hm; clear hm
        go_wp2_with (go_at_call 92; refine (allEv_1 _ _ V _ hBl' hB' HX1.out).mono ?_; rintro e w' ⟨rfl, hb'⟩; simp only [HM.out])
      · go_ret
        exact ⟨⟨k, rfl, by rw [(allB_not (p := p) (l := l)).2 ⟨k, x, HX.out, HM.out⟩]; simp⟩, hb.trans (hb'.mono hb.size)⟩
      · go_roundw
        case rel => exact ⟨k + 1, by omega, by go_num, hb.trans (hb'.mono hb.size), fun j y hj hy => by
          rcases Nat.lt_or_ge j k with hjk | hjk
          · exact HA.out j y hjk hy
          · obtain rfl : j = k := by omega
            rw [HX.out] at hy; cases hy; exact HM.out⟩
        case measure => simp [intOf]; omega
    · go_wp2
      go_ret
      refine ⟨⟨-1, rfl, ?_⟩, hb⟩
      rw [(allB_iff (p := p) (l := l)).2 fun i x hx => HA.out i x (by have := (List.getElem?_eq_some_iff.1 hx).1; have := h.len; omega) hx]
      simp

theorem containsEv_c {l : List (Evd)} {A : Option Addr} {n c : Nat} {B : Nat} (V : Nat) (w : World) (h : Rd encE 3 w A n l) (hn : n ≤ maxLen) (hBl : B < w.heap.size)
    (hB : w.cell? ⟨B, 0, none⟩ = some (.func (.func 78) #[] #[.pointer (some ⟨V, 0, none⟩)]))
    (hp : ∀ (i : Nat) (x : Evd) (W : World), l[i]? = some x → Below w.heap.size w W → Calls Try.prog 78 #[.agg #[.int .i64 x.k, .int .i64 x.lo, .int .i64 x.hi], .pointer (some ⟨V, 0, none⟩)] W fun e w' => e = .returned (.bool (p x)) ∧ Below W.heap.size W w') :
    Calls Try.prog 91 #[.slice A n c, .func (.func 92) #[] #[.pointer (some ⟨B, 0, none⟩)]] w
      fun e w' => e = .returned (.bool (!allB p l)) ∧ Below w.heap.size w w' := by
  have hc := idxEv_c (c := c) V w h hn hBl hB hp
  have HC := Lib.hid hc; clear hc hp
  go_enter Try.func91, Try.ntmps91
  go_wp2_with (go_at_call 99; refine (HC.out).mono ?_; rintro e w' ⟨⟨r, rfl, hr⟩, hb⟩; have HR := Lib.hid hr; clear hr)
  go_ret
  exact ⟨ret_bool (by rw [← HR.out]; simp), hb⟩

theorem allEv_c {l : List (Evd)} {A : Option Addr} {n c : Nat} (V : Nat) (w : World) (h : Rd encE 3 w A n l) (hn : n ≤ maxLen)
    (hp : ∀ (i : Nat) (x : Evd) (W : World), l[i]? = some x → Below w.heap.size w W → Calls Try.prog 78 #[.agg #[.int .i64 x.k, .int .i64 x.lo, .int .i64 x.hi], .pointer (some ⟨V, 0, none⟩)] W fun e w' => e = .returned (.bool (p x)) ∧ Below W.heap.size W w') :
    Calls Try.prog 80 #[.slice A n c, .func (.func 78) #[] #[.pointer (some ⟨V, 0, none⟩)]] w
      fun e w' => e = .returned (.bool (allB p l)) ∧ Below w.heap.size w w' := by
  have hbx := (Below.refl w.heap.size w).alloc (Nat.le_refl _) (.cells #[.func (.func 78) #[] #[.pointer (some ⟨V, 0, none⟩)]] 126)
  have hc := containsEv_c (c := c) (B := w.heap.size) V (w.alloc (.cells #[.func (.func 78) #[] #[.pointer (some ⟨V, 0, none⟩)]] 126)) (h.mono hbx) hn (by simp) (by simp) (fun i x W hx hW => hp i x W hx (hbx.trans (hW.mono (by simp))))
  have HC := Lib.hid hc; clear hc hp
  go_enter Try.func80, Try.ntmps80
  go_wp2_with (go_at_call 91; refine (HC.out).mono ?_; rintro e w' ⟨rfl, hb⟩)
  go_ret
  exact ⟨ret_bool (by simp), ((Below.refl _ _).alloc (Nat.le_refl _) _).trans (hb.mono (by simp))⟩
end
end Go.Proofs.Ytphdndiikikecaa

namespace Go.Proofs.Ytphdndiikikecaa
open Go.RowKit Go.Proofs

def rgD (r : Int × Int) : DataW Unit := .agg [.lit (.int .i64 r.1), .lit (.int .i64 r.2)]
def rgV (r : Int × Int) : Value := .agg #[.int .i64 r.1, .int .i64 r.2]
/-- how an element reads -/
def rgElem (v : Value) : Option (DataW Unit × List MemPlace) := match v with
  | .agg cs => match cs.toList with
    | [.int .i64 a, .int .i64 b] => some (rgD (a, b), [])
    | _ => none
  | _ => none
theorem rgElem_mk (r : Int × Int) : rgElem (rgV r) = some (rgD r, []) := rfl
theorem rgElem_inv {v : Value} {z : DataW Unit × List MemPlace} (h : rgElem v = some z) : ∃ r, v = rgV r ∧ z = (rgD r, []) := by
  unfold rgElem at h
  split at h
  · rename_i cs
    split at h
    · rename_i a b hc
      cases h
      refine ⟨(a, b), ?_, rfl⟩
      show Value.agg cs = _
      have : cs = #[.int .i64 a, .int .i64 b] := Array.ext' hc
      rw [this]; rfl
    · cases h
  · cases h
theorem rgD_inj {r s : Int × Int} (h : rgD r = rgD s) : r = s := by
  simp [rgD] at h
  exact Prod.ext h.1 h.2
theorem keyedI : Maps.Keyed Try.prog 3 := Maps.int_keyed Try.underlying3
theorem key_of {k : Int} (h : -9223372036854775808 ≤ k ∧ k ≤ 9223372036854775807) : keyOf Try.prog 3 (.int .i64 k) = some (.int .i64 k) := by
  have wa : (Lit.int .i64 k).wf = true := WalkArith.wf_i64 (by omega)
  simp [keyOf, Try.underlying3, mapKey, wa]
/-- block M is a map that gives f k at each key k -/
def MapF (w : World) (M n : Nat) (f : Int → Int × Int) : Prop :=
  ∃ D : DataW Unit, w.ownsMap Try.prog 3 rgElem M n D ∧ Maps.IsMap D ∧ ∀ k : Int, D.atKey (.int .i64 k) (rgD (0, 0)) = rgD (f k)
theorem MapF.made (w : World) : MapF (w.alloc (.map #[] 0)) w.heap.size 0 (fun _ => (0, 0)) :=
  ⟨.map [], World.ownsMap_made w _ _ _, Maps.isMap_empty, fun _ => rfl⟩
theorem MapF.lt {w : World} {M n : Nat} {f : Int → Int × Int} (h : MapF w M n f) : M < w.heap.size := by
  obtain ⟨D, h, _⟩ := h; exact h.lt
theorem MapF.grown {w w' : World} {M n : Nat} {f : Int → Int × Int} {row : Option Nat} (h : MapF w M n f) (hg : w.grownBy w' row) (hne : some M ≠ row) : MapF w' M n f := by
  obtain ⟨D, h1, h2⟩ := h; exact ⟨D, h1.kept hg hne, h2⟩
theorem MapF.alloc {w : World} {M n : Nat} {f : Int → Int × Int} (h : MapF w M n f) (o : Obj) : MapF (w.alloc o) M n f := by
  obtain ⟨D, h1, h2⟩ := h; exact ⟨D, h1.alloc o, h2⟩
theorem MapF.below {w w' : World} {M n : Nat} {f : Int → Int × Int} (h : MapF w M n f) (hb : Below w.heap.size w w') : MapF w' M n f := by
  obtain ⟨D, ⟨es, cl, h1, h3⟩, h2⟩ := h
  exact ⟨D, ⟨es, cl, (hb.block M (Array.getElem?_eq_some_iff.1 h1).1).trans h1, h3⟩, h2⟩
theorem zero_rg (w : World) : (zeroValue 67).run Try.prog w = .ok (rgV (0, 0)) w := by kernel_rfl
theorem MapF.look {w : World} {M n : Nat} {f : Int → Int × Int} (h : MapF w M n f) {k : Int} (hk : -9223372036854775808 ≤ k ∧ k ≤ 9223372036854775807) :
    (Instr.lookup 128 (.map (some M)) (.int .i64 k) false).run Try.prog w = .ok (.agg #[.int .i64 (f k).1, .int .i64 (f k).2]) w := by
  obtain ⟨D, h1, _, h3⟩ := h
  obtain ⟨v, ps, hrun, hv⟩ := h1.lookup keyedI Try.underlying128 (zero_rg w) (rgElem_mk (0, 0)) (key_of hk)
  obtain ⟨r, rfl, hz⟩ := rgElem_inv hv
  rw [h3] at hz
  have : f k = r := rgD_inj (by injection hz)
  rw [hrun, this]; rfl
theorem MapF.upd {w : World} {M n : Nat} {f : Int → Int × Int} (h : MapF w M n f) {k : Int} (hk : -9223372036854775808 ≤ k ∧ k ≤ 9223372036854775807) (hn : n < 1000000) (r : Int × Int) :
    ∃ w', (Instr.mapUpdate 128 (.map (some M)) (.int .i64 k) (.agg #[.int .i64 r.1, .int .i64 r.2])).run Try.prog w = .ok () w' ∧ MapF w' M (n + 1) (fun j => if j = k then r else f j) ∧ w.grownBy w' (some M) := by
  obtain ⟨D, h1, h2, h3⟩ := h
  obtain ⟨w', hrun, h4, h5⟩ := h1.update keyedI Try.underlying128 (by unfold maxLen; omega) (key_of hk) (rgElem_mk r)
  refine ⟨w', hrun, ⟨_, h4, h2.put _ _, fun j => ?_⟩, h5⟩
  by_cases hj : j = k
  · subst hj
    show _ = rgD (if j = j then r else f j)
    rw [if_pos rfl, Maps.atKey_put_same h2 (keyedI.key (key_of hk))]
  · show _ = rgD (if j = k then r else f j)
    rw [if_neg hj, Maps.atKey_put_other (by intro e; injection e with e1 e2; exact hj e2), h3]
/-- a store into the map, for the walk -/
theorem wpList_mapF {w : World} {ops : Array Oper} {rest : List Oper} {o : Oper} {a : Act} {Q : Exit → Act → World → Prop}
    (hg : o.guard = none) (m x v : Operand) (hop : o.op = Op.mapUpdate 128 m x v) (M n : Nat) (f : Int → Int × Int) (hm : a.eval m = .map (some M)) (h : MapF w M n f)
    (k : Int) (hx : a.eval x = .int .i64 k) (hk : -9223372036854775808 ≤ k ∧ k ≤ 9223372036854775807) (hn : n < 1000000) (r : Int × Int) (hv : a.eval v = .agg #[.int .i64 r.1, .int .i64 r.2])
    (hK : ∀ w', MapF w' M (n + 1) (fun j => if j = k then r else f j) → w.grownBy w' (some M) → wpList Try.prog ops Q rest (a.put o.dst undef) w') :
    wpList Try.prog ops Q (o :: rest) a w := by
  refine wpList_plain hg fun K' hK' => ?_
  obtain ⟨w', hrun, r1, r2⟩ := h.upd hk hn r
  unfold Oper.wp
  simp [execOp, hop, hm, hx, hv, hrun, Result.andThen]
  exact hK' _ _ (hK w' r1 r2)
end Go.Proofs.Ytphdndiikikecaa
