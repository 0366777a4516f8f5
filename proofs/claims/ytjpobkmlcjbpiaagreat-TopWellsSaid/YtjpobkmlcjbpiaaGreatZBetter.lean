/- CONTRACTS of 'all' over a slice of water.Day with the function water.check$1: written by mkally.py. -/
import Derived.Test.YtjpobkmlcjbpiaaGreatYAllCel
import Derived.Test.YtjpobkmlcjbpiaaGreatProg
import Derived.Test.YtjpobkmlcjbpiaaGreatWLaw
import Derived.Deep.DeepCutAuto
set_option linter.unusedVariables false
set_option linter.unusedSimpArgs false
namespace Go.Proofs.YtjpobkmlcjbpiaaGreat
open Go.RowKit Go.Proofs

section
variable {p : Dy → Bool}
theorem allDay_1 (x : Dy) (B : Nat) (w : World) (_hBl : B < w.heap.size) (hB : w.cell? ⟨B, 0, none⟩ = some (.func (.func 54) #[] #[]))
    (hp : ∀ W : World, Below w.heap.size w W → Calls Tryz.prog 54 #[.agg #[.int .i64 x.lo, .int .i64 x.hi, .int .i64 x.warm]] W fun e w' => e = .returned (.bool (p x)) ∧ Below W.heap.size W w') :
    Calls Tryz.prog 81 #[.agg #[.int .i64 x.lo, .int .i64 x.hi, .int .i64 x.warm], .pointer (some ⟨B, 0, none⟩)] w fun e w' => e = .returned (.bool (!p x)) ∧ Below w.heap.size w w' := by
  have hp' := hp (w.alloc (.cells #[.int .i64 x.lo, .int .i64 x.hi, .int .i64 x.warm] 92)) ((Below.refl w.heap.size w).alloc (Nat.le_refl _) (.cells #[.int .i64 x.lo, .int .i64 x.hi, .int .i64 x.warm] 92))
  have HP := Lib.hid hp'; clear hp hp'
  go_enter Tryz.func81, Tryz.ntmps81
  go_wp2_with (go_at_call 54; refine (HP.out).mono ?_; rintro e w' ⟨rfl, hb⟩)
  go_ret
  exact ⟨rfl, ((Below.refl _ _).alloc (Nat.le_refl _) _).trans (hb.mono (by simp))⟩

theorem idxDay_c {l : List (Dy)} {A : Option Addr} {n c : Nat} {B : Nat} (w : World) (h : Rd encDy 3 w A n l) (hn : n ≤ maxLen) (hBl : B < w.heap.size)
    (hB : w.cell? ⟨B, 0, none⟩ = some (.func (.func 54) #[] #[]))
    (hp : ∀ (i : Nat) (x : Dy) (W : World), l[i]? = some x → Below w.heap.size w W → Calls Tryz.prog 54 #[.agg #[.int .i64 x.lo, .int .i64 x.hi, .int .i64 x.warm]] W fun e w' => e = .returned (.bool (p x)) ∧ Below W.heap.size W w') :
    Calls Tryz.prog 106 #[.slice A n c, .func (.func 81) #[] #[.pointer (some ⟨B, 0, none⟩)]] w
      fun e w' => (∃ r : Int, e = .returned (.int .i64 r) ∧ (!decide (r ≥ 0)) = allB p l) ∧ Below w.heap.size w w' := by
  unfold maxLen at hn
  have HP := Lib.hid hp; clear hp
  go_enter Tryz.func106, Tryz.ntmps106
  go_wp2_with fail
  go_loopw [5, 8] (fun _ i wr => ∃ k : Nat, k ≤ n ∧ i = .int .i64 k ∧ Below w.heap.size w wr ∧ ∀ (j : Nat) (x : Dy), j < k → l[j]? = some x → p x = true) (fun _ i _ => n - (intOf i).toNat)
  case atStart => exact ⟨0, Nat.zero_le _, rfl, Below.refl _ _, fun j x hj => absurd hj (by omega)⟩
  case round =>
    obtain ⟨k, hk, rfl, hb, hall⟩ := hrel
    have HA := Lib.hid hall; clear hall
    by_cases hlt : k < n
    · obtain ⟨b, o, x, rfl, hbl, hx, h0, h1, h2⟩ := (h.below hb).atDy hlt
      have hx1 := fun W (hW : Below wr.heap.size wr W) => HP.out k x W hx (hb.trans (hW.mono hb.size))
      have HX1 := Lib.hid hx1; clear hx1
      have HX := Lib.hid hx; clear hx
      have hB' := (hb.cell (p := ⟨B, 0, none⟩) hBl).trans hB
      have hBl' : B < wr.heap.size := Nat.lt_of_lt_of_le hBl hb.size
      cases hm : p x
      all_goals
        have HM := Lib.hid hm; clear hm
        go_wp2_with (go_at_call 81; refine (allDay_1 _ _ _ hBl' hB' HX1.out).mono ?_; rintro e w' ⟨rfl, hb'⟩; simp only [HM.out])
      · go_ret
        exact ⟨⟨k, rfl, by rw [(allB_not (p := p) (l := l)).2 ⟨k, x, HX.out, HM.out⟩]; simp⟩, hb.trans (hb'.mono hb.size)⟩
      · go_roundw
        case rel => exact ⟨k + 1, by omega, by go_num, hb.trans (hb'.mono hb.size), fun j y hj hy => by
          rcases Nat.lt_or_ge j k with hjk | hjk
          · exact HA.out j y hjk hy
          · obtain rfl : j = k := by omega
            rw [HX.out] at hy; cases hy; exact HM.out⟩
        case measure => simp [intOf]; omega
    · go_wp2
      go_ret
      refine ⟨⟨-1, rfl, ?_⟩, hb⟩
      rw [(allB_iff (p := p) (l := l)).2 fun i x hx => HA.out i x (by have := (List.getElem?_eq_some_iff.1 hx).1; have := h.len; omega) hx]
      simp

theorem containsDay_c {l : List (Dy)} {A : Option Addr} {n c : Nat} {B : Nat} (w : World) (h : Rd encDy 3 w A n l) (hn : n ≤ maxLen) (hBl : B < w.heap.size)
    (hB : w.cell? ⟨B, 0, none⟩ = some (.func (.func 54) #[] #[]))
    (hp : ∀ (i : Nat) (x : Dy) (W : World), l[i]? = some x → Below w.heap.size w W → Calls Tryz.prog 54 #[.agg #[.int .i64 x.lo, .int .i64 x.hi, .int .i64 x.warm]] W fun e w' => e = .returned (.bool (p x)) ∧ Below W.heap.size W w') :
    Calls Tryz.prog 80 #[.slice A n c, .func (.func 81) #[] #[.pointer (some ⟨B, 0, none⟩)]] w
      fun e w' => e = .returned (.bool (!allB p l)) ∧ Below w.heap.size w w' := by
  have hc := idxDay_c (c := c) w h hn hBl hB hp
  have HC := Lib.hid hc; clear hc hp
  go_enter Tryz.func80, Tryz.ntmps80
  go_wp2_with (go_at_call 106; refine (HC.out).mono ?_; rintro e w' ⟨⟨r, rfl, hr⟩, hb⟩; have HR := Lib.hid hr; clear hr)
  go_ret
  exact ⟨ret_bool (by rw [← HR.out]; simp), hb⟩

theorem allDay_c {l : List (Dy)} {A : Option Addr} {n c : Nat} (w : World) (h : Rd encDy 3 w A n l) (hn : n ≤ maxLen)
    (hp : ∀ (i : Nat) (x : Dy) (W : World), l[i]? = some x → Below w.heap.size w W → Calls Tryz.prog 54 #[.agg #[.int .i64 x.lo, .int .i64 x.hi, .int .i64 x.warm]] W fun e w' => e = .returned (.bool (p x)) ∧ Below W.heap.size W w') :
    Calls Tryz.prog 53 #[.slice A n c, .func (.func 54) #[] #[]] w
      fun e w' => e = .returned (.bool (allB p l)) ∧ Below w.heap.size w w' := by
  have hbx := (Below.refl w.heap.size w).alloc (Nat.le_refl _) (.cells #[.func (.func 54) #[] #[]] 131)
  have hc := containsDay_c (c := c) (B := w.heap.size) (w.alloc (.cells #[.func (.func 54) #[] #[]] 131)) (h.mono hbx) hn (by simp) (by simp) (fun i x W hx hW => hp i x W hx (hbx.trans (hW.mono (by simp))))
  have HC := Lib.hid hc; clear hc hp
  go_enter Tryz.func53, Tryz.ntmps53
  go_wp2_with (go_at_call 80; refine (HC.out).mono ?_; rintro e w' ⟨rfl, hb⟩)
  go_ret
  exact ⟨ret_bool (by simp), ((Below.refl _ _).alloc (Nat.le_refl _) _).trans (hb.mono (by simp))⟩
end
end Go.Proofs.YtjpobkmlcjbpiaaGreat

namespace Go.Proofs.YtjpobkmlcjbpiaaGreat
end Go.Proofs.YtjpobkmlcjbpiaaGreat

namespace Go.Proofs.YtjpobkmlcjbpiaaGreat

/-- what has been found: its gain, its cost, the set -/
structure Bst where
  gain : Int
  cost : Int
  set : List Int
/-- slices.Compare of two lists of ints -/
def cmpL : List Int → List Int → Int
  | [], [] => 0
  | [], _ :: _ => -1
  | _ :: _, [] => 1
  | a :: l, b :: m => if a = b then cmpL l m else if a < b then -1 else 1
theorem cmpL_bd : ∀ l m : List Int, cmpL l m = -1 ∨ cmpL l m = 0 ∨ cmpL l m = 1
  | [], [] => by simp [cmpL]
  | [], _ :: _ => by simp [cmpL]
  | _ :: _, [] => by simp [cmpL]
  | a :: l, b :: m => by
    have := cmpL_bd l m
    simp only [cmpL]
    split
    · exact this
    · split <;> omega
/-- is a set better than another one? -/
def betterB (g c : Int) (l : List Int) (b : Bst) : Bool :=
  if g = b.gain ∧ c = b.cost then decide (cmpL l b.set < 0) else if b.gain - g = 0 then decide (c - b.cost < 0) else decide (b.gain - g < 0)
def updB (g c : Int) (l : List Int) (st : Bst) : Bst := if betterB g c l st then ⟨g, c, l⟩ else st
def gAt (gs : List Int) (i : Nat) : Int := gs.getD i 0
theorem gAt_of {gs : List Int} {i : Nat} {x : Int} (h : gs[i]? = some x) : gAt gs i = x := by simp [gAt, List.getD, h]
/-- the tries over the parcels from i on -/
def loopB (gs ps : List Int) (B : Int) : Nat → Nat → Int → Int → List Int → Bst → Bst
  | 0, _, _, _, _, st => st
  | k + 1, i, g, c, l, st =>
    loopB gs ps B k (i + 1) g c l
      (if B < c + gAt ps i then st else loopB gs ps B k (i + 1) (g + gAt gs i) (c + gAt ps i) (l ++ [(i : Int)]) (updB (g + gAt gs i) (c + gAt ps i) (l ++ [(i : Int)]) st))
/-- a try -/
def tryB (gs ps : List Int) (B : Int) (k i : Nat) (g c : Int) (l : List Int) (st : Bst) : Bst := if B < c then st else loopB gs ps B k i g c l (updB g c l st)
theorem loopB_zero (gs ps : List Int) (B : Int) (i : Nat) (g c : Int) (l : List Int) (st : Bst) : loopB gs ps B 0 i g c l st = st := rfl
theorem loopB_succ (gs ps : List Int) (B : Int) (k i : Nat) (g c : Int) (l : List Int) (st : Bst) :
    loopB gs ps B (k + 1) i g c l st = loopB gs ps B k (i + 1) g c l (tryB gs ps B k (i + 1) (g + gAt gs i) (c + gAt ps i) (l ++ [(i : Int)]) st) := rfl
def bestB (gs ps : List Int) (B : Int) : Bst := tryB gs ps B gs.length 0 0 0 [] ⟨0, 0, []⟩
end Go.Proofs.YtjpobkmlcjbpiaaGreat

namespace Go.Proofs.YtjpobkmlcjbpiaaGreat
open Go.RowKit Go.Proofs

section
variable {w : World} {A : Option Addr} {n : Nat}
theorem Rd.atP {l : List Par} (h : Rd encP 4 w A n l) {i : Nat} (hi : i < n) :
    ∃ b o x, A = some ⟨b, o, none⟩ ∧ b < w.heap.size ∧ l[i]? = some x ∧ w.cell? ⟨b, o + i * 4, none⟩ = some (.int .i64 x.worth) ∧ w.cell? ⟨b, o + i * 4 + 1, none⟩ = some (.int .i64 x.price) ∧
      w.cell? ⟨b, o + i * 4 + 2, none⟩ = some (.int .i64 x.people) ∧ w.cell? ⟨b, o + i * 4 + 3, none⟩ = some (.bool x.ins) := by
  obtain ⟨b, o, x, e, hb, hx, hc⟩ := h.at_ hi
  exact ⟨b, o, x, e, hb, hx, hc 0 _ rfl, hc 1 _ rfl, hc 2 _ rfl, hc 3 _ rfl⟩
theorem Rd.atS {l : List Sli} (h : Rd encS 4 w A n l) {i : Nat} (hi : i < n) :
    ∃ b o x, A = some ⟨b, o, none⟩ ∧ b < w.heap.size ∧ l[i]? = some x ∧ w.cell? ⟨b, o + i * 4, none⟩ = some (.slice x.A x.n x.c) ∧ w.cell? ⟨b, o + i * 4 + 1, none⟩ = some (.int .i64 x.rate) ∧
      w.cell? ⟨b, o + i * 4 + 2, none⟩ = some (.int .i64 x.lo) ∧ w.cell? ⟨b, o + i * 4 + 3, none⟩ = some (.int .i64 x.hi) := by
  obtain ⟨b, o, x, e, hb, hx, hc⟩ := h.at_ hi
  exact ⟨b, o, x, e, hb, hx, hc 0 _ rfl, hc 1 _ rfl, hc 2 _ rfl, hc 3 _ rfl⟩
end
/-- A valley in memory: its slices of parcels and of slides, and the ways. -/
structure RdV (w : World) (PA : Option Addr) (pn : Nat) (SA : Option Addr) (sn : Nat) (v : Vly) : Prop where
  pars : Rd encP 4 w PA pn v.pars
  sls : Rd encS 4 w SA sn v.sls
  way : ∀ (i : Nat) (s : Sli), v.sls[i]? = some s → Rd enc1 1 w s.A s.n s.way ∧ s.n ≤ maxLen ∧ s.n ≤ s.c
theorem RdV.below {w w' : World} {PA SA : Option Addr} {pn sn : Nat} {v : Vly} (h : RdV w PA pn SA sn v) (hb : Below w.heap.size w w') : RdV w' PA pn SA sn v :=
  ⟨h.pars.mono hb, h.sls.mono hb, fun i s hs => ⟨(h.way i s hs).1.mono hb, (h.way i s hs).2⟩⟩
/-- the value of a valley -/
abbrev valV (PA : Option Addr) (pn pc : Nat) (SA : Option Addr) (sn sc : Nat) (v : Vly) : Value := .agg #[.slice PA pn pc, .slice SA sn sc, .int .i64 v.s0, .int .i64 v.s1, .int .i64 v.s2]

end Go.Proofs.YtjpobkmlcjbpiaaGreat

namespace Go.Proofs.YtjpobkmlcjbpiaaGreat
open Go.RowKit Go.Proofs

def sumL (l : List Int) : Int := l.sum
theorem sumL_succ {l : List Int} {k : Nat} {x : Int} (h : l[k]? = some x) : sumL (l.take (k + 1)) = sumL (l.take k) + x := by
  unfold sumL
  rw [List.take_add_one, h]
  simp
theorem sumL_bd {M : Int} {l : List Int} (hM : 0 ≤ M) (h : ∀ x ∈ l, 0 ≤ x ∧ x ≤ M) : 0 ≤ sumL l ∧ sumL l ≤ M * l.length := by
  unfold sumL
  induction l with
  | nil => simp
  | cons a l ih =>
    have h1 := ih (fun x hx => h x (by simp [hx]))
    have h2 := h a (by simp)
    simp only [List.sum_cons, List.length_cons]
    rw [show M * ((l.length + 1 : Nat) : Int) = M * l.length + M by push_cast; rw [Int.mul_add, Int.mul_one]]
    omega
/-- all that is summed up on the way is small -/
def SumOk (l : List Int) : Prop := ∀ k, -4000000000000000000 ≤ sumL (l.take k) ∧ sumL (l.take k) ≤ 4000000000000000000
theorem SumOk.of {M : Int} {l : List Int} (hM : 0 ≤ M) (h : ∀ x ∈ l, 0 ≤ x ∧ x ≤ M) (hl : M * l.length ≤ 4000000000000000000) : SumOk l := by
  intro k
  have h1 := sumL_bd hM (l := l.take k) (fun x hx => h x (List.mem_of_mem_take hx))
  have h2 : M * ((l.take k).length : Int) ≤ M * l.length := Int.mul_le_mul_of_nonneg_left (by rw [List.length_take]; omega) hM
  omega

theorem dropAll {l : List Int} {n : Nat} (h : l.length = n) : l.drop n = [] := List.drop_of_length_le (by rw [h]; exact Nat.le_refl _)
/-- the first one that is not 0 -/
def orL : List Int → Int
  | [] => 0
  | a :: l => if a = 0 then orL l else a
theorem orL_two (a b : Int) : orL [a, b] = if a = 0 then b else a := by
  simp only [orL]; split <;> simp_all
theorem drop_cons {α : Type} {l : List α} {k : Nat} {x : α} (h : l[k]? = some x) : l.drop k = x :: l.drop (k + 1) := by
  obtain ⟨hk, rfl⟩ := List.getElem?_eq_some_iff.1 h
  exact List.drop_eq_getElem_cons hk
set_option maxRecDepth 100000 in
set_option maxHeartbeats 400000 in
theorem Or_c {l : List Int} {A : Option Addr} {n c : Nat} {w : World} (h : Rd enc1 1 w A n l) (hn : n ≤ 1000000) :
    Calls Tryz.prog 102 #[.slice A n c] w fun e w' => e = .returned (.int .i64 (orL l)) ∧ w = w' := by
  have HL := Lib.hid h.len
  go_enter Tryz.func102, Tryz.ntmps102
  go_wp2_with fail
  go_loopw [8] (fun i wr => ∃ k : Nat, k ≤ n ∧ i = .int .i64 k ∧ orL l = orL (l.drop k) ∧ wr = w) (fun i _ => n - (intOf i).toNat)
  case atStart => exact ⟨0, Nat.zero_le _, rfl, rfl, rfl⟩
  case round =>
    obtain ⟨k, hk, rfl, hor, rfl⟩ := hrel
    have HO := Lib.hid hor; clear hor
    by_cases hlt : k < n
    · obtain ⟨b, o, x, hA, _, hx, h0⟩ := h.at1 hlt
      subst hA
      have HD := Lib.hid (drop_cons hx)
      clear hx
      by_cases hz : x = 0
      · subst hz
        go_wp2_with fail
        go_roundw
        case rel => exact ⟨k + 1, by omega, by go_num, by rw [HO.out, HD.out]; rfl, trivial⟩
        case measure => simp [intOf] <;> omega
      · have hz2 : (x == 0) = false := by simpa using hz
        go_wp2_with fail
        go_ret
        exact ⟨ret_int (by rw [HO.out, HD.out, orL, if_neg hz]), rfl⟩
    · obtain rfl : k = n := by omega
      go_wp2_with fail
      go_ret
      exact ⟨ret_int (by rw [HO.out, dropAll HL.out]; rfl), rfl⟩
/-- cmp.Compare of two ints -/
def cmpI (a b : Int) : Int := if a = b then 0 else if a < b then -1 else 1
theorem cmpL_cons (a : Int) (l : List Int) (b : Int) (m : List Int) : cmpL (a :: l) (b :: m) = if cmpI a b = 0 then cmpL l m else cmpI a b := by
  simp only [cmpL, cmpI]
  split
  · simp
  · split <;> simp
end Go.Proofs.YtjpobkmlcjbpiaaGreat

namespace Go.Proofs.YtjpobkmlcjbpiaaGreat
open Go.RowKit Go.Proofs

theorem rd_two (w : World) (a b : Int) {g : Nat} (hg : g = w.heap.size) : Rd enc1 1 (w.alloc (.cells #[.int .i64 a, .int .i64 b] 3)) (some ⟨g, 0, none⟩) 2 [a, b] := by
  subst hg
  refine ⟨rfl, fun _ => ⟨w.heap.size, 0, rfl, by simp, fun i x hx j u hu => ?_⟩⟩
  have hj : j = 0 := by
    have := (List.getElem?_eq_some_iff.1 hu).1
    simp [enc1] at this; exact this
  subst hj
  simp [enc1] at hu
  subst hu
  have hc := (Blk.new w 3 #[.int .i64 a, .int .i64 b]).cell i
  have hi : i = 0 ∨ i = 1 := by have := (List.getElem?_eq_some_iff.1 hx).1; simp at this; omega
  rcases hi with rfl | rfl
  · simp at hx; subst hx; simp
  · simp at hx; subst hx; simp
end Go.Proofs.YtjpobkmlcjbpiaaGreat
