/- CONTRACTS of 'all' over a slice of []gauge.Reading with the function gauge.check$1: written by mkall.py. -/
import Derived.Test.YtjpobkmlcjbpiaaGreatAllReading
set_option linter.unusedVariables false
set_option linter.unusedSimpArgs false
namespace Go.Proofs.YtjpobkmlcjbpiaaGreat.Ga
open Go.RowKit Go.Proofs

section
variable {p : Lst → Bool}
theorem allLists1_1 (x : Lst) (B : Nat) (w : World) (_hBl : B < w.heap.size) (hB : w.cell? ⟨B, 0, none⟩ = some (.func (.func 61) #[] #[]))
    (hp : ∀ W : World, Below w.heap.size w W → Calls Tryz.prog 61 #[.slice x.A x.n x.c] W fun e w' => e = .returned (.bool (p x)) ∧ Below W.heap.size W w') :
    Calls Tryz.prog 84 #[.slice x.A x.n x.c, .pointer (some ⟨B, 0, none⟩)] w fun e w' => e = .returned (.bool (!p x)) ∧ Below w.heap.size w w' := by
  have hp' := hp w (Below.refl _ _)
  have HP := Lib.hid hp'; clear hp hp'
  go_enter Tryz.func84, Tryz.ntmps84
  go_wp2_with (go_at_call 61; refine (HP.out).mono ?_; rintro e w' ⟨rfl, hb⟩)
  go_ret
  exact ⟨rfl, hb⟩

theorem idxLists1_c {l : List (Lst)} {A : Option Addr} {n c : Nat} {B : Nat} (w : World) (h : Rd encL 1 w A n l) (hn : n ≤ maxLen) (hBl : B < w.heap.size)
    (hB : w.cell? ⟨B, 0, none⟩ = some (.func (.func 61) #[] #[]))
    (hp : ∀ (i : Nat) (x : Lst) (W : World), l[i]? = some x → Below w.heap.size w W → Calls Tryz.prog 61 #[.slice x.A x.n x.c] W fun e w' => e = .returned (.bool (p x)) ∧ Below W.heap.size W w') :
    Calls Tryz.prog 107 #[.slice A n c, .func (.func 84) #[] #[.pointer (some ⟨B, 0, none⟩)]] w
      fun e w' => (∃ r : Int, e = .returned (.int .i64 r) ∧ (!decide (r ≥ 0)) = allB p l) ∧ Below w.heap.size w w' := by
  unfold maxLen at hn
  have HP := Lib.hid hp; clear hp
  go_enter Tryz.func107, Tryz.ntmps107
  go_wp2_with fail
  go_loopw [5, 8] (fun _ i wr => ∃ k : Nat, k ≤ n ∧ i = .int .i64 k ∧ Below w.heap.size w wr ∧ ∀ (j : Nat) (x : Lst), j < k → l[j]? = some x → p x = true) (fun _ i _ => n - (intOf i).toNat)
  case atStart => exact ⟨0, Nat.zero_le _, rfl, Below.refl _ _, fun j x hj => absurd hj (by omega)⟩
  case round =>
    obtain ⟨k, hk, rfl, hb, hall⟩ := hrel
    have HA := Lib.hid hall; clear hall
    by_cases hlt : k < n
    · obtain ⟨b, o, x, rfl, hbl, hx, h0⟩ := (h.below hb).atL hlt
      have hx1 := fun W (hW : Below wr.heap.size wr W) => HP.out k x W hx (hb.trans (hW.mono hb.size))
      have HX1 := Lib.hid hx1; clear hx1
      have HX := Lib.hid hx; clear hx
      have hB' := (hb.cell (p := ⟨B, 0, none⟩) hBl).trans hB
      have hBl' : B < wr.heap.size := Nat.lt_of_lt_of_le hBl hb.size
      cases hm : p x
      all_goals
        have HM := Lib.hid hm; clear hm
        go_wp2_with (go_at_call 84; refine (allLists1_1 _ _ _ hBl' hB' HX1.out).mono ?_; rintro e w' ⟨rfl, hb'⟩; simp only [HM.out])
      · go_ret
        exact ⟨⟨k, rfl, by rw [(allB_not (p := p) (l := l)).2 ⟨k, x, HX.out, HM.out⟩]; simp⟩, hb.trans (hb'.mono hb.size)⟩
      · go_roundw
        case rel => exact ⟨k + 1, by omega, by go_num, hb.trans (hb'.mono hb.size), fun j y hj hy => by
          rcases Nat.lt_or_ge j k with hjk | hjk
          · exact HA.out j y hjk hy
          · obtain rfl : j = k := by omega
            rw [HX.out] at hy; cases hy; exact HM.out⟩
        case measure => simp [intOf]; omega
    · go_wp2
      go_ret
      refine ⟨⟨-1, rfl, ?_⟩, hb⟩
      rw [(allB_iff (p := p) (l := l)).2 fun i x hx => HA.out i x (by have := (List.getElem?_eq_some_iff.1 hx).1; have := h.len; omega) hx]
      simp

theorem containsLists1_c {l : List (Lst)} {A : Option Addr} {n c : Nat} {B : Nat} (w : World) (h : Rd encL 1 w A n l) (hn : n ≤ maxLen) (hBl : B < w.heap.size)
    (hB : w.cell? ⟨B, 0, none⟩ = some (.func (.func 61) #[] #[]))
    (hp : ∀ (i : Nat) (x : Lst) (W : World), l[i]? = some x → Below w.heap.size w W → Calls Tryz.prog 61 #[.slice x.A x.n x.c] W fun e w' => e = .returned (.bool (p x)) ∧ Below W.heap.size W w') :
    Calls Tryz.prog 83 #[.slice A n c, .func (.func 84) #[] #[.pointer (some ⟨B, 0, none⟩)]] w
      fun e w' => e = .returned (.bool (!allB p l)) ∧ Below w.heap.size w w' := by
  have hc := idxLists1_c (c := c) w h hn hBl hB hp
  have HC := Lib.hid hc; clear hc hp
  go_enter Tryz.func83, Tryz.ntmps83
  go_wp2_with (go_at_call 107; refine (HC.out).mono ?_; rintro e w' ⟨⟨r, rfl, hr⟩, hb⟩; have HR := Lib.hid hr; clear hr)
  go_ret
  exact ⟨ret_bool (by rw [← HR.out]; simp), hb⟩

theorem allLists1_c {l : List (Lst)} {A : Option Addr} {n c : Nat} (w : World) (h : Rd encL 1 w A n l) (hn : n ≤ maxLen)
    (hp : ∀ (i : Nat) (x : Lst) (W : World), l[i]? = some x → Below w.heap.size w W → Calls Tryz.prog 61 #[.slice x.A x.n x.c] W fun e w' => e = .returned (.bool (p x)) ∧ Below W.heap.size W w') :
    Calls Tryz.prog 60 #[.slice A n c, .func (.func 61) #[] #[]] w
      fun e w' => e = .returned (.bool (allB p l)) ∧ Below w.heap.size w w' := by
  have hbx := (Below.refl w.heap.size w).alloc (Nat.le_refl _) (.cells #[.func (.func 61) #[] #[]] 135)
  have hc := containsLists1_c (c := c) (B := w.heap.size) (w.alloc (.cells #[.func (.func 61) #[] #[]] 135)) (h.mono hbx) hn (by simp) (by simp) (fun i x W hx hW => hp i x W hx (hbx.trans (hW.mono (by simp))))
  have HC := Lib.hid hc; clear hc hp
  go_enter Tryz.func60, Tryz.ntmps60
  go_wp2_with (go_at_call 83; refine (HC.out).mono ?_; rintro e w' ⟨rfl, hb⟩)
  go_ret
  exact ⟨ret_bool (by simp), ((Below.refl _ _).alloc (Nat.le_refl _) _).trans (hb.mono (by simp))⟩
end
end Go.Proofs.YtjpobkmlcjbpiaaGreat.Ga

namespace Go.Proofs.YtjpobkmlcjbpiaaGreat.Ga
open Go.RowKit Go.Proofs

section
variable {p : Lst → Bool}
theorem allLists2_1 (x : Lst) (B : Nat) (w : World) (_hBl : B < w.heap.size) (hB : w.cell? ⟨B, 0, none⟩ = some (.func (.func 62) #[] #[]))
    (hp : ∀ W : World, Below w.heap.size w W → Calls Tryz.prog 62 #[.slice x.A x.n x.c] W fun e w' => e = .returned (.bool (p x)) ∧ Below W.heap.size W w') :
    Calls Tryz.prog 84 #[.slice x.A x.n x.c, .pointer (some ⟨B, 0, none⟩)] w fun e w' => e = .returned (.bool (!p x)) ∧ Below w.heap.size w w' := by
  have hp' := hp w (Below.refl _ _)
  have HP := Lib.hid hp'; clear hp hp'
  go_enter Tryz.func84, Tryz.ntmps84
  go_wp2_with (go_at_call 62; refine (HP.out).mono ?_; rintro e w' ⟨rfl, hb⟩)
  go_ret
  exact ⟨rfl, hb⟩

theorem idxLists2_c {l : List (Lst)} {A : Option Addr} {n c : Nat} {B : Nat} (w : World) (h : Rd encL 1 w A n l) (hn : n ≤ maxLen) (hBl : B < w.heap.size)
    (hB : w.cell? ⟨B, 0, none⟩ = some (.func (.func 62) #[] #[]))
    (hp : ∀ (i : Nat) (x : Lst) (W : World), l[i]? = some x → Below w.heap.size w W → Calls Tryz.prog 62 #[.slice x.A x.n x.c] W fun e w' => e = .returned (.bool (p x)) ∧ Below W.heap.size W w') :
    Calls Tryz.prog 107 #[.slice A n c, .func (.func 84) #[] #[.pointer (some ⟨B, 0, none⟩)]] w
      fun e w' => (∃ r : Int, e = .returned (.int .i64 r) ∧ (!decide (r ≥ 0)) = allB p l) ∧ Below w.heap.size w w' := by
  unfold maxLen at hn
  have HP := Lib.hid hp; clear hp
  go_enter Tryz.func107, Tryz.ntmps107
  go_wp2_with fail
  go_loopw [5, 8] (fun _ i wr => ∃ k : Nat, k ≤ n ∧ i = .int .i64 k ∧ Below w.heap.size w wr ∧ ∀ (j : Nat) (x : Lst), j < k → l[j]? = some x → p x = true) (fun _ i _ => n - (intOf i).toNat)
  case atStart => exact ⟨0, Nat.zero_le _, rfl, Below.refl _ _, fun j x hj => absurd hj (by omega)⟩
  case round =>
    obtain ⟨k, hk, rfl, hb, hall⟩ := hrel
    have HA := Lib.hid hall; clear hall
    by_cases hlt : k < n
    · obtain ⟨b, o, x, rfl, hbl, hx, h0⟩ := (h.below hb).atL hlt
      have hx1 := fun W (hW : Below wr.heap.size wr W) => HP.out k x W hx (hb.trans (hW.mono hb.size))
      have HX1 := Lib.hid hx1; clear hx1
      have HX := Lib.hid hx; clear hx
      have hB' := (hb.cell (p := ⟨B, 0, none⟩) hBl).trans hB
      have hBl' : B < wr.heap.size := Nat.lt_of_lt_of_le hBl hb.size
      cases hm : p x
      all_goals
        have HM := Lib.hid hm; clear hm
        go_wp2_with (go_at_call 84; refine (allLists2_1 _ _ _ hBl' hB' HX1.out).mono ?_; rintro e w' ⟨rfl, hb'⟩; simp only [HM.out])
      · go_ret
        exact ⟨⟨k, rfl, by rw [(allB_not (p := p) (l := l)).2 ⟨k, x, HX.out, HM.out⟩]; simp⟩, hb.trans (hb'.mono hb.size)⟩
      · go_roundw
        case rel => exact ⟨k + 1, by omega, by go_num, hb.trans (hb'.mono hb.size), fun j y hj hy => by
          rcases Nat.lt_or_ge j k with hjk | hjk
          · exact HA.out j y hjk hy
          · obtain rfl : j = k := by omega
            rw [HX.out] at hy; cases hy; exact HM.out⟩
        case measure => simp [intOf]; omega
    · go_wp2
      go_ret
      refine ⟨⟨-1, rfl, ?_⟩, hb⟩
      rw [(allB_iff (p := p) (l := l)).2 fun i x hx => HA.out i x (by have := (List.getElem?_eq_some_iff.1 hx).1; have := h.len; omega) hx]
      simp

theorem containsLists2_c {l : List (Lst)} {A : Option Addr} {n c : Nat} {B : Nat} (w : World) (h : Rd encL 1 w A n l) (hn : n ≤ maxLen) (hBl : B < w.heap.size)
    (hB : w.cell? ⟨B, 0, none⟩ = some (.func (.func 62) #[] #[]))
    (hp : ∀ (i : Nat) (x : Lst) (W : World), l[i]? = some x → Below w.heap.size w W → Calls Tryz.prog 62 #[.slice x.A x.n x.c] W fun e w' => e = .returned (.bool (p x)) ∧ Below W.heap.size W w') :
    Calls Tryz.prog 83 #[.slice A n c, .func (.func 84) #[] #[.pointer (some ⟨B, 0, none⟩)]] w
      fun e w' => e = .returned (.bool (!allB p l)) ∧ Below w.heap.size w w' := by
  have hc := idxLists2_c (c := c) w h hn hBl hB hp
  have HC := Lib.hid hc; clear hc hp
  go_enter Tryz.func83, Tryz.ntmps83
  go_wp2_with (go_at_call 107; refine (HC.out).mono ?_; rintro e w' ⟨⟨r, rfl, hr⟩, hb⟩; have HR := Lib.hid hr; clear hr)
  go_ret
  exact ⟨ret_bool (by rw [← HR.out]; simp), hb⟩

theorem allLists2_c {l : List (Lst)} {A : Option Addr} {n c : Nat} (w : World) (h : Rd encL 1 w A n l) (hn : n ≤ maxLen)
    (hp : ∀ (i : Nat) (x : Lst) (W : World), l[i]? = some x → Below w.heap.size w W → Calls Tryz.prog 62 #[.slice x.A x.n x.c] W fun e w' => e = .returned (.bool (p x)) ∧ Below W.heap.size W w') :
    Calls Tryz.prog 60 #[.slice A n c, .func (.func 62) #[] #[]] w
      fun e w' => e = .returned (.bool (allB p l)) ∧ Below w.heap.size w w' := by
  have hbx := (Below.refl w.heap.size w).alloc (Nat.le_refl _) (.cells #[.func (.func 62) #[] #[]] 135)
  have hc := containsLists2_c (c := c) (B := w.heap.size) (w.alloc (.cells #[.func (.func 62) #[] #[]] 135)) (h.mono hbx) hn (by simp) (by simp) (fun i x W hx hW => hp i x W hx (hbx.trans (hW.mono (by simp))))
  have HC := Lib.hid hc; clear hc hp
  go_enter Tryz.func60, Tryz.ntmps60
  go_wp2_with (go_at_call 83; refine (HC.out).mono ?_; rintro e w' ⟨rfl, hb⟩)
  go_ret
  exact ⟨ret_bool (by simp), ((Below.refl _ _).alloc (Nat.le_refl _) _).trans (hb.mono (by simp))⟩
end
end Go.Proofs.YtjpobkmlcjbpiaaGreat.Ga
