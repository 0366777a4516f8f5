/- CONTRACTS of water.lowest at the closures of Learn (written by wip/mkylow.py): what is found lies on the right side of a number. -/
import Derived.Test.YtjpobkmlcjbpiaaGreatYEach
import Derived.Test.YtjpobkmlcjbpiaaGreatYAllCel
import Derived.Test.YtjpobkmlcjbpiaaGreatYGround
set_option linter.unusedVariables false
set_option linter.unusedSimpArgs false
namespace Go.Proofs.YtjpobkmlcjbpiaaGreat
open Go.RowKit Go.Proofs
attribute [local go_sem ↓] Go.wp_at_zero Go.wp_at_succ

set_option maxRecDepth 100000 in
set_option maxHeartbeats 1000000 in
theorem low3_c {lo hi t : Int} {Be : Nat} {w : World} (hb : 0 ≤ lo ∧ lo ≤ t ∧ t ≤ hi ∧ hi ≤ 1000)
    (hc : ∀ (n : Int) (W : World), lo ≤ n → n ≤ hi → Below w.heap.size w W → Calls Tryz.prog 48 #[.int .i64 n, .pointer (some ⟨Be, 0, none⟩)] W fun e w' => ∃ b, e = .returned (.bool b) ∧ (t ≤ n → b = true) ∧ Below W.heap.size W w') :
    Calls Tryz.prog 47 #[.int .i64 lo, .int .i64 hi, .func (.func 48) #[] #[.pointer (some ⟨Be, 0, none⟩)]] w fun e w' => ∃ z, e = .returned (.int .i64 z) ∧ (z ≤ t) ∧ 0 ≤ z ∧ z ≤ 1001 ∧ Below w.heap.size w w' := by
  have HC := Lib.hid hc
  clear hc
  go_enter Tryz.func47, Tryz.ntmps47
  go_wp2_with fail
  go_loopw [0, 1, 7] (fun a b _ wr => ∃ x y : Int, a = .int .i64 x ∧ b = .int .i64 y ∧ (lo ≤ x ∧ x ≤ hi + 1 ∧ lo - 1 ≤ y ∧ y ≤ hi ∧ x ≤ y + 1) ∧ (x ≤ t) ∧ Below w.heap.size w wr) (fun a b _ _ => (intOf b - intOf a + 1).toNat)
  case atStart => exact ⟨lo, hi, rfl, rfl, by omega, by omega, Below.refl _ _⟩
  case round =>
    obtain ⟨x, y, rfl, rfl, hxy, hinv, hbw⟩ := hrel
    by_cases hle : x ≤ y
    · have hs : 0 ≤ x + y ∧ x + y ≤ 4000 := by omega
      have hdv : (x + y).tdiv 2 = (x + y) / 2 := Int.tdiv_eq_ediv_of_nonneg hs.1
      have hq := HC.out ((x + y) / 2) wr (by omega) (by omega) hbw
      have HQ := Lib.hid hq; have HBW := Lib.hid hbw
      clear hq hbw
      obtain ⟨m, hm⟩ : ∃ m, m = (x + y) / 2 := ⟨_, rfl⟩
      rw [← hm] at HQ hdv
      have hmb : x ≤ m ∧ m ≤ y := by omega
      have HM := Lib.hid hm
      clear hm
      go_wp2_with fail
      go_at_call 48
      refine (HQ.out).mono ?_
      rintro e w1 ⟨b, rfl, hb1, hb2⟩
      have HB1 := Lib.hid (below_tr HBW.out hb2)
      clear hb2 HBW HQ
      cases b
      · go_wp2_with fail
        go_roundw
        case rel => exact ⟨m + 1, y, rfl, rfl, by omega, by (rcases Int.lt_or_le m t with h | h <;> first | omega | exact absurd (hb1 h) (by decide)), HB1.out⟩
        case measure => simp [intOf]; omega
      · go_wp2_with fail
        go_roundw
        case rel => exact ⟨x, m - 1, rfl, rfl, by omega, by omega, HB1.out⟩
        case measure => simp [intOf]; omega
    · have HBW := Lib.hid hbw
      clear hbw
      go_wp2_with fail
      go_ret
      exact ⟨x, rfl, by omega, by omega, by omega, HBW.out⟩

set_option maxRecDepth 100000 in
set_option maxHeartbeats 1000000 in
theorem low4_c {lo hi t : Int} {Be : Nat} {w : World} (hb : 0 ≤ lo ∧ lo ≤ t ∧ t ≤ hi ∧ hi ≤ 1000)
    (hc : ∀ (n : Int) (W : World), lo ≤ n → n ≤ hi → Below w.heap.size w W → Calls Tryz.prog 50 #[.int .i64 n, .pointer (some ⟨Be, 0, none⟩)] W fun e w' => ∃ b, e = .returned (.bool b) ∧ (n ≤ t → b = false) ∧ Below W.heap.size W w') :
    Calls Tryz.prog 47 #[.int .i64 lo, .int .i64 hi, .func (.func 50) #[] #[.pointer (some ⟨Be, 0, none⟩)]] w fun e w' => ∃ z, e = .returned (.int .i64 z) ∧ (t < z) ∧ 0 ≤ z ∧ z ≤ 1001 ∧ Below w.heap.size w w' := by
  have HC := Lib.hid hc
  clear hc
  go_enter Tryz.func47, Tryz.ntmps47
  go_wp2_with fail
  go_loopw [0, 1, 7] (fun a b _ wr => ∃ x y : Int, a = .int .i64 x ∧ b = .int .i64 y ∧ (lo ≤ x ∧ x ≤ hi + 1 ∧ lo - 1 ≤ y ∧ y ≤ hi ∧ x ≤ y + 1) ∧ (t ≤ y ∨ t < x) ∧ Below w.heap.size w wr) (fun a b _ _ => (intOf b - intOf a + 1).toNat)
  case atStart => exact ⟨lo, hi, rfl, rfl, by omega, by omega, Below.refl _ _⟩
  case round =>
    obtain ⟨x, y, rfl, rfl, hxy, hinv, hbw⟩ := hrel
    by_cases hle : x ≤ y
    · have hs : 0 ≤ x + y ∧ x + y ≤ 4000 := by omega
      have hdv : (x + y).tdiv 2 = (x + y) / 2 := Int.tdiv_eq_ediv_of_nonneg hs.1
      have hq := HC.out ((x + y) / 2) wr (by omega) (by omega) hbw
      have HQ := Lib.hid hq; have HBW := Lib.hid hbw
      clear hq hbw
      obtain ⟨m, hm⟩ : ∃ m, m = (x + y) / 2 := ⟨_, rfl⟩
      rw [← hm] at HQ hdv
      have hmb : x ≤ m ∧ m ≤ y := by omega
      have HM := Lib.hid hm
      clear hm
      go_wp2_with fail
      go_at_call 50
      refine (HQ.out).mono ?_
      rintro e w1 ⟨b, rfl, hb1, hb2⟩
      have HB1 := Lib.hid (below_tr HBW.out hb2)
      clear hb2 HBW HQ
      cases b
      · go_wp2_with fail
        go_roundw
        case rel => exact ⟨m + 1, y, rfl, rfl, by omega, by omega, HB1.out⟩
        case measure => simp [intOf]; omega
      · go_wp2_with fail
        go_roundw
        case rel => exact ⟨x, m - 1, rfl, rfl, by omega, by (rcases Int.lt_or_le t m with h | h <;> first | omega | exact absurd (hb1 h) (by decide)), HB1.out⟩
        case measure => simp [intOf]; omega
    · have HBW := Lib.hid hbw
      clear hbw
      go_wp2_with fail
      go_ret
      exact ⟨x, rfl, by omega, by omega, by omega, HBW.out⟩
end Go.Proofs.YtjpobkmlcjbpiaaGreat

namespace Go.Proofs.YtjpobkmlcjbpiaaGreat
open Go.RowKit Go.Proofs

section
variable {p : Cel → Bool}
theorem allCelK_1 (x : Cel) (B : Nat) (V : Nat) (w : World) (_hBl : B < w.heap.size) (hB : w.cell? ⟨B, 0, none⟩ = some (.func (.func 76) #[] #[.pointer (some ⟨V, 0, none⟩)]))
    (hp : ∀ W : World, Below w.heap.size w W → Calls Tryz.prog 76 #[.agg #[.int .i64 x.lo, .int .i64 x.hi, .int .i64 x.cap, .int .i64 x.keep, .int .i64 x.pass, .int .i64 x.to, .int .i64 x.pump], .pointer (some ⟨V, 0, none⟩)] W fun e w' => e = .returned (.bool (p x)) ∧ Below W.heap.size W w') :
    Calls Tryz.prog 105 #[.agg #[.int .i64 x.lo, .int .i64 x.hi, .int .i64 x.cap, .int .i64 x.keep, .int .i64 x.pass, .int .i64 x.to, .int .i64 x.pump], .pointer (some ⟨B, 0, none⟩)] w fun e w' => e = .returned (.bool (!p x)) ∧ Below w.heap.size w w' := by
  have hp' := hp (w.alloc (.cells #[.int .i64 x.lo, .int .i64 x.hi, .int .i64 x.cap, .int .i64 x.keep, .int .i64 x.pass, .int .i64 x.to, .int .i64 x.pump] 90)) ((Below.refl w.heap.size w).alloc (Nat.le_refl _) (.cells #[.int .i64 x.lo, .int .i64 x.hi, .int .i64 x.cap, .int .i64 x.keep, .int .i64 x.pass, .int .i64 x.to, .int .i64 x.pump] 90))
  have HP := Lib.hid hp'; clear hp hp'
  go_enter Tryz.func105, Tryz.ntmps105
  go_wp2_with (go_at_call 76; refine (HP.out).mono ?_; rintro e w' ⟨rfl, hb⟩)
  go_ret
  exact ⟨rfl, ((Below.refl _ _).alloc (Nat.le_refl _) _).trans (hb.mono (by simp))⟩

theorem idxCelK_c {l : List (Cel)} {A : Option Addr} {n c : Nat} {B : Nat} (V : Nat) (w : World) (h : Rd encCel 7 w A n l) (hn : n ≤ maxLen) (hBl : B < w.heap.size)
    (hB : w.cell? ⟨B, 0, none⟩ = some (.func (.func 76) #[] #[.pointer (some ⟨V, 0, none⟩)]))
    (hp : ∀ (i : Nat) (x : Cel) (W : World), l[i]? = some x → Below w.heap.size w W → Calls Tryz.prog 76 #[.agg #[.int .i64 x.lo, .int .i64 x.hi, .int .i64 x.cap, .int .i64 x.keep, .int .i64 x.pass, .int .i64 x.to, .int .i64 x.pump], .pointer (some ⟨V, 0, none⟩)] W fun e w' => e = .returned (.bool (p x)) ∧ Below W.heap.size W w') :
    Calls Tryz.prog 114 #[.slice A n c, .func (.func 105) #[] #[.pointer (some ⟨B, 0, none⟩)]] w
      fun e w' => (∃ r : Int, e = .returned (.int .i64 r) ∧ (!decide (r ≥ 0)) = allB p l) ∧ Below w.heap.size w w' := by
  unfold maxLen at hn
  have HP := Lib.hid hp; clear hp
  go_enter Tryz.func114, Tryz.ntmps114
  go_wp2_with fail
  go_loopw [5, 8] (fun _ i wr => ∃ k : Nat, k ≤ n ∧ i = .int .i64 k ∧ Below w.heap.size w wr ∧ ∀ (j : Nat) (x : Cel), j < k → l[j]? = some x → p x = true) (fun _ i _ => n - (intOf i).toNat)
  case atStart => exact ⟨0, Nat.zero_le _, rfl, Below.refl _ _, fun j x hj => absurd hj (by omega)⟩
  case round =>
    obtain ⟨k, hk, rfl, hb, hall⟩ := hrel
    have HA := Lib.hid hall; clear hall
    by_cases hlt : k < n
    · obtain ⟨b, o, x, rfl, hbl, hx, h0, h1, h2, h3, h4, h5, h6⟩ := (h.below hb).atCel hlt
      have hx1 := fun W (hW : Below wr.heap.size wr W) => HP.out k x W hx (hb.trans (hW.mono hb.size))
      have HX1 := Lib.hid hx1; clear hx1
      have HX := Lib.hid hx; clear hx
      have hB' := (hb.cell (p := ⟨B, 0, none⟩) hBl).trans hB
      have hBl' : B < wr.heap.size := Nat.lt_of_lt_of_le hBl hb.size
      cases hm : p x
      all_goals
        have HM := Lib.hid hm; clear hm
        go_wp2_with (go_at_call 105; refine (allCelK_1 _ _ V _ hBl' hB' HX1.out).mono ?_; rintro e w' ⟨rfl, hb'⟩; simp only [HM.out])
      · go_ret
        exact ⟨⟨k, rfl, by rw [(allB_not (p := p) (l := l)).2 ⟨k, x, HX.out, HM.out⟩]; simp⟩, hb.trans (hb'.mono hb.size)⟩
      · go_roundw
        case rel => exact ⟨k + 1, by omega, by go_num, hb.trans (hb'.mono hb.size), fun j y hj hy => by
          rcases Nat.lt_or_ge j k with hjk | hjk
          · exact HA.out j y hjk hy
          · obtain rfl : j = k := by omega
            rw [HX.out] at hy; cases hy; exact HM.out⟩
        case measure => simp [intOf]; omega
    · go_wp2
      go_ret
      refine ⟨⟨-1, rfl, ?_⟩, hb⟩
      rw [(allB_iff (p := p) (l := l)).2 fun i x hx => HA.out i x (by have := (List.getElem?_eq_some_iff.1 hx).1; have := h.len; omega) hx]
      simp

theorem containsCelK_c {l : List (Cel)} {A : Option Addr} {n c : Nat} {B : Nat} (V : Nat) (w : World) (h : Rd encCel 7 w A n l) (hn : n ≤ maxLen) (hBl : B < w.heap.size)
    (hB : w.cell? ⟨B, 0, none⟩ = some (.func (.func 76) #[] #[.pointer (some ⟨V, 0, none⟩)]))
    (hp : ∀ (i : Nat) (x : Cel) (W : World), l[i]? = some x → Below w.heap.size w W → Calls Tryz.prog 76 #[.agg #[.int .i64 x.lo, .int .i64 x.hi, .int .i64 x.cap, .int .i64 x.keep, .int .i64 x.pass, .int .i64 x.to, .int .i64 x.pump], .pointer (some ⟨V, 0, none⟩)] W fun e w' => e = .returned (.bool (p x)) ∧ Below W.heap.size W w') :
    Calls Tryz.prog 104 #[.slice A n c, .func (.func 105) #[] #[.pointer (some ⟨B, 0, none⟩)]] w
      fun e w' => e = .returned (.bool (!allB p l)) ∧ Below w.heap.size w w' := by
  have hc := idxCelK_c (c := c) V w h hn hBl hB hp
  have HC := Lib.hid hc; clear hc hp
  go_enter Tryz.func104, Tryz.ntmps104
  go_wp2_with (go_at_call 114; refine (HC.out).mono ?_; rintro e w' ⟨⟨r, rfl, hr⟩, hb⟩; have HR := Lib.hid hr; clear hr)
  go_ret
  exact ⟨ret_bool (by rw [← HR.out]; simp), hb⟩

theorem allCelK_c {l : List (Cel)} {A : Option Addr} {n c : Nat} (V : Nat) (w : World) (h : Rd encCel 7 w A n l) (hn : n ≤ maxLen)
    (hp : ∀ (i : Nat) (x : Cel) (W : World), l[i]? = some x → Below w.heap.size w W → Calls Tryz.prog 76 #[.agg #[.int .i64 x.lo, .int .i64 x.hi, .int .i64 x.cap, .int .i64 x.keep, .int .i64 x.pass, .int .i64 x.to, .int .i64 x.pump], .pointer (some ⟨V, 0, none⟩)] W fun e w' => e = .returned (.bool (p x)) ∧ Below W.heap.size W w') :
    Calls Tryz.prog 75 #[.slice A n c, .func (.func 76) #[] #[.pointer (some ⟨V, 0, none⟩)]] w
      fun e w' => e = .returned (.bool (allB p l)) ∧ Below w.heap.size w w' := by
  have hbx := (Below.refl w.heap.size w).alloc (Nat.le_refl _) (.cells #[.func (.func 76) #[] #[.pointer (some ⟨V, 0, none⟩)]] 152)
  have hc := containsCelK_c (c := c) (B := w.heap.size) V (w.alloc (.cells #[.func (.func 76) #[] #[.pointer (some ⟨V, 0, none⟩)]] 152)) (h.mono hbx) hn (by simp) (by simp) (fun i x W hx hW => hp i x W hx (hbx.trans (hW.mono (by simp))))
  have HC := Lib.hid hc; clear hc hp
  go_enter Tryz.func75, Tryz.ntmps75
  go_wp2_with (go_at_call 104; refine (HC.out).mono ?_; rintro e w' ⟨rfl, hb⟩)
  go_ret
  exact ⟨ret_bool (by simp), ((Below.refl _ _).alloc (Nat.le_refl _) _).trans (hb.mono (by simp))⟩
end
end Go.Proofs.YtjpobkmlcjbpiaaGreat

namespace Go.Proofs.YtjpobkmlcjbpiaaGreat
open Go.RowKit Go.Proofs

section
variable {p : Dy → Bool}
theorem allDayK_1 (x : Dy) (B : Nat) (V : Nat) (w : World) (_hBl : B < w.heap.size) (hB : w.cell? ⟨B, 0, none⟩ = some (.func (.func 77) #[] #[.pointer (some ⟨V, 0, none⟩)]))
    (hp : ∀ W : World, Below w.heap.size w W → Calls Tryz.prog 77 #[.agg #[.int .i64 x.lo, .int .i64 x.hi, .int .i64 x.warm], .pointer (some ⟨V, 0, none⟩)] W fun e w' => e = .returned (.bool (p x)) ∧ Below W.heap.size W w') :
    Calls Tryz.prog 81 #[.agg #[.int .i64 x.lo, .int .i64 x.hi, .int .i64 x.warm], .pointer (some ⟨B, 0, none⟩)] w fun e w' => e = .returned (.bool (!p x)) ∧ Below w.heap.size w w' := by
  have hp' := hp (w.alloc (.cells #[.int .i64 x.lo, .int .i64 x.hi, .int .i64 x.warm] 92)) ((Below.refl w.heap.size w).alloc (Nat.le_refl _) (.cells #[.int .i64 x.lo, .int .i64 x.hi, .int .i64 x.warm] 92))
  have HP := Lib.hid hp'; clear hp hp'
  go_enter Tryz.func81, Tryz.ntmps81
  go_wp2_with (go_at_call 77; refine (HP.out).mono ?_; rintro e w' ⟨rfl, hb⟩)
  go_ret
  exact ⟨rfl, ((Below.refl _ _).alloc (Nat.le_refl _) _).trans (hb.mono (by simp))⟩

theorem idxDayK_c {l : List (Dy)} {A : Option Addr} {n c : Nat} {B : Nat} (V : Nat) (w : World) (h : Rd encDy 3 w A n l) (hn : n ≤ maxLen) (hBl : B < w.heap.size)
    (hB : w.cell? ⟨B, 0, none⟩ = some (.func (.func 77) #[] #[.pointer (some ⟨V, 0, none⟩)]))
    (hp : ∀ (i : Nat) (x : Dy) (W : World), l[i]? = some x → Below w.heap.size w W → Calls Tryz.prog 77 #[.agg #[.int .i64 x.lo, .int .i64 x.hi, .int .i64 x.warm], .pointer (some ⟨V, 0, none⟩)] W fun e w' => e = .returned (.bool (p x)) ∧ Below W.heap.size W w') :
    Calls Tryz.prog 106 #[.slice A n c, .func (.func 81) #[] #[.pointer (some ⟨B, 0, none⟩)]] w
      fun e w' => (∃ r : Int, e = .returned (.int .i64 r) ∧ (!decide (r ≥ 0)) = allB p l) ∧ Below w.heap.size w w' := by
  unfold maxLen at hn
  have HP := Lib.hid hp; clear hp
  go_enter Tryz.func106, Tryz.ntmps106
  go_wp2_with fail
  go_loopw [5, 8] (fun _ i wr => ∃ k : Nat, k ≤ n ∧ i = .int .i64 k ∧ Below w.heap.size w wr ∧ ∀ (j : Nat) (x : Dy), j < k → l[j]? = some x → p x = true) (fun _ i _ => n - (intOf i).toNat)
  case atStart => exact ⟨0, Nat.zero_le _, rfl, Below.refl _ _, fun j x hj => absurd hj (by omega)⟩
  case round =>
    obtain ⟨k, hk, rfl, hb, hall⟩ := hrel
    have HA := Lib.hid hall; clear hall
    by_cases hlt : k < n
    · obtain ⟨b, o, x, rfl, hbl, hx, h0, h1, h2⟩ := (h.below hb).atDy hlt
      have hx1 := fun W (hW : Below wr.heap.size wr W) => HP.out k x W hx (hb.trans (hW.mono hb.size))
      have HX1 := Lib.hid hx1; clear hx1
      have HX := Lib.hid hx; clear hx
      have hB' := (hb.cell (p := ⟨B, 0, none⟩) hBl).trans hB
      have hBl' : B < wr.heap.size := Nat.lt_of_lt_of_le hBl hb.size
      cases hm : p x
      all_goals
        have HM := Lib.hid hm; clear hm
        go_wp2_with (go_at_call 81; refine (allDayK_1 _ _ V _ hBl' hB' HX1.out).mono ?_; rintro e w' ⟨rfl, hb'⟩; simp only [HM.out])
      · go_ret
        exact ⟨⟨k, rfl, by rw [(allB_not (p := p) (l := l)).2 ⟨k, x, HX.out, HM.out⟩]; simp⟩, hb.trans (hb'.mono hb.size)⟩
      · go_roundw
        case rel => exact ⟨k + 1, by omega, by go_num, hb.trans (hb'.mono hb.size), fun j y hj hy => by
          rcases Nat.lt_or_ge j k with hjk | hjk
          · exact HA.out j y hjk hy
          · obtain rfl : j = k := by omega
            rw [HX.out] at hy; cases hy; exact HM.out⟩
        case measure => simp [intOf]; omega
    · go_wp2
      go_ret
      refine ⟨⟨-1, rfl, ?_⟩, hb⟩
      rw [(allB_iff (p := p) (l := l)).2 fun i x hx => HA.out i x (by have := (List.getElem?_eq_some_iff.1 hx).1; have := h.len; omega) hx]
      simp

theorem containsDayK_c {l : List (Dy)} {A : Option Addr} {n c : Nat} {B : Nat} (V : Nat) (w : World) (h : Rd encDy 3 w A n l) (hn : n ≤ maxLen) (hBl : B < w.heap.size)
    (hB : w.cell? ⟨B, 0, none⟩ = some (.func (.func 77) #[] #[.pointer (some ⟨V, 0, none⟩)]))
    (hp : ∀ (i : Nat) (x : Dy) (W : World), l[i]? = some x → Below w.heap.size w W → Calls Tryz.prog 77 #[.agg #[.int .i64 x.lo, .int .i64 x.hi, .int .i64 x.warm], .pointer (some ⟨V, 0, none⟩)] W fun e w' => e = .returned (.bool (p x)) ∧ Below W.heap.size W w') :
    Calls Tryz.prog 80 #[.slice A n c, .func (.func 81) #[] #[.pointer (some ⟨B, 0, none⟩)]] w
      fun e w' => e = .returned (.bool (!allB p l)) ∧ Below w.heap.size w w' := by
  have hc := idxDayK_c (c := c) V w h hn hBl hB hp
  have HC := Lib.hid hc; clear hc hp
  go_enter Tryz.func80, Tryz.ntmps80
  go_wp2_with (go_at_call 106; refine (HC.out).mono ?_; rintro e w' ⟨⟨r, rfl, hr⟩, hb⟩; have HR := Lib.hid hr; clear hr)
  go_ret
  exact ⟨ret_bool (by rw [← HR.out]; simp), hb⟩

theorem allDayK_c {l : List (Dy)} {A : Option Addr} {n c : Nat} (V : Nat) (w : World) (h : Rd encDy 3 w A n l) (hn : n ≤ maxLen)
    (hp : ∀ (i : Nat) (x : Dy) (W : World), l[i]? = some x → Below w.heap.size w W → Calls Tryz.prog 77 #[.agg #[.int .i64 x.lo, .int .i64 x.hi, .int .i64 x.warm], .pointer (some ⟨V, 0, none⟩)] W fun e w' => e = .returned (.bool (p x)) ∧ Below W.heap.size W w') :
    Calls Tryz.prog 53 #[.slice A n c, .func (.func 77) #[] #[.pointer (some ⟨V, 0, none⟩)]] w
      fun e w' => e = .returned (.bool (allB p l)) ∧ Below w.heap.size w w' := by
  have hbx := (Below.refl w.heap.size w).alloc (Nat.le_refl _) (.cells #[.func (.func 77) #[] #[.pointer (some ⟨V, 0, none⟩)]] 131)
  have hc := containsDayK_c (c := c) (B := w.heap.size) V (w.alloc (.cells #[.func (.func 77) #[] #[.pointer (some ⟨V, 0, none⟩)]] 131)) (h.mono hbx) hn (by simp) (by simp) (fun i x W hx hW => hp i x W hx (hbx.trans (hW.mono (by simp))))
  have HC := Lib.hid hc; clear hc hp
  go_enter Tryz.func53, Tryz.ntmps53
  go_wp2_with (go_at_call 80; refine (HC.out).mono ?_; rintro e w' ⟨rfl, hb⟩)
  go_ret
  exact ⟨ret_bool (by simp), ((Below.refl _ _).alloc (Nat.le_refl _) _).trans (hb.mono (by simp))⟩
end
end Go.Proofs.YtjpobkmlcjbpiaaGreat

namespace Go.Proofs.YtjpobkmlcjbpiaaGreat
open Go.RowKit Go.Proofs
attribute [local go_sem ↓] Go.wp_at_zero Go.wp_at_succ

theorem known1_c (lo : Int) (w : World) : Calls Tryz.prog 74 #[.agg #[.int .i64 lo, .int .i64 lo]] w fun e w' => e = .returned (.bool true) ∧ Below w.heap.size w w' := by
  have hal := (Below.refl w.heap.size w).alloc (Nat.le_refl _) (.cells #[.int .i64 lo, .int .i64 lo] 44)
  have hx := Blk.new w 44 #[.int .i64 lo, .int .i64 lo]
  have x0 := hx.cell 0; have x1 := hx.cell 1
  simp at x0 x1
  have HB := Lib.hid hal
  clear hal hx
  go_enter Tryz.func74, Tryz.ntmps74
  go_wp2_with fail
  go_ret
  exact ⟨by simp, HB.out⟩
theorem known2_c (x : Cel) (V : Nat) (w : World) (hv : Blk w V 150 #[.func (.func 74) #[] #[]]) (h : x.lo = x.hi) :
    Calls Tryz.prog 76 #[.agg #[.int .i64 x.lo, .int .i64 x.hi, .int .i64 x.cap, .int .i64 x.keep, .int .i64 x.pass, .int .i64 x.to, .int .i64 x.pump], .pointer (some ⟨V, 0, none⟩)] w fun e w' => e = .returned (.bool true) ∧ Below w.heap.size w w' := by
  obtain ⟨lo, hi, cap, keep, pass, tw, pump⟩ := x
  dsimp only at h ⊢
  subst h
  have hal := (Below.refl w.heap.size w).alloc (Nat.le_refl _) (.cells #[.int .i64 lo, .int .i64 lo, .int .i64 cap, .int .i64 keep, .int .i64 pass, .int .i64 tw, .int .i64 pump] 90)
  have hx := Blk.new w 90 #[.int .i64 lo, .int .i64 lo, .int .i64 cap, .int .i64 keep, .int .i64 pass, .int .i64 tw, .int .i64 pump]
  have x0 := hx.cell 0; have x1 := hx.cell 1; have v0 := (hv.below hal hv.lt).cell 0
  simp at x0 x1 v0
  have HB := Lib.hid hal
  clear hal hx hv
  go_enter Tryz.func76, Tryz.ntmps76
  go_wp2_with (go_at_call 74; refine (known1_c _ _).mono ?_; rintro e w1 ⟨rfl, hb9⟩; have HB9 := Lib.hid hb9; clear hb9)
  go_ret
  exact ⟨rfl, below_tr HB.out HB9.out⟩
theorem known3_c (x : Dy) (V : Nat) (w : World) (hv : Blk w V 150 #[.func (.func 74) #[] #[]]) (h : x.lo = x.hi) :
    Calls Tryz.prog 77 #[.agg #[.int .i64 x.lo, .int .i64 x.hi, .int .i64 x.warm], .pointer (some ⟨V, 0, none⟩)] w fun e w' => e = .returned (.bool true) ∧ Below w.heap.size w w' := by
  obtain ⟨lo, hi, warm⟩ := x
  dsimp only at h ⊢
  subst h
  have hal := (Below.refl w.heap.size w).alloc (Nat.le_refl _) (.cells #[.int .i64 lo, .int .i64 lo, .int .i64 warm] 92)
  have hx := Blk.new w 92 #[.int .i64 lo, .int .i64 lo, .int .i64 warm]
  have x0 := hx.cell 0; have x1 := hx.cell 1; have v0 := (hv.below hal hv.lt).cell 0
  simp at x0 x1 v0
  have HB := Lib.hid hal
  clear hal hx hv
  go_enter Tryz.func77, Tryz.ntmps77
  go_wp2_with (go_at_call 74; refine (known1_c _ _).mono ?_; rintro e w1 ⟨rfl, hb9⟩; have HB9 := Lib.hid hb9; clear hb9)
  go_ret
  exact ⟨rfl, below_tr HB.out HB9.out⟩
theorem allB_yes {α : Type} (l : List α) : allB (fun _ => true) l = true := by simp [allB]
set_option maxRecDepth 100000 in
set_option maxHeartbeats 1000000 in
theorem known_c {CA DA : Option Addr} {cn cc dn dc : Nat} {sn so0 so1 melt : Int} {C : List Cel} {D : List Dy} {w : World} (hC : Rd encCel 7 w CA cn C) (hD : Rd encDy 3 w DA dn D) (hcn : cn ≤ 100) (hdn : dn ≤ 100)
    (h1 : ∀ c ∈ C, c.lo = c.hi) (h2 : ∀ d ∈ D, d.lo = d.hi) :
    Calls Tryz.prog 41 #[.agg #[.slice CA cn cc, .int .i64 sn, .int .i64 sn, .int .i64 so0, .int .i64 so1, .int .i64 melt], .slice DA dn dc] w fun e w' => e = .returned (.bool true) ∧ Below w.heap.size w w' := by
  have hal := ((Below.refl w.heap.size w).alloc (Nat.le_refl _) (.cells #[.slice CA cn cc, .int .i64 sn, .int .i64 sn, .int .i64 so0, .int .i64 so1, .int .i64 melt] 46)).alloc (by simp) (.cells #[.func (.func 74) #[] #[]] 150)
  have hg := (Blk.new w 46 #[.slice CA cn cc, .int .i64 sn, .int .i64 sn, .int .i64 so0, .int .i64 so1, .int .i64 melt]).alloc (.cells #[.func (.func 74) #[] #[]] 150)
  have hv := Blk.new (w.alloc (.cells #[.slice CA cn cc, .int .i64 sn, .int .i64 sn, .int .i64 so0, .int .i64 so1, .int .i64 melt] 46)) 150 #[.func (.func 74) #[] #[]]
  simp only [World.size_alloc] at hv
  have HB := Lib.hid hal; have HG := Lib.hid hg; have HV := Lib.hid hv; have HC := Lib.hid (hC.below hal); have HD := Lib.hid (hD.below hal); have H1 := Lib.hid h1; have H2 := Lib.hid h2
  clear hal hg hv hC hD h1 h2
  go_enter Tryz.func41, Tryz.ntmps41
  go_upto_region 2 with fail
  revert HB HG HV HC HD
  generalize World.alloc (World.alloc w _) _ = w1
  intro HB HG HV HC HD
  have g0 := HG.out.cell 0; have g1 := HG.out.cell 1; have g2 := HG.out.cell 2; have v0 := HV.out.cell 0
  simp at g0 g1 g2 v0
  go_wp2_with fail
  go_at_call 74
  refine (known1_c _ _).mono ?_
  rintro e w2 ⟨rfl, hb9⟩
  have t0 := below_tr HB.out hb9; have t1 := HG.out.below hb9 HG.out.lt; have t2 := HV.out.below hb9 HV.out.lt; have t3 := HC.out.below hb9; have t4 := HD.out.below hb9
  clear HB HG HV HC HD g0 g1 g2 v0 hb9
  have g0 := t1.cell 0; have v0 := t2.cell 0
  simp at g0 v0
  have hc := allCelK_c (p := fun _ => true) (c := cc) (w.heap.size + 1) w2 t3 (by unfold maxLen; omega) (fun i x W hx hW => known2_c x _ W (t2.below hW t2.lt) (H1.out x (List.mem_of_getElem? hx)))
  rw [allB_yes] at hc
  have HC := Lib.hid hc; have HB := Lib.hid t0; have HV := Lib.hid t2; have HD := Lib.hid t4
  clear hc t0 t1 t2 t3 t4
  go_wp2_with fail
  go_at_call 75
  refine (HC.out).mono ?_
  rintro e w3 ⟨rfl, hb9⟩
  have t0 := below_tr HB.out hb9; have t2 := HV.out.below hb9 HV.out.lt; have t4 := HD.out.below hb9
  clear HB HV HD HC hb9 g0 v0
  have hc := allDayK_c (p := fun _ => true) (c := dc) (w.heap.size + 1) w3 t4 (by unfold maxLen; omega) (fun i x W hx hW => known3_c x _ W (t2.below hW t2.lt) (H2.out x (List.mem_of_getElem? hx)))
  rw [allB_yes] at hc
  have HC := Lib.hid hc; have HB := Lib.hid t0
  clear hc t0 t2 t4
  go_wp2_with fail
  go_at_call 53
  refine (HC.out).mono ?_
  rintro e w4 ⟨rfl, hb9⟩
  have t0 := below_tr HB.out hb9
  have HB4 := Lib.hid t0
  clear t0 hb9
  go_wp2_with fail
  go_ret
  exact ⟨rfl, HB4.out⟩
/-- the lesser end of a range -/
theorem wlow_c (lo hi : Int) (w : World) : Calls Tryz.prog 78 #[.agg #[.int .i64 lo, .int .i64 hi]] w fun e w' => e = .returned (.int .i64 lo) ∧ Below w.heap.size w w' := by
  have hal := (Below.refl w.heap.size w).alloc (Nat.le_refl _) (.cells #[.int .i64 lo, .int .i64 hi] 44)
  have hx := Blk.new w 44 #[.int .i64 lo, .int .i64 hi]
  have x0 := hx.cell 0
  simp at x0
  have HB := Lib.hid hal
  clear hal hx
  go_enter Tryz.func78, Tryz.ntmps78
  go_wp2_with fail
  go_ret
  exact ⟨rfl, HB.out⟩
theorem wleast_c (w : World) : Calls Tryz.prog 42 #[] w fun e w' => e = .returned (.agg #[.func (.func 78) #[] #[]]) ∧ Below w.heap.size w w' := by
  have hx := Blk.new w 119 #[.nilFunc]
  have x0 := hx.cell 0; have z0 := hx.frozen 0
  simp at x0
  have hal := ((Below.refl w.heap.size w).alloc (Nat.le_refl _) (.cells #[.func (.func 78) #[] #[]] 119))
  have HB := Lib.hid hal
  clear hal hx
  go_enter Tryz.func42, Tryz.ntmps42
  go_wp2_with fail
  refine bodyPost_ret (v := .agg #[.func (.func 78) #[] #[]]) ?_ rfl ⟨rfl, HB.out⟩
  simp [results, Tryz.f42, go_sem]
end Go.Proofs.YtjpobkmlcjbpiaaGreat
