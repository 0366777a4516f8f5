/- THE CONTRACTS of package zone's small functions for coins: fund, sum, cmp.Or, slices.Compare, better. -/
import Derived.Test.YtphdndiikikecaaZBuyLaw
import Derived.Test.YtphdndiikikecaaZInts
import Derived.Deep.DeepCutAuto
set_option linter.unusedVariables false
set_option linter.unusedSimpArgs false
namespace Go.Proofs.Ytphdndiikikecaa
open Go.RowKit Go.Proofs

def sumL (l : List Int) : Int := l.sum
theorem sumL_succ {l : List Int} {k : Nat} {x : Int} (h : l[k]? = some x) : sumL (l.take (k + 1)) = sumL (l.take k) + x := by
  unfold sumL
  rw [List.take_add_one, h]
  simp
theorem sumL_bd {M : Int} {l : List Int} (hM : 0 ≤ M) (h : ∀ x ∈ l, 0 ≤ x ∧ x ≤ M) : 0 ≤ sumL l ∧ sumL l ≤ M * l.length := by
  unfold sumL
  induction l with
  | nil => simp
  | cons a l ih =>
    have h1 := ih (fun x hx => h x (by simp [hx]))
    have h2 := h a (by simp)
    simp only [List.sum_cons, List.length_cons]
    rw [show M * ((l.length + 1 : Nat) : Int) = M * l.length + M by push_cast; rw [Int.mul_add, Int.mul_one]]
    omega
/-- all that is summed up on the way is small -/
def SumOk (l : List Int) : Prop := ∀ k, -4000000000000000000 ≤ sumL (l.take k) ∧ sumL (l.take k) ≤ 4000000000000000000
theorem SumOk.of {M : Int} {l : List Int} (hM : 0 ≤ M) (h : ∀ x ∈ l, 0 ≤ x ∧ x ≤ M) (hl : M * l.length ≤ 4000000000000000000) : SumOk l := by
  intro k
  have h1 := sumL_bd hM (l := l.take k) (fun x hx => h x (List.mem_of_mem_take hx))
  have h2 : M * ((l.take k).length : Int) ≤ M * l.length := Int.mul_le_mul_of_nonneg_left (by rw [List.length_take]; omega) hM
  omega

set_option maxRecDepth 100000 in
set_option maxHeartbeats 400000 in
theorem sum_c {l : List Int} {A : Option Addr} {n c : Nat} {w : World} (h : Rd enc1 1 w A n l) (hn : n ≤ 1000000) (hs : SumOk l) :
    Calls Try.prog 62 #[.slice A n c] w fun e w' => e = .returned (.int .i64 (sumL l)) ∧ w = w' := by
  have HL := Lib.hid h.len
  have HS := Lib.hid hs
  clear hs
  go_enter Try.func62, Try.ntmps62
  go_wp2_with fail
  go_loopw [2, 7] (fun o i wr => ∃ k : Nat, k ≤ n ∧ i = .int .i64 k ∧ o = .int .i64 (sumL (l.take k)) ∧ wr = w) (fun _ i _ => n - (intOf i).toNat)
  case atStart => exact ⟨0, Nat.zero_le _, rfl, rfl, rfl⟩
  case round =>
    obtain ⟨k, hk, rfl, rfl, rfl⟩ := hrel
    by_cases hlt : k < n
    · obtain ⟨b, o, x, hA, _, hx, h0⟩ := h.at1 hlt
      subst hA
      have hsk := HS.out k
      have hsk1 := HS.out (k + 1)
      have hsx := sumL_succ hx
      rw [hsx] at hsk1
      have HX := Lib.hid hsx
      generalize sumL (l.take k) = z at hsk hsk1 HX ⊢
      have hw1 : IntKind.i64.wrap (z + x) = z + x := wi (by omega)
      clear hsx hx
      go_wp2_with fail
      go_roundw
      case rel => exact ⟨k + 1, by omega, by go_num, by rw [HX.out], trivial⟩
      case measure => simp [intOf] <;> omega
    · obtain rfl : k = n := by omega
      rw [List.take_of_length_le (by rw [HL.out]; exact Nat.le_refl _)]
      go_wp2_with fail
      go_ret
      exact ⟨rfl, rfl⟩
set_option maxRecDepth 100000 in
set_option maxHeartbeats 400000 in
theorem rsum_c {l : List Int} {A : Option Addr} {n c : Nat} {w : World} (h : Rd enc1 1 w A n l) (hn : n ≤ 1000000) (hs : SumOk l) :
    Calls Try.prog 27 #[.slice A n c] w fun e w' => e = .returned (.int .i64 (sumL l)) ∧ w = w' := by
  have HL := Lib.hid h.len
  have HS := Lib.hid hs
  clear hs
  go_enter Try.func27, Try.ntmps27
  go_wp2_with fail
  go_loopw [3, 4] (fun o i wr => ∃ k : Nat, k ≤ n ∧ i = .int .i64 k ∧ o = .int .i64 (sumL (l.take k)) ∧ wr = w) (fun _ i _ => n - (intOf i).toNat)
  case atStart => exact ⟨0, Nat.zero_le _, rfl, rfl, rfl⟩
  case round =>
    obtain ⟨k, hk, rfl, rfl, rfl⟩ := hrel
    by_cases hlt : k < n
    · obtain ⟨b, o, x, hA, _, hx, h0⟩ := h.at1 hlt
      subst hA
      have hsk := HS.out k
      have hsk1 := HS.out (k + 1)
      have hsx := sumL_succ hx
      rw [hsx] at hsk1
      have HX := Lib.hid hsx
      generalize sumL (l.take k) = z at hsk hsk1 HX ⊢
      have hw1 : IntKind.i64.wrap (z + x) = z + x := wi (by omega)
      clear hsx hx
      go_wp2_with fail
      go_roundw
      case rel => exact ⟨k + 1, by omega, by go_num, by rw [HX.out], trivial⟩
      case measure => simp [intOf] <;> omega
    · obtain rfl : k = n := by omega
      rw [List.take_of_length_le (by rw [HL.out]; exact Nat.le_refl _)]
      go_wp2_with fail
      go_ret
      exact ⟨rfl, rfl⟩
theorem fund_c (n : Int) (w : World) : Calls Try.prog 61 #[.int .i64 n] w fun e w' => e = .returned (.bool (inB n 0 100000000)) ∧ w = w' := by
  go_enter Try.func61, Try.ntmps61
  go_wp2_with (go_at_call 69; refine (within_c _ _ _ _).mono ?_; rintro e w' ⟨rfl, rfl⟩)
  go_ret
  exact ⟨rfl, rfl⟩
theorem dropAll {l : List Int} {n : Nat} (h : l.length = n) : l.drop n = [] := List.drop_of_length_le (by rw [h]; exact Nat.le_refl _)
/-- the first one that is not 0 -/
def orL : List Int → Int
  | [] => 0
  | a :: l => if a = 0 then orL l else a
theorem orL_two (a b : Int) : orL [a, b] = if a = 0 then b else a := by
  simp only [orL]; split <;> simp_all
theorem drop_cons {α : Type} {l : List α} {k : Nat} {x : α} (h : l[k]? = some x) : l.drop k = x :: l.drop (k + 1) := by
  obtain ⟨hk, rfl⟩ := List.getElem?_eq_some_iff.1 h
  exact List.drop_eq_getElem_cons hk
set_option maxRecDepth 100000 in
set_option maxHeartbeats 400000 in
theorem Or_c {l : List Int} {A : Option Addr} {n c : Nat} {w : World} (h : Rd enc1 1 w A n l) (hn : n ≤ 1000000) :
    Calls Try.prog 85 #[.slice A n c] w fun e w' => e = .returned (.int .i64 (orL l)) ∧ w = w' := by
  have HL := Lib.hid h.len
  go_enter Try.func85, Try.ntmps85
  go_wp2_with fail
  go_loopw [8] (fun i wr => ∃ k : Nat, k ≤ n ∧ i = .int .i64 k ∧ orL l = orL (l.drop k) ∧ wr = w) (fun i _ => n - (intOf i).toNat)
  case atStart => exact ⟨0, Nat.zero_le _, rfl, rfl, rfl⟩
  case round =>
    obtain ⟨k, hk, rfl, hor, rfl⟩ := hrel
    have HO := Lib.hid hor; clear hor
    by_cases hlt : k < n
    · obtain ⟨b, o, x, hA, _, hx, h0⟩ := h.at1 hlt
      subst hA
      have HD := Lib.hid (drop_cons hx)
      clear hx
      by_cases hz : x = 0
      · subst hz
        go_wp2_with fail
        go_roundw
        case rel => exact ⟨k + 1, by omega, by go_num, by rw [HO.out, HD.out]; rfl, trivial⟩
        case measure => simp [intOf] <;> omega
      · have hz2 : (x == 0) = false := by simpa using hz
        go_wp2_with fail
        go_ret
        exact ⟨ret_int (by rw [HO.out, HD.out, orL, if_neg hz]), rfl⟩
    · obtain rfl : k = n := by omega
      go_wp2_with fail
      go_ret
      exact ⟨ret_int (by rw [HO.out, dropAll HL.out]; rfl), rfl⟩
/-- cmp.Compare of two ints -/
def cmpI (a b : Int) : Int := if a = b then 0 else if a < b then -1 else 1
set_option maxRecDepth 100000 in
theorem isNaN_c (a : Int) (w : World) : Calls Try.prog 110 #[.int .i64 a] w fun e w' => e = .returned (.bool false) ∧ w = w' := by
  go_enter Try.func110, Try.ntmps110
  go_wp2_with fail
  go_ret
  exact ⟨rfl, rfl⟩
set_option maxRecDepth 100000 in
theorem CompareI_c (a b : Int) (w : World) : Calls Try.prog 96 #[.int .i64 a, .int .i64 b] w fun e w' => e = .returned (.int .i64 (cmpI a b)) ∧ w = w' := by
  rcases Int.lt_trichotomy a b with h | h | h
  · have hr : cmpI a b = -1 := by unfold cmpI; rw [if_neg (by omega), if_pos h]
    have HR := Lib.hid hr; clear hr
    go_enter Try.func96, Try.ntmps96
    go_wp2_with (go_at_call 110; refine (isNaN_c _ _).mono ?_; rintro e w' ⟨rfl, rfl⟩)
    go_ret
    exact ⟨ret_int HR.out.symm, rfl⟩
  · subst h
    have hr : cmpI a a = 0 := by simp [cmpI]
    have HR := Lib.hid hr; clear hr
    go_enter Try.func96, Try.ntmps96
    go_wp2_with (go_at_call 110; refine (isNaN_c _ _).mono ?_; rintro e w' ⟨rfl, rfl⟩)
    go_ret
    exact ⟨ret_int HR.out.symm, rfl⟩
  · have hr : cmpI a b = 1 := by unfold cmpI; rw [if_neg (by omega), if_neg (by omega)]
    have h2 : ¬ a < b := by omega
    have HR := Lib.hid hr; clear hr
    go_enter Try.func96, Try.ntmps96
    go_wp2_with (go_at_call 110; refine (isNaN_c _ _).mono ?_; rintro e w' ⟨rfl, rfl⟩)
    go_ret
    exact ⟨ret_int HR.out.symm, rfl⟩
theorem cmpL_cons (a : Int) (l : List Int) (b : Int) (m : List Int) : cmpL (a :: l) (b :: m) = if cmpI a b = 0 then cmpL l m else cmpI a b := by
  simp only [cmpL, cmpI]
  split
  · simp
  · split <;> simp
set_option maxRecDepth 100000 in
set_option maxHeartbeats 400000 in
theorem CompareL_c {l m : List Int} {A A' : Option Addr} {n n' c c' : Nat} {w : World} (h : Rd enc1 1 w A n l) (h' : Rd enc1 1 w A' n' m) (hn : n ≤ 1000000) (hn' : n' ≤ 1000000) :
    Calls Try.prog 86 #[.slice A n c, .slice A' n' c'] w fun e w' => e = .returned (.int .i64 (cmpL l m)) ∧ w = w' := by
  have HL := Lib.hid h.len; have HM := Lib.hid h'.len
  go_enter Try.func86, Try.ntmps86
  go_wp2_with fail
  go_loopw [11] (fun i wr => ∃ k : Nat, k ≤ n ∧ k ≤ n' ∧ i = .int .i64 k ∧ cmpL l m = cmpL (l.drop k) (m.drop k) ∧ wr = w) (fun i _ => n - (intOf i).toNat)
  case atStart => exact ⟨0, Nat.zero_le _, Nat.zero_le _, rfl, rfl, rfl⟩
  case round =>
    obtain ⟨k, hk, hk', rfl, hor, rfl⟩ := hrel
    have HO := Lib.hid hor; clear hor
    by_cases hlt : k < n
    · obtain ⟨b, o, x, hA, _, hx, h0⟩ := h.at1 hlt
      subst hA
      have HD := Lib.hid (drop_cons hx)
      clear hx
      by_cases hlt' : k < n'
      · obtain ⟨b', o', y, hA', _, hy, h0'⟩ := h'.at1 hlt'
        subst hA'
        have HD' := Lib.hid (drop_cons hy)
        clear hy
        have hcc := cmpL_cons x (l.drop (k + 1)) y (m.drop (k + 1))
        have HC := Lib.hid (fun W => CompareI_c x y W)
        have hi0 : (0 : Int) ≤ (k : Int) := by omega
        have hi1 : (k : Int) < (n' : Int) := by omega
        generalize cmpI x y = z at hcc HC
        by_cases hz : z = 0
        · subst hz
          rw [if_pos rfl] at hcc
          have HCC := Lib.hid hcc; clear hcc
          go_wp2_with (go_at_call 96; refine (HC.out _).mono ?_; rintro e w' ⟨rfl, rfl⟩)
          go_roundw
          case rel => exact ⟨k + 1, by omega, by omega, by go_num, by rw [HO.out, HD.out, HD'.out, HCC.out], trivial⟩
          case measure => simp [intOf] <;> omega
        · rw [if_neg hz] at hcc
          have HCC := Lib.hid hcc; clear hcc
          have hz2 : (z == 0) = false := by simpa using hz
          go_wp2_with (go_at_call 96; refine (HC.out _).mono ?_; rintro e w' ⟨rfl, rfl⟩)
          go_ret
          exact ⟨ret_int (by rw [HO.out, HD.out, HD'.out, HCC.out]), rfl⟩
      · obtain rfl : k = n' := by omega
        go_wp2_with fail
        go_ret
        exact ⟨ret_int (by rw [HO.out, HD.out, dropAll HM.out]; rfl), rfl⟩
    · obtain rfl : k = n := by omega
      by_cases hlt' : k < n'
      · obtain ⟨b', o', y, hA', _, hy, h0'⟩ := h'.at1 hlt'
        have HD' := Lib.hid (drop_cons hy)
        clear hy
        have hi1 : (k : Int) < (n' : Int) := by omega
        go_wp2_with fail
        go_ret
        exact ⟨ret_int (by rw [HO.out, HD'.out, dropAll HL.out]; rfl), rfl⟩
      · obtain rfl : k = n' := by omega
        go_wp2_with fail
        go_ret
        exact ⟨ret_int (by rw [HO.out, dropAll HM.out, dropAll HL.out]; rfl), rfl⟩
end Go.Proofs.Ytphdndiikikecaa
