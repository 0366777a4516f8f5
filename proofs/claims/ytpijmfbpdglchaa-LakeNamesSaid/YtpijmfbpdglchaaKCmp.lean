/- CONTRACTS: cmp.Or, cmp.Compare, slices.Compare, and before: two choices compared. -/
import Derived.Test.YtpijmfbpdglchaaKPlain
import Derived.Test.YtpijmfbpdglchaaKStep
import Derived.Deep.DeepCutAuto
import Derived.Shelf.SlSortCmp.NoneTotal
set_option linter.unusedVariables false
set_option linter.unusedSimpArgs false
namespace Go.Proofs.Ytpijmfbpdglchaa
open Go.RowKit Go.Proofs Go.Shelf Go.Sort
attribute [local go_sem ↓] Go.wp_at_zero Go.wp_at_succ

theorem dropAll {l : List Int} {n : Nat} (h : l.length = n) : l.drop n = [] := List.drop_of_length_le (by rw [h]; exact Nat.le_refl _)
/-- the first one that is not 0 -/
def orL : List Int → Int
  | [] => 0
  | a :: l => if a = 0 then orL l else a
theorem orL_cmpC (pa pb : Int) (x y : List Int) : orL [sgn pa pb, sgn x.length y.length, cmpL x y] = cmpC pa pb x y := by
  have h3 : (if cmpL x y = 0 then (0 : Int) else cmpL x y) = cmpL x y := by split <;> omega
  unfold cmpC
  simp only [orL]
  rw [h3]
  by_cases h1 : sgn pa pb = 0
  · rw [if_pos h1, if_neg (show ¬ (sgn pa pb ≠ 0) by simp [h1])]
    by_cases h2 : sgn x.length y.length = 0
    · rw [if_pos h2, if_neg (show ¬ (sgn (x.length : Int) (y.length : Int) ≠ 0) by simp [h2])]
    · rw [if_neg h2, if_pos (show sgn (x.length : Int) (y.length : Int) ≠ 0 from h2)]
  · rw [if_neg h1, if_pos (show sgn pa pb ≠ 0 from h1)]
theorem drop_cons {α : Type} {l : List α} {k : Nat} {x : α} (h : l[k]? = some x) : l.drop k = x :: l.drop (k + 1) := by
  obtain ⟨hk, rfl⟩ := List.getElem?_eq_some_iff.1 h
  exact List.drop_eq_getElem_cons hk
set_option maxRecDepth 100000 in
set_option maxHeartbeats 400000 in
theorem Or_c {l : List Int} {A : Option Addr} {n c : Nat} {w : World} (h : Rd enc1 1 w A n l) (hn : n ≤ 1000000) :
    Calls Try.prog 105 #[.slice A n c] w fun e w' => e = .returned (.int .i64 (orL l)) ∧ w = w' := by
  have HL := Lib.hid h.len
  go_enter Try.func105, Try.ntmps105
  go_wp2_with fail
  go_loopw [8] (fun i wr => ∃ k : Nat, k ≤ n ∧ i = .int .i64 k ∧ orL l = orL (l.drop k) ∧ wr = w) (fun i _ => n - (intOf i).toNat)
  case atStart => exact ⟨0, Nat.zero_le _, rfl, rfl, rfl⟩
  case round =>
    obtain ⟨k, hk, rfl, hor, rfl⟩ := hrel
    have HO := Lib.hid hor; clear hor
    by_cases hlt : k < n
    · obtain ⟨b, o, x, hA, _, hx, h0⟩ := h.at1 hlt
      subst hA
      have HD := Lib.hid (drop_cons hx)
      clear hx
      by_cases hz : x = 0
      · subst hz
        go_wp2_with fail
        go_roundw
        case rel => exact ⟨k + 1, by omega, by go_num, by rw [HO.out, HD.out]; rfl, trivial⟩
        case measure => simp [intOf] <;> omega
      · have hz2 : (x == 0) = false := by simpa using hz
        go_wp2_with fail
        go_ret
        exact ⟨ret_int (by rw [HO.out, HD.out, orL, if_neg hz]), rfl⟩
    · obtain rfl : k = n := by omega
      go_wp2_with fail
      go_ret
      exact ⟨ret_int (by rw [HO.out, dropAll HL.out]; rfl), rfl⟩
set_option maxRecDepth 100000 in
theorem isNaN_c (a : Int) (w : World) : Calls Try.prog 126 #[.int .i64 a] w fun e w' => e = .returned (.bool false) ∧ w = w' := by
  go_enter Try.func126, Try.ntmps126
  go_wp2_with fail
  go_ret
  exact ⟨rfl, rfl⟩
set_option maxRecDepth 100000 in
theorem CompareI_c (a b : Int) (w : World) : Calls Try.prog 106 #[.int .i64 a, .int .i64 b] w fun e w' => e = .returned (.int .i64 (sgn a b)) ∧ w = w' := by
  rcases Int.lt_trichotomy a b with h | h | h
  · have hr : sgn a b = -1 := by unfold sgn; rw [if_pos h]
    have HR := Lib.hid hr; clear hr
    go_enter Try.func106, Try.ntmps106
    go_wp2_with (go_at_call 126; refine (isNaN_c _ _).mono ?_; rintro e w' ⟨rfl, rfl⟩)
    go_ret
    exact ⟨ret_int HR.out.symm, rfl⟩
  · subst h
    have hr : sgn a a = 0 := by simp [sgn]
    have HR := Lib.hid hr; clear hr
    go_enter Try.func106, Try.ntmps106
    go_wp2_with (go_at_call 126; refine (isNaN_c _ _).mono ?_; rintro e w' ⟨rfl, rfl⟩)
    go_ret
    exact ⟨ret_int HR.out.symm, rfl⟩
  · have hr : sgn a b = 1 := by unfold sgn; rw [if_neg (by omega), if_pos h]
    have h2 : ¬ a < b := by omega
    have HR := Lib.hid hr; clear hr
    go_enter Try.func106, Try.ntmps106
    go_wp2_with (go_at_call 126; refine (isNaN_c _ _).mono ?_; rintro e w' ⟨rfl, rfl⟩)
    go_ret
    exact ⟨ret_int HR.out.symm, rfl⟩
theorem cmpL_cons (a : Int) (l : List Int) (b : Int) (m : List Int) : cmpL (a :: l) (b :: m) = if sgn a b = 0 then cmpL l m else sgn a b := by
  simp only [cmpL, sgn]
  split
  · simp
  · split
    · simp
    · simp
set_option maxRecDepth 100000 in
set_option maxHeartbeats 400000 in
theorem CompareL_c {l m : List Int} {A A' : Option Addr} {n n' c c' : Nat} {w : World} (h : Rd enc1 1 w A n l) (h' : Rd enc1 1 w A' n' m) (hn : n ≤ 1000000) (hn' : n' ≤ 1000000) :
    Calls Try.prog 107 #[.slice A n c, .slice A' n' c'] w fun e w' => e = .returned (.int .i64 (cmpL l m)) ∧ w = w' := by
  have HL := Lib.hid h.len; have HM := Lib.hid h'.len
  go_enter Try.func107, Try.ntmps107
  go_wp2_with fail
  go_loopw [11] (fun i wr => ∃ k : Nat, k ≤ n ∧ k ≤ n' ∧ i = .int .i64 k ∧ cmpL l m = cmpL (l.drop k) (m.drop k) ∧ wr = w) (fun i _ => n - (intOf i).toNat)
  case atStart => exact ⟨0, Nat.zero_le _, Nat.zero_le _, rfl, rfl, rfl⟩
  case round =>
    obtain ⟨k, hk, hk', rfl, hor, rfl⟩ := hrel
    have HO := Lib.hid hor; clear hor
    by_cases hlt : k < n
    · obtain ⟨b, o, x, hA, _, hx, h0⟩ := h.at1 hlt
      subst hA
      have HD := Lib.hid (drop_cons hx)
      clear hx
      by_cases hlt' : k < n'
      · obtain ⟨b', o', y, hA', _, hy, h0'⟩ := h'.at1 hlt'
        subst hA'
        have HD' := Lib.hid (drop_cons hy)
        clear hy
        have hcc := cmpL_cons x (l.drop (k + 1)) y (m.drop (k + 1))
        have HC := Lib.hid (fun W => CompareI_c x y W)
        have hi0 : (0 : Int) ≤ (k : Int) := by omega
        have hi1 : (k : Int) < (n' : Int) := by omega
        generalize sgn x y = z at hcc HC
        by_cases hz : z = 0
        · subst hz
          rw [if_pos rfl] at hcc
          have HCC := Lib.hid hcc; clear hcc
          go_wp2_with (go_at_call 106; refine (HC.out _).mono ?_; rintro e w' ⟨rfl, rfl⟩)
          go_roundw
          case rel => exact ⟨k + 1, by omega, by omega, by go_num, by rw [HO.out, HD.out, HD'.out, HCC.out], trivial⟩
          case measure => simp [intOf] <;> omega
        · rw [if_neg hz] at hcc
          have HCC := Lib.hid hcc; clear hcc
          have hz2 : (z == 0) = false := by simpa using hz
          go_wp2_with (go_at_call 106; refine (HC.out _).mono ?_; rintro e w' ⟨rfl, rfl⟩)
          go_ret
          exact ⟨ret_int (by rw [HO.out, HD.out, HD'.out, HCC.out]), rfl⟩
      · obtain rfl : k = n' := by omega
        go_wp2_with fail
        go_ret
        exact ⟨ret_int (by rw [HO.out, HD.out, dropAll HM.out]; rfl), rfl⟩
    · obtain rfl : k = n := by omega
      by_cases hlt' : k < n'
      · obtain ⟨b', o', y, hA', _, hy, h0'⟩ := h'.at1 hlt'
        have HD' := Lib.hid (drop_cons hy)
        clear hy
        have hi1 : (k : Int) < (n' : Int) := by omega
        go_wp2_with fail
        go_ret
        exact ⟨ret_int (by rw [HO.out, HD'.out, dropAll HL.out]; rfl), rfl⟩
      · obtain rfl : k = n' := by omega
        go_wp2_with fail
        go_ret
        exact ⟨ret_int (by rw [HO.out, dropAll HM.out, dropAll HL.out]; rfl), rfl⟩

theorem rd_three (w : World) (a b c : Int) {g : Nat} (hg : g = w.heap.size) : Rd enc1 1 (w.alloc (.cells #[.int .i64 a, .int .i64 b, .int .i64 c] 3)) (some ⟨g, 0, none⟩) 3 [a, b, c] := by
  subst hg
  refine ⟨rfl, fun _ => ⟨w.heap.size, 0, rfl, by simp, fun i x hx j u hu => ?_⟩⟩
  have hj : j = 0 := by
    have := (List.getElem?_eq_some_iff.1 hu).1
    simp [enc1] at this; exact this
  subst hj
  simp [enc1] at hu
  subst hu
  have hc := (Blk.new w 3 #[.int .i64 a, .int .i64 b, .int .i64 c]).cell i
  have hi : i = 0 ∨ i = 1 ∨ i = 2 := by have := (List.getElem?_eq_some_iff.1 hx).1; simp at this; omega
  rcases hi with rfl | rfl | rfl
  all_goals simp at hx; subst hx; simp
/-- A choice: its works as a slice, the list that it reads as, its price. -/
structure Chc where
  A : Option Addr
  n : Nat
  c : Nat
  l : List Int
  p : Int
def encC (x : Chc) : List Value := [.slice x.A x.n x.c, .int .i64 x.p]
theorem encC_len (x : Chc) : (encC x).length = 2 := rfl
set_option maxRecDepth 100000 in
set_option maxHeartbeats 1000000 in
theorem before_c {x y : Chc} {w : World} (hx : Rd enc1 1 w x.A x.n x.l) (hy : Rd enc1 1 w y.A y.n y.l) (hxn : x.n ≤ 1000000) (hyn : y.n ≤ 1000000) :
    Calls Try.prog 90 #[.agg #[.slice x.A x.n x.c, .int .i64 x.p], .agg #[.slice y.A y.n y.c, .int .i64 y.p]] w fun e w' =>
      e = .returned (.int .i64 (cmpC x.p y.p x.l y.l)) ∧ ∃ q os', w' = grow (w.drewN q) os' := by
  obtain ⟨W, hW⟩ : ∃ W, W = (w.alloc (.cells #[.slice x.A x.n x.c, .int .i64 x.p] 124)).alloc (.cells #[.slice y.A y.n y.c, .int .i64 y.p] 124) := ⟨_, rfl⟩
  have hb : Below w.heap.size w W := by rw [hW]; exact ((Below.refl _ _).alloc (Nat.le_refl _) _).alloc (by simp) _
  have hX := (Blk.new w 124 #[.slice x.A x.n x.c, .int .i64 x.p]).alloc (.cells #[.slice y.A y.n y.c, .int .i64 y.p] 124)
  have hY := Blk.new (w.alloc (.cells #[.slice x.A x.n x.c, .int .i64 x.p] 124)) 124 #[.slice y.A y.n y.c, .int .i64 y.p]
  simp only [World.size_alloc] at hY
  rw [← hW] at hX hY
  have c0 := hX.cell 0; have c1 := hX.cell 1; have d0 := hY.cell 0; have d1 := hY.cell 1
  simp at c0 c1 d0 d1
  have HCP := Lib.hid (CompareI_c x.p y.p)
  have HCL := Lib.hid (CompareI_c (x.n : Int) (y.n : Int))
  have HCC := Lib.hid (fun U (hU : Below w.heap.size w U) => CompareL_c (c := x.c) (c' := y.c) (hx.below hU) (hy.below hU) hxn hyn)
  have hlx := hx.len; have hly := hy.len
  have hR := orL_cmpC x.p y.p x.l y.l
  rw [hlx, hly] at hR
  obtain ⟨R, hRR⟩ : ∃ R, R = cmpC x.p y.p x.l y.l := ⟨_, rfl⟩
  rw [← hRR] at hR ⊢
  obtain ⟨r1, h1⟩ : ∃ r, r = sgn x.p y.p := ⟨_, rfl⟩
  obtain ⟨r2, h2⟩ : ∃ r, r = sgn (x.n : Int) (y.n : Int) := ⟨_, rfl⟩
  obtain ⟨r3, h3⟩ : ∃ r, r = cmpL x.l y.l := ⟨_, rfl⟩
  rw [← h1] at hR HCP
  rw [← h2] at hR HCL
  rw [← h3] at hR HCC
  have HR := Lib.hid hR; have HB := Lib.hid hb; have HW := Lib.hid hW
  have HS := Lib.hid (fun (U : World) (hU : Below W.heap.size W U) => show U.cell? ⟨w.heap.size, 0, none⟩ = some (.slice x.A x.n x.c) ∧ U.cell? ⟨w.heap.size, 1, none⟩ = some (.int .i64 x.p) ∧ U.cell? ⟨w.heap.size + 1, 0, none⟩ = some (.slice y.A y.n y.c) ∧ U.cell? ⟨w.heap.size + 1, 1, none⟩ = some (.int .i64 y.p) from ⟨bel_keep hU c0, bel_keep hU c1, bel_keep hU d0, bel_keep hU d1⟩)
  clear hR hRR h1 h2 h3 hb hW hX hY hx hy hlx hly
  go_enter Try.func90, Try.ntmps90
  go_wp2_with fail
  rw [← HW.out]
  go_region_held3 (fun U => U.cell? ⟨w.heap.size, 0, none⟩ = some (.slice x.A x.n x.c) ∧ U.cell? ⟨w.heap.size, 1, none⟩ = some (.int .i64 x.p) ∧ U.cell? ⟨w.heap.size + 1, 0, none⟩ = some (.slice y.A y.n y.c) ∧ U.cell? ⟨w.heap.size + 1, 1, none⟩ = some (.int .i64 y.p))
    (first | exact HS.out _ (Below.refl _ _) | exact HS.out _ (Below.refl _ _).drew | exact HS.out _ ((Below.refl _ _).drew.alloc (Nat.le_refl _) _))
    (first
      | (go_at_call 106; first | (with_reducible refine (HCP.out _).mono ?_; rintro e w5 ⟨rfl, rfl⟩) | (with_reducible refine (HCL.out _).mono ?_; rintro e w5 ⟨rfl, rfl⟩))
      | (go_at_call 107; refine (HCC.out _ HB.out.drew).mono ?_; rintro e w5 ⟨rfl, rfl⟩)
      | (go_at_call 105; refine (Or_c (rd_three W.drew _ _ _ rfl) (by omega)).mono ?_; rintro e w5 ⟨rfl, rfl⟩))
  all_goals
    go_wp2_with fail
    go_ret
    exact ⟨ret_int HR.out, 1, #[.cells #[.slice x.A x.n x.c, .int .i64 x.p] 124, .cells #[.slice y.A y.n y.c, .int .i64 y.p] 124, .cells #[.int .i64 r1, .int .i64 r2, .int .i64 r3] 3], by rw [HW.out]; rfl⟩
end Go.Proofs.Ytpijmfbpdglchaa
