/- CONTRACTS of the small functions of package lake and of its reference: within, In, upto, flow, has, none, span, valid, greatest, least. -/
import Derived.Test.YtpijmfbpdglchaaProg
import Derived.Test.YtpijmfbpdglchaaKReach
namespace Go.Proofs.Ytpijmfbpdglchaa
open Go.RowKit Go.Proofs

section
variable {w : World} {A : Option Addr} {n : Nat}
theorem Rd.atW {l : List Wrk} (h : Rd encW 3 w A n l) {i : Nat} (hi : i < n) :
    ∃ b o x, A = some ⟨b, o, none⟩ ∧ b < w.heap.size ∧ l[i]? = some x ∧ w.cell? ⟨b, o + i * 3, none⟩ = some (.int .i64 x.frm) ∧ w.cell? ⟨b, o + i * 3 + 1, none⟩ = some (.int .i64 x.flow) ∧
      w.cell? ⟨b, o + i * 3 + 2, none⟩ = some (.int .i64 x.price) := by
  obtain ⟨b, o, x, e, hb, hx, hc⟩ := h.at_ hi
  exact ⟨b, o, x, e, hb, hx, hc 0 _ rfl, hc 1 _ rfl, hc 2 _ rfl⟩
theorem Rd.atA {l : List Aft} (h : Rd encA 5 w A n l) {i : Nat} (hi : i < n) :
    ∃ b o x, A = some ⟨b, o, none⟩ ∧ b < w.heap.size ∧ l[i]? = some x ∧ w.cell? ⟨b, o + i * 5, none⟩ = some (.int .i64 x.hard.1) ∧ w.cell? ⟨b, o + i * 5 + 1, none⟩ = some (.int .i64 x.hard.2) ∧
      w.cell? ⟨b, o + i * 5 + 2, none⟩ = some (.int .i64 x.soft.1) ∧ w.cell? ⟨b, o + i * 5 + 3, none⟩ = some (.int .i64 x.soft.2) ∧ w.cell? ⟨b, o + i * 5 + 4, none⟩ = some (.int .i64 x.brk) := by
  obtain ⟨b, o, x, e, hb, hx, hc⟩ := h.at_ hi
  exact ⟨b, o, x, e, hb, hx, hc 0 _ rfl, hc 1 _ rfl, hc 2 _ rfl, hc 3 _ rfl, hc 4 _ rfl⟩
end
/-- A lake's lists in memory. -/
structure RdL (w : World) (VA : Option Addr) (nV : Nat) (IA : Option Addr) (nI : Nat) (l : Lak) : Prop where
  vols : Rd enc1 1 w VA nV l.vols
  infl : Rd enc2 2 w IA nI l.inflow
theorem RdL.below {w w' : World} {VA IA : Option Addr} {nV nI : Nat} {l : Lak} (h : RdL w VA nV IA nI l) (hb : Below w.heap.size w w') : RdL w' VA nV IA nI l := ⟨h.vols.mono hb, h.infl.mono hb⟩
/-- the cells of a lake -/
abbrev lA (VA : Option Addr) (nV cV : Nat) (IA : Option Addr) (nI cI : Nat) (l : Lak) : Array Value :=
  #[.slice VA nV cV, .int .i64 l.crest, .int .i64 l.weak, .int .i64 l.soft.1, .int .i64 l.soft.2, .int .i64 l.start.1, .int .i64 l.start.2, .int .i64 l.seep.1, .int .i64 l.seep.2, .slice IA nI cI]

theorem within_c (n lo hi : Int) (w : World) :
    Calls Try.prog 78 #[.int .i64 n, .int .i64 lo, .int .i64 hi] w fun e w' => e = .returned (.bool (inB n lo hi)) ∧ w = w' := by
  by_cases h : lo ≤ n
  · go_enter Try.func78, Try.ntmps78
    go_wp2
    go_ret
    exact ⟨ret_bool (by simp [inB, h]), rfl⟩
  · have h' : n < lo := by omega
    go_enter Try.func78, Try.ntmps78
    go_wp2
    go_ret
    exact ⟨ret_bool (inB_not.2 (.inl h')).symm, rfl⟩
theorem In_c (n lo hi : Int) (w : World) :
    Calls Try.prog 62 #[.int .i64 n, .int .i64 lo, .int .i64 hi] w fun e w' => e = .returned (.bool (inB n lo hi)) ∧ w = w' := by
  by_cases h : lo ≤ n
  · go_enter Try.func62, Try.ntmps62
    go_wp2
    go_ret
    exact ⟨ret_bool (by simp [inB, h]), rfl⟩
  · have h' : n < lo := by omega
    go_enter Try.func62, Try.ntmps62
    go_wp2
    go_ret
    exact ⟨ret_bool (inB_not.2 (.inl h')).symm, rfl⟩
theorem upto_c (r : Rng) (most : Int) (w : World) :
    Calls Try.prog 79 #[.agg #[.int .i64 r.1, .int .i64 r.2], .int .i64 most] w fun e w' => e = .returned (.bool (upB r most)) ∧ Below w.heap.size w w' := by
  by_cases h : 0 ≤ r.1
  · by_cases h2 : r.1 ≤ r.2
    · go_enter Try.func79, Try.ntmps79
      go_wp2
      go_ret
      exact ⟨ret_bool (by simp [upB, h, h2]), (Below.refl _ _).alloc (Nat.le_refl _) _⟩
    · have h3 : r.2 < r.1 := by omega
      go_enter Try.func79, Try.ntmps79
      go_wp2
      go_ret
      exact ⟨ret_bool (by simp [upB]; omega), (Below.refl _ _).alloc (Nat.le_refl _) _⟩
  · have h' : r.1 < 0 := by omega
    go_enter Try.func79, Try.ntmps79
    go_wp2
    go_ret
    exact ⟨ret_bool (by simp [upB]; omega), (Below.refl _ _).alloc (Nat.le_refl _) _⟩
theorem flow_c (r : Rng) (w : World) :
    Calls Try.prog 91 #[.agg #[.int .i64 r.1, .int .i64 r.2]] w fun e w' => e = .returned (.bool (upB r 1000000)) ∧ Below w.heap.size w w' := by
  go_enter Try.func91, Try.ntmps91
  go_wp2_with (go_at_call 79; refine (upto_c r _ _).mono ?_; rintro e w' ⟨rfl, hb⟩)
  go_ret
  exact ⟨rfl, (((Below.refl _ _).alloc (Nat.le_refl _) _).trans (hb.mono (by simp)))⟩
theorem has_c (r : Rng) (n : Int) (w : World) :
    Calls Try.prog 93 #[.agg #[.int .i64 r.1, .int .i64 r.2], .int .i64 n] w fun e w' => e = .returned (.bool (inB n r.1 r.2)) ∧ Below w.heap.size w w' := by
  go_enter Try.func93, Try.ntmps93
  go_wp2_with (go_at_call 78; refine (within_c _ _ _ _).mono ?_; rintro e w' ⟨rfl, rfl⟩)
  go_ret
  exact ⟨rfl, (Below.refl _ _).alloc (Nat.le_refl _) _⟩
theorem none_c (w : World) : Calls Try.prog 66 #[] w fun e w' => e = .returned (.agg #[.int .i64 1, .int .i64 0]) ∧ Below w.heap.size w w' := by
  go_enter Try.func66, Try.ntmps66
  go_wp2
  have hb := (Below.refl w.heap.size w).alloc (Nat.le_refl _) (.cells #[.int .i64 1, .int .i64 0] 35)
  have hz := Blk.new w 35 #[.int .i64 1, .int .i64 0]
  have z0 := hz.cell 0; have z1 := hz.cell 1
  simp at z0 z1
  refine bodyPost_ret (v := .agg #[.int .i64 1, .int .i64 0]) ?_ rfl ⟨rfl, hb⟩
  simp [results, Try.f66, go_sem, z0, z1]
theorem span_c (r : Rng) (most : Int) (w : World) :
    Calls Try.prog 71 #[.agg #[.int .i64 r.1, .int .i64 r.2], .int .i64 most] w fun e w' => e = .returned (.bool (upB r most)) ∧ Below w.heap.size w w' := by
  have hv : upB r most = (inB r.1 0 r.2 && decide (r.2 ≤ most)) := by simp [upB, inB, Bool.and_assoc]
  cases h1 : inB r.1 0 r.2
  all_goals
    rw [h1] at hv
    have HM := Lib.hid hv; clear hv
    go_enter Try.func71, Try.ntmps71
    go_wp2_with (go_at_call 62; refine (In_c _ _ _ _).mono ?_; rintro e w' ⟨rfl, rfl⟩)
    go_ret
    exact ⟨ret_bool (by rw [HM.out]; simp), (Below.refl _ _).alloc (Nat.le_refl _) _⟩
theorem work_c (x : Wrk) (w : World) :
    Calls Try.prog 86 #[.agg #[.int .i64 x.frm, .int .i64 x.flow, .int .i64 x.price]] w fun e w' => e = .returned (.bool (okW x)) ∧ Below w.heap.size w w' := by
  have hv : okW x = (inB x.frm 0 60 && (inB x.flow 0 1000000 && inB x.price 0 1000000)) := rfl
  cases h1 : inB x.frm 0 60
  · rw [h1] at hv
    have HM := Lib.hid hv; clear hv
    go_enter Try.func86, Try.ntmps86
    go_wp2_with (go_at_call 78; refine (within_c _ _ _ _).mono ?_; rintro e w' ⟨rfl, rfl⟩)
    go_ret
    exact ⟨ret_bool HM.out.symm, (Below.refl _ _).alloc (Nat.le_refl _) _⟩
  · cases h2 : inB x.flow 0 1000000
    all_goals
      rw [h1, h2] at hv
      have HM := Lib.hid hv; clear hv
      go_enter Try.func86, Try.ntmps86
      go_wp2_with (go_at_call 78; refine (within_c _ _ _ _).mono ?_; rintro e w' ⟨rfl, rfl⟩)
      go_ret
      exact ⟨ret_bool HM.out.symm, (Below.refl _ _).alloc (Nat.le_refl _) _⟩
/-- the greatest of two numbers of a list -/
theorem Max_c {a b : Int} {A : Option Addr} {c : Nat} {w : World} (h : Rd enc1 1 w A 2 [a, b]) :
    Calls Try.prog 98 #[.slice A 2 c] w fun e w' => e = .returned (.int .i64 (max a b)) ∧ w = w' := by
  obtain ⟨B, o, x, rfl, hbl, hx, c0⟩ := h.at1 (i := 0) (by omega)
  obtain ⟨B', o', y, e, hbl', hy, c1⟩ := h.at1 (i := 1) (by omega)
  cases e
  cases hx; cases hy
  rw [Nat.add_zero] at c0
  clear h hbl'
  go_enter Try.func98, Try.ntmps98
  go_wp2
  go_loopw [3, 4] (fun m i wr => ∃ k : Nat, 1 ≤ k ∧ k ≤ 2 ∧ i = .int .i64 k ∧ m = .int .i64 (if k = 1 then a else max a b) ∧ wr = w) (fun _ i _ => 2 - (intOf i).toNat)
  case atStart => exact ⟨1, by omega, by omega, rfl, rfl, by first | rfl | trivial⟩
  case round =>
    obtain ⟨k, h1, h2, rfl, rfl, rfl⟩ := hrel
    obtain rfl | rfl : k = 1 ∨ k = 2 := by omega
    · simp only [if_true]
      go_wp2
      go_roundw
      case rel => exact ⟨2, by omega, by omega, rfl, by simp; omega, by first | rfl | trivial⟩
      case measure => simp [intOf]
    · simp only [show ¬ (2 : Nat) = 1 from by omega, if_false]
      go_wp2
      go_ret
      exact ⟨rfl, rfl⟩
theorem Min_c {a b : Int} {A : Option Addr} {c : Nat} {w : World} (h : Rd enc1 1 w A 2 [a, b]) :
    Calls Try.prog 111 #[.slice A 2 c] w fun e w' => e = .returned (.int .i64 (min a b)) ∧ w = w' := by
  obtain ⟨B, o, x, rfl, hbl, hx, c0⟩ := h.at1 (i := 0) (by omega)
  obtain ⟨B', o', y, e, hbl', hy, c1⟩ := h.at1 (i := 1) (by omega)
  cases e
  cases hx; cases hy
  rw [Nat.add_zero] at c0
  clear h hbl'
  go_enter Try.func111, Try.ntmps111
  go_wp2
  go_loopw [3, 4] (fun m i wr => ∃ k : Nat, 1 ≤ k ∧ k ≤ 2 ∧ i = .int .i64 k ∧ m = .int .i64 (if k = 1 then a else min a b) ∧ wr = w) (fun _ i _ => 2 - (intOf i).toNat)
  case atStart => exact ⟨1, by omega, by omega, rfl, rfl, by first | rfl | trivial⟩
  case round =>
    obtain ⟨k, h1, h2, rfl, rfl, rfl⟩ := hrel
    obtain rfl | rfl : k = 1 ∨ k = 2 := by omega
    · simp only [if_true]
      go_wp2
      go_roundw
      case rel => exact ⟨2, by omega, by omega, rfl, by simp; omega, by first | rfl | trivial⟩
      case measure => simp [intOf]
    · simp only [show ¬ (2 : Nat) = 1 from by omega, if_false]
      go_wp2
      go_ret
      exact ⟨rfl, rfl⟩
theorem greatest_c {a b : Int} {A : Option Addr} {c : Nat} {w : World} (h : Rd enc1 1 w A 2 [a, b]) :
    Calls Try.prog 76 #[.slice A 2 c] w fun e w' => e = .returned (.int .i64 (max a b)) ∧ w = w' := by
  have HM := Lib.hid (Max_c (c := c) h); clear h
  go_enter Try.func76, Try.ntmps76
  go_wp2_with fail
  refine HM.out.mono ?_
  rintro e w' ⟨rfl, rfl⟩
  go_wp2
  go_ret
  exact ⟨rfl, rfl⟩
theorem least_c {a b : Int} {A : Option Addr} {c : Nat} {w : World} (h : Rd enc1 1 w A 2 [a, b]) :
    Calls Try.prog 96 #[.slice A 2 c] w fun e w' => e = .returned (.int .i64 (min a b)) ∧ w = w' := by
  have HM := Lib.hid (Min_c (c := c) h); clear h
  go_enter Try.func96, Try.ntmps96
  go_wp2_with fail
  refine HM.out.mono ?_
  rintro e w' ⟨rfl, rfl⟩
  go_wp2
  go_ret
  exact ⟨rfl, rfl⟩
end Go.Proofs.Ytpijmfbpdglchaa
