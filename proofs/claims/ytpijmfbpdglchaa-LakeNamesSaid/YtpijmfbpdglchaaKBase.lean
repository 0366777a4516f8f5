/- CONTRACTS of the small functions of package lake and of its reference: within, In, upto, flow, has, none, span, valid, greatest, least. -/
import Derived.Test.YtpijmfbpdglchaaProg
import Derived.Test.YtpijmfbpdglchaaKPlain
import Derived.BigQuiet
import Derived.Deep.RegionHeld3
import Derived.Deep.AppendLies
import Derived.Deep.DrawnRows
import Derived.Deep.DeepCutAuto
import Derived.Test.YtpijmfbpdglchaaVoc
import Derived.Deep.QuietTactic
import Derived.StillTail
import Derived.Deep.Quiet
set_option linter.unusedVariables false
set_option linter.unusedSimpArgs false
namespace Go.Proofs.Ytpijmfbpdglchaa
open Go.RowKit Go.Proofs

section
variable {w : World} {A : Option Addr} {n : Nat}
theorem Rd.atW {l : List Wrk} (h : Rd encW 3 w A n l) {i : Nat} (hi : i < n) :
    ∃ b o x, A = some ⟨b, o, none⟩ ∧ b < w.heap.size ∧ l[i]? = some x ∧ w.cell? ⟨b, o + i * 3, none⟩ = some (.int .i64 x.frm) ∧ w.cell? ⟨b, o + i * 3 + 1, none⟩ = some (.int .i64 x.flow) ∧
      w.cell? ⟨b, o + i * 3 + 2, none⟩ = some (.int .i64 x.price) := by
  obtain ⟨b, o, x, e, hb, hx, hc⟩ := h.at_ hi
  exact ⟨b, o, x, e, hb, hx, hc 0 _ rfl, hc 1 _ rfl, hc 2 _ rfl⟩
theorem Rd.atA {l : List Aft} (h : Rd encA 5 w A n l) {i : Nat} (hi : i < n) :
    ∃ b o x, A = some ⟨b, o, none⟩ ∧ b < w.heap.size ∧ l[i]? = some x ∧ w.cell? ⟨b, o + i * 5, none⟩ = some (.int .i64 x.hard.1) ∧ w.cell? ⟨b, o + i * 5 + 1, none⟩ = some (.int .i64 x.hard.2) ∧
      w.cell? ⟨b, o + i * 5 + 2, none⟩ = some (.int .i64 x.soft.1) ∧ w.cell? ⟨b, o + i * 5 + 3, none⟩ = some (.int .i64 x.soft.2) ∧ w.cell? ⟨b, o + i * 5 + 4, none⟩ = some (.int .i64 x.brk) := by
  obtain ⟨b, o, x, e, hb, hx, hc⟩ := h.at_ hi
  exact ⟨b, o, x, e, hb, hx, hc 0 _ rfl, hc 1 _ rfl, hc 2 _ rfl, hc 3 _ rfl, hc 4 _ rfl⟩
end
/-- A lake's lists in memory. -/
structure RdL (w : World) (VA : Option Addr) (nV : Nat) (IA : Option Addr) (nI : Nat) (l : Lak) : Prop where
  vols : Rd enc1 1 w VA nV l.vols
  infl : Rd enc2 2 w IA nI l.inflow
theorem RdL.below {w w' : World} {VA IA : Option Addr} {nV nI : Nat} {l : Lak} (h : RdL w VA nV IA nI l) (hb : Below w.heap.size w w') : RdL w' VA nV IA nI l := ⟨h.vols.mono hb, h.infl.mono hb⟩
/-- the cells of a lake -/
abbrev lA (VA : Option Addr) (nV cV : Nat) (IA : Option Addr) (nI cI : Nat) (l : Lak) : Array Value :=
  #[.slice VA nV cV, .int .i64 l.crest, .int .i64 l.weak, .int .i64 l.soft.1, .int .i64 l.soft.2, .int .i64 l.start.1, .int .i64 l.start.2, .int .i64 l.seep.1, .int .i64 l.seep.2, .slice IA nI cI]

theorem within_c (n lo hi : Int) (w : World) :
    Calls Try.prog 78 #[.int .i64 n, .int .i64 lo, .int .i64 hi] w fun e w' => e = .returned (.bool (inB n lo hi)) ∧ w = w' := by
  by_cases h : lo ≤ n
  · go_enter Try.func78, Try.ntmps78
    go_wp2
    go_ret
    exact ⟨ret_bool (by simp [inB, h]), rfl⟩
  · have h' : n < lo := by omega
    go_enter Try.func78, Try.ntmps78
    go_wp2
    go_ret
    exact ⟨ret_bool (inB_not.2 (.inl h')).symm, rfl⟩
theorem In_c (n lo hi : Int) (w : World) :
    Calls Try.prog 62 #[.int .i64 n, .int .i64 lo, .int .i64 hi] w fun e w' => e = .returned (.bool (inB n lo hi)) ∧ w = w' := by
  by_cases h : lo ≤ n
  · go_enter Try.func62, Try.ntmps62
    go_wp2
    go_ret
    exact ⟨ret_bool (by simp [inB, h]), rfl⟩
  · have h' : n < lo := by omega
    go_enter Try.func62, Try.ntmps62
    go_wp2
    go_ret
    exact ⟨ret_bool (inB_not.2 (.inl h')).symm, rfl⟩
theorem upto_c (r : Rng) (most : Int) (w : World) :
    Calls Try.prog 79 #[.agg #[.int .i64 r.1, .int .i64 r.2], .int .i64 most] w fun e w' => e = .returned (.bool (upB r most)) ∧ Below w.heap.size w w' := by
  by_cases h : 0 ≤ r.1
  · by_cases h2 : r.1 ≤ r.2
    · go_enter Try.func79, Try.ntmps79
      go_wp2
      go_ret
      exact ⟨ret_bool (by simp [upB, h, h2]), (Below.refl _ _).alloc (Nat.le_refl _) _⟩
    · have h3 : r.2 < r.1 := by omega
      go_enter Try.func79, Try.ntmps79
      go_wp2
      go_ret
      exact ⟨ret_bool (by simp [upB]; omega), (Below.refl _ _).alloc (Nat.le_refl _) _⟩
  · have h' : r.1 < 0 := by omega
    go_enter Try.func79, Try.ntmps79
    go_wp2
    go_ret
    exact ⟨ret_bool (by simp [upB]; omega), (Below.refl _ _).alloc (Nat.le_refl _) _⟩
theorem flow_c (r : Rng) (w : World) :
    Calls Try.prog 91 #[.agg #[.int .i64 r.1, .int .i64 r.2]] w fun e w' => e = .returned (.bool (upB r 1000000)) ∧ Below w.heap.size w w' := by
  go_enter Try.func91, Try.ntmps91
  go_wp2_with (go_at_call 79; refine (upto_c r _ _).mono ?_; rintro e w' ⟨rfl, hb⟩)
  go_ret
  exact ⟨rfl, (((Below.refl _ _).alloc (Nat.le_refl _) _).trans (hb.mono (by simp)))⟩
theorem has_c (r : Rng) (n : Int) (w : World) :
    Calls Try.prog 93 #[.agg #[.int .i64 r.1, .int .i64 r.2], .int .i64 n] w fun e w' => e = .returned (.bool (inB n r.1 r.2)) ∧ Below w.heap.size w w' := by
  go_enter Try.func93, Try.ntmps93
  go_wp2_with (go_at_call 78; refine (within_c _ _ _ _).mono ?_; rintro e w' ⟨rfl, rfl⟩)
  go_ret
  exact ⟨rfl, (Below.refl _ _).alloc (Nat.le_refl _) _⟩
theorem none_c (w : World) : Calls Try.prog 66 #[] w fun e w' => e = .returned (.agg #[.int .i64 1, .int .i64 0]) ∧ Below w.heap.size w w' := by
  go_enter Try.func66, Try.ntmps66
  go_wp2
  have hb := (Below.refl w.heap.size w).alloc (Nat.le_refl _) (.cells #[.int .i64 1, .int .i64 0] 35)
  have hz := Blk.new w 35 #[.int .i64 1, .int .i64 0]
  have z0 := hz.cell 0; have z1 := hz.cell 1
  simp at z0 z1
  refine bodyPost_ret (v := .agg #[.int .i64 1, .int .i64 0]) ?_ rfl ⟨rfl, hb⟩
  simp [results, Try.f66, go_sem, z0, z1]
theorem span_c (r : Rng) (most : Int) (w : World) :
    Calls Try.prog 71 #[.agg #[.int .i64 r.1, .int .i64 r.2], .int .i64 most] w fun e w' => e = .returned (.bool (upB r most)) ∧ Below w.heap.size w w' := by
  have hv : upB r most = (inB r.1 0 r.2 && decide (r.2 ≤ most)) := by simp [upB, inB, Bool.and_assoc]
  cases h1 : inB r.1 0 r.2
  all_goals
    rw [h1] at hv
    have HM := Lib.hid hv; clear hv
    go_enter Try.func71, Try.ntmps71
    go_wp2_with (go_at_call 62; refine (In_c _ _ _ _).mono ?_; rintro e w' ⟨rfl, rfl⟩)
    go_ret
    exact ⟨ret_bool (by rw [HM.out]; simp), (Below.refl _ _).alloc (Nat.le_refl _) _⟩
theorem work_c (x : Wrk) (w : World) :
    Calls Try.prog 86 #[.agg #[.int .i64 x.frm, .int .i64 x.flow, .int .i64 x.price]] w fun e w' => e = .returned (.bool (okW x)) ∧ Below w.heap.size w w' := by
  have hv : okW x = (inB x.frm 0 60 && (inB x.flow 0 1000000 && inB x.price 0 1000000)) := rfl
  cases h1 : inB x.frm 0 60
  · rw [h1] at hv
    have HM := Lib.hid hv; clear hv
    go_enter Try.func86, Try.ntmps86
    go_wp2_with (go_at_call 78; refine (within_c _ _ _ _).mono ?_; rintro e w' ⟨rfl, rfl⟩)
    go_ret
    exact ⟨ret_bool HM.out.symm, (Below.refl _ _).alloc (Nat.le_refl _) _⟩
  · cases h2 : inB x.flow 0 1000000
    all_goals
      rw [h1, h2] at hv
      have HM := Lib.hid hv; clear hv
      go_enter Try.func86, Try.ntmps86
      go_wp2_with (go_at_call 78; refine (within_c _ _ _ _).mono ?_; rintro e w' ⟨rfl, rfl⟩)
      go_ret
      exact ⟨ret_bool HM.out.symm, (Below.refl _ _).alloc (Nat.le_refl _) _⟩
/-- the greatest of two numbers of a list -/
theorem Max_c {a b : Int} {A : Option Addr} {c : Nat} {w : World} (h : Rd enc1 1 w A 2 [a, b]) :
    Calls Try.prog 98 #[.slice A 2 c] w fun e w' => e = .returned (.int .i64 (max a b)) ∧ w = w' := by
  obtain ⟨B, o, x, rfl, hbl, hx, c0⟩ := h.at1 (i := 0) (by omega)
  obtain ⟨B', o', y, e, hbl', hy, c1⟩ := h.at1 (i := 1) (by omega)
  cases e
  cases hx; cases hy
  rw [Nat.add_zero] at c0
  clear h hbl'
  go_enter Try.func98, Try.ntmps98
  go_wp2
  go_loopw [3, 4] (fun m i wr => ∃ k : Nat, 1 ≤ k ∧ k ≤ 2 ∧ i = .int .i64 k ∧ m = .int .i64 (if k = 1 then a else max a b) ∧ wr = w) (fun _ i _ => 2 - (intOf i).toNat)
  case atStart => exact ⟨1, by omega, by omega, rfl, rfl, by first | rfl | trivial⟩
  case round =>
    obtain ⟨k, h1, h2, rfl, rfl, rfl⟩ := hrel
    obtain rfl | rfl : k = 1 ∨ k = 2 := by omega
    · simp only [if_true]
      go_wp2
      go_roundw
      case rel => exact ⟨2, by omega, by omega, rfl, by simp; omega, by first | rfl | trivial⟩
      case measure => simp [intOf]
    · simp only [show ¬ (2 : Nat) = 1 from by omega, if_false]
      go_wp2
      go_ret
      exact ⟨rfl, rfl⟩
theorem Min_c {a b : Int} {A : Option Addr} {c : Nat} {w : World} (h : Rd enc1 1 w A 2 [a, b]) :
    Calls Try.prog 111 #[.slice A 2 c] w fun e w' => e = .returned (.int .i64 (min a b)) ∧ w = w' := by
  obtain ⟨B, o, x, rfl, hbl, hx, c0⟩ := h.at1 (i := 0) (by omega)
  obtain ⟨B', o', y, e, hbl', hy, c1⟩ := h.at1 (i := 1) (by omega)
  cases e
  cases hx; cases hy
  rw [Nat.add_zero] at c0
  clear h hbl'
  go_enter Try.func111, Try.ntmps111
  go_wp2
  go_loopw [3, 4] (fun m i wr => ∃ k : Nat, 1 ≤ k ∧ k ≤ 2 ∧ i = .int .i64 k ∧ m = .int .i64 (if k = 1 then a else min a b) ∧ wr = w) (fun _ i _ => 2 - (intOf i).toNat)
  case atStart => exact ⟨1, by omega, by omega, rfl, rfl, by first | rfl | trivial⟩
  case round =>
    obtain ⟨k, h1, h2, rfl, rfl, rfl⟩ := hrel
    obtain rfl | rfl : k = 1 ∨ k = 2 := by omega
    · simp only [if_true]
      go_wp2
      go_roundw
      case rel => exact ⟨2, by omega, by omega, rfl, by simp; omega, by first | rfl | trivial⟩
      case measure => simp [intOf]
    · simp only [show ¬ (2 : Nat) = 1 from by omega, if_false]
      go_wp2
      go_ret
      exact ⟨rfl, rfl⟩
theorem greatest_c {a b : Int} {A : Option Addr} {c : Nat} {w : World} (h : Rd enc1 1 w A 2 [a, b]) :
    Calls Try.prog 76 #[.slice A 2 c] w fun e w' => e = .returned (.int .i64 (max a b)) ∧ w = w' := by
  have HM := Lib.hid (Max_c (c := c) h); clear h
  go_enter Try.func76, Try.ntmps76
  go_wp2_with fail
  refine HM.out.mono ?_
  rintro e w' ⟨rfl, rfl⟩
  go_wp2
  go_ret
  exact ⟨rfl, rfl⟩
theorem least_c {a b : Int} {A : Option Addr} {c : Nat} {w : World} (h : Rd enc1 1 w A 2 [a, b]) :
    Calls Try.prog 96 #[.slice A 2 c] w fun e w' => e = .returned (.int .i64 (min a b)) ∧ w = w' := by
  have HM := Lib.hid (Min_c (c := c) h); clear h
  go_enter Try.func96, Try.ntmps96
  go_wp2_with fail
  refine HM.out.mono ?_
  rintro e w' ⟨rfl, rfl⟩
  go_wp2
  go_ret
  exact ⟨rfl, rfl⟩
end Go.Proofs.Ytpijmfbpdglchaa

namespace Go.Proofs.Ytpijmfbpdglchaa
open Go.RowKit Go.Proofs
theorem Rd.atH {w : World} {A : Option Addr} {n : Nat} {l : List Hou} (h : Rd encH 3 w A n l) {i : Nat} (hi : i < n) :
    ∃ b o x, A = some ⟨b, o, none⟩ ∧ b < w.heap.size ∧ l[i]? = some x ∧ w.cell? ⟨b, o + i * 3, none⟩ = some (.int .i64 x.far) ∧ w.cell? ⟨b, o + i * 3 + 1, none⟩ = some (.int .i64 x.high) ∧
      w.cell? ⟨b, o + i * 3 + 2, none⟩ = some (.int .i64 x.wide) := by
  obtain ⟨b, o, x, e, hb, hx, hc⟩ := h.at_ hi
  exact ⟨b, o, x, e, hb, hx, hc 0 _ rfl, hc 1 _ rfl, hc 2 _ rfl⟩
theorem Rd.atQ {w : World} {A : Option Addr} {n : Nat} {l : List Rea} (h : Rd encQ 3 w A n l) {i : Nat} (hi : i < n) :
    ∃ b o x, A = some ⟨b, o, none⟩ ∧ b < w.heap.size ∧ l[i]? = some x ∧ w.cell? ⟨b, o + i * 3, none⟩ = some (.bool x.may) ∧ w.cell? ⟨b, o + i * 3 + 1, none⟩ = some (.int .i64 x.height) ∧
      w.cell? ⟨b, o + i * 3 + 2, none⟩ = some (.int .i64 x.frm) := by
  obtain ⟨b, o, x, e, hb, hx, hc⟩ := h.at_ hi
  exact ⟨b, o, x, e, hb, hx, hc 0 _ rfl, hc 1 _ rfl, hc 2 _ rfl⟩
theorem house_c (x : Hou) (w : World) :
    Calls Try.prog 81 #[.agg #[.int .i64 x.far, .int .i64 x.high, .int .i64 x.wide]] w fun e w' => e = .returned (.bool (okH x)) ∧ Below w.heap.size w w' := by
  have hv : okH x = (inB x.far 0 200 && (inB x.high 0 10000 && inB x.wide 1 10000)) := rfl
  cases h1 : inB x.far 0 200
  · rw [h1] at hv
    have HM := Lib.hid hv; clear hv
    go_enter Try.func81, Try.ntmps81
    go_wp2_with (go_at_call 78; refine (within_c _ _ _ _).mono ?_; rintro e w' ⟨rfl, rfl⟩)
    go_ret
    exact ⟨ret_bool HM.out.symm, (Below.refl _ _).alloc (Nat.le_refl _) _⟩
  · cases h2 : inB x.high 0 10000
    all_goals
      rw [h1, h2] at hv
      have HM := Lib.hid hv; clear hv
      go_enter Try.func81, Try.ntmps81
      go_wp2_with (go_at_call 78; refine (within_c _ _ _ _).mono ?_; rintro e w' ⟨rfl, rfl⟩)
      go_ret
      exact ⟨ret_bool HM.out.symm, (Below.refl _ _).alloc (Nat.le_refl _) _⟩
end Go.Proofs.Ytpijmfbpdglchaa

namespace Go.Proofs.Ytpijmfbpdglchaa
open Go.RowKit Go.Proofs
attribute [local go_sem ↓] Go.wp_at_zero Go.wp_at_succ

/-- the cells of a lake that is followed -/
abbrev pA (VA : Option Addr) (nV cV : Nat) (IA : Option Addr) (nI cI : Nat) (l : Lak) (WA : Option Addr) (nW cW : Nat) (CA : Option Addr) (nC cC : Nat) : Array Value :=
  #[.slice VA nV cV, .int .i64 l.crest, .int .i64 l.weak, .int .i64 l.soft.1, .int .i64 l.soft.2, .int .i64 l.start.1, .int .i64 l.start.2, .int .i64 l.seep.1, .int .i64 l.seep.2, .slice IA nI cI, .slice WA nW cW, .slice CA nC cC]
/-- A lake, works and a choice in memory. -/
structure RdP (w : World) (VA : Option Addr) (nV : Nat) (IA : Option Addr) (nI : Nat) (l : Lak) (WA : Option Addr) (nW : Nat) (ws : List Wrk) (CA : Option Addr) (nC : Nat) (c : List Int) : Prop where
  l : RdL w VA nV IA nI l
  wk : Rd encW 3 w WA nW ws
  c : Rd enc1 1 w CA nC c
section
variable {w w' : World} {VA IA WA CA : Option Addr} {nV nI nW nC cV cI cW cC : Nat} {l : Lak} {ws : List Wrk} {c : List Int}
theorem RdP.below (h : RdP w VA nV IA nI l WA nW ws CA nC c) (hb : Below w.heap.size w w') : RdP w' VA nV IA nI l WA nW ws CA nC c := ⟨h.l.below hb, h.wk.mono hb, h.c.mono hb⟩

theorem outTo_succ {ws : List Wrk} {c : List Int} {h : Int} {k : Nat} {i : Int} {x : Wrk} (hc : c[k]? = some i) (hx : ws[i.toNat]? = some x) : outTo ws c h (k + 1) = outTo ws c h k + (if x.frm ≤ h then x.flow else 0) := by
  simp [outTo, hc, flowAt, hx]

set_option maxRecDepth 100000 in
set_option maxHeartbeats 1000000 in
theorem out_c (h : RdP w VA nV IA nI l WA nW ws CA nC c) (hw : WOk ws) (hc : choB ws.length c = true) (hour : Int) :
    Calls Try.prog 59 #[.agg (pA VA nV cV IA nI cI l WA nW cW CA nC cC), .int .i64 hour] w fun e w' => e = .returned (.int .i64 (outAt ws c hour)) ∧ Below w.heap.size w w' := by
  have hwl := h.wk.len; have hcl := h.c.len
  have hcho := (choB_iff.1 hc).1
  have hlc := cho_len hc
  have hw10 := hw.n
  have HW := Lib.hid hw
  have HH := Lib.hid h
  have HCH := Lib.hid hcho
  have HB0 := Lib.hid ((Below.refl w.heap.size w).alloc (Nat.le_refl _) (.cells (pA VA nV cV IA nI cI l WA nW cW CA nC cC) 126))
  have HX0 := Lib.hid (Blk.new w 126 (pA VA nV cV IA nI cI l WA nW cW CA nC cC))
  clear h hw hcho hc
  go_enter Try.func59, Try.ntmps59
  go_wp2_with fail
  go_loopw [4, 11] (fun s i wr => ∃ k : Nat, k ≤ nC ∧ i = .int .i64 k ∧ s = .int .i64 (outTo ws c hour k) ∧ Blk wr w.heap.size 126 (pA VA nV cV IA nI cI l WA nW cW CA nC cC) ∧ Below w.heap.size w wr) (fun _ i _ => nC - (intOf i).toNat)
  case atStart => exact ⟨0, Nat.zero_le _, rfl, rfl, HX0.out, HB0.out⟩
  case round =>
    obtain ⟨k, hk, rfl, rfl, hbx, hb⟩ := hrel
    have HB := Lib.hid hb; have HBX := Lib.hid hbx
    by_cases hlt : k < nC
    · obtain ⟨B, o, x, rfl, hbl, hx, c0⟩ := (HH.out.c.below hb).at1 hlt
      have hxr := HCH.out k x hx
      obtain ⟨i, rfl⟩ : ∃ i : Nat, x = (i : Int) := ⟨x.toNat, by omega⟩
      obtain ⟨B2, o2, y, rfl, hbl2, hy, d0, d1, d2⟩ := (HH.out.wk.below hb).atW (i := i) (by omega)
      have hs := outTo_succ (h := hour) hx (show ws[((i : Nat) : Int).toNat]? = some y from by simpa using hy)
      have hbd := outTo_bd HW.out c hour k
      have hfl := (okW_iff.1 (HW.out.all _ _ hy)).2.1
      have hw1 : IntKind.i64.wrap (outTo ws c hour k + y.flow) = outTo ws c hour k + y.flow := wi (by omega)
      have p10 := hbx.cell 10
      have hlx := hbx.lt
      simp at p10
      have hkn : (k : Int) < (nC : Int) := by omega
      have hk0 : (0 : Int) ≤ (k : Int) := by omega
      have hin : (i : Int) < (nW : Int) := by omega
      have hi0 : (0 : Int) ≤ (i : Int) := by omega
      have HB4 := Lib.hid (hb.alloc hb.size (.cells #[.int .i64 y.frm, .int .i64 y.flow, .int .i64 y.price] 71))
      have HX4 := Lib.hid (hbx.alloc (.cells #[.int .i64 y.frm, .int .i64 y.flow, .int .i64 y.price] 71))
      have HS := Lib.hid hs
      clear hbx hb hx hy hs hbd hfl hxr
      by_cases hf : y.frm ≤ hour
      · have hs2 : outTo ws c hour (k + 1) = outTo ws c hour k + y.flow := by rw [HS.out, if_pos hf]
        have HS2 := Lib.hid hs2.symm
        clear hs2
        go_wp2_with fail
        go_roundw
        case rel => exact ⟨k + 1, by omega, by go_num, by rw [HS2.out], HX4.out, HB4.out⟩
        case measure => simp [intOf] <;> omega
      · have hf' : hour < y.frm := by omega
        have hs2 : outTo ws c hour (k + 1) = outTo ws c hour k := by rw [HS.out, if_neg hf]; omega
        have HS2 := Lib.hid hs2.symm
        clear hs2
        go_wp2_with fail
        go_roundw
        case rel => exact ⟨k + 1, by omega, by go_num, by rw [HS2.out], HX4.out, HB4.out⟩
        case measure => simp [intOf] <;> omega
    · obtain rfl : k = nC := by omega
      have HE := Lib.hid (show outTo ws c hour k = outAt ws c hour from by rw [outAt, hcl])
      clear hbx hb
      go_wp2_with fail
      go_ret
      exact ⟨ret_int HE.out, HB.out⟩
theorem bound_c (h : RdL w VA nV IA nI l) (hok : LOk l) (soft : Bool) :
    Calls Try.prog 77 #[.agg (pA VA nV cV IA nI cI l WA nW cW CA nC cC), .int .i64 (if soft then 1 else 0)] w fun e w' => e = .returned (.int .i64 (bdK l soft)) ∧ Below w.heap.size w w' := by
  have hcr := hok.crest; have hwk := hok.weak
  have hvl := h.vols.len
  have HB0 := Lib.hid ((Below.refl w.heap.size w).alloc (Nat.le_refl _) (.cells (pA VA nV cV IA nI cI l WA nW cW CA nC cC) 126))
  cases soft
  · obtain ⟨i, hi⟩ : ∃ i : Nat, l.crest = (i : Int) := ⟨l.crest.toNat, by omega⟩
    obtain ⟨B, o, x, rfl, hbl, hx, c0⟩ := h.vols.at1 (i := i) (by omega)
    have hE : bdK l false = x := by simp only [bdK]; simp [atI, hi, hx]
    have HE := Lib.hid hE
    have hin : (i : Int) < (nV : Int) := by omega
    have hi0 : (0 : Int) ≤ (i : Int) := by omega
    simp only [pA, hi] at HB0 ⊢
    clear hE h hx hok hcr hwk
    go_enter Try.func77, Try.ntmps77
    go_wp2_with fail
    go_ret
    exact ⟨ret_int HE.out.symm, HB0.out⟩
  · obtain ⟨i, hi⟩ : ∃ i : Nat, l.weak = (i : Int) := ⟨l.weak.toNat, by omega⟩
    obtain ⟨B, o, x, rfl, hbl, hx, c0⟩ := h.vols.at1 (i := i) (by omega)
    have hE : bdK l true = x := by simp only [bdK]; simp [atI, hi, hx]
    have HE := Lib.hid hE
    have hin : (i : Int) < (nV : Int) := by omega
    have hi0 : (0 : Int) ≤ (i : Int) := by omega
    simp only [pA, hi] at HB0 ⊢
    clear hE h hx hok hcr hwk
    go_enter Try.func77, Try.ntmps77
    go_wp2_with fail
    go_ret
    exact ⟨ret_int HE.out.symm, HB0.out⟩
end
end Go.Proofs.Ytpijmfbpdglchaa

namespace Go.Proofs.Ytpijmfbpdglchaa
open Go.RowKit

/-- A world in which all that lay in w0 lies unturned. -/
def Ext (w0 : World) : Type := { W : World // Below w0.heap.size w0 W }
instance (w0 : World) : Nonempty (Ext w0) := ⟨⟨w0, Below.refl _ _⟩⟩
def Ext.w {w0 : World} (p : Ext w0) : World := p.1
theorem Ext.below {w0 : World} (p : Ext w0) : Below w0.heap.size w0 p.w := p.2
@[go_sem] theorem Ext.cell {w0 : World} (p : Ext w0) {b o : Nat} (h : b < w0.heap.size) : p.w.cell? ⟨b, o, none⟩ = w0.cell? ⟨b, o, none⟩ := p.below.cell (p := ⟨b, o, none⟩) h
@[go_sem] theorem Ext.ex {w0 : World} (p : Ext w0) : (∃ q : Ext w0, p.w = q.w) = True := by simp only [eq_iff_iff, iff_true]; exact ⟨p, rfl⟩

section
variable {P : Program} {ops : Array Oper} {md : Region.Mode} {C : World → Prop}

theorem ext_call {f : FuncId} {args : Array Value} {w0 : World} {v : Value} {p : Ext w0} (h : Calls P f args p.w fun e w' => e = .returned v ∧ Below p.w.heap.size p.w w') :
    Calls P f args p.w fun e w'' => e = .returned v ∧ ∃ q : Ext w0, w'' = q.w :=
  h.mono fun _ w' ⟨he, hb⟩ => ⟨he, ⟨w', p.below.trans (hb.mono p.below.size)⟩, rfl⟩
theorem ext_same {f : FuncId} {args : Array Value} {w0 : World} {v : Value} {p : Ext w0} (h : Calls P f args p.w fun e w' => e = .returned v ∧ p.w = w') :
    Calls P f args p.w fun e w'' => e = .returned v ∧ ∃ q : Ext w0, w'' = q.w :=
  h.mono fun _ _ ⟨he, hb⟩ => ⟨he, p, hb.symm⟩

theorem wp_region_ext {id : Nat} {Q : Exit → Act → World → Prop} {a : Act} {w : World} {l : List Oper} (hm : P.follows .mixedOrders = true) (hB : Region.lexB .any l.toArray = true)
    (h : wpQuiet P l.toArray (fun w' => ∃ p : Ext w, w' = p.w) (fun a' => ∀ w', (∃ p : Ext w, w' = p.w) → Q .normal a' w') l a) : (Code.region id l.toArray true).wp P Q a w :=
  wp_region_quiet (C := fun w' => ∃ p : Ext w, w' = p.w) hm hB ⟨⟨w.drew, (Below.refl _ _).drew⟩, rfl⟩ (by simpa using h)

/-- every operation that stands ready lies in the head -/
def headQ (P : Program) (md : Region.Mode) (ops : Array Oper) (C : World → Prop) (n : Nat) (L : Array Bool → Act → Prop) : Nat → Array Bool → Act → Prop
  | 0, listed, a => L listed a
  | f + 1, listed, a => Region.ready md ops listed ≠ [] ∧ ∀ i ∈ Region.ready md ops listed, i < n ∧ qOp P ops C i (headQ P md ops C n L f (listed.setIfInBounds i true)) a

theorem any_of_headQ {n g : Nat} {L : Array Bool → Act → Prop} {Q' : Exit → Act → World → Prop} (hL : ∀ listed a w, C w → L listed a → wpAny P md ops Q' g listed a w) :
    ∀ (f : Nat) (listed : Array Bool) (a : Act) (w : World), C w → headQ P md ops C n L f listed a → wpAny P md ops Q' (f + g) listed a w
  | 0, listed, a, w, hC, h => by rw [Nat.zero_add]; exact hL _ _ _ hC h
  | f + 1, listed, a, w, hC, h => by
    rw [show f + 1 + g = (f + g) + 1 by omega]
    exact ⟨fun h0 => absurd h0 h.1, fun i hi => wpOp_of_qOp hC (fun a' w' hC' h' => any_of_headQ hL f _ a' w' hC' h') (h.2 i hi).2⟩

theorem headQ_first {n i : Nat} {oi : Oper} {v : Value} {L : Array Bool → Act → Prop} (hi : ops[i]? = some oi) (hsel : ∀ (j : Nat) (o : Oper) cs b, ops[j]? = some o → o.op ≠ .select cs b)
    (hs : Region.sinkB md ops n = true) (hc : Region.chainB md ops n = true) (hn : n < ops.size) (hin : i < n) (hdone : ∀ listed a, L listed a → ∀ j ∈ Region.ready md ops listed, n ≤ j) :
    ∀ (f : Nat) (listed : Array Bool) (a : Act), HeadInv md ops n listed →
      (∀ j oj, ops[j]? = some oj → j ≠ i → listed.getD j true = false → (∀ e ∈ oj.after, Region.binds md e = true → e.on ≠ i) → oi.apart ops oj = true) →
      i ∈ Region.ready md ops listed → YieldsIn P ops C oi v a → headQ P md ops C n L f (listed.setIfInBounds i true) (a.put oi.dst v) → headQ P md ops C n L (f + 1) listed a := by
  intro f
  induction f with
  | zero =>
    intro listed a inv _ hr hy H
    have hun := (mem_ready.1 hr).1
    refine ⟨fun h => (by rw [h] at hr; cases hr), fun j hj => ?_⟩
    have hjn : j < n := by
      rcases Nat.lt_or_ge j n with h | h
      · exact h
      · exact absurd hj (tail_waits hs hc hn inv _ i rfl hin hun j h)
    refine ⟨hjn, ?_⟩
    by_cases hji : j = i
    · subst hji; exact hy.qOp hi H
    · have := hdone _ _ H j (ready_mono hj hji)
      omega
  | succ f ih =>
    intro listed a inv hfree hr hy H
    have hun := (mem_ready.1 hr).1
    refine ⟨fun h => (by rw [h] at hr; cases hr), fun j hj => ?_⟩
    have hjn : j < n := by
      rcases Nat.lt_or_ge j n with h | h
      · exact h
      · exact absurd hj (tail_waits hs hc hn inv _ i rfl hin hun j h)
    refine ⟨hjn, ?_⟩
    by_cases hji : j = i
    · subst hji; exact hy.qOp hi H
    · have h1 := (H.2 j (ready_mono hj hji)).2
      obtain ⟨hjun, oj, hoj, hall⟩ := mem_ready.1 hj
      have hnot : ∀ e ∈ oj.after, Region.binds md e = true → e.on ≠ i := fun e he hb heq => by
        have h1 := hall e he hb
        rw [heq, getD_both hun] at h1
        cases h1
      have h2 := qOp_put hoj (hfree j oj hoj hji hjun hnot) (fun cs b => hsel i oi cs b hi) (fun cs b => hsel j oj cs b hoj) hy h1
      have hfree' : ∀ k ok, ops[k]? = some ok → k ≠ i → (listed.setIfInBounds j true).getD k true = false →
          (∀ e ∈ ok.after, Region.binds md e = true → e.on ≠ i) → oi.apart ops ok = true := fun k ok hk hki hun hno => by
        refine hfree k ok hk hki ?_ hno
        by_cases hjk : j = k
        · subst hjk; exact hjun
        · rw [getD_set_ne true hjk] at hun; exact hun
      refine qOp_mono (fun a' h3 => ih (listed.setIfInBounds j true) a' (inv.set hj hjn) hfree' (ready_mono hr (Ne.symm hji)) h3.1 ?_) h2
      rw [Array.setIfInBounds_comm _ _ hji]
      exact h3.2

theorem headQ_lex {n g : Nat} {Lq : Act → Prop} (hsel : Region.noSelect ops = true) (hs : Region.sinkB md ops n = true) (hc : Region.chainB md ops n = true) (hn : n < ops.size) :
    ∀ (l : List Oper) (k : Nat) (listed : Array Bool) (a : Act), (∀ j, j < l.length → l[j]? = ops[k + j]?) → k + l.length = n → HeadInv md ops n listed →
    Region.lexHead md ops g l.length k listed = true → wpQuiet P ops C Lq l a →
    headQ P md ops C n (fun listed' a' => Region.seqB md ops g n listed' = true ∧ Lq a') l.length listed a
  | [], k, listed, a, _, hk, _, hB, h => by
    have : k = n := by simpa using hk
    subst this
    exact ⟨by simpa [Region.lexHead] using hB, h⟩
  | o :: l, k, listed, a, hl, hk, inv, hB, h => by
    have h0 : ops[k]? = some o := by simpa using (hl 0 (by simp)).symm
    simp only [List.length_cons, Region.lexHead, Bool.and_eq_true] at hB
    obtain ⟨⟨hr, hf⟩, hB'⟩ := hB
    have hkn : k < n := by simp only [List.length_cons] at hk; omega
    have hr' : k ∈ Region.ready md ops listed := by simpa using hr
    have hst : qOp P ops C k (wpQuiet P ops C Lq l) a := by unfold qOp; simp only [h0]; exact h
    obtain ⟨v, hy, hK⟩ := yieldsIn_of_qOp h0 hst
    exact headQ_first h0 (Region.noSelect_spec hsel) hs hc hn hkn (fun listed' a' hL => seqB_ready hL.1) l.length listed a inv (Region.free_spec h0 hf) hr' hy
      (headQ_lex hsel hs hc hn l (k + 1) _ _ (fun j hj => by have := hl (j + 1) (by simp; omega); simpa [Nat.add_assoc, Nat.add_comm 1 j] using this) (by simp only [List.length_cons] at hk; omega) (inv.set hr' hkn) hB' hK)

/-- A head of quiet operations in whatever order, then a tail in the order of the text. -/
theorem wp_region_quiet_tail {id : Nat} {Q : Exit → Act → World → Prop} {a : Act} {w : World} {l : List Oper} (C : World → Prop) (n : Nat) (hm : P.follows .mixedOrders = true) (hB : Region.lexTailB .any l.toArray n = true)
    (hC : C w.drew) (h : wpQuiet P l.toArray C (fun a' => ∀ w', C w' → wpList P l.toArray Q (l.drop n) a' w') (l.take n) a) : (Code.region id l.toArray true).wp P Q a w := by
  simp only [Region.lexTailB, Bool.and_eq_true, decide_eq_true_eq] at hB
  obtain ⟨⟨⟨⟨hsel, hn⟩, hs⟩, hc⟩, hlex⟩ := hB
  have hn' : n < l.length := by simpa using hn
  have htl : (l.take n).length = n := by simp; omega
  have hdl : (l.drop n).length = l.toArray.size - n := by simp
  have inv0 : HeadInv .any l.toArray n (Array.replicate l.toArray.size false) :=
    ⟨by simp, fun j oj _ hl => (by rw [getD_replicate_false] at hl; cases hl), fun t _ ht => getD_in (by simpa using ht) (getD_replicate_false _ _)⟩
  have H := headQ_lex (md := .any) (g := l.toArray.size - n) hsel hs hc hn (l.take n) 0 _ a (fun j hj => by
    have hj' : j < n := by rw [htl] at hj; exact hj
    simp [hj']) (by simpa using htl) inv0 (by rw [htl]; exact hlex) h
  refine wp_region_any hm ?_
  have := any_of_headQ (Q' := Q) (g := l.toArray.size - n) (fun listed a' w' hC' hL => by
    have := wpAny_of_seq (md := .any) (Q' := Q) (l.drop n) n listed a' w' (fun j => by simp [List.getElem?_drop]) (by rw [hdl]; exact hL.1) (hL.2 w' hC')
    rwa [hdl] at this) _ _ _ _ hC H
  rw [htl, show n + (l.toArray.size - n) = l.toArray.size by omega] at this
  exact this

theorem wp_region_ext_tail {id : Nat} {Q : Exit → Act → World → Prop} {a : Act} {w : World} {l : List Oper} (n : Nat) (hm : P.follows .mixedOrders = true) (hB : Region.lexTailB .any l.toArray n = true)
    (h : wpQuiet P l.toArray (fun w' => ∃ p : Ext w, w' = p.w) (fun a' => ∀ w', (∃ p : Ext w, w' = p.w) → wpList P l.toArray Q (l.drop n) a' w') (l.take n) a) : (Code.region id l.toArray true).wp P Q a w :=
  wp_region_quiet_tail (fun w' => ∃ p : Ext w, w' = p.w) n hm hB ⟨⟨w.drew, (Below.refl _ _).drew⟩, rfl⟩ h
end
end Go.Proofs.Ytpijmfbpdglchaa

namespace Go.Proofs.Ytpijmfbpdglchaa
open Go.RowKit Go.Proofs

section
variable {p : Rng → Bool}
theorem allRng_1 (x : Rng) (B : Nat) (w : World) (_hBl : B < w.heap.size) (hB : w.cell? ⟨B, 0, none⟩ = some (.func (.func 91) #[] #[]))
    (hp : ∀ W : World, Below w.heap.size w W → Calls Try.prog 91 #[.agg #[.int .i64 x.1, .int .i64 x.2]] W fun e w' => e = .returned (.bool (p x)) ∧ Below W.heap.size W w') :
    Calls Try.prog 109 #[.agg #[.int .i64 x.1, .int .i64 x.2], .pointer (some ⟨B, 0, none⟩)] w fun e w' => e = .returned (.bool (!p x)) ∧ Below w.heap.size w w' := by
  have hp' := hp (w.alloc (.cells #[.int .i64 x.1, .int .i64 x.2] 35)) ((Below.refl w.heap.size w).alloc (Nat.le_refl _) (.cells #[.int .i64 x.1, .int .i64 x.2] 35))
  have HP := Lib.hid hp'; clear hp hp'
  go_enter Try.func109, Try.ntmps109
  go_wp2_with (go_at_call 91; refine (HP.out).mono ?_; rintro e w' ⟨rfl, hb⟩)
  go_ret
  exact ⟨rfl, ((Below.refl _ _).alloc (Nat.le_refl _) _).trans (hb.mono (by simp))⟩

theorem idxRng_c {l : List (Rng)} {A : Option Addr} {n c : Nat} {B : Nat} (w : World) (h : Rd enc2 2 w A n l) (hn : n ≤ maxLen) (hBl : B < w.heap.size)
    (hB : w.cell? ⟨B, 0, none⟩ = some (.func (.func 91) #[] #[]))
    (hp : ∀ (i : Nat) (x : Rng) (W : World), l[i]? = some x → Below w.heap.size w W → Calls Try.prog 91 #[.agg #[.int .i64 x.1, .int .i64 x.2]] W fun e w' => e = .returned (.bool (p x)) ∧ Below W.heap.size W w') :
    Calls Try.prog 127 #[.slice A n c, .func (.func 109) #[] #[.pointer (some ⟨B, 0, none⟩)]] w
      fun e w' => (∃ r : Int, e = .returned (.int .i64 r) ∧ (!decide (r ≥ 0)) = allB p l) ∧ Below w.heap.size w w' := by
  unfold maxLen at hn
  have HP := Lib.hid hp; clear hp
  go_enter Try.func127, Try.ntmps127
  go_wp2_with fail
  go_loopw [5, 8] (fun _ i wr => ∃ k : Nat, k ≤ n ∧ i = .int .i64 k ∧ Below w.heap.size w wr ∧ ∀ (j : Nat) (x : Rng), j < k → l[j]? = some x → p x = true) (fun _ i _ => n - (intOf i).toNat)
  case atStart => exact ⟨0, Nat.zero_le _, rfl, Below.refl _ _, fun j x hj => absurd hj (by omega)⟩
  case round =>
    obtain ⟨k, hk, rfl, hb, hall⟩ := hrel
    have HA := Lib.hid hall; clear hall
    by_cases hlt : k < n
    · obtain ⟨b, o, x, rfl, hbl, hx, h0, h1⟩ := (h.below hb).at2 hlt
      have hx1 := fun W (hW : Below wr.heap.size wr W) => HP.out k x W hx (hb.trans (hW.mono hb.size))
      have HX1 := Lib.hid hx1; clear hx1
      have HX := Lib.hid hx; clear hx
      have hB' := (hb.cell (p := ⟨B, 0, none⟩) hBl).trans hB
      have hBl' : B < wr.heap.size := Nat.lt_of_lt_of_le hBl hb.size
      cases hm : p x
      all_goals
        have HM := Lib.hid hm; clear hm
        go_wp2_with (go_at_call 109; refine (allRng_1 _ _ _ hBl' hB' HX1.out).mono ?_; rintro e w' ⟨rfl, hb'⟩; simp only [HM.out])
      · go_ret
        exact ⟨⟨k, rfl, by rw [(allB_not (p := p) (l := l)).2 ⟨k, x, HX.out, HM.out⟩]; simp⟩, hb.trans (hb'.mono hb.size)⟩
      · go_roundw
        case rel => exact ⟨k + 1, by omega, by go_num, hb.trans (hb'.mono hb.size), fun j y hj hy => by
          rcases Nat.lt_or_ge j k with hjk | hjk
          · exact HA.out j y hjk hy
          · obtain rfl : j = k := by omega
            rw [HX.out] at hy; cases hy; exact HM.out⟩
        case measure => simp [intOf]; omega
    · go_wp2
      go_ret
      refine ⟨⟨-1, rfl, ?_⟩, hb⟩
      rw [(allB_iff (p := p) (l := l)).2 fun i x hx => HA.out i x (by have := (List.getElem?_eq_some_iff.1 hx).1; have := h.len; omega) hx]
      simp

theorem containsRng_c {l : List (Rng)} {A : Option Addr} {n c : Nat} {B : Nat} (w : World) (h : Rd enc2 2 w A n l) (hn : n ≤ maxLen) (hBl : B < w.heap.size)
    (hB : w.cell? ⟨B, 0, none⟩ = some (.func (.func 91) #[] #[]))
    (hp : ∀ (i : Nat) (x : Rng) (W : World), l[i]? = some x → Below w.heap.size w W → Calls Try.prog 91 #[.agg #[.int .i64 x.1, .int .i64 x.2]] W fun e w' => e = .returned (.bool (p x)) ∧ Below W.heap.size W w') :
    Calls Try.prog 108 #[.slice A n c, .func (.func 109) #[] #[.pointer (some ⟨B, 0, none⟩)]] w
      fun e w' => e = .returned (.bool (!allB p l)) ∧ Below w.heap.size w w' := by
  have hc := idxRng_c (c := c) w h hn hBl hB hp
  have HC := Lib.hid hc; clear hc hp
  go_enter Try.func108, Try.ntmps108
  go_wp2_with (go_at_call 127; refine (HC.out).mono ?_; rintro e w' ⟨⟨r, rfl, hr⟩, hb⟩; have HR := Lib.hid hr; clear hr)
  go_ret
  exact ⟨ret_bool (by rw [← HR.out]; simp), hb⟩

theorem allRng_c {l : List (Rng)} {A : Option Addr} {n c : Nat} (w : World) (h : Rd enc2 2 w A n l) (hn : n ≤ maxLen)
    (hp : ∀ (i : Nat) (x : Rng) (W : World), l[i]? = some x → Below w.heap.size w W → Calls Try.prog 91 #[.agg #[.int .i64 x.1, .int .i64 x.2]] W fun e w' => e = .returned (.bool (p x)) ∧ Below W.heap.size W w') :
    Calls Try.prog 92 #[.slice A n c, .func (.func 91) #[] #[]] w
      fun e w' => e = .returned (.bool (allB p l)) ∧ Below w.heap.size w w' := by
  have hbx := (Below.refl w.heap.size w).alloc (Nat.le_refl _) (.cells #[.func (.func 91) #[] #[]] 166)
  have hc := containsRng_c (c := c) (B := w.heap.size) (w.alloc (.cells #[.func (.func 91) #[] #[]] 166)) (h.mono hbx) hn (by simp) (by simp) (fun i x W hx hW => hp i x W hx (hbx.trans (hW.mono (by simp))))
  have HC := Lib.hid hc; clear hc hp
  go_enter Try.func92, Try.ntmps92
  go_wp2_with (go_at_call 108; refine (HC.out).mono ?_; rintro e w' ⟨rfl, hb⟩)
  go_ret
  exact ⟨ret_bool (by simp), ((Below.refl _ _).alloc (Nat.le_refl _) _).trans (hb.mono (by simp))⟩
end
end Go.Proofs.Ytpijmfbpdglchaa

namespace Go.Proofs.Ytpijmfbpdglchaa
open Go.RowKit Go.Proofs

section
variable {p : Wrk → Bool}
theorem allWrk_1 (x : Wrk) (B : Nat) (w : World) (_hBl : B < w.heap.size) (hB : w.cell? ⟨B, 0, none⟩ = some (.func (.func 86) #[] #[]))
    (hp : ∀ W : World, Below w.heap.size w W → Calls Try.prog 86 #[.agg #[.int .i64 x.frm, .int .i64 x.flow, .int .i64 x.price]] W fun e w' => e = .returned (.bool (p x)) ∧ Below W.heap.size W w') :
    Calls Try.prog 102 #[.agg #[.int .i64 x.frm, .int .i64 x.flow, .int .i64 x.price], .pointer (some ⟨B, 0, none⟩)] w fun e w' => e = .returned (.bool (!p x)) ∧ Below w.heap.size w w' := by
  have hp' := hp (w.alloc (.cells #[.int .i64 x.frm, .int .i64 x.flow, .int .i64 x.price] 71)) ((Below.refl w.heap.size w).alloc (Nat.le_refl _) (.cells #[.int .i64 x.frm, .int .i64 x.flow, .int .i64 x.price] 71))
  have HP := Lib.hid hp'; clear hp hp'
  go_enter Try.func102, Try.ntmps102
  go_wp2_with (go_at_call 86; refine (HP.out).mono ?_; rintro e w' ⟨rfl, hb⟩)
  go_ret
  exact ⟨rfl, ((Below.refl _ _).alloc (Nat.le_refl _) _).trans (hb.mono (by simp))⟩

theorem idxWrk_c {l : List (Wrk)} {A : Option Addr} {n c : Nat} {B : Nat} (w : World) (h : Rd encW 3 w A n l) (hn : n ≤ maxLen) (hBl : B < w.heap.size)
    (hB : w.cell? ⟨B, 0, none⟩ = some (.func (.func 86) #[] #[]))
    (hp : ∀ (i : Nat) (x : Wrk) (W : World), l[i]? = some x → Below w.heap.size w W → Calls Try.prog 86 #[.agg #[.int .i64 x.frm, .int .i64 x.flow, .int .i64 x.price]] W fun e w' => e = .returned (.bool (p x)) ∧ Below W.heap.size W w') :
    Calls Try.prog 115 #[.slice A n c, .func (.func 102) #[] #[.pointer (some ⟨B, 0, none⟩)]] w
      fun e w' => (∃ r : Int, e = .returned (.int .i64 r) ∧ (!decide (r ≥ 0)) = allB p l) ∧ Below w.heap.size w w' := by
  unfold maxLen at hn
  have HP := Lib.hid hp; clear hp
  go_enter Try.func115, Try.ntmps115
  go_wp2_with fail
  go_loopw [5, 8] (fun _ i wr => ∃ k : Nat, k ≤ n ∧ i = .int .i64 k ∧ Below w.heap.size w wr ∧ ∀ (j : Nat) (x : Wrk), j < k → l[j]? = some x → p x = true) (fun _ i _ => n - (intOf i).toNat)
  case atStart => exact ⟨0, Nat.zero_le _, rfl, Below.refl _ _, fun j x hj => absurd hj (by omega)⟩
  case round =>
    obtain ⟨k, hk, rfl, hb, hall⟩ := hrel
    have HA := Lib.hid hall; clear hall
    by_cases hlt : k < n
    · obtain ⟨b, o, x, rfl, hbl, hx, h0, h1, h2⟩ := (h.below hb).atW hlt
      have hx1 := fun W (hW : Below wr.heap.size wr W) => HP.out k x W hx (hb.trans (hW.mono hb.size))
      have HX1 := Lib.hid hx1; clear hx1
      have HX := Lib.hid hx; clear hx
      have hB' := (hb.cell (p := ⟨B, 0, none⟩) hBl).trans hB
      have hBl' : B < wr.heap.size := Nat.lt_of_lt_of_le hBl hb.size
      cases hm : p x
      all_goals
        have HM := Lib.hid hm; clear hm
        go_wp2_with (go_at_call 102; refine (allWrk_1 _ _ _ hBl' hB' HX1.out).mono ?_; rintro e w' ⟨rfl, hb'⟩; simp only [HM.out])
      · go_ret
        exact ⟨⟨k, rfl, by rw [(allB_not (p := p) (l := l)).2 ⟨k, x, HX.out, HM.out⟩]; simp⟩, hb.trans (hb'.mono hb.size)⟩
      · go_roundw
        case rel => exact ⟨k + 1, by omega, by go_num, hb.trans (hb'.mono hb.size), fun j y hj hy => by
          rcases Nat.lt_or_ge j k with hjk | hjk
          · exact HA.out j y hjk hy
          · obtain rfl : j = k := by omega
            rw [HX.out] at hy; cases hy; exact HM.out⟩
        case measure => simp [intOf]; omega
    · go_wp2
      go_ret
      refine ⟨⟨-1, rfl, ?_⟩, hb⟩
      rw [(allB_iff (p := p) (l := l)).2 fun i x hx => HA.out i x (by have := (List.getElem?_eq_some_iff.1 hx).1; have := h.len; omega) hx]
      simp

theorem containsWrk_c {l : List (Wrk)} {A : Option Addr} {n c : Nat} {B : Nat} (w : World) (h : Rd encW 3 w A n l) (hn : n ≤ maxLen) (hBl : B < w.heap.size)
    (hB : w.cell? ⟨B, 0, none⟩ = some (.func (.func 86) #[] #[]))
    (hp : ∀ (i : Nat) (x : Wrk) (W : World), l[i]? = some x → Below w.heap.size w W → Calls Try.prog 86 #[.agg #[.int .i64 x.frm, .int .i64 x.flow, .int .i64 x.price]] W fun e w' => e = .returned (.bool (p x)) ∧ Below W.heap.size W w') :
    Calls Try.prog 101 #[.slice A n c, .func (.func 102) #[] #[.pointer (some ⟨B, 0, none⟩)]] w
      fun e w' => e = .returned (.bool (!allB p l)) ∧ Below w.heap.size w w' := by
  have hc := idxWrk_c (c := c) w h hn hBl hB hp
  have HC := Lib.hid hc; clear hc hp
  go_enter Try.func101, Try.ntmps101
  go_wp2_with (go_at_call 115; refine (HC.out).mono ?_; rintro e w' ⟨⟨r, rfl, hr⟩, hb⟩; have HR := Lib.hid hr; clear hr)
  go_ret
  exact ⟨ret_bool (by rw [← HR.out]; simp), hb⟩

theorem allWrk_c {l : List (Wrk)} {A : Option Addr} {n c : Nat} (w : World) (h : Rd encW 3 w A n l) (hn : n ≤ maxLen)
    (hp : ∀ (i : Nat) (x : Wrk) (W : World), l[i]? = some x → Below w.heap.size w W → Calls Try.prog 86 #[.agg #[.int .i64 x.frm, .int .i64 x.flow, .int .i64 x.price]] W fun e w' => e = .returned (.bool (p x)) ∧ Below W.heap.size W w') :
    Calls Try.prog 85 #[.slice A n c, .func (.func 86) #[] #[]] w
      fun e w' => e = .returned (.bool (allB p l)) ∧ Below w.heap.size w w' := by
  have hbx := (Below.refl w.heap.size w).alloc (Nat.le_refl _) (.cells #[.func (.func 86) #[] #[]] 160)
  have hc := containsWrk_c (c := c) (B := w.heap.size) (w.alloc (.cells #[.func (.func 86) #[] #[]] 160)) (h.mono hbx) hn (by simp) (by simp) (fun i x W hx hW => hp i x W hx (hbx.trans (hW.mono (by simp))))
  have HC := Lib.hid hc; clear hc hp
  go_enter Try.func85, Try.ntmps85
  go_wp2_with (go_at_call 101; refine (HC.out).mono ?_; rintro e w' ⟨rfl, hb⟩)
  go_ret
  exact ⟨ret_bool (by simp), ((Below.refl _ _).alloc (Nat.le_refl _) _).trans (hb.mono (by simp))⟩
end
end Go.Proofs.Ytpijmfbpdglchaa

namespace Go.Proofs.Ytpijmfbpdglchaa
open Go.RowKit Go.Proofs

section
variable {p : Int → Bool}
theorem allInt_1 (x : Int) (B : Nat) (V : Value) (w : World) (_hBl : B < w.heap.size) (hB : w.cell? ⟨B, 0, none⟩ = some (.func (.func 93) #[V] #[]))
    (hp : ∀ W : World, Below w.heap.size w W → Calls Try.prog 93 #[V, .int .i64 x] W fun e w' => e = .returned (.bool (p x)) ∧ Below W.heap.size W w') :
    Calls Try.prog 113 #[.int .i64 x, .pointer (some ⟨B, 0, none⟩)] w fun e w' => e = .returned (.bool (!p x)) ∧ Below w.heap.size w w' := by
  have hp' := hp w (Below.refl w.heap.size w)
  have HP := Lib.hid hp'; clear hp hp'
  go_enter Try.func113, Try.ntmps113
  go_wp2_with (go_at_call 93; refine (HP.out).mono ?_; rintro e w' ⟨rfl, hb⟩)
  go_ret
  exact ⟨rfl, hb⟩

theorem idxInt_c {l : List (Int)} {A : Option Addr} {n c : Nat} {B : Nat} (V : Value) (w : World) (h : Rd enc1 1 w A n l) (hn : n ≤ maxLen) (hBl : B < w.heap.size)
    (hB : w.cell? ⟨B, 0, none⟩ = some (.func (.func 93) #[V] #[]))
    (hp : ∀ (i : Nat) (x : Int) (W : World), l[i]? = some x → Below w.heap.size w W → Calls Try.prog 93 #[V, .int .i64 x] W fun e w' => e = .returned (.bool (p x)) ∧ Below W.heap.size W w') :
    Calls Try.prog 128 #[.slice A n c, .func (.func 113) #[] #[.pointer (some ⟨B, 0, none⟩)]] w
      fun e w' => (∃ r : Int, e = .returned (.int .i64 r) ∧ (!decide (r ≥ 0)) = allB p l) ∧ Below w.heap.size w w' := by
  unfold maxLen at hn
  have HP := Lib.hid hp; clear hp
  go_enter Try.func128, Try.ntmps128
  go_wp2_with fail
  go_loopw [5, 8] (fun _ i wr => ∃ k : Nat, k ≤ n ∧ i = .int .i64 k ∧ Below w.heap.size w wr ∧ ∀ (j : Nat) (x : Int), j < k → l[j]? = some x → p x = true) (fun _ i _ => n - (intOf i).toNat)
  case atStart => exact ⟨0, Nat.zero_le _, rfl, Below.refl _ _, fun j x hj => absurd hj (by omega)⟩
  case round =>
    obtain ⟨k, hk, rfl, hb, hall⟩ := hrel
    have HA := Lib.hid hall; clear hall
    by_cases hlt : k < n
    · obtain ⟨b, o, x, rfl, hbl, hx, h0⟩ := (h.below hb).at1 hlt
      have hx1 := fun W (hW : Below wr.heap.size wr W) => HP.out k x W hx (hb.trans (hW.mono hb.size))
      have HX1 := Lib.hid hx1; clear hx1
      have HX := Lib.hid hx; clear hx
      have hB' := (hb.cell (p := ⟨B, 0, none⟩) hBl).trans hB
      have hBl' : B < wr.heap.size := Nat.lt_of_lt_of_le hBl hb.size
      cases hm : p x
      all_goals
        have HM := Lib.hid hm; clear hm
        go_wp2_with (go_at_call 113; refine (allInt_1 _ _ V _ hBl' hB' HX1.out).mono ?_; rintro e w' ⟨rfl, hb'⟩; simp only [HM.out])
      · go_ret
        exact ⟨⟨k, rfl, by rw [(allB_not (p := p) (l := l)).2 ⟨k, x, HX.out, HM.out⟩]; simp⟩, hb.trans (hb'.mono hb.size)⟩
      · go_roundw
        case rel => exact ⟨k + 1, by omega, by go_num, hb.trans (hb'.mono hb.size), fun j y hj hy => by
          rcases Nat.lt_or_ge j k with hjk | hjk
          · exact HA.out j y hjk hy
          · obtain rfl : j = k := by omega
            rw [HX.out] at hy; cases hy; exact HM.out⟩
        case measure => simp [intOf]; omega
    · go_wp2
      go_ret
      refine ⟨⟨-1, rfl, ?_⟩, hb⟩
      rw [(allB_iff (p := p) (l := l)).2 fun i x hx => HA.out i x (by have := (List.getElem?_eq_some_iff.1 hx).1; have := h.len; omega) hx]
      simp

theorem containsInt_c {l : List (Int)} {A : Option Addr} {n c : Nat} {B : Nat} (V : Value) (w : World) (h : Rd enc1 1 w A n l) (hn : n ≤ maxLen) (hBl : B < w.heap.size)
    (hB : w.cell? ⟨B, 0, none⟩ = some (.func (.func 93) #[V] #[]))
    (hp : ∀ (i : Nat) (x : Int) (W : World), l[i]? = some x → Below w.heap.size w W → Calls Try.prog 93 #[V, .int .i64 x] W fun e w' => e = .returned (.bool (p x)) ∧ Below W.heap.size W w') :
    Calls Try.prog 112 #[.slice A n c, .func (.func 113) #[] #[.pointer (some ⟨B, 0, none⟩)]] w
      fun e w' => e = .returned (.bool (!allB p l)) ∧ Below w.heap.size w w' := by
  have hc := idxInt_c (c := c) V w h hn hBl hB hp
  have HC := Lib.hid hc; clear hc hp
  go_enter Try.func112, Try.ntmps112
  go_wp2_with (go_at_call 128; refine (HC.out).mono ?_; rintro e w' ⟨⟨r, rfl, hr⟩, hb⟩; have HR := Lib.hid hr; clear hr)
  go_ret
  exact ⟨ret_bool (by rw [← HR.out]; simp), hb⟩

theorem allInt_c {l : List (Int)} {A : Option Addr} {n c : Nat} (V : Value) (w : World) (h : Rd enc1 1 w A n l) (hn : n ≤ maxLen)
    (hp : ∀ (i : Nat) (x : Int) (W : World), l[i]? = some x → Below w.heap.size w W → Calls Try.prog 93 #[V, .int .i64 x] W fun e w' => e = .returned (.bool (p x)) ∧ Below W.heap.size W w') :
    Calls Try.prog 97 #[.slice A n c, .func (.func 93) #[V] #[]] w
      fun e w' => e = .returned (.bool (allB p l)) ∧ Below w.heap.size w w' := by
  have hbx := (Below.refl w.heap.size w).alloc (Nat.le_refl _) (.cells #[.func (.func 93) #[V] #[]] 152)
  have hc := containsInt_c (c := c) (B := w.heap.size) V (w.alloc (.cells #[.func (.func 93) #[V] #[]] 152)) (h.mono hbx) hn (by simp) (by simp) (fun i x W hx hW => hp i x W hx (hbx.trans (hW.mono (by simp))))
  have HC := Lib.hid hc; clear hc hp
  go_enter Try.func97, Try.ntmps97
  go_wp2_with (go_at_call 112; refine (HC.out).mono ?_; rintro e w' ⟨rfl, hb⟩)
  go_ret
  exact ⟨ret_bool (by simp), ((Below.refl _ _).alloc (Nat.le_refl _) _).trans (hb.mono (by simp))⟩
end
end Go.Proofs.Ytpijmfbpdglchaa

namespace Go.Proofs.Ytpijmfbpdglchaa
open Go.RowKit Go.Proofs

section
variable {p : Hou → Bool}
theorem allHou_1 (x : Hou) (B : Nat) (w : World) (_hBl : B < w.heap.size) (hB : w.cell? ⟨B, 0, none⟩ = some (.func (.func 81) #[] #[]))
    (hp : ∀ W : World, Below w.heap.size w W → Calls Try.prog 81 #[.agg #[.int .i64 x.far, .int .i64 x.high, .int .i64 x.wide]] W fun e w' => e = .returned (.bool (p x)) ∧ Below W.heap.size W w') :
    Calls Try.prog 100 #[.agg #[.int .i64 x.far, .int .i64 x.high, .int .i64 x.wide], .pointer (some ⟨B, 0, none⟩)] w fun e w' => e = .returned (.bool (!p x)) ∧ Below w.heap.size w w' := by
  have hp' := hp (w.alloc (.cells #[.int .i64 x.far, .int .i64 x.high, .int .i64 x.wide] 154)) ((Below.refl w.heap.size w).alloc (Nat.le_refl _) (.cells #[.int .i64 x.far, .int .i64 x.high, .int .i64 x.wide] 154))
  have HP := Lib.hid hp'; clear hp hp'
  go_enter Try.func100, Try.ntmps100
  go_wp2_with (go_at_call 81; refine (HP.out).mono ?_; rintro e w' ⟨rfl, hb⟩)
  go_ret
  exact ⟨rfl, ((Below.refl _ _).alloc (Nat.le_refl _) _).trans (hb.mono (by simp))⟩

theorem idxHou_c {l : List (Hou)} {A : Option Addr} {n c : Nat} {B : Nat} (w : World) (h : Rd encH 3 w A n l) (hn : n ≤ maxLen) (hBl : B < w.heap.size)
    (hB : w.cell? ⟨B, 0, none⟩ = some (.func (.func 81) #[] #[]))
    (hp : ∀ (i : Nat) (x : Hou) (W : World), l[i]? = some x → Below w.heap.size w W → Calls Try.prog 81 #[.agg #[.int .i64 x.far, .int .i64 x.high, .int .i64 x.wide]] W fun e w' => e = .returned (.bool (p x)) ∧ Below W.heap.size W w') :
    Calls Try.prog 114 #[.slice A n c, .func (.func 100) #[] #[.pointer (some ⟨B, 0, none⟩)]] w
      fun e w' => (∃ r : Int, e = .returned (.int .i64 r) ∧ (!decide (r ≥ 0)) = allB p l) ∧ Below w.heap.size w w' := by
  unfold maxLen at hn
  have HP := Lib.hid hp; clear hp
  go_enter Try.func114, Try.ntmps114
  go_wp2_with fail
  go_loopw [5, 8] (fun _ i wr => ∃ k : Nat, k ≤ n ∧ i = .int .i64 k ∧ Below w.heap.size w wr ∧ ∀ (j : Nat) (x : Hou), j < k → l[j]? = some x → p x = true) (fun _ i _ => n - (intOf i).toNat)
  case atStart => exact ⟨0, Nat.zero_le _, rfl, Below.refl _ _, fun j x hj => absurd hj (by omega)⟩
  case round =>
    obtain ⟨k, hk, rfl, hb, hall⟩ := hrel
    have HA := Lib.hid hall; clear hall
    by_cases hlt : k < n
    · obtain ⟨b, o, x, rfl, hbl, hx, h0, h1, h2⟩ := (h.below hb).atH hlt
      have hx1 := fun W (hW : Below wr.heap.size wr W) => HP.out k x W hx (hb.trans (hW.mono hb.size))
      have HX1 := Lib.hid hx1; clear hx1
      have HX := Lib.hid hx; clear hx
      have hB' := (hb.cell (p := ⟨B, 0, none⟩) hBl).trans hB
      have hBl' : B < wr.heap.size := Nat.lt_of_lt_of_le hBl hb.size
      cases hm : p x
      all_goals
        have HM := Lib.hid hm; clear hm
        go_wp2_with (go_at_call 100; refine (allHou_1 _ _ _ hBl' hB' HX1.out).mono ?_; rintro e w' ⟨rfl, hb'⟩; simp only [HM.out])
      · go_ret
        exact ⟨⟨k, rfl, by rw [(allB_not (p := p) (l := l)).2 ⟨k, x, HX.out, HM.out⟩]; simp⟩, hb.trans (hb'.mono hb.size)⟩
      · go_roundw
        case rel => exact ⟨k + 1, by omega, by go_num, hb.trans (hb'.mono hb.size), fun j y hj hy => by
          rcases Nat.lt_or_ge j k with hjk | hjk
          · exact HA.out j y hjk hy
          · obtain rfl : j = k := by omega
            rw [HX.out] at hy; cases hy; exact HM.out⟩
        case measure => simp [intOf]; omega
    · go_wp2
      go_ret
      refine ⟨⟨-1, rfl, ?_⟩, hb⟩
      rw [(allB_iff (p := p) (l := l)).2 fun i x hx => HA.out i x (by have := (List.getElem?_eq_some_iff.1 hx).1; have := h.len; omega) hx]
      simp

theorem containsHou_c {l : List (Hou)} {A : Option Addr} {n c : Nat} {B : Nat} (w : World) (h : Rd encH 3 w A n l) (hn : n ≤ maxLen) (hBl : B < w.heap.size)
    (hB : w.cell? ⟨B, 0, none⟩ = some (.func (.func 81) #[] #[]))
    (hp : ∀ (i : Nat) (x : Hou) (W : World), l[i]? = some x → Below w.heap.size w W → Calls Try.prog 81 #[.agg #[.int .i64 x.far, .int .i64 x.high, .int .i64 x.wide]] W fun e w' => e = .returned (.bool (p x)) ∧ Below W.heap.size W w') :
    Calls Try.prog 99 #[.slice A n c, .func (.func 100) #[] #[.pointer (some ⟨B, 0, none⟩)]] w
      fun e w' => e = .returned (.bool (!allB p l)) ∧ Below w.heap.size w w' := by
  have hc := idxHou_c (c := c) w h hn hBl hB hp
  have HC := Lib.hid hc; clear hc hp
  go_enter Try.func99, Try.ntmps99
  go_wp2_with (go_at_call 114; refine (HC.out).mono ?_; rintro e w' ⟨⟨r, rfl, hr⟩, hb⟩; have HR := Lib.hid hr; clear hr)
  go_ret
  exact ⟨ret_bool (by rw [← HR.out]; simp), hb⟩

theorem allHou_c {l : List (Hou)} {A : Option Addr} {n c : Nat} (w : World) (h : Rd encH 3 w A n l) (hn : n ≤ maxLen)
    (hp : ∀ (i : Nat) (x : Hou) (W : World), l[i]? = some x → Below w.heap.size w W → Calls Try.prog 81 #[.agg #[.int .i64 x.far, .int .i64 x.high, .int .i64 x.wide]] W fun e w' => e = .returned (.bool (p x)) ∧ Below W.heap.size W w') :
    Calls Try.prog 80 #[.slice A n c, .func (.func 81) #[] #[]] w
      fun e w' => e = .returned (.bool (allB p l)) ∧ Below w.heap.size w w' := by
  have hbx := (Below.refl w.heap.size w).alloc (Nat.le_refl _) (.cells #[.func (.func 81) #[] #[]] 155)
  have hc := containsHou_c (c := c) (B := w.heap.size) (w.alloc (.cells #[.func (.func 81) #[] #[]] 155)) (h.mono hbx) hn (by simp) (by simp) (fun i x W hx hW => hp i x W hx (hbx.trans (hW.mono (by simp))))
  have HC := Lib.hid hc; clear hc hp
  go_enter Try.func80, Try.ntmps80
  go_wp2_with (go_at_call 99; refine (HC.out).mono ?_; rintro e w' ⟨rfl, hb⟩)
  go_ret
  exact ⟨ret_bool (by simp), ((Below.refl _ _).alloc (Nat.le_refl _) _).trans (hb.mono (by simp))⟩
end
end Go.Proofs.Ytpijmfbpdglchaa

namespace Go.Proofs.Ytpijmfbpdglchaa
open Go.RowKit Go.Proofs
attribute [local go_sem ↓] Go.wp_at_zero Go.wp_at_succ

theorem infoWork : (Try.prog.info? 71).map (fun i => (i.zero, i.size, i.bytes)) = some (some (.agg #[.int .i64 0, .int .i64 0, .int .i64 0]), 3, 24) := by kernel_rfl
set_option maxRecDepth 100000 in
set_option maxHeartbeats 400000 in
theorem Works_c {l : List Wrk} {A : Option Addr} {n c : Nat} {w : World} (h : Rd encW 3 w A n l) (hn : n ≤ 1000000) :
    Calls Try.prog 21 #[.slice A n c] w fun e w' => ∃ A' c', e = .returned (.slice A' n c') ∧ n ≤ c' ∧ w'.ownsRow w.heap.size 71 3 (.slice A' n c') n (l.flatMap encW) ∧ Below w.heap.size w w' := by
  obtain ⟨i0, hi0, hz0, hz1, hz2⟩ := info_parts infoWork
  have hl := h.len
  have HL := Lib.hid hl; clear hl
  have HI := Lib.hid hi0; have HZ0 := Lib.hid hz0; have HZ1 := Lib.hid hz1; have HZ2 := Lib.hid hz2
  clear hi0 hz0 hz1 hz2
  go_enter Try.func21, Try.ntmps21
  go_wp2_with fail
  go_loopw [3, 4] (fun v i wr => ∃ k : Nat, k ≤ n ∧ i = .int .i64 k ∧ wr.ownsRow w.heap.size 71 3 v k ((l.take k).flatMap encW) ∧ Below w.heap.size w wr) (fun _ i _ => n - (intOf i).toNat)
  case atStart => exact ⟨0, Nat.zero_le _, rfl, World.ownsRow_nil _ _ _ _, Below.refl _ _⟩
  case round =>
    obtain ⟨k, hk, rfl, hown, hb⟩ := hrel
    by_cases hlt : k < n
    · obtain ⟨b, o, x, hA, hbl, hx, h0', h1', h2'⟩ := h.atW hlt
      subst hA
      have h0 := (hb.cell (p := ⟨b, o + k * 3, none⟩) hbl).trans h0'
      have h1 := (hb.cell (p := ⟨b, o + k * 3 + 1, none⟩) hbl).trans h1'
      have h2 := (hb.cell (p := ⟨b, o + k * 3 + 2, none⟩) hbl).trans h2'
      clear h0' h1' h2'
      have HX := Lib.hid hx; clear hx
      have hblr : b < wr.heap.size := Nat.lt_of_lt_of_le hbl hb.size
      have hne : u3.ownBlock ≠ some b := fun e => by have := (hown.lt b e).1; omega
      have HO := Lib.hid hown; clear hown
      have hi1 : (k : Int) < (n : Int) := by omega
      have hi0' : (0 : Int) ≤ (k : Int) := by omega
      go_wp2
      go_region_held3 (fun w' => w'.cell? ⟨b, o + k * 3, none⟩ = some (.int .i64 x.frm) ∧ w'.cell? ⟨b, o + k * 3 + 1, none⟩ = some (.int .i64 x.flow) ∧ w'.cell? ⟨b, o + k * 3 + 2, none⟩ = some (.int .i64 x.price))
        (first
          | go_keep
          | (go_split_ands
             refine ⟨?_, ?_, ?_⟩
             · (rw [hgrow.cell_far _ (by simp; omega) (Ne.symm hne)]; exact (World.cell?_alloc_lt _ _ _ hblr).trans h0)
             · (rw [hgrow.cell_far _ (by simp; omega) (Ne.symm hne)]; exact (World.cell?_alloc_lt _ _ _ hblr).trans h1)
             · (rw [hgrow.cell_far _ (by simp; omega) (Ne.symm hne)]; exact (World.cell?_alloc_lt _ _ _ hblr).trans h2)))
        ((refine step_append_lies _ (by rfl) _ _ _ (by rfl) w.heap.size 71 i0 _ 3 24 Try.underlying40 HI.out HZ0.out HZ1.out HZ2.out rfl (by omega) _ k ((l.take k).flatMap encW) (by rfl) ((HO.out.alloc _).drew) ⟨wr.heap.size, 0, none⟩ 1 1 [.int .i64 x.frm, .int .i64 x.flow, .int .i64 x.price] (by rfl) (by rfl) (World.news_of_block (cs := #[.int .i64 x.frm, .int .i64 x.flow, .int .i64 x.price]) (t := 71) (fr := (0, 0)) (heap_alloc_new wr _)) (by simp [Value.oneCell']) (by omega) (by unfold maxLen; omega) (by omega) (by have := hb.size; simp; omega) (wr.heap.size + 1) (by simp) ?_; intro gg cap w1 hown1 hgrow hat hlt1))
      have hown2 : Hid (w1.ownsRow w.heap.size 71 3 (.slice (some ⟨gg, 0, none⟩) (k + 1) cap) (k + 1) ((l.take (k + 1)).flatMap encW)) := by
        rw [List.take_add_one, HX.out]
        have := hown1
        simp [encW] at this ⊢
        exact this
      have hb2 : Hid (Below w.heap.size w w1) := (hb.drew.alloc hb.size _).grown hgrow (by have := hb.size; simp; omega) (fun g hg => (HO.out.lt g hg).1)
      clear hown1 hgrow
      go_wp2
      go_roundw
      case rel => exact ⟨k + 1, by omega, by go_num, hown2.out, hb2.out⟩
      case measure => simp [intOf] <;> omega
    · obtain rfl : k = n := by omega
      obtain ⟨A', c', rfl, hc'⟩ := own_form hown
      have HO := Lib.hid hown; clear hown
      go_wp2
      go_ret
      refine ⟨A', c', rfl, hc', ?_, hb⟩
      have := HO.out
      rwa [List.take_of_length_le (by rw [HL.out]; exact Nat.le_refl _)] at this
end Go.Proofs.Ytpijmfbpdglchaa

namespace Go.Proofs.Ytpijmfbpdglchaa
open Go.RowKit Go.Proofs
attribute [local go_sem ↓] Go.wp_at_zero Go.wp_at_succ

theorem infoHouse : (Try.prog.info? 154).map (fun i => (i.zero, i.size, i.bytes)) = some (some (.agg #[.int .i64 0, .int .i64 0, .int .i64 0]), 3, 24) := by kernel_rfl
set_option maxRecDepth 100000 in
set_option maxHeartbeats 400000 in
theorem Houses_c {l : List Hou} {A : Option Addr} {n c : Nat} {w : World} (h : Rd encH 3 w A n l) (hn : n ≤ 1000000) :
    Calls Try.prog 45 #[.slice A n c] w fun e w' => ∃ A' c', e = .returned (.slice A' n c') ∧ n ≤ c' ∧ w'.ownsRow w.heap.size 154 3 (.slice A' n c') n (l.flatMap encH) ∧ Below w.heap.size w w' := by
  obtain ⟨i0, hi0, hz0, hz1, hz2⟩ := info_parts infoHouse
  have hl := h.len
  have HL := Lib.hid hl; clear hl
  have HI := Lib.hid hi0; have HZ0 := Lib.hid hz0; have HZ1 := Lib.hid hz1; have HZ2 := Lib.hid hz2
  clear hi0 hz0 hz1 hz2
  go_enter Try.func45, Try.ntmps45
  go_wp2_with fail
  go_loopw [3, 4] (fun v i wr => ∃ k : Nat, k ≤ n ∧ i = .int .i64 k ∧ wr.ownsRow w.heap.size 154 3 v k ((l.take k).flatMap encH) ∧ Below w.heap.size w wr) (fun _ i _ => n - (intOf i).toNat)
  case atStart => exact ⟨0, Nat.zero_le _, rfl, World.ownsRow_nil _ _ _ _, Below.refl _ _⟩
  case round =>
    obtain ⟨k, hk, rfl, hown, hb⟩ := hrel
    by_cases hlt : k < n
    · obtain ⟨b, o, x, hA, hbl, hx, h0', h1', h2'⟩ := h.atH hlt
      subst hA
      have h0 := (hb.cell (p := ⟨b, o + k * 3, none⟩) hbl).trans h0'
      have h1 := (hb.cell (p := ⟨b, o + k * 3 + 1, none⟩) hbl).trans h1'
      have h2 := (hb.cell (p := ⟨b, o + k * 3 + 2, none⟩) hbl).trans h2'
      clear h0' h1' h2'
      have HX := Lib.hid hx; clear hx
      have hblr : b < wr.heap.size := Nat.lt_of_lt_of_le hbl hb.size
      have hne : u3.ownBlock ≠ some b := fun e => by have := (hown.lt b e).1; omega
      have HO := Lib.hid hown; clear hown
      have hi1 : (k : Int) < (n : Int) := by omega
      have hi0' : (0 : Int) ≤ (k : Int) := by omega
      go_wp2
      go_region_held3 (fun w' => w'.cell? ⟨b, o + k * 3, none⟩ = some (.int .i64 x.far) ∧ w'.cell? ⟨b, o + k * 3 + 1, none⟩ = some (.int .i64 x.high) ∧ w'.cell? ⟨b, o + k * 3 + 2, none⟩ = some (.int .i64 x.wide))
        (first
          | go_keep
          | (go_split_ands
             refine ⟨?_, ?_, ?_⟩
             · (rw [hgrow.cell_far _ (by simp; omega) (Ne.symm hne)]; exact (World.cell?_alloc_lt _ _ _ hblr).trans h0)
             · (rw [hgrow.cell_far _ (by simp; omega) (Ne.symm hne)]; exact (World.cell?_alloc_lt _ _ _ hblr).trans h1)
             · (rw [hgrow.cell_far _ (by simp; omega) (Ne.symm hne)]; exact (World.cell?_alloc_lt _ _ _ hblr).trans h2)))
        ((refine step_append_lies _ (by rfl) _ _ _ (by rfl) w.heap.size 154 i0 _ 3 24 Try.underlying92 HI.out HZ0.out HZ1.out HZ2.out rfl (by omega) _ k ((l.take k).flatMap encH) (by rfl) ((HO.out.alloc _).drew) ⟨wr.heap.size, 0, none⟩ 1 1 [.int .i64 x.far, .int .i64 x.high, .int .i64 x.wide] (by rfl) (by rfl) (World.news_of_block (cs := #[.int .i64 x.far, .int .i64 x.high, .int .i64 x.wide]) (t := 154) (fr := (0, 0)) (heap_alloc_new wr _)) (by simp [Value.oneCell']) (by omega) (by unfold maxLen; omega) (by omega) (by have := hb.size; simp; omega) (wr.heap.size + 1) (by simp) ?_; intro gg cap w1 hown1 hgrow hat hlt1))
      have hown2 : Hid (w1.ownsRow w.heap.size 154 3 (.slice (some ⟨gg, 0, none⟩) (k + 1) cap) (k + 1) ((l.take (k + 1)).flatMap encH)) := by
        rw [List.take_add_one, HX.out]
        have := hown1
        simp [encH] at this ⊢
        exact this
      have hb2 : Hid (Below w.heap.size w w1) := (hb.drew.alloc hb.size _).grown hgrow (by have := hb.size; simp; omega) (fun g hg => (HO.out.lt g hg).1)
      clear hown1 hgrow
      go_wp2
      go_roundw
      case rel => exact ⟨k + 1, by omega, by go_num, hown2.out, hb2.out⟩
      case measure => simp [intOf] <;> omega
    · obtain rfl : k = n := by omega
      obtain ⟨A', c', rfl, hc'⟩ := own_form hown
      have HO := Lib.hid hown; clear hown
      go_wp2
      go_ret
      refine ⟨A', c', rfl, hc', ?_, hb⟩
      have := HO.out
      rwa [List.take_of_length_le (by rw [HL.out]; exact Nat.le_refl _)] at this
end Go.Proofs.Ytpijmfbpdglchaa

namespace Go.Proofs.Ytpijmfbpdglchaa
open Go.RowKit Go.Proofs

theorem take_eq_all {α : Type} {a b : List α} {n : Nat} (ha : a.length = n) (hb : b.length = n) (h : a.take n = b.take n) : a = b := by
  rwa [List.take_of_length_le (by omega), List.take_of_length_le (by omega)] at h
theorem ne_of_get {α : Type} {a b : List α} {k : Nat} {x y : α} (ha : a[k]? = some x) (hb : b[k]? = some y) (h : x ≠ y) : a ≠ b := by
  rintro rfl; rw [ha] at hb; cases hb; exact h rfl
theorem take_snoc_eq {α : Type} {a b : List α} {k : Nat} {x : α} (ha : a[k]? = some x) (hb : b[k]? = some x) (h : a.take k = b.take k) : a.take (k + 1) = b.take (k + 1) := by
  rw [List.take_add_one, List.take_add_one, ha, hb, h]

set_option maxRecDepth 100000 in
set_option maxHeartbeats 400000 in
theorem ints_c {l l' : List Int} {A A' : Option Addr} {n c n' c' : Nat} {w : World} (h : Rd enc1 1 w A n l) (h' : Rd enc1 1 w A' n' l') (hn : n ≤ 1000000000) :
    Calls Try.prog 23 #[.slice A n c, .slice A' n' c'] w fun e w' => e = .returned (.bool (decide (l = l'))) ∧ Below w.heap.size w w' := by
  have hl := h.len; have hl' := h'.len
  have HL := Lib.hid hl; have HL' := Lib.hid hl'; clear hl hl'
  by_cases hne : n = n'
  · subst hne
    have hb0 : ((n : Int) == (n : Int)) = true := by simp
    go_enter Try.func23, Try.ntmps23
    go_wp2_with fail
    go_loopw [5] (fun i wr => ∃ k : Nat, k ≤ n ∧ i = .int .i64 k ∧ Below w.heap.size w wr ∧ l.take k = l'.take k) (fun i _ => n - (intOf i).toNat)
    case atStart => exact ⟨0, Nat.zero_le _, rfl, Below.refl _ _, rfl⟩
    case round =>
      obtain ⟨k, hk, rfl, hb, heq⟩ := hrel
      have HE := Lib.hid heq; clear heq
      by_cases hlt : k < n
      · obtain ⟨b, o, x, hA, _, hx, h0⟩ := (h.below hb).at1 hlt
        subst hA
        obtain ⟨b', o', y, hA, _, hy, h1⟩ := (h'.below hb).at1 hlt
        subst hA
        have HX := Lib.hid hx; have HY := Lib.hid hy; clear hx hy
        have HB := Lib.hid hb; clear hb
        have hkn : (k : Int) < (n : Int) := by omega
        by_cases hxy : x = y
        · subst hxy
          have e1 : (x == x) = true := by simp
          have e2 : (x != x) = false := by simp
          go_wp2_with fail
          go_quiet (fail)
          go_wp2
          go_roundw
          case rel => exact ⟨k + 1, by omega, by go_num, below_drewN HB.out _, take_snoc_eq HX.out HY.out HE.out⟩
          case measure => simp [intOf] <;> omega
        · have e1 : (x == y) = false := by simpa using hxy
          have e2 : (x != y) = true := by simpa using hxy
          have HNE := Lib.hid hxy; clear hxy
          go_wp2_with fail
          go_quiet (fail)
          go_wp2
          go_ret
          exact ⟨ret_bool (decide_eq_false (ne_of_get HX.out HY.out HNE.out)).symm, below_drewN HB.out _⟩
      · obtain rfl : k = n := by omega
        go_wp2_with fail
        go_ret
        exact ⟨ret_bool (decide_eq_true (take_eq_all HL.out HL'.out HE.out)).symm, hb⟩
  · have hb0 : ((n : Int) == (n' : Int)) = false := by simp; omega
    have hb1 : ((n : Int) != (n' : Int)) = true := by simp; omega
    have HNE := Lib.hid hne; clear hne
    go_enter Try.func23, Try.ntmps23
    go_wp2_with fail
    go_ret
    exact ⟨ret_bool (decide_eq_false (fun e => HNE.out (by rw [← HL.out, ← HL'.out, e]))).symm, Below.refl _ _⟩

/-- are ranges those from low to high? -/
def rngB (l : List (Int × Int)) (lo hi : List Int) : Bool := decide (l.length = lo.length ∧ l.length = hi.length ∧ l = lo.zip hi)

end Go.Proofs.Ytpijmfbpdglchaa

namespace Go.Proofs.Ytpijmfbpdglchaa
open Go.RowKit Go.Proofs

def encU (z : Int) : List Value := [.int .u16 z]
theorem encU_len (z : Int) : (encU z).length = 1 := rfl
theorem Rd.atU {w : World} {A : Option Addr} {n : Nat} {l : List Int} (h : Rd encU 1 w A n l) {i : Nat} (hi : i < n) :
    ∃ b o x, A = some ⟨b, o, none⟩ ∧ b < w.heap.size ∧ l[i]? = some x ∧ w.cell? ⟨b, o + i, none⟩ = some (.int .u16 x) := by
  obtain ⟨b, o, x, e, hb, hx, hc⟩ := h.at_ hi
  exact ⟨b, o, x, e, hb, hx, by simpa using hc 0 _ rfl⟩
/-- some number of a range -/
def InP (w : World) (r : Rng) (e : Ending) (w' : World) : Prop := ∃ v : Int, e = .returned (.int .i64 v) ∧ r.1 ≤ v ∧ v ≤ r.2 ∧ Below w.heap.size w w'
theorem InP.mk {w w' : World} {r : Rng} {v : Int} (h1 : r.1 ≤ v) (h2 : v ≤ r.2) (hb : Below w.heap.size w w') : InP w r (.returned (.int .i64 v)) w' := ⟨v, rfl, h1, h2, hb⟩
set_option maxRecDepth 100000 in
set_option maxHeartbeats 400000 in
theorem pick_c {r : Rng} {l : List Int} {A : Option Addr} {n c : Nat} {w : World} (h : Rd encU 1 w A n l) (hl : ∀ z ∈ l, 0 ≤ z ∧ z ≤ 65535) (hn : n ≤ maxLen) (hr : 0 ≤ r.1 ∧ r.1 ≤ r.2 ∧ r.2 ≤ 1000000000) {a : Int} (ha : 0 ≤ a ∧ a ≤ 1000000000) :
    Calls Try.prog 52 #[.agg #[.int .i64 r.1, .int .i64 r.2], .slice A n c, .int .i64 a] w (InP w r) := by
  unfold maxLen at hn
  obtain ⟨lo, hi⟩ := r
  simp only at hr
  have HR := Lib.hid h; have HL := Lib.hid hl
  have hb := (Below.refl w.heap.size w).alloc (Nat.le_refl _) (.cells #[.int .i64 lo, .int .i64 hi] 24)
  have HB := Lib.hid hb
  have hX := Blk.new w 24 #[.int .i64 lo, .int .i64 hi]
  have x0 := hX.cell 0; have x1 := hX.cell 1
  simp at x0 x1
  clear h hl hX
  by_cases hz : n = 0
  · obtain rfl := hz
    clear hb
    go_enter Try.func52, Try.ntmps52
    go_wp2_with fail
    go_ret
    exact InP.mk (by simp only; omega) (by simp only; omega) HB.out
  · have hm0 : 0 ≤ a % (n : Int) := Int.emod_nonneg _ (by omega)
    have hm1 : a % (n : Int) < (n : Int) := Int.emod_lt_of_pos _ (by omega)
    obtain ⟨b, o, x, rfl, hbl, hx, h0'⟩ := HR.out.atU (i := (a % (n : Int)).toNat) (by omega)
    have hxb := HL.out x (List.mem_of_getElem? hx)
    have h0 := (hb.cell (p := ⟨b, o + (a % (n : Int)).toNat, none⟩) hbl).trans h0'
    have hnz : ((n : Int) == 0) = false := by simp; omega
    have hnz' : ¬ ((n : Int) = 0) := by omega
    have hne : b ≠ w.heap.size := by omega
    clear hx h0' hb hz
    by_cases h4 : x % 4 = 0
    · have e4 : (x % 4 == 0) = true := by simp [h4]
      clear h4
      go_enter Try.func52, Try.ntmps52
      go_wp2_with fail
      go_ret
      exact InP.mk (by simp only; omega) (by simp only; omega) HB.out
    · have e4 : (x % 4 == 0) = false := by simp [h4]
      by_cases h5 : x % 4 = 1
      · have e5 : (x % 4 == 1) = true := by simp [h5]
        clear h4 h5
        go_enter Try.func52, Try.ntmps52
        go_wp2_with fail
        go_ret
        exact InP.mk (by simp only; omega) (by simp only; omega) HB.out
      · have e5 : (x % 4 == 1) = false := by simp [h5]
        clear h4 h5
        have q0 : 0 ≤ x % (hi - lo + 1) := Int.emod_nonneg _ (by omega)
        have q1 : x % (hi - lo + 1) < hi - lo + 1 := Int.emod_lt_of_pos _ (by omega)
        have w1 : IntKind.i64.wrap (hi - lo) = hi - lo := wi (by omega)
        have w2 : IntKind.i64.wrap (hi - lo + 1) = hi - lo + 1 := wi (by omega)
        have w3 : x.tmod (hi - lo + 1) = x % (hi - lo + 1) := Int.tmod_eq_emod_of_nonneg (by omega)
        have w4 : IntKind.i64.wrap (x % (hi - lo + 1)) = x % (hi - lo + 1) := wi (by omega)
        have w5 : IntKind.i64.wrap (lo + x % (hi - lo + 1)) = lo + x % (hi - lo + 1) := wi (by omega)
        have w6 : (hi - lo + 1 == 0) = false := by simp; omega
        have w7 : ¬ (hi - lo + 1 = 0) := by omega
        have HW := Lib.hid w1; have HW2 := Lib.hid w2; have HW3 := Lib.hid w3; have HW4 := Lib.hid w4; have HW5 := Lib.hid w5
        clear w1 w2 w3 w4 w5
        go_enter Try.func52, Try.ntmps52
        go_wp2_with fail
        have w1 := HW.out; have w2 := HW2.out; have w3 := HW3.out; have w4 := HW4.out; have w5 := HW5.out
        go_quiet (fail)
        clear w1 w2 w3 w4 w5
        go_wp2_with fail
        go_ret
        exact InP.mk (by simp only; omega) (by simp only; omega) (below_drewN HB.out _)
end Go.Proofs.Ytpijmfbpdglchaa

namespace Go.Proofs.Ytpijmfbpdglchaa
open Go.RowKit Go.Proofs
set_option maxRecDepth 100000 in
set_option maxHeartbeats 1000000 in
theorem rWorksFault_c {l : List Wrk} {A : Option Addr} {n c : Nat} {w : World} (h : Rd encW 3 w A n l) (hn : n ≤ maxLen) :
    Calls Try.prog 56 #[.slice A n c] w fun e w' => e = .returned (.int .i64 (errW l)) ∧ Below w.heap.size w w' := by
  unfold maxLen at hn
  have HL := Lib.hid h.len
  have HR := Lib.hid h
  clear h
  by_cases h10 : 10 < n
  · have h10' : (10 : Int) < (n : Int) := by omega
    go_enter Try.func56, Try.ntmps56
    go_wp2_with fail
    go_ret
    exact ⟨by unfold errW; rw [HL.out, if_pos h10]; rfl, Below.refl _ _⟩
  · have h10' : (n : Int) ≤ 10 := by omega
    have HI := Lib.hid (fun (a b c : Int) (U : World) => In_c a b c U)
    go_enter Try.func56, Try.ntmps56
    go_wp2_with fail
    go_loopw [3] (fun i wr => ∃ k : Nat, k ≤ n ∧ i = .int .i64 k ∧ Below w.heap.size w wr ∧ ∀ (j : Nat) (x : Wrk), j < k → l[j]? = some x → okW x = true) (fun i _ => n - (intOf i).toNat)
    case atStart => exact ⟨0, Nat.zero_le _, rfl, Below.refl _ _, fun j x hj => absurd hj (by omega)⟩
    case round =>
      obtain ⟨k, hk, rfl, hb, hall⟩ := hrel
      have HA := Lib.hid hall; clear hall
      have HB := Lib.hid hb; clear hb
      by_cases hlt : k < n
      · obtain ⟨b, o, x, rfl, hbl, hx, h0, h1, h2⟩ := (HR.out.below HB.out).atW hlt
        have HX := Lib.hid hx; clear hx
        have hi1 : (k : Int) < (n : Int) := by omega
        have hi0 : (0 : Int) ≤ (k : Int) := by omega
        have HB2 := Lib.hid (HB.out.alloc HB.out.size (.cells #[.int .i64 x.frm, .int .i64 x.flow, .int .i64 x.price] 131))
        cases q1 : inB x.frm 0 60
        · have hno : okW x = false := by simp [okW, q1]
          have HNO := Lib.hid hno; clear hno
          go_wp2_with (go_at_call 62; refine (HI.out _ _ _ _).mono ?_; rintro e w' ⟨rfl, rfl⟩; simp only [q1])
          go_ret
          exact ⟨by unfold errW; rw [HL.out, if_neg h10, (allB_not (p := okW) (l := l)).2 ⟨k, x, HX.out, HNO.out⟩]; rfl, HB2.out⟩
        · cases q2 : inB x.flow 0 1000000
          · have hno : okW x = false := by simp [okW, q2]
            have HNO := Lib.hid hno; clear hno
            go_wp2_with (go_at_call 62; refine (HI.out _ _ _ _).mono ?_; rintro e w' ⟨rfl, rfl⟩; simp only [q1, q2])
            go_ret
            exact ⟨by unfold errW; rw [HL.out, if_neg h10, (allB_not (p := okW) (l := l)).2 ⟨k, x, HX.out, HNO.out⟩]; rfl, HB2.out⟩
          · cases q3 : inB x.price 0 1000000
            · have hno : okW x = false := by simp [okW, q3]
              have HNO := Lib.hid hno; clear hno
              go_wp2_with (go_at_call 62; refine (HI.out _ _ _ _).mono ?_; rintro e w' ⟨rfl, rfl⟩; simp only [q1, q2, q3])
              go_ret
              exact ⟨by unfold errW; rw [HL.out, if_neg h10, (allB_not (p := okW) (l := l)).2 ⟨k, x, HX.out, HNO.out⟩]; rfl, HB2.out⟩
            · have hok : okW x = true := by simp [okW, q1, q2, q3]
              have HOK := Lib.hid hok; clear hok
              go_wp2_with (go_at_call 62; refine (HI.out _ _ _ _).mono ?_; rintro e w' ⟨rfl, rfl⟩; simp only [q1, q2, q3])
              go_roundw
              case rel => exact ⟨k + 1, by omega, by go_num, HB2.out, fun j y hj hy => by
                rcases Nat.lt_or_ge j k with hjk | hjk
                · exact HA.out j y hjk hy
                · obtain rfl : j = k := by omega
                  rw [HX.out] at hy; cases hy; exact HOK.out⟩
              case measure => simp [intOf] <;> omega
      · obtain rfl : k = n := by omega
        go_wp2
        go_ret
        exact ⟨by unfold errW; rw [HL.out, if_neg h10, (allB_iff (p := okW) (l := l)).2 fun i x hx => HA.out i x (by have := (List.getElem?_eq_some_iff.1 hx).1; have := HL.out; omega) hx]; rfl, HB.out⟩
theorem In_b (n lo hi : Int) (w : World) : Calls Try.prog 62 #[.int .i64 n, .int .i64 lo, .int .i64 hi] w fun e w' => e = .returned (.bool (inB n lo hi)) ∧ Below w.heap.size w w' :=
  (In_c n lo hi w).mono fun _ _ h => ⟨h.1, h.2 ▸ Below.refl _ _⟩
theorem choB_false {n : Nat} {c : List Int} {k : Nat} {x : Int} (hx : c[k]? = some x) (h : inB x 0 ((n : Int) - 1) = false ∨ ∃ (j : Nat) (y : Int), k = j + 1 ∧ c[j]? = some y ∧ x ≤ y) : choB n c = false := by
  rw [← Bool.not_eq_true]
  intro hc
  have h2 := choB_iff.1 hc
  rcases h with h | ⟨j, y, rfl, hy, hxy⟩
  · have := h2.1 k x hx
    rw [inB_iff.2 this] at h; cases h
  · have := h2.2 j y x hy hx
    omega
set_option maxRecDepth 100000 in
set_option maxHeartbeats 1000000 in
theorem rChoice_c {l : List Wrk} {A C : Option Addr} {n c m d : Nat} {ch : List Int} {w : World} (h : Rd encW 3 w A n l) (hc : Rd enc1 1 w C m ch) (hn : n ≤ maxLen) (hm : m ≤ maxLen) :
    Calls Try.prog 29 #[.slice A n c, .slice C m d] w fun e w' => e = .returned (.bool (choB l.length ch)) ∧ Below w.heap.size w w' := by
  unfold maxLen at hn hm
  have HL := Lib.hid h.len
  have HM := Lib.hid hc.len
  have HR := Lib.hid hc
  rw [h.len]
  clear h hc
  have HI := Lib.hid (fun (a b c : Int) (U : World) => In_b a b c U)
  go_enter Try.func29, Try.ntmps29
  go_wp2_with fail
  go_loopw [5] (fun i wr => ∃ k : Nat, k ≤ m ∧ i = .int .i64 k ∧ Below w.heap.size w wr ∧ ∀ (j : Nat) (x : Int), j < k → ch[j]? = some x → inB x 0 ((n : Int) - 1) = true ∧ ∀ (i : Nat) (y : Int), j = i + 1 → ch[i]? = some y → y < x) (fun i _ => m - (intOf i).toNat)
  case atStart => exact ⟨0, Nat.zero_le _, rfl, Below.refl _ _, fun j x hj => absurd hj (by omega)⟩
  case round =>
    obtain ⟨k, hk, rfl, hb, hall⟩ := hrel
    have HA := Lib.hid hall; clear hall
    have HB := Lib.hid hb; clear hb
    by_cases hlt : k < m
    · obtain ⟨b, o, x, rfl, hbl, hx, h0⟩ := (HR.out.below HB.out).at1 hlt
      have HX := Lib.hid hx; clear hx
      have hi1 : (k : Int) < (m : Int) := by omega
      have hi0 : (0 : Int) ≤ (k : Int) := by omega
      have HIq := Lib.hid (HI.out x 0 ((n : Int) - 1))
      cases q1 : inB x 0 ((n : Int) - 1)
      all_goals rw [q1] at HIq
      · have HE := Lib.hid (choB_false HX.out (.inl q1))
        go_wp2_with fail
        refine wp_region_ext (by kernel_rfl) (by kernel_rfl) ?_
        repeat (go_big_quiet_step ((go_at_call 62; exact ext_call (HIq.out _))))
        refine wpQuiet_nil ?_
        rintro _ ⟨q, rfl⟩
        have HB1 := Lib.hid (below_tr HB.out q.below)
        go_wp2
        go_ret
        exact ⟨ret_bool HE.out.symm, HB1.out⟩
      · have hin := inB_iff.1 q1
        have HN := Lib.hid hin; clear hin
        rcases Nat.eq_zero_or_pos k with hkz | hkp
        · have hz : decide ((0 : Int) < (k : Int)) = false := decide_eq_false (by omega)
          have hz2 : decide (0 < k) = false := decide_eq_false (by omega)
          have HKZ := Lib.hid hkz; clear hkz
          go_wp2_with fail
          refine wp_region_ext (by kernel_rfl) (by kernel_rfl) ?_
          repeat (go_big_quiet_step ((go_at_call 62; exact ext_call (HIq.out _))))
          refine wpQuiet_nil ?_
          rintro _ ⟨q, rfl⟩
          have HB1 := Lib.hid (below_tr HB.out q.below)
          go_wp2
          go_roundw
          case rel => exact ⟨k + 1, by omega, by go_num, HB1.out, fun j y hj hy => by
            have hk0 := HKZ.out
            obtain rfl : j = k := by omega
            rw [HX.out] at hy; cases hy; exact ⟨q1, fun i y he => by omega⟩⟩
          case measure => simp [intOf] <;> omega
        · obtain ⟨b', o', y, hA', hbl', hy, h1⟩ := (HR.out.below HB.out).at1 (i := k - 1) (by omega)
          cases hA'
          have HY := Lib.hid hy; clear hy
          have hp : (0 : Int) < (k : Int) := by omega
          have hkt : ((k : Int) - 1).toNat = k - 1 := by omega
          have hi1' : (k : Int) - 1 < (m : Int) := by omega
          have hi0' : (0 : Int) ≤ (k : Int) - 1 := by omega
          cases q2 : decide (x ≤ y)
          · have HXY := Lib.hid (of_decide_eq_false q2)
            go_wp2_with fail
            refine wp_region_ext (by kernel_rfl) (by kernel_rfl) ?_
            repeat (go_big_quiet_step ((go_at_call 62; exact ext_call (HIq.out _))))
            refine wpQuiet_nil ?_
            rintro _ ⟨q, rfl⟩
            have HB1 := Lib.hid (below_tr HB.out q.below)
            go_wp2
            go_roundw
            case rel => exact ⟨k + 1, by omega, by go_num, HB1.out, fun j z hj hz => by
              rcases Nat.lt_or_ge j k with hjk | hjk
              · exact HA.out j z hjk hz
              · obtain rfl : j = k := by omega
                rw [HX.out] at hz; cases hz
                refine ⟨q1, fun i u he hu => ?_⟩
                obtain rfl : i = j - 1 := by omega
                rw [HY.out] at hu; cases hu; have := HXY.out; omega⟩
            case measure => simp [intOf] <;> omega
          · have HE := Lib.hid (choB_false (n := n) HX.out (.inr ⟨k - 1, y, by omega, HY.out, of_decide_eq_true q2⟩))
            go_wp2_with fail
            refine wp_region_ext (by kernel_rfl) (by kernel_rfl) ?_
            repeat (go_big_quiet_step ((go_at_call 62; exact ext_call (HIq.out _))))
            refine wpQuiet_nil ?_
            rintro _ ⟨q, rfl⟩
            have HB1 := Lib.hid (below_tr HB.out q.below)
            go_wp2
            go_ret
            exact ⟨ret_bool HE.out.symm, HB1.out⟩
    · obtain rfl : k = m := by omega
      go_wp2
      go_ret
      refine ⟨ret_bool ?_, HB.out⟩
      symm
      refine choB_iff.2 ⟨fun i x hx => inB_iff.1 (HA.out i x (by have := (List.getElem?_eq_some_iff.1 hx).1; have := HM.out; omega) hx).1, fun i a b ha hb => (HA.out (i + 1) b (by have := (List.getElem?_eq_some_iff.1 hb).1; have := HM.out; omega) hb).2 i a rfl ha⟩
end Go.Proofs.Ytpijmfbpdglchaa
