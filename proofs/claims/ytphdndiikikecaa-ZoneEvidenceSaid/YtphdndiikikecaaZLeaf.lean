/- CONTRACTS of the small functions of package zone and of its reference: within, In, up, upTo, low, high, valid. -/
import Derived.Test.YtphdndiikikecaaProg
import Derived.Test.YtphdndiikikecaaZLaw
namespace Go.Proofs.Ytphdndiikikecaa
open Go.RowKit Go.Proofs

section
variable {w : World} {A : Option Addr} {n : Nat}
theorem Rd.atP {l : List Par} (h : Rd encP 4 w A n l) {i : Nat} (hi : i < n) :
    ∃ b o x, A = some ⟨b, o, none⟩ ∧ b < w.heap.size ∧ l[i]? = some x ∧ w.cell? ⟨b, o + i * 4, none⟩ = some (.int .i64 x.worth) ∧ w.cell? ⟨b, o + i * 4 + 1, none⟩ = some (.int .i64 x.price) ∧
      w.cell? ⟨b, o + i * 4 + 2, none⟩ = some (.int .i64 x.people) ∧ w.cell? ⟨b, o + i * 4 + 3, none⟩ = some (.bool x.ins) := by
  obtain ⟨b, o, x, e, hb, hx, hc⟩ := h.at_ hi
  exact ⟨b, o, x, e, hb, hx, hc 0 _ rfl, hc 1 _ rfl, hc 2 _ rfl, hc 3 _ rfl⟩
theorem Rd.atS {l : List Sli} (h : Rd encS 4 w A n l) {i : Nat} (hi : i < n) :
    ∃ b o x, A = some ⟨b, o, none⟩ ∧ b < w.heap.size ∧ l[i]? = some x ∧ w.cell? ⟨b, o + i * 4, none⟩ = some (.slice x.A x.n x.c) ∧ w.cell? ⟨b, o + i * 4 + 1, none⟩ = some (.int .i64 x.rate) ∧
      w.cell? ⟨b, o + i * 4 + 2, none⟩ = some (.int .i64 x.lo) ∧ w.cell? ⟨b, o + i * 4 + 3, none⟩ = some (.int .i64 x.hi) := by
  obtain ⟨b, o, x, e, hb, hx, hc⟩ := h.at_ hi
  exact ⟨b, o, x, e, hb, hx, hc 0 _ rfl, hc 1 _ rfl, hc 2 _ rfl, hc 3 _ rfl⟩
end
/-- A valley in memory: its slices of parcels and of slides, and the ways. -/
structure RdV (w : World) (PA : Option Addr) (pn : Nat) (SA : Option Addr) (sn : Nat) (v : Vly) : Prop where
  pars : Rd encP 4 w PA pn v.pars
  sls : Rd encS 4 w SA sn v.sls
  way : ∀ (i : Nat) (s : Sli), v.sls[i]? = some s → Rd enc1 1 w s.A s.n s.way ∧ s.n ≤ maxLen ∧ s.n ≤ s.c
theorem RdV.below {w w' : World} {PA SA : Option Addr} {pn sn : Nat} {v : Vly} (h : RdV w PA pn SA sn v) (hb : Below w.heap.size w w') : RdV w' PA pn SA sn v :=
  ⟨h.pars.mono hb, h.sls.mono hb, fun i s hs => ⟨(h.way i s hs).1.mono hb, (h.way i s hs).2⟩⟩
/-- the value of a valley -/
abbrev valV (PA : Option Addr) (pn pc : Nat) (SA : Option Addr) (sn sc : Nat) (v : Vly) : Value := .agg #[.slice PA pn pc, .slice SA sn sc, .int .i64 v.s0, .int .i64 v.s1, .int .i64 v.s2]

theorem within_c (n lo hi : Int) (w : World) :
    Calls Try.prog 69 #[.int .i64 n, .int .i64 lo, .int .i64 hi] w fun e w' => e = .returned (.bool (inB n lo hi)) ∧ w = w' := by
  by_cases h : lo ≤ n
  · go_enter Try.func69, Try.ntmps69
    go_wp2
    go_ret
    exact ⟨ret_bool (by simp [inB, h]), rfl⟩
  · have h' : n < lo := by omega
    go_enter Try.func69, Try.ntmps69
    go_wp2
    go_ret
    exact ⟨ret_bool (inB_not.2 (.inl h')).symm, rfl⟩
theorem In_c (n lo hi : Int) (w : World) :
    Calls Try.prog 26 #[.int .i64 n, .int .i64 lo, .int .i64 hi] w fun e w' => e = .returned (.bool (inB n lo hi)) ∧ w = w' := by
  by_cases h : lo ≤ n
  · go_enter Try.func26, Try.ntmps26
    go_wp2
    go_ret
    exact ⟨ret_bool (by simp [inB, h]), rfl⟩
  · have h' : n < lo := by omega
    go_enter Try.func26, Try.ntmps26
    go_wp2
    go_ret
    exact ⟨ret_bool (inB_not.2 (.inl h')).symm, rfl⟩
theorem up_c (lo hi most : Int) (w : World) :
    Calls Try.prog 79 #[.agg #[.int .i64 lo, .int .i64 hi], .int .i64 most] w fun e w' => e = .returned (.bool (upB lo hi most)) ∧ Below w.heap.size w w' := by
  by_cases h : 0 ≤ lo
  · by_cases h2 : lo ≤ hi
    · go_enter Try.func79, Try.ntmps79
      go_wp2
      go_ret
      exact ⟨ret_bool (by simp [upB, h, h2]), (Below.refl _ _).alloc (Nat.le_refl _) _⟩
    · have h3 : hi < lo := by omega
      go_enter Try.func79, Try.ntmps79
      go_wp2
      go_ret
      exact ⟨ret_bool (by simp [upB]; omega), (Below.refl _ _).alloc (Nat.le_refl _) _⟩
  · have h' : lo < 0 := by omega
    go_enter Try.func79, Try.ntmps79
    go_wp2
    go_ret
    exact ⟨ret_bool (by simp [upB]; omega), (Below.refl _ _).alloc (Nat.le_refl _) _⟩
theorem low_c (lo hi : Int) (w : World) : Calls Try.prog 54 #[.agg #[.int .i64 lo, .int .i64 hi]] w fun e w' => e = .returned (.int .i64 lo) ∧ Below w.heap.size w w' := by
  go_enter Try.func54, Try.ntmps54
  go_wp2
  go_ret
  exact ⟨rfl, (Below.refl _ _).alloc (Nat.le_refl _) _⟩
theorem high_c (lo hi : Int) (w : World) : Calls Try.prog 56 #[.agg #[.int .i64 lo, .int .i64 hi]] w fun e w' => e = .returned (.int .i64 hi) ∧ Below w.heap.size w w' := by
  go_enter Try.func56, Try.ntmps56
  go_wp2
  go_ret
  exact ⟨rfl, (Below.refl _ _).alloc (Nat.le_refl _) _⟩
theorem parcel_c (p : Par) (w : World) :
    Calls Try.prog 73 #[.agg #[.int .i64 p.worth, .int .i64 p.price, .int .i64 p.people, .bool p.ins]] w fun e w' => e = .returned (.bool (parOk p)) ∧ Below w.heap.size w w' := by
  have hv : parOk p = (inB p.worth 0 100000 && inB p.price 0 100000 && inB p.people 0 1000) := rfl
  cases h1 : inB p.worth 0 100000
  · rw [h1] at hv
    have HM := Lib.hid hv; clear hv
    go_enter Try.func73, Try.ntmps73
    go_wp2_with (go_at_call 69; refine (within_c _ _ _ _).mono ?_; rintro e w' ⟨rfl, rfl⟩)
    go_ret
    exact ⟨ret_bool HM.out.symm, (Below.refl _ _).alloc (Nat.le_refl _) _⟩
  · cases h2 : inB p.price 0 100000
    all_goals
      rw [h1, h2] at hv
      have HM := Lib.hid hv; clear hv
      go_enter Try.func73, Try.ntmps73
      go_wp2_with (go_at_call 69; refine (within_c _ _ _ _).mono ?_; rintro e w' ⟨rfl, rfl⟩)
      go_ret
      exact ⟨ret_bool HM.out.symm, (Below.refl _ _).alloc (Nat.le_refl _) _⟩
end Go.Proofs.Ytphdndiikikecaa
