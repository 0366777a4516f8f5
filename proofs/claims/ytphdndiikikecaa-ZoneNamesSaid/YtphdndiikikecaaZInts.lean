/- CONTRACTS of the small functions of package zone and of its reference: within, In, up, upTo, low, high, valid. -/
import Derived.Test.YtphdndiikikecaaProg
import Derived.Test.YtphdndiikikecaaZLaw
import Derived.Deep.Quiet
import Derived.BigQuiet
set_option linter.unusedVariables false
set_option linter.unusedSimpArgs false
namespace Go.Proofs.Ytphdndiikikecaa
open Go.RowKit Go.Proofs

section
variable {w : World} {A : Option Addr} {n : Nat}
theorem Rd.atP {l : List Par} (h : Rd encP 4 w A n l) {i : Nat} (hi : i < n) :
    ∃ b o x, A = some ⟨b, o, none⟩ ∧ b < w.heap.size ∧ l[i]? = some x ∧ w.cell? ⟨b, o + i * 4, none⟩ = some (.int .i64 x.worth) ∧ w.cell? ⟨b, o + i * 4 + 1, none⟩ = some (.int .i64 x.price) ∧
      w.cell? ⟨b, o + i * 4 + 2, none⟩ = some (.int .i64 x.people) ∧ w.cell? ⟨b, o + i * 4 + 3, none⟩ = some (.bool x.ins) := by
  obtain ⟨b, o, x, e, hb, hx, hc⟩ := h.at_ hi
  exact ⟨b, o, x, e, hb, hx, hc 0 _ rfl, hc 1 _ rfl, hc 2 _ rfl, hc 3 _ rfl⟩
theorem Rd.atS {l : List Sli} (h : Rd encS 4 w A n l) {i : Nat} (hi : i < n) :
    ∃ b o x, A = some ⟨b, o, none⟩ ∧ b < w.heap.size ∧ l[i]? = some x ∧ w.cell? ⟨b, o + i * 4, none⟩ = some (.slice x.A x.n x.c) ∧ w.cell? ⟨b, o + i * 4 + 1, none⟩ = some (.int .i64 x.rate) ∧
      w.cell? ⟨b, o + i * 4 + 2, none⟩ = some (.int .i64 x.lo) ∧ w.cell? ⟨b, o + i * 4 + 3, none⟩ = some (.int .i64 x.hi) := by
  obtain ⟨b, o, x, e, hb, hx, hc⟩ := h.at_ hi
  exact ⟨b, o, x, e, hb, hx, hc 0 _ rfl, hc 1 _ rfl, hc 2 _ rfl, hc 3 _ rfl⟩
end
/-- A valley in memory: its slices of parcels and of slides, and the ways. -/
structure RdV (w : World) (PA : Option Addr) (pn : Nat) (SA : Option Addr) (sn : Nat) (v : Vly) : Prop where
  pars : Rd encP 4 w PA pn v.pars
  sls : Rd encS 4 w SA sn v.sls
  way : ∀ (i : Nat) (s : Sli), v.sls[i]? = some s → Rd enc1 1 w s.A s.n s.way ∧ s.n ≤ maxLen ∧ s.n ≤ s.c
theorem RdV.below {w w' : World} {PA SA : Option Addr} {pn sn : Nat} {v : Vly} (h : RdV w PA pn SA sn v) (hb : Below w.heap.size w w') : RdV w' PA pn SA sn v :=
  ⟨h.pars.mono hb, h.sls.mono hb, fun i s hs => ⟨(h.way i s hs).1.mono hb, (h.way i s hs).2⟩⟩
/-- the value of a valley -/
abbrev valV (PA : Option Addr) (pn pc : Nat) (SA : Option Addr) (sn sc : Nat) (v : Vly) : Value := .agg #[.slice PA pn pc, .slice SA sn sc, .int .i64 v.s0, .int .i64 v.s1, .int .i64 v.s2]

theorem within_c (n lo hi : Int) (w : World) :
    Calls Try.prog 69 #[.int .i64 n, .int .i64 lo, .int .i64 hi] w fun e w' => e = .returned (.bool (inB n lo hi)) ∧ w = w' := by
  by_cases h : lo ≤ n
  · go_enter Try.func69, Try.ntmps69
    go_wp2
    go_ret
    exact ⟨ret_bool (by simp [inB, h]), rfl⟩
  · have h' : n < lo := by omega
    go_enter Try.func69, Try.ntmps69
    go_wp2
    go_ret
    exact ⟨ret_bool (inB_not.2 (.inl h')).symm, rfl⟩
theorem In_c (n lo hi : Int) (w : World) :
    Calls Try.prog 26 #[.int .i64 n, .int .i64 lo, .int .i64 hi] w fun e w' => e = .returned (.bool (inB n lo hi)) ∧ w = w' := by
  by_cases h : lo ≤ n
  · go_enter Try.func26, Try.ntmps26
    go_wp2
    go_ret
    exact ⟨ret_bool (by simp [inB, h]), rfl⟩
  · have h' : n < lo := by omega
    go_enter Try.func26, Try.ntmps26
    go_wp2
    go_ret
    exact ⟨ret_bool (inB_not.2 (.inl h')).symm, rfl⟩
theorem up_c (lo hi most : Int) (w : World) :
    Calls Try.prog 79 #[.agg #[.int .i64 lo, .int .i64 hi], .int .i64 most] w fun e w' => e = .returned (.bool (upB lo hi most)) ∧ Below w.heap.size w w' := by
  by_cases h : 0 ≤ lo
  · by_cases h2 : lo ≤ hi
    · go_enter Try.func79, Try.ntmps79
      go_wp2
      go_ret
      exact ⟨ret_bool (by simp [upB, h, h2]), (Below.refl _ _).alloc (Nat.le_refl _) _⟩
    · have h3 : hi < lo := by omega
      go_enter Try.func79, Try.ntmps79
      go_wp2
      go_ret
      exact ⟨ret_bool (by simp [upB]; omega), (Below.refl _ _).alloc (Nat.le_refl _) _⟩
  · have h' : lo < 0 := by omega
    go_enter Try.func79, Try.ntmps79
    go_wp2
    go_ret
    exact ⟨ret_bool (by simp [upB]; omega), (Below.refl _ _).alloc (Nat.le_refl _) _⟩
theorem low_c (lo hi : Int) (w : World) : Calls Try.prog 54 #[.agg #[.int .i64 lo, .int .i64 hi]] w fun e w' => e = .returned (.int .i64 lo) ∧ Below w.heap.size w w' := by
  go_enter Try.func54, Try.ntmps54
  go_wp2
  go_ret
  exact ⟨rfl, (Below.refl _ _).alloc (Nat.le_refl _) _⟩
theorem high_c (lo hi : Int) (w : World) : Calls Try.prog 56 #[.agg #[.int .i64 lo, .int .i64 hi]] w fun e w' => e = .returned (.int .i64 hi) ∧ Below w.heap.size w w' := by
  go_enter Try.func56, Try.ntmps56
  go_wp2
  go_ret
  exact ⟨rfl, (Below.refl _ _).alloc (Nat.le_refl _) _⟩
theorem parcel_c (p : Par) (w : World) :
    Calls Try.prog 73 #[.agg #[.int .i64 p.worth, .int .i64 p.price, .int .i64 p.people, .bool p.ins]] w fun e w' => e = .returned (.bool (parOk p)) ∧ Below w.heap.size w w' := by
  have hv : parOk p = (inB p.worth 0 100000 && inB p.price 0 100000 && inB p.people 0 1000) := rfl
  cases h1 : inB p.worth 0 100000
  · rw [h1] at hv
    have HM := Lib.hid hv; clear hv
    go_enter Try.func73, Try.ntmps73
    go_wp2_with (go_at_call 69; refine (within_c _ _ _ _).mono ?_; rintro e w' ⟨rfl, rfl⟩)
    go_ret
    exact ⟨ret_bool HM.out.symm, (Below.refl _ _).alloc (Nat.le_refl _) _⟩
  · cases h2 : inB p.price 0 100000
    all_goals
      rw [h1, h2] at hv
      have HM := Lib.hid hv; clear hv
      go_enter Try.func73, Try.ntmps73
      go_wp2_with (go_at_call 69; refine (within_c _ _ _ _).mono ?_; rintro e w' ⟨rfl, rfl⟩)
      go_ret
      exact ⟨ret_bool HM.out.symm, (Below.refl _ _).alloc (Nat.le_refl _) _⟩
end Go.Proofs.Ytphdndiikikecaa

namespace Go.Proofs.Ytphdndiikikecaa
open Go.RowKit Go.Proofs

theorem take_eq_all {α : Type} {a b : List α} {n : Nat} (ha : a.length = n) (hb : b.length = n) (h : a.take n = b.take n) : a = b := by
  rwa [List.take_of_length_le (by omega), List.take_of_length_le (by omega)] at h
theorem ne_of_get {α : Type} {a b : List α} {k : Nat} {x y : α} (ha : a[k]? = some x) (hb : b[k]? = some y) (h : x ≠ y) : a ≠ b := by
  rintro rfl; rw [ha] at hb; cases hb; exact h rfl
theorem take_snoc_eq {α : Type} {a b : List α} {k : Nat} {x : α} (ha : a[k]? = some x) (hb : b[k]? = some x) (h : a.take k = b.take k) : a.take (k + 1) = b.take (k + 1) := by
  rw [List.take_add_one, List.take_add_one, ha, hb, h]

set_option maxRecDepth 100000 in
set_option maxHeartbeats 400000 in
theorem ints_c {l l' : List Int} {A A' : Option Addr} {n c n' c' : Nat} {w : World} (h : Rd enc1 1 w A n l) (h' : Rd enc1 1 w A' n' l') (hn : n ≤ 1000000000) :
    Calls Try.prog 29 #[.slice A n c, .slice A' n' c'] w fun e w' => e = .returned (.bool (decide (l = l'))) ∧ Below w.heap.size w w' := by
  have hl := h.len; have hl' := h'.len
  have HL := Lib.hid hl; have HL' := Lib.hid hl'; clear hl hl'
  by_cases hne : n = n'
  · subst hne
    have hb0 : ((n : Int) == (n : Int)) = true := by simp
    go_enter Try.func29, Try.ntmps29
    go_wp2_with fail
    go_loopw [5] (fun i wr => ∃ k : Nat, k ≤ n ∧ i = .int .i64 k ∧ Below w.heap.size w wr ∧ l.take k = l'.take k) (fun i _ => n - (intOf i).toNat)
    case atStart => exact ⟨0, Nat.zero_le _, rfl, Below.refl _ _, rfl⟩
    case round =>
      obtain ⟨k, hk, rfl, hb, heq⟩ := hrel
      have HE := Lib.hid heq; clear heq
      by_cases hlt : k < n
      · obtain ⟨b, o, x, hA, _, hx, h0⟩ := (h.below hb).at1 hlt
        subst hA
        obtain ⟨b', o', y, hA, _, hy, h1⟩ := (h'.below hb).at1 hlt
        subst hA
        have HX := Lib.hid hx; have HY := Lib.hid hy; clear hx hy
        have HB := Lib.hid hb; clear hb
        have hkn : (k : Int) < (n : Int) := by omega
        by_cases hxy : x = y
        · subst hxy
          have e1 : (x == x) = true := by simp
          have e2 : (x != x) = false := by simp
          go_wp2_with fail
          go_quiet (fail)
          go_wp2
          go_roundw
          case rel => exact ⟨k + 1, by omega, by go_num, below_drewN HB.out _, take_snoc_eq HX.out HY.out HE.out⟩
          case measure => simp [intOf] <;> omega
        · have e1 : (x == y) = false := by simpa using hxy
          have e2 : (x != y) = true := by simpa using hxy
          have HNE := Lib.hid hxy; clear hxy
          go_wp2_with fail
          go_quiet (fail)
          go_wp2
          go_ret
          exact ⟨ret_bool (decide_eq_false (ne_of_get HX.out HY.out HNE.out)).symm, below_drewN HB.out _⟩
      · obtain rfl : k = n := by omega
        go_wp2_with fail
        go_ret
        exact ⟨ret_bool (decide_eq_true (take_eq_all HL.out HL'.out HE.out)).symm, hb⟩
  · have hb0 : ((n : Int) == (n' : Int)) = false := by simp; omega
    have hb1 : ((n : Int) != (n' : Int)) = true := by simp; omega
    have HNE := Lib.hid hne; clear hne
    go_enter Try.func29, Try.ntmps29
    go_wp2_with fail
    go_ret
    exact ⟨ret_bool (decide_eq_false (fun e => HNE.out (by rw [← HL.out, ← HL'.out, e]))).symm, Below.refl _ _⟩

/-- are ranges those from low to high? -/
def rngB (l : List (Int × Int)) (lo hi : List Int) : Bool := decide (l.length = lo.length ∧ l.length = hi.length ∧ l = lo.zip hi)
set_option maxRecDepth 100000 in
set_option maxHeartbeats 400000 in
theorem rangesL_c {l : List (Int × Int)} {lo hi : List Int} {A A1 A2 : Option Addr} {n c n1 c1 n2 c2 : Nat} {w : World} (h : Rd enc2 2 w A n l) (h1 : Rd enc1 1 w A1 n1 lo) (h2 : Rd enc1 1 w A2 n2 hi) (hn : n ≤ 1000000000) :
    Calls Try.prog 24 #[.slice A n c, .slice A1 n1 c1, .slice A2 n2 c2] w fun e w' => e = .returned (.bool (rngB l lo hi)) ∧ Below w.heap.size w w' := by
  have HL := Lib.hid h.len; have HL1 := Lib.hid h1.len; have HL2 := Lib.hid h2.len
  by_cases hne1 : n = n1
  · by_cases hne2 : n = n2
    · subst hne1 hne2
      have hb0 : ((n : Int) == (n : Int)) = true := by simp
      have hb1 : ((n : Int) != (n : Int)) = false := by simp
      have hzl : (lo.zip hi).length = n := by rw [List.length_zip, HL1.out, HL2.out]; omega
      have HZL := Lib.hid hzl; clear hzl
      have HR := Lib.hid (show rngB l lo hi = decide (l = lo.zip hi) by unfold rngB; rw [HL.out, HL1.out, HL2.out]; simp)
      obtain ⟨R, hR⟩ : ∃ R, R = rngB l lo hi := ⟨_, rfl⟩
      rw [← hR] at HR ⊢
      clear hR
      go_enter Try.func24, Try.ntmps24
      go_wp2_with fail
      go_loopw [7] (fun i wr => ∃ k : Nat, k ≤ n ∧ i = .int .i64 k ∧ Below w.heap.size w wr ∧ l.take k = (lo.zip hi).take k) (fun i _ => n - (intOf i).toNat)
      case atStart => exact ⟨0, Nat.zero_le _, rfl, Below.refl _ _, rfl⟩
      case round =>
        obtain ⟨k, hk, rfl, hb, heq⟩ := hrel
        have HE := Lib.hid heq; clear heq
        by_cases hlt : k < n
        · obtain ⟨b, o, x, hA, _, hx, h0, h0'⟩ := (h.below hb).at2 hlt
          subst hA
          obtain ⟨b', o', y, hA, _, hy, q1⟩ := (h1.below hb).at1 hlt
          subst hA
          obtain ⟨b2, o2, z, hA, _, hz, q2⟩ := (h2.below hb).at1 hlt
          subst hA
          have hyz : (lo.zip hi)[k]? = some (y, z) := List.getElem?_zip_eq_some.2 (show _ = some (y, z).1 ∧ _ = some (y, z).2 from ⟨hy, hz⟩)
          have HX := Lib.hid hx; have HY := Lib.hid hyz; clear hx hy hz hyz
          have HB := Lib.hid hb; clear hb
          have hkn : (k : Int) < (n : Int) := by omega
          have hk0 : (0 : Int) ≤ (k : Int) := by omega
          obtain ⟨x1, x2⟩ := x
          simp only at h0 h0'
          by_cases hxy : x1 = y
          · subst hxy
            have e1 : (x1 == x1) = true := by simp
            have e2 : (x1 != x1) = false := by simp
            by_cases hxz : x2 = z
            · subst hxz
              have e3 : (x2 == x2) = true := by simp
              have e4 : (x2 != x2) = false := by simp
              go_wp2_with fail
              go_quiet (fail)
              go_wp2
              go_roundw
              case rel => exact ⟨k + 1, by omega, by go_num, below_drewN HB.out _, take_snoc_eq HX.out HY.out HE.out⟩
              case measure => simp [intOf] <;> omega
            · have e3 : (x2 == z) = false := by simpa using hxz
              have e4 : (x2 != z) = true := by simpa using hxz
              have HNE := Lib.hid (show ¬ ((x1, x2) : Int × Int) = (x1, z) by simp [hxz]); clear hxz
              go_wp2_with fail
              go_quiet (fail)
              go_wp2
              go_ret
              exact ⟨ret_bool (by rw [HR.out]; exact (decide_eq_false (ne_of_get HX.out HY.out HNE.out)).symm), below_drewN HB.out _⟩
          · have e1 : (x1 == y) = false := by simpa using hxy
            have e2 : (x1 != y) = true := by simpa using hxy
            have HNE := Lib.hid (show ¬ ((x1, x2) : Int × Int) = (y, z) by simp [hxy]); clear hxy
            go_wp2_with fail
            go_quiet (fail)
            go_wp2
            go_ret
            exact ⟨ret_bool (by rw [HR.out]; exact (decide_eq_false (ne_of_get HX.out HY.out HNE.out)).symm), below_drewN HB.out _⟩
        · obtain rfl : k = n := by omega
          go_wp2_with fail
          go_ret
          exact ⟨ret_bool (by rw [HR.out]; exact (decide_eq_true (take_eq_all HL.out HZL.out HE.out)).symm), hb⟩
    · subst hne1
      have hb0 : ((n : Int) == (n : Int)) = true := by simp
      have hb1 : ((n : Int) != (n : Int)) = false := by simp
      have hb2 : ((n : Int) == (n2 : Int)) = false := by simp; omega
      have hb3 : ((n : Int) != (n2 : Int)) = true := by simp; omega
      have HR := Lib.hid (show rngB l lo hi = false by unfold rngB; rw [HL.out, HL1.out, HL2.out]; simp [hne2])
      clear hne2
      go_enter Try.func24, Try.ntmps24
      go_wp2_with fail
      go_ret
      exact ⟨ret_bool HR.out.symm, Below.refl _ _⟩
  · have hb0 : ((n : Int) == (n1 : Int)) = false := by simp; omega
    have hb1 : ((n : Int) != (n1 : Int)) = true := by simp; omega
    have HR := Lib.hid (show rngB l lo hi = false by unfold rngB; rw [HL.out, HL1.out, HL2.out]; simp [hne1])
    clear hne1
    go_enter Try.func24, Try.ntmps24
    go_wp2_with fail
    go_ret
    exact ⟨ret_bool HR.out.symm, Below.refl _ _⟩
theorem span_c (a b : Int) (w : World) : Calls Try.prog 52 #[.int .i64 a, .int .i64 b] w fun e w' => e = .returned (.agg #[.int .i64 a, .int .i64 b]) ∧ Below w.heap.size w w' := by
  go_enter Try.func52, Try.ntmps52
  go_wp2_with fail
  refine bodyPost_ret (v := .agg #[.int .i64 a, .int .i64 b]) ?_ rfl ⟨rfl, (Below.refl _ w).alloc (Nat.le_refl _) _⟩
  simp [results, Try.f52, go_sem]
end Go.Proofs.Ytphdndiikikecaa
