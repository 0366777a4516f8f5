/- PLAIN LAWS of a slope whose columns have one bed each (layer 1, as layer 12 asks it): what a surface costs, the least factor by halves. No program in sight. -/
import Derived.Test.YtjpobkmlcjbpiaaGreatProg
import Derived.Test.YtjpobkmlcjbpiaaGreatWLaw
set_option linter.unusedVariables false
set_option linter.unusedSimpArgs false
namespace Go.Proofs.YtjpobkmlcjbpiaaGreat

/-- a bed: drive, normal, and its ranges -/
structure BedS where
  drive : Int
  normal : Int
  f0 : Int
  f1 : Int
  c0 : Int
  c1 : Int
  w0 : Int
  w1 : Int
  deriving DecidableEq
def bedOk (b : BedS) : Prop := (-100000 ≤ b.drive ∧ b.drive ≤ 100000) ∧ (0 ≤ b.normal ∧ b.normal ≤ 100000) ∧ (0 ≤ b.f0 ∧ b.f0 ≤ b.f1 ∧ b.f1 ≤ 2000) ∧ (0 ≤ b.c0 ∧ b.c0 ≤ b.c1 ∧ b.c1 ≤ 100000) ∧ (0 ≤ b.w0 ∧ b.w0 ≤ b.w1 ∧ b.w1 ≤ 100000)
/-- what a column holds in a truth, and at least -/
def holdsS (b : BedS) (f c w : Int) : Int := max 0 (b.normal - w) * f / 1000 + c
def leastS (b : BedS) : Int := holdsS b b.f0 b.c0 b.w1
theorem holds_nn {b : BedS} {f c w : Int} (hf : 0 ≤ f) (hc : 0 ≤ c) : 0 ≤ holdsS b f c w := by
  unfold holdsS
  have : 0 ≤ max 0 (b.normal - w) * f / 1000 := Int.ediv_nonneg (Int.mul_nonneg (by omega) hf) (by omega)
  omega
theorem holds_bd {b : BedS} {f c w : Int} (hn : b.normal ≤ 100000) (hw : 0 ≤ w) (hf : 0 ≤ f ∧ f ≤ 2000) (hc : c ≤ 100000) : holdsS b f c w ≤ 300000 := by
  unfold holdsS
  have h1 : max 0 (b.normal - w) * f ≤ 100000 * 2000 := by
    refine Int.le_trans (Int.mul_le_mul_of_nonneg_right (c := f) (show max 0 (b.normal - w) ≤ 100000 by omega) hf.1) (Int.mul_le_mul_of_nonneg_left hf.2 (by omega))
  omega
/-- any truth of a bed holds at least as much -/
theorem least_le {b : BedS} {f c w : Int} (h : bedOk b) (hf : b.f0 ≤ f) (hc : b.c0 ≤ c) (hw : w ≤ b.w1) : leastS b ≤ holdsS b f c w := by
  unfold leastS holdsS
  have h1 : max 0 (b.normal - b.w1) * b.f0 ≤ max 0 (b.normal - w) * f :=
    Int.le_trans (Int.mul_le_mul_of_nonneg_left hf (by omega)) (Int.mul_le_mul_of_nonneg_right (by omega) (Int.le_trans h.2.2.1.1 hf))
  have := Int.ediv_le_ediv (c := 1000) (by omega) h1
  omega
/-- a sum over the columns from i on, k of them behind it -/
def sumS (P : Nat → Int) : Nat → Nat → Int
  | 0, i => P i
  | k + 1, i => P i + sumS P k (i + 1)
theorem sum_lin (P Q : Nat → Int) (x y : Int) : ∀ k i, sumS (fun j => x * P j - y * Q j) k i = x * sumS P k i - y * sumS Q k i
  | 0, _ => rfl
  | k + 1, i => by
    unfold sumS
    rw [sum_lin P Q x y k (i + 1), Int.mul_add, Int.mul_add]; omega
theorem sum_nn {P : Nat → Int} (h : ∀ j, 0 ≤ P j) : ∀ k i, 0 ≤ sumS P k i
  | 0, i => h i
  | k + 1, i => by
    have := sum_nn h k (i + 1); have := h i
    unfold sumS; omega
theorem sum_le {P Q : Nat → Int} (h : ∀ j, P j ≤ Q j) : ∀ k i, sumS P k i ≤ sumS Q k i
  | 0, i => h i
  | k + 1, i => by
    have := sum_le h k (i + 1); have := h i
    unfold sumS; omega
theorem sum_bd {P : Nat → Int} {B : Int} (hB : ∀ j, -B ≤ P j ∧ P j ≤ B) : ∀ (k i : Nat), -(B * ((k : Int) + 1)) ≤ sumS P k i ∧ sumS P k i ≤ B * ((k : Int) + 1)
  | 0, i => by have := hB i; simp [sumS]; omega
  | k + 1, i => by
    have ih := sum_bd hB k (i + 1); have := hB i
    have e : B * (((k + 1 : Nat) : Int) + 1) = B * ((k : Int) + 1) + B := by rw [show (((k + 1 : Nat) : Int) + 1) = ((k : Int) + 1) + 1 by omega, Int.mul_add B _ 1]; omega
    unfold sumS
    rw [e]; omega
/-- is there a surface of at least so many columns, out of m, that costs less than nothing? -/
def Lower (P : Nat → Int) (m least : Nat) : Prop := ∃ i j, i ≤ j ∧ j < m ∧ i + least ≤ j + 1 ∧ sumS P (j - i) i < 0
def costS (H D : Nat → Int) (n : Int) : Nat → Int := fun j => 1000 * H j - n * D j
theorem lower_iff {H D : Nat → Int} {n : Int} {m least : Nat} : Lower (costS H D n) m least ↔ ∃ i j, i ≤ j ∧ j < m ∧ i + least ≤ j + 1 ∧ 1000 * sumS H (j - i) i < n * sumS D (j - i) i := by
  constructor
  · rintro ⟨i, j, h1, h2, h3, h4⟩
    exact ⟨i, j, h1, h2, h3, by rw [show costS H D n = fun j => 1000 * H j - n * D j from rfl, sum_lin] at h4; omega⟩
  · rintro ⟨i, j, h1, h2, h3, h4⟩
    exact ⟨i, j, h1, h2, h3, by rw [show costS H D n = fun j => 1000 * H j - n * D j from rfl, sum_lin]; omega⟩
/-- a surface that drives, and its factor -/
def FacS (H D : Nat → Int) (m least : Nat) (q : Int) : Prop := ∃ i j, i ≤ j ∧ j < m ∧ i + least ≤ j + 1 ∧ 1 ≤ sumS D (j - i) i ∧ q = 1000 * sumS H (j - i) i / sumS D (j - i) i
theorem lower_fac {H D : Nat → Int} (hH : ∀ j, 0 ≤ H j) {n : Int} (hn : 0 ≤ n) {m least : Nat} : Lower (costS H D n) m least ↔ ∃ q, FacS H D m least q ∧ q < n := by
  rw [lower_iff]
  constructor
  · rintro ⟨i, j, h1, h2, h3, h4⟩
    have hh := sum_nn hH (j - i) i
    have hd : 1 ≤ sumS D (j - i) i := by
      refine Classical.byContradiction fun hc => ?_
      have : n * sumS D (j - i) i ≤ 0 := Int.mul_nonpos_of_nonneg_of_nonpos hn (by omega)
      omega
    exact ⟨_, ⟨i, j, h1, h2, h3, hd, rfl⟩, Int.ediv_lt_of_lt_mul (by omega) h4⟩
  · rintro ⟨q, ⟨i, j, h1, h2, h3, hd, rfl⟩, h4⟩
    exact ⟨i, j, h1, h2, h3, Int.lt_mul_of_ediv_lt (by omega) h4⟩
/-- halves: the least number from which on something holds, from lo up to hi -/
def halfS (P : Int → Bool) : Nat → Int → Int → Int
  | 0, lo, _ => lo
  | f + 1, lo, hi => if lo < hi then (if P ((lo + hi) / 2) then halfS P f lo ((lo + hi) / 2) else halfS P f ((lo + hi) / 2 + 1) hi) else lo
theorem half_spec {P : Int → Bool} (hup : ∀ a b, a ≤ b → P a = true → P b = true) : ∀ (f : Nat) (lo hi : Int), hi - lo ≤ f → lo ≤ hi →
    lo ≤ halfS P f lo hi ∧ halfS P f lo hi ≤ hi ∧ (halfS P f lo hi < hi → P (halfS P f lo hi) = true) ∧ ∀ n, lo ≤ n → n < halfS P f lo hi → P n = false
  | 0, lo, hi, h, hl => by unfold halfS; exact ⟨by omega, hl, fun hh => by omega, fun n h1 h2 => by omega⟩
  | f + 1, lo, hi, h, hl => by
    unfold halfS
    split
    · split
      · rename_i h1 h2
        obtain ⟨a, b, c, d⟩ := half_spec hup f lo ((lo + hi) / 2) (by omega) (by omega)
        refine ⟨a, by omega, fun hh => ?_, d⟩
        by_cases he : halfS P f lo ((lo + hi) / 2) < (lo + hi) / 2
        · exact c he
        · rw [show halfS P f lo ((lo + hi) / 2) = (lo + hi) / 2 by omega]; exact h2
      · rename_i h1 h2
        obtain ⟨a, b, c, d⟩ := half_spec hup f ((lo + hi) / 2 + 1) hi (by omega) (by omega)
        refine ⟨by omega, b, c, fun n h3 h4 => ?_⟩
        by_cases he : (lo + hi) / 2 + 1 ≤ n
        · exact d n he h4
        · cases hp : P n
          · rfl
          · exact absurd (hup n _ (by omega) hp) h2
    · exact ⟨Int.le_refl _, hl, fun hh => by omega, fun n h1 h2 => by omega⟩
theorem fac_nn {H D : Nat → Int} (hH : ∀ j, 0 ≤ H j) {m least : Nat} {q : Int} (h : FacS H D m least q) : 0 ≤ q := by
  obtain ⟨i, j, _, _, _, hd, rfl⟩ := h
  exact Int.ediv_nonneg (by have := sum_nn hH (j - i) i; omega) (by omega)
/-- where the halves end: the least number from 1 on for which some surface is lower, or 10001 -/
structure WorstAt (H D : Nat → Int) (m least : Nat) (n : Int) : Prop where
  lo : 1 ≤ n
  hi : n ≤ 10001
  is : n ≤ 10000 → Lower (costS H D n) m least
  no : ∀ k, 1 ≤ k → k < n → ¬ Lower (costS H D k) m least
theorem WorstAt.fac {H D : Nat → Int} {m least : Nat} {n : Int} (hH : ∀ j, 0 ≤ H j) (h : WorstAt H D m least n) (hn : n ≤ 10000) : FacS H D m least (n - 1) ∧ ∀ q, FacS H D m least q → n - 1 ≤ q := by
  have hall : ∀ q, FacS H D m least q → n - 1 ≤ q := fun q hq => by
    have h0 := fac_nn hH hq
    refine Classical.byContradiction fun hc => h.no (n - 1) (by omega) (by omega) ((lower_fac hH (by have := h.lo; omega)).2 ⟨q, hq, by omega⟩)
  obtain ⟨q, hq, hlt⟩ := (lower_fac hH (by have := h.lo; omega)).1 (h.is hn)
  have := hall q hq
  exact ⟨by rw [show n - 1 = q by omega]; exact hq, hall⟩
theorem WorstAt.big {H D : Nat → Int} {m least : Nat} {n : Int} (hH : ∀ j, 0 ≤ H j) (h : WorstAt H D m least n) (hn : ¬ n ≤ 10000) {q : Int} (hq : FacS H D m least q) : 10000 ≤ q := by
  refine Classical.byContradiction fun hc => h.no 10000 (by omega) (by have := h.hi; omega) ((lower_fac hH (by omega)).2 ⟨q, hq, by omega⟩)
/-- at the factor 1, with nothing held: some surface is lower just if one drives -/
theorem lower_drives {H D : Nat → Int} {m least : Nat} : Lower (costS (fun _ => 0) D 1) m least ↔ ∃ q, FacS H D m least q := by
  rw [lower_iff]
  have h0 : ∀ k i, sumS (fun _ => (0 : Int)) k i = 0 := by
    intro k; induction k with
    | zero => intro i; rfl
    | succ k ih => intro i; unfold sumS; rw [ih]; rfl
  constructor
  · rintro ⟨i, j, h1, h2, h3, h4⟩
    rw [h0] at h4
    exact ⟨_, i, j, h1, h2, h3, by omega, rfl⟩
  · rintro ⟨q, i, j, h1, h2, h3, h4, _⟩
    exact ⟨i, j, h1, h2, h3, by rw [h0]; omega⟩
/-- lower at a factor is lower at a greater one -/
theorem Lower.up {H D : Nat → Int} (hH : ∀ j, 0 ≤ H j) {m least : Nat} {a b : Int} (ha : 0 ≤ a) (hab : a ≤ b) (h : Lower (costS H D a) m least) : Lower (costS H D b) m least := by
  obtain ⟨q, hq, hl⟩ := (lower_fac hH ha).1 h
  exact (lower_fac hH (by omega)).2 ⟨q, hq, by omega⟩
/-- one step of the halves -/
theorem WorstAt.step {H D : Nat → Int} (hH : ∀ j, 0 ≤ H j) {m least : Nat} {n : Int} (hn : ¬ Lower (costS H D n) m least) : ∀ k, 1 ≤ k → k < n + 1 → ¬ Lower (costS H D k) m least := by
  intro k hk hkn hlow
  exact hn (hlow.up hH (by omega) (by omega))
/-- the least factor of all surfaces that drive, at most 10000, as the reference has it; -1: none drives -/
structure BestS (H D : Nat → Int) (m least : Nat) (best : Int) : Prop where
  none_ : best < 0 → best = -1 ∧ ∀ q, ¬ FacS H D m least q
  is : 0 ≤ best → ∃ q, FacS H D m least q ∧ best = min 10000 q
  all : 0 ≤ best → ∀ q, FacS H D m least q → best ≤ q
/-- what Worst tells is that -/
theorem BestS.worst {H D : Nat → Int} (hH : ∀ j, 0 ≤ H j) {m least : Nat} {best n : Int} (hb : BestS H D m least best) (h : WorstAt H D m least n) :
    (n ≤ 10000 → best = n - 1) ∧ (¬ n ≤ 10000 → Lower (costS (fun _ => 0) D 1) m least → best = 10000) ∧ (¬ n ≤ 10000 → ¬ Lower (costS (fun _ => 0) D 1) m least → best = -1) := by
  refine ⟨fun hn => ?_, fun hn hl => ?_, fun hn hl => ?_⟩
  · obtain ⟨h1, h2⟩ := h.fac hH hn
    have h0 : 0 ≤ best := Classical.byContradiction fun hc => (hb.none_ (by omega)).2 _ h1
    obtain ⟨q, hq, e⟩ := hb.is h0
    have := hb.all h0 _ h1; have := h2 _ hq
    omega
  · obtain ⟨q0, hq0⟩ := lower_drives.1 hl
    have h0 : 0 ≤ best := Classical.byContradiction fun hc => (hb.none_ (by omega)).2 _ hq0
    obtain ⟨q, hq, e⟩ := hb.is h0
    have := h.big hH hn hq
    omega
  · have hneg : best < 0 := Classical.byContradiction fun hc => by
      obtain ⟨q, hq, _⟩ := hb.is (by omega)
      exact hl ((lower_drives (H := H)).2 ⟨q, hq⟩)
    exact (hb.none_ hneg).1
end Go.Proofs.YtjpobkmlcjbpiaaGreat

namespace Go.Proofs.YtjpobkmlcjbpiaaGreat
open Go.RowKit Go.Proofs

def encBed (b : BedS) : List Value := [.int .i64 b.drive, .int .i64 b.normal, .int .i64 b.f0, .int .i64 b.f1, .int .i64 b.c0, .int .i64 b.c1, .int .i64 b.w0, .int .i64 b.w1]
theorem encBed_len (b : BedS) : (encBed b).length = 8 := rfl
def encCel (c : Cel) : List Value := [.int .i64 c.lo, .int .i64 c.hi, .int .i64 c.cap, .int .i64 c.keep, .int .i64 c.pass, .int .i64 c.to, .int .i64 c.pump]
theorem encCel_len (c : Cel) : (encCel c).length = 7 := rfl
def encDy (d : Dy) : List Value := [.int .i64 d.lo, .int .i64 d.hi, .int .i64 d.warm]
theorem encDy_len (d : Dy) : (encDy d).length = 3 := rfl
/-- a slice as a value -/
structure Slc where
  A : Option Addr
  n : Nat
  c : Nat
def Slc.v (x : Slc) : Value := .slice x.A x.n x.c
/-- a column of one bed -/
structure ColR where
  A : Option Addr
  c : Nat
  bed : BedS
def encC (r : ColR) : List Value := [.slice r.A 1 r.c]
theorem encC_len (r : ColR) : (encC r).length = 1 := rfl
section
variable {w : World} {A : Option Addr} {n : Nat}
theorem Rd.atBed {l : List BedS} (h : Rd encBed 8 w A n l) {i : Nat} (hi : i < n) :
    ∃ b o x, A = some ⟨b, o, none⟩ ∧ b < w.heap.size ∧ l[i]? = some x ∧ w.cell? ⟨b, o + i * 8, none⟩ = some (.int .i64 x.drive) ∧ w.cell? ⟨b, o + i * 8 + 1, none⟩ = some (.int .i64 x.normal) ∧ w.cell? ⟨b, o + i * 8 + 2, none⟩ = some (.int .i64 x.f0) ∧ w.cell? ⟨b, o + i * 8 + 3, none⟩ = some (.int .i64 x.f1) ∧ w.cell? ⟨b, o + i * 8 + 4, none⟩ = some (.int .i64 x.c0) ∧ w.cell? ⟨b, o + i * 8 + 5, none⟩ = some (.int .i64 x.c1) ∧ w.cell? ⟨b, o + i * 8 + 6, none⟩ = some (.int .i64 x.w0) ∧ w.cell? ⟨b, o + i * 8 + 7, none⟩ = some (.int .i64 x.w1) := by
  obtain ⟨b, o, x, e, hb, hx, hc⟩ := h.at_ hi
  exact ⟨b, o, x, e, hb, hx, hc 0 _ rfl, hc 1 _ rfl, hc 2 _ rfl, hc 3 _ rfl, hc 4 _ rfl, hc 5 _ rfl, hc 6 _ rfl, hc 7 _ rfl⟩
theorem Rd.atCel {l : List Cel} (h : Rd encCel 7 w A n l) {i : Nat} (hi : i < n) :
    ∃ b o x, A = some ⟨b, o, none⟩ ∧ b < w.heap.size ∧ l[i]? = some x ∧ w.cell? ⟨b, o + i * 7, none⟩ = some (.int .i64 x.lo) ∧ w.cell? ⟨b, o + i * 7 + 1, none⟩ = some (.int .i64 x.hi) ∧ w.cell? ⟨b, o + i * 7 + 2, none⟩ = some (.int .i64 x.cap) ∧ w.cell? ⟨b, o + i * 7 + 3, none⟩ = some (.int .i64 x.keep) ∧ w.cell? ⟨b, o + i * 7 + 4, none⟩ = some (.int .i64 x.pass) ∧ w.cell? ⟨b, o + i * 7 + 5, none⟩ = some (.int .i64 x.to) ∧ w.cell? ⟨b, o + i * 7 + 6, none⟩ = some (.int .i64 x.pump) := by
  obtain ⟨b, o, x, e, hb, hx, hc⟩ := h.at_ hi
  exact ⟨b, o, x, e, hb, hx, hc 0 _ rfl, hc 1 _ rfl, hc 2 _ rfl, hc 3 _ rfl, hc 4 _ rfl, hc 5 _ rfl, hc 6 _ rfl⟩
theorem Rd.atDy {l : List Dy} (h : Rd encDy 3 w A n l) {i : Nat} (hi : i < n) :
    ∃ b o x, A = some ⟨b, o, none⟩ ∧ b < w.heap.size ∧ l[i]? = some x ∧ w.cell? ⟨b, o + i * 3, none⟩ = some (.int .i64 x.lo) ∧ w.cell? ⟨b, o + i * 3 + 1, none⟩ = some (.int .i64 x.hi) ∧ w.cell? ⟨b, o + i * 3 + 2, none⟩ = some (.int .i64 x.warm) := by
  obtain ⟨b, o, x, e, hb, hx, hc⟩ := h.at_ hi
  exact ⟨b, o, x, e, hb, hx, hc 0 _ rfl, hc 1 _ rfl, hc 2 _ rfl⟩
theorem Rd.atC {l : List ColR} (h : Rd encC 1 w A n l) {i : Nat} (hi : i < n) :
    ∃ b o x, A = some ⟨b, o, none⟩ ∧ b < w.heap.size ∧ l[i]? = some x ∧ w.cell? ⟨b, o + i, none⟩ = some (.slice x.A 1 x.c) := by
  obtain ⟨b, o, x, e, hb, hx, hc⟩ := h.at_ hi
  exact ⟨b, o, x, e, hb, hx, by simpa using hc 0 _ rfl⟩
end
end Go.Proofs.YtjpobkmlcjbpiaaGreat

namespace Go.Proofs.YtjpobkmlcjbpiaaGreat
open Go.RowKit Go.Proofs

section
variable {p : Cel → Bool}
theorem allCel_1 (x : Cel) (B : Nat) (V : Nat) (w : World) (_hBl : B < w.heap.size) (hB : w.cell? ⟨B, 0, none⟩ = some (.func (.func 79) #[] #[.pointer (some ⟨V, 0, none⟩)]))
    (hp : ∀ W : World, Below w.heap.size w W → Calls Tryz.prog 79 #[.agg #[.int .i64 x.lo, .int .i64 x.hi, .int .i64 x.cap, .int .i64 x.keep, .int .i64 x.pass, .int .i64 x.to, .int .i64 x.pump], .pointer (some ⟨V, 0, none⟩)] W fun e w' => e = .returned (.bool (p x)) ∧ Below W.heap.size W w') :
    Calls Tryz.prog 105 #[.agg #[.int .i64 x.lo, .int .i64 x.hi, .int .i64 x.cap, .int .i64 x.keep, .int .i64 x.pass, .int .i64 x.to, .int .i64 x.pump], .pointer (some ⟨B, 0, none⟩)] w fun e w' => e = .returned (.bool (!p x)) ∧ Below w.heap.size w w' := by
  have hp' := hp (w.alloc (.cells #[.int .i64 x.lo, .int .i64 x.hi, .int .i64 x.cap, .int .i64 x.keep, .int .i64 x.pass, .int .i64 x.to, .int .i64 x.pump] 90)) ((Below.refl w.heap.size w).alloc (Nat.le_refl _) (.cells #[.int .i64 x.lo, .int .i64 x.hi, .int .i64 x.cap, .int .i64 x.keep, .int .i64 x.pass, .int .i64 x.to, .int .i64 x.pump] 90))
  have HP := Lib.hid hp'; clear hp hp'
  go_enter Tryz.func105, Tryz.ntmps105
  go_wp2_with (go_at_call 79; refine (HP.out).mono ?_; rintro e w' ⟨rfl, hb⟩)
  go_ret
  exact ⟨rfl, ((Below.refl _ _).alloc (Nat.le_refl _) _).trans (hb.mono (by simp))⟩

theorem idxCel_c {l : List (Cel)} {A : Option Addr} {n c : Nat} {B : Nat} (V : Nat) (w : World) (h : Rd encCel 7 w A n l) (hn : n ≤ maxLen) (hBl : B < w.heap.size)
    (hB : w.cell? ⟨B, 0, none⟩ = some (.func (.func 79) #[] #[.pointer (some ⟨V, 0, none⟩)]))
    (hp : ∀ (i : Nat) (x : Cel) (W : World), l[i]? = some x → Below w.heap.size w W → Calls Tryz.prog 79 #[.agg #[.int .i64 x.lo, .int .i64 x.hi, .int .i64 x.cap, .int .i64 x.keep, .int .i64 x.pass, .int .i64 x.to, .int .i64 x.pump], .pointer (some ⟨V, 0, none⟩)] W fun e w' => e = .returned (.bool (p x)) ∧ Below W.heap.size W w') :
    Calls Tryz.prog 114 #[.slice A n c, .func (.func 105) #[] #[.pointer (some ⟨B, 0, none⟩)]] w
      fun e w' => (∃ r : Int, e = .returned (.int .i64 r) ∧ (!decide (r ≥ 0)) = allB p l) ∧ Below w.heap.size w w' := by
  unfold maxLen at hn
  have HP := Lib.hid hp; clear hp
  go_enter Tryz.func114, Tryz.ntmps114
  go_wp2_with fail
  go_loopw [5, 8] (fun _ i wr => ∃ k : Nat, k ≤ n ∧ i = .int .i64 k ∧ Below w.heap.size w wr ∧ ∀ (j : Nat) (x : Cel), j < k → l[j]? = some x → p x = true) (fun _ i _ => n - (intOf i).toNat)
  case atStart => exact ⟨0, Nat.zero_le _, rfl, Below.refl _ _, fun j x hj => absurd hj (by omega)⟩
  case round =>
    obtain ⟨k, hk, rfl, hb, hall⟩ := hrel
    have HA := Lib.hid hall; clear hall
    by_cases hlt : k < n
    · obtain ⟨b, o, x, rfl, hbl, hx, h0, h1, h2, h3, h4, h5, h6⟩ := (h.below hb).atCel hlt
      have hx1 := fun W (hW : Below wr.heap.size wr W) => HP.out k x W hx (hb.trans (hW.mono hb.size))
      have HX1 := Lib.hid hx1; clear hx1
      have HX := Lib.hid hx; clear hx
      have hB' := (hb.cell (p := ⟨B, 0, none⟩) hBl).trans hB
      have hBl' : B < wr.heap.size := Nat.lt_of_lt_of_le hBl hb.size
      cases hm : p x
      all_goals
        have HM := Lib.hid hm; clear hm
        go_wp2_with (go_at_call 105; refine (allCel_1 _ _ V _ hBl' hB' HX1.out).mono ?_; rintro e w' ⟨rfl, hb'⟩; simp only [HM.out])
      · go_ret
        exact ⟨⟨k, rfl, by rw [(allB_not (p := p) (l := l)).2 ⟨k, x, HX.out, HM.out⟩]; simp⟩, hb.trans (hb'.mono hb.size)⟩
      · go_roundw
        case rel => exact ⟨k + 1, by omega, by go_num, hb.trans (hb'.mono hb.size), fun j y hj hy => by
          rcases Nat.lt_or_ge j k with hjk | hjk
          · exact HA.out j y hjk hy
          · obtain rfl : j = k := by omega
            rw [HX.out] at hy; cases hy; exact HM.out⟩
        case measure => simp [intOf]; omega
    · go_wp2
      go_ret
      refine ⟨⟨-1, rfl, ?_⟩, hb⟩
      rw [(allB_iff (p := p) (l := l)).2 fun i x hx => HA.out i x (by have := (List.getElem?_eq_some_iff.1 hx).1; have := h.len; omega) hx]
      simp

theorem containsCel_c {l : List (Cel)} {A : Option Addr} {n c : Nat} {B : Nat} (V : Nat) (w : World) (h : Rd encCel 7 w A n l) (hn : n ≤ maxLen) (hBl : B < w.heap.size)
    (hB : w.cell? ⟨B, 0, none⟩ = some (.func (.func 79) #[] #[.pointer (some ⟨V, 0, none⟩)]))
    (hp : ∀ (i : Nat) (x : Cel) (W : World), l[i]? = some x → Below w.heap.size w W → Calls Tryz.prog 79 #[.agg #[.int .i64 x.lo, .int .i64 x.hi, .int .i64 x.cap, .int .i64 x.keep, .int .i64 x.pass, .int .i64 x.to, .int .i64 x.pump], .pointer (some ⟨V, 0, none⟩)] W fun e w' => e = .returned (.bool (p x)) ∧ Below W.heap.size W w') :
    Calls Tryz.prog 104 #[.slice A n c, .func (.func 105) #[] #[.pointer (some ⟨B, 0, none⟩)]] w
      fun e w' => e = .returned (.bool (!allB p l)) ∧ Below w.heap.size w w' := by
  have hc := idxCel_c (c := c) V w h hn hBl hB hp
  have HC := Lib.hid hc; clear hc hp
  go_enter Tryz.func104, Tryz.ntmps104
  go_wp2_with (go_at_call 114; refine (HC.out).mono ?_; rintro e w' ⟨⟨r, rfl, hr⟩, hb⟩; have HR := Lib.hid hr; clear hr)
  go_ret
  exact ⟨ret_bool (by rw [← HR.out]; simp), hb⟩

theorem allCel_c {l : List (Cel)} {A : Option Addr} {n c : Nat} (V : Nat) (w : World) (h : Rd encCel 7 w A n l) (hn : n ≤ maxLen)
    (hp : ∀ (i : Nat) (x : Cel) (W : World), l[i]? = some x → Below w.heap.size w W → Calls Tryz.prog 79 #[.agg #[.int .i64 x.lo, .int .i64 x.hi, .int .i64 x.cap, .int .i64 x.keep, .int .i64 x.pass, .int .i64 x.to, .int .i64 x.pump], .pointer (some ⟨V, 0, none⟩)] W fun e w' => e = .returned (.bool (p x)) ∧ Below W.heap.size W w') :
    Calls Tryz.prog 75 #[.slice A n c, .func (.func 79) #[] #[.pointer (some ⟨V, 0, none⟩)]] w
      fun e w' => e = .returned (.bool (allB p l)) ∧ Below w.heap.size w w' := by
  have hbx := (Below.refl w.heap.size w).alloc (Nat.le_refl _) (.cells #[.func (.func 79) #[] #[.pointer (some ⟨V, 0, none⟩)]] 152)
  have hc := containsCel_c (c := c) (B := w.heap.size) V (w.alloc (.cells #[.func (.func 79) #[] #[.pointer (some ⟨V, 0, none⟩)]] 152)) (h.mono hbx) hn (by simp) (by simp) (fun i x W hx hW => hp i x W hx (hbx.trans (hW.mono (by simp))))
  have HC := Lib.hid hc; clear hc hp
  go_enter Tryz.func75, Tryz.ntmps75
  go_wp2_with (go_at_call 104; refine (HC.out).mono ?_; rintro e w' ⟨rfl, hb⟩)
  go_ret
  exact ⟨ret_bool (by simp), ((Below.refl _ _).alloc (Nat.le_refl _) _).trans (hb.mono (by simp))⟩
end
end Go.Proofs.YtjpobkmlcjbpiaaGreat
