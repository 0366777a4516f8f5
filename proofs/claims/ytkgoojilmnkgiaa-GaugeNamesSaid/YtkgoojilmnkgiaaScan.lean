/- PLAIN LAWS of reading bytes: which records are found, and what is lost. No program in sight. -/
import Derived.Test.YtkgoojilmnkgiaaReading
namespace Go.Proofs.Ytkgoojilmnkgiaa

/-- sixteen bytes from a place on -/
def win (bs : List UInt8) (a : Nat) : List UInt8 := (bs.drop a).take 16
theorem win_len {bs : List UInt8} {a : Nat} (h : a + 16 ≤ bs.length) : (win bs a).length = 16 := by simp [win]; omega
/-- the records that are found from a place on, with their places -/
def scan (bs : List UInt8) (a : Nat) : List (Rdg × Nat) :=
  if a + 16 ≤ bs.length then (if isRec (win bs a) = true then (rdgOf (win bs a), a) :: scan bs (a + 16) else scan bs (a + 1)) else []
termination_by bs.length - a
decreasing_by all_goals omega
theorem scan_end {bs : List UInt8} {a : Nat} (h : ¬ a + 16 ≤ bs.length) : scan bs a = [] := by rw [scan, if_neg h]
theorem scan_yes {bs : List UInt8} {a : Nat} (h : a + 16 ≤ bs.length) (hr : isRec (win bs a) = true) : scan bs a = (rdgOf (win bs a), a) :: scan bs (a + 16) := by rw [scan, if_pos h, if_pos hr]
theorem scan_no {bs : List UInt8} {a : Nat} (h : a + 16 ≤ bs.length) (hr : isRec (win bs a) = false) : scan bs a = scan bs (a + 1) := by rw [scan, if_pos h, if_neg (by rw [hr]; simp)]

/-- the places from one up to another -/
def fromTo (a b : Nat) : List Nat := List.range' a (b - a)
theorem fromTo_nil {a b : Nat} (h : b ≤ a) : fromTo a b = [] := by unfold fromTo; rw [Nat.sub_eq_zero_of_le h]; rfl
theorem fromTo_cons {a b : Nat} (h : a < b) : fromTo a b = a :: fromTo (a + 1) b := by
  unfold fromTo; rw [show b - a = (b - (a + 1)) + 1 by omega, List.range'_succ]
theorem fromTo_snoc {a b : Nat} (h : a ≤ b) : fromTo a (b + 1) = fromTo a b ++ [b] := by
  unfold fromTo; rw [show b + 1 - a = (b - a) + 1 by omega, List.range'_concat]; simp; omega
theorem fromTo_len (a b : Nat) : (fromTo a b).length = b - a := by simp [fromTo]

/-- what is lost up to a record, and where the next bytes begin -/
def lostStep (s : List Nat × Nat) (x : Rdg × Nat) : List Nat × Nat := (s.1 ++ fromTo s.2 x.2, x.2 + 16)
def lostAcc (l : List (Rdg × Nat)) : List Nat × Nat := l.foldl lostStep ([], 0)
theorem lostAcc_snoc (l : List (Rdg × Nat)) (x : Rdg × Nat) : lostAcc (l ++ [x]) = lostStep (lostAcc l) x := by simp [lostAcc]
theorem lostAcc_bd (l : List (Rdg × Nat)) (N : Nat) (h : ∀ x ∈ l, x.2 ≤ N) : (lostAcc l).1.length ≤ l.length * N ∧ (lostAcc l).2 ≤ N + 16 := by
  suffices H : ∀ (l : List (Rdg × Nat)) (s : List Nat × Nat) (k : Nat), (∀ x ∈ l, x.2 ≤ N) → s.1.length ≤ k * N → s.2 ≤ N + 16 → (l.foldl lostStep s).1.length ≤ (k + l.length) * N ∧ (l.foldl lostStep s).2 ≤ N + 16 by
    have := H l ([], 0) 0 h (by simp) (by simp)
    simpa [lostAcc] using this
  intro l
  induction l with
  | nil => intro s k _ h1 h2; exact ⟨by simpa using h1, h2⟩
  | cons x l ih =>
    intro s k hx h1 h2
    have hx0 := hx x (by simp)
    have := ih (lostStep s x) (k + 1) (fun y hy => hx y (by simp [hy])) (by
      simp only [lostStep, List.length_append, fromTo_len, Nat.add_mul, Nat.one_mul]; omega) (by simp only [lostStep]; omega)
    simp only [List.foldl_cons, List.length_cons]
    rw [show k + (l.length + 1) = k + 1 + l.length by omega]
    exact this
/-- all that is lost of bytes -/
def lostOf (bs : List UInt8) : List Nat := (lostAcc (scan bs 0)).1 ++ fromTo (lostAcc (scan bs 0)).2 bs.length
def readOf (bs : List UInt8) : List Rdg := (scan bs 0).map (·.1)

theorem scan_at {bs : List UInt8} : ∀ (n a : Nat), bs.length - a ≤ n → ∀ x ∈ scan bs a, a ≤ x.2 ∧ x.2 + 16 ≤ bs.length ∧ isRec (win bs x.2) = true ∧ x.1 = rdgOf (win bs x.2) := by
  intro n
  induction n with
  | zero => intro a h x hx; rw [scan_end (by omega)] at hx; cases hx
  | succ n ih =>
    intro a h x hx
    by_cases h16 : a + 16 ≤ bs.length
    · cases hr : isRec (win bs a)
      · rw [scan_no h16 hr] at hx
        have := ih (a + 1) (by omega) x hx
        exact ⟨by omega, this.2⟩
      · rw [scan_yes h16 hr] at hx
        rcases List.mem_cons.1 hx with rfl | hx
        · exact ⟨Nat.le_refl _, h16, hr, rfl⟩
        · have := ih (a + 16) (by omega) x hx
          exact ⟨by omega, this.2⟩
    · rw [scan_end h16] at hx; cases hx
theorem scan_len {bs : List UInt8} : ∀ (n a : Nat), bs.length - a ≤ n → (scan bs a).length * 16 ≤ bs.length - a := by
  intro n
  induction n with
  | zero => intro a h; rw [scan_end (by omega)]; simp
  | succ n ih =>
    intro a h
    by_cases h16 : a + 16 ≤ bs.length
    · cases hr : isRec (win bs a)
      · rw [scan_no h16 hr]; have := ih (a + 1) (by omega); omega
      · rw [scan_yes h16 hr, List.length_cons]; have := ih (a + 16) (by omega); omega
    · rw [scan_end h16]; simp

/-- The reference's walk over bytes: what is read and what is lost from a place on. -/
def refRead (bs : List UInt8) (a : Nat) : List Rdg × List Nat :=
  if a < bs.length then (if a + 16 ≤ bs.length ∧ isRec (win bs a) = true then (rdgOf (win bs a) :: (refRead bs (a + 16)).1, (refRead bs (a + 16)).2) else ((refRead bs (a + 1)).1, a :: (refRead bs (a + 1)).2)) else ([], [])
termination_by bs.length - a
decreasing_by all_goals omega
theorem refRead_end {bs : List UInt8} {a : Nat} (h : ¬ a < bs.length) : refRead bs a = ([], []) := by rw [refRead, if_neg h]
theorem refRead_yes {bs : List UInt8} {a : Nat} (h : a + 16 ≤ bs.length) (hr : isRec (win bs a) = true) : refRead bs a = (rdgOf (win bs a) :: (refRead bs (a + 16)).1, (refRead bs (a + 16)).2) := by
  rw [refRead, if_pos (by omega), if_pos ⟨h, hr⟩]
theorem refRead_no {bs : List UInt8} {a : Nat} (h : a < bs.length) (hr : ¬ (a + 16 ≤ bs.length ∧ isRec (win bs a) = true)) : refRead bs a = ((refRead bs (a + 1)).1, a :: (refRead bs (a + 1)).2) := by
  rw [refRead, if_pos h, if_neg hr]
theorem refRead_scan {bs : List UInt8} : ∀ (n a : Nat), bs.length - a ≤ n → a ≤ bs.length → (refRead bs a).1 = (scan bs a).map (·.1) ∧
    ∀ (s : List Nat × Nat), s.2 ≤ a → s.1 ++ fromTo s.2 a ++ (refRead bs a).2 = ((scan bs a).foldl lostStep s).1 ++ fromTo ((scan bs a).foldl lostStep s).2 bs.length := by
  intro n
  induction n with
  | zero =>
    intro a h hle
    obtain rfl : a = bs.length := by omega
    rw [refRead_end (by omega), scan_end (by omega)]
    exact ⟨rfl, fun s _ => by simp⟩
  | succ n ih =>
    intro a h hle
    by_cases hlt : a < bs.length
    · by_cases hr : a + 16 ≤ bs.length ∧ isRec (win bs a) = true
      · obtain ⟨i1, i2⟩ := ih (a + 16) (by omega) hr.1
        rw [refRead_yes hr.1 hr.2, scan_yes hr.1 hr.2]
        refine ⟨by simp [i1], fun s hs => ?_⟩
        have := i2 (lostStep s (rdgOf (win bs a), a)) (by simp [lostStep])
        simp only [List.foldl_cons]
        rw [← this]
        simp [lostStep, fromTo_nil]
      · obtain ⟨i1, i2⟩ := ih (a + 1) (by omega) hlt
        rw [refRead_no hlt hr]
        have hs1 : scan bs a = scan bs (a + 1) := by
          by_cases h16 : a + 16 ≤ bs.length
          · exact scan_no h16 (by simpa using fun h => hr ⟨h16, h⟩)
          · rw [scan_end h16, scan_end (by omega)]
        rw [hs1]
        refine ⟨i1, fun s hs => ?_⟩
        rw [← i2 s (by omega), fromTo_snoc hs]
        simp
    · obtain rfl : a = bs.length := by omega
      rw [refRead_end hlt, scan_end (by omega)]
      exact ⟨rfl, fun s _ => by simp⟩
/-- What the reference reads and loses is what is read and lost. -/
theorem refRead_eq (bs : List UInt8) : refRead bs 0 = (readOf bs, lostOf bs) := by
  obtain ⟨h1, h2⟩ := refRead_scan (bs := bs) bs.length 0 (by omega) (by omega)
  have := h2 ([], 0) (Nat.le_refl _)
  rw [fromTo_nil (Nat.le_refl _)] at this
  simp only [List.nil_append] at this
  exact Prod.ext h1 this
end Go.Proofs.Ytkgoojilmnkgiaa
