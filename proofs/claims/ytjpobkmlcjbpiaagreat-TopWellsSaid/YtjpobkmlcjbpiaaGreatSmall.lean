/- THE CONTRACT of the reference's Twice. -/
import Derived.Test.YtjpobkmlcjbpiaaGreatBefore
import Derived.Deep.RegionHeld3
import Derived.Test.YtjpobkmlcjbpiaaGreatRegion
import Derived.Test.YtjpobkmlcjbpiaaGreatAllReading
import Derived.Deep.AppendLies
import Derived.Deep.DrawnRows
import Derived.Laws.StructEq
import Derived.Maps.AppendAt
set_option linter.unusedVariables false
set_option linter.unusedSimpArgs false
namespace Go.Proofs.YtjpobkmlcjbpiaaGreat.Ga
open Go.RowKit Go.Proofs

instance (l : List Rdg) : Decidable (Names l) := by unfold Names; infer_instance
/-- are two readings of a list of one name? -/
def twiceB (l : List Rdg) : Bool := !decide (Names l)
theorem twiceB_yes {l : List Rdg} {i k : Nat} {x y : Rdg} (hik : i < k) (hx : l[i]? = some x) (hy : l[k]? = some y) (h : nameB y x = true) : twiceB l = true := by
  have : ¬ Names l := fun hn => by
    have := names_iff.1 hn i k x y hik hx hy
    rw [nameB_not] at this; rw [nameB_iff] at h; omega
  simp [twiceB, this]
theorem twiceB_no {l : List Rdg} (h : ∀ (i k : Nat) (x y : Rdg), i < k → k < l.length → l[i]? = some x → l[k]? = some y → nameB y x = false) : twiceB l = false := by
  have : Names l := names_iff.2 fun i k x y hik hx hy => by
    have := h i k x y hik (lt_of_get hy) hx hy
    rw [nameB_not] at *; omega
  simp [twiceB, this]
/-- a reading's four cells -/
theorem rd4 {l : List Rdg} {A : Option Addr} {n : Nat} {w : World} (h : Rd encR 4 w A n l) {i : Nat} (hi : i < n) :
    ∃ b o x, A = some ⟨b, o, none⟩ ∧ b < w.heap.size ∧ l[i]? = some x ∧ ∀ W : World, Below w.heap.size w W → W.cell? ⟨b, o + i * 4, none⟩ = some (.int .i64 x.ins) ∧ W.cell? ⟨b, o + i * 4 + 1, none⟩ = some (.int .i64 x.num) ∧
      W.cell? ⟨b, o + i * 4 + 2, none⟩ = some (.int .i64 x.tim) ∧ W.cell? ⟨b, o + i * 4 + 3, none⟩ = some (.int .i64 x.val) := by
  obtain ⟨b, o, x, hA, hb, hx, h0, h1, h2, h3⟩ := h.at4 hi
  exact ⟨b, o, x, hA, hb, hx, fun W hW => ⟨(hW.cell (p := ⟨b, _, none⟩) hb).trans h0, (hW.cell (p := ⟨b, _, none⟩) hb).trans h1, (hW.cell (p := ⟨b, _, none⟩) hb).trans h2, (hW.cell (p := ⟨b, _, none⟩) hb).trans h3⟩⟩

end Go.Proofs.YtjpobkmlcjbpiaaGreat.Ga

namespace Go.Proofs.YtjpobkmlcjbpiaaGreat.Ga
open Go.RowKit Go.Proofs

theorem floor_neg {n d : Int} (hd : 0 < d) (h : n.tmod d < 0) : n / d = n.tdiv d - 1 := by
  have h1 := Int.mul_tdiv_add_tmod n d
  have h2 : -d < n.tmod d := by have := Int.tmod_lt_of_pos n hd; have := Int.lt_tmod_of_pos n hd; omega
  have h3 : d * (n.tdiv d - 1) = d * n.tdiv d - d := by rw [Int.mul_sub]; omega
  exact ((Int.ediv_emod_unique (a := n) (b := d) (r := n.tmod d + d) (q := n.tdiv d - 1) hd).2 ⟨by rw [h3]; omega, by omega, by omega⟩).1
theorem floor_pos {n d : Int} (hd : 0 < d) (h : 0 ≤ n.tmod d) : n / d = n.tdiv d := by
  have h1 := Int.mul_tdiv_add_tmod n d
  have h2 : n.tmod d < d := by have := Int.tmod_lt_of_pos n hd; have := Int.lt_tmod_of_pos n hd; omega
  exact ((Int.ediv_emod_unique (a := n) (b := d) (r := n.tmod d) (q := n.tdiv d) hd).2 ⟨by omega, by omega, by omega⟩).1

/-- The value at a time on the line through two points. -/
def lineV (a b : Int × Int) (t : Int) : Int := a.2 + (b.2 - a.2) * (t - a.1) / (b.1 - a.1)
/-- a point that may be -/
def ptB (x : Int × Int) : Bool := inB x.1 0 1000000000 && inB x.2 (-1000000000) 1000000000
theorem ptB_iff {x : Int × Int} : ptB x = true ↔ (0 ≤ x.1 ∧ x.1 ≤ 1000000000) ∧ -1000000000 ≤ x.2 ∧ x.2 ≤ 1000000000 := by simp [ptB, inB_iff]

theorem prod_bd {a b : Int} (ha : -2000000000 ≤ a ∧ a ≤ 2000000000) (hb : -1000000000 ≤ b ∧ b ≤ 1000000000) : -2000000000000000000 ≤ a * b ∧ a * b ≤ 2000000000000000000 := by
  have h := Int.natAbs_mul a b
  have h1 : a.natAbs * b.natAbs ≤ 2000000000 * 1000000000 := Nat.mul_le_mul (by omega) (by omega)
  omega
theorem div_bd {n d : Int} (hd : 0 < d) (hn : -2000000000000000000 ≤ n ∧ n ≤ 2000000000000000000) : -2000000000000000000 ≤ n / d ∧ n / d ≤ 2000000000000000000 := by
  constructor
  · have := (Int.le_ediv_iff_mul_le hd (a := -2000000000000000000) (b := n)).2 (by
      have : (-2000000000000000000 : Int) * d ≤ -2000000000000000000 * 1 := Int.mul_le_mul_of_nonpos_left (by omega) (by omega)
      omega)
    exact this
  · by_cases h : n < 0
    · have := Int.ediv_neg_of_neg_of_pos h hd; omega
    · have := Int.ediv_le_self d (show 0 ≤ n by omega); omega

theorem line_bd {a b : Int × Int} {t : Int} (ha : ptB a = true) (hb : ptB b = true) (hab : a.1 < b.1) (ht : 0 ≤ t ∧ t ≤ 1000000000) :
    (-2000000000000000000 ≤ (b.2 - a.2) * (t - a.1) ∧ (b.2 - a.2) * (t - a.1) ≤ 2000000000000000000) ∧
    (-2000000000000000000 ≤ (b.2 - a.2) * (t - a.1) / (b.1 - a.1) ∧ (b.2 - a.2) * (t - a.1) / (b.1 - a.1) ≤ 2000000000000000000) := by
  have h1 := ptB_iff.1 ha; have h2 := ptB_iff.1 hb
  have h3 := prod_bd (a := b.2 - a.2) (b := t - a.1) (by omega) (by omega)
  exact ⟨h3, div_bd (by omega) h3⟩

end Go.Proofs.YtjpobkmlcjbpiaaGreat.Ga

namespace Go.Proofs.YtjpobkmlcjbpiaaGreat.Ga
open Go.RowKit Go.Proofs

section
variable {p : Int × Int → Bool}
end
end Go.Proofs.YtjpobkmlcjbpiaaGreat.Ga

namespace Go.Proofs.YtjpobkmlcjbpiaaGreat.Ga
open Go.RowKit Go.Proofs

def SerUp (l : List (Int × Int)) (m : Nat) : Prop := ∀ (i : Nat) (x y : Int × Int), i < m → l[i]? = some x → l[i + 1]? = some y → x.1 < y.1
/-- a series as described -/
structure SerOk (l : List (Int × Int)) : Prop where
  len : l.length ≤ 60
  pts : allB ptB l = true
  up : SerUp l (l.length - 1)
theorem SerOk.pt {l : List (Int × Int)} (h : SerOk l) {i : Nat} {x : Int × Int} (hx : l[i]? = some x) : ptB x = true := allB_iff.1 h.pts i x hx
theorem SerOk.step {l : List (Int × Int)} (h : SerOk l) {i : Nat} {x y : Int × Int} (hx : l[i]? = some x) (hy : l[i + 1]? = some y) : x.1 < y.1 :=
  h.up i x y (by have := lt_of_get hy; omega) hx hy
theorem SerOk.mono {l : List (Int × Int)} (h : SerOk l) {i : Nat} : ∀ {j : Nat} {x y : Int × Int}, i < j → l[i]? = some x → l[j]? = some y → x.1 < y.1 := by
  intro j
  induction j with
  | zero => intro x y hij; omega
  | succ j ih =>
    intro x y hij hx hy
    obtain ⟨z, hz⟩ := get_of_lt (l := l) (i := j) (by have := lt_of_get hy; omega)
    have h1 := h.step hz hy
    rcases Nat.lt_or_ge i j with h' | h'
    · have := ih h' hx hz; omega
    · obtain rfl : i = j := by omega
      rw [hx] at hz; cases hz; exact h1

/-- is a point near the line through two others? -/
def nearP (a b : Int × Int) (s : Int) (x : Int × Int) : Bool := inB (x.2 - lineV a b x.1) (-s) s
/-- are all points from one index up to another near the line through these? -/
def nearB (l : List (Int × Int)) (a b : Nat) (s : Int) : Bool := allB (nearP (l.getD a (0, 0)) (l.getD b (0, 0)) s) ((l.take b).drop a)
theorem sub_get {α : Type} {l : List α} {a b i : Nat} : ((l.take b).drop a)[i]? = if a + i < b then l[a + i]? else none := by
  rw [List.getElem?_drop, List.getElem?_take]
theorem nearB_iff {l : List (Int × Int)} {a b : Nat} {s : Int} {x y : Int × Int} (hx : l[a]? = some x) (hy : l[b]? = some y) :
    nearB l a b s = true ↔ ∀ (i : Nat) (z : Int × Int), a ≤ i → i < b → l[i]? = some z → nearP x y s z = true := by
  have h1 : l.getD a (0, 0) = x := by simp [List.getD, hx]
  have h2 : l.getD b (0, 0) = y := by simp [List.getD, hy]
  unfold nearB
  rw [h1, h2, allB_iff]
  constructor
  · intro h i z hai hib hz
    exact h (i - a) z (by rw [sub_get, if_pos (by omega)]; rw [show a + (i - a) = i by omega]; exact hz)
  · intro h i z hz
    rw [sub_get] at hz
    split at hz
    · exact h (a + i) z (by omega) (by omega) hz
    · cases hz

theorem blk4 (w : World) (X Y Z U : Array Value) (a b c d : TypeId) :
    Blk ((((w.alloc (.cells X a)).alloc (.cells Y b)).alloc (.cells Z c)).alloc (.cells U d)) w.heap.size a X ∧ Blk ((((w.alloc (.cells X a)).alloc (.cells Y b)).alloc (.cells Z c)).alloc (.cells U d)) (w.heap.size + 1) b Y ∧
    Blk ((((w.alloc (.cells X a)).alloc (.cells Y b)).alloc (.cells Z c)).alloc (.cells U d)) (w.heap.size + 1 + 1) c Z ∧ Blk ((((w.alloc (.cells X a)).alloc (.cells Y b)).alloc (.cells Z c)).alloc (.cells U d)) (w.heap.size + 1 + 1 + 1) d U := by
  refine ⟨(((Blk.new w a X).alloc _).alloc _).alloc _, ?_, ?_, ?_⟩
  · have := ((Blk.new (w.alloc (.cells X a)) b Y).alloc (.cells Z c)).alloc (.cells U d)
    simpa only [World.size_alloc] using this
  · have := (Blk.new ((w.alloc (.cells X a)).alloc (.cells Y b)) c Z).alloc (.cells U d)
    simpa only [World.size_alloc] using this
  · have := Blk.new (((w.alloc (.cells X a)).alloc (.cells Y b)).alloc (.cells Z c)) d U
    simpa only [World.size_alloc] using this

/-- the error of points -/
noncomputable def serE (l : List (Int × Int)) : Int := if 60 < l.length then 3 else if (open Classical in decide (SerOk l)) then 0 else 1
theorem serE_long {l : List (Int × Int)} (h : 60 < l.length) : serE l = 3 := by simp [serE, h]
theorem serE_ok {l : List (Int × Int)} (h : SerOk l) : serE l = 0 := by have := h.len; simp [serE, h, this]
theorem serE_bad {l : List (Int × Int)} (h : l.length ≤ 60) (hn : ¬ SerOk l) : serE l = 1 := by simp [serE, hn]; omega
theorem serE_zero {l : List (Int × Int)} : serE l = 0 ↔ SerOk l := by
  constructor
  · intro h
    rcases Nat.lt_or_ge 60 l.length with h1 | h1
    · rw [serE_long h1] at h; cases h
    · exact Classical.byContradiction fun hn => by rw [serE_bad h1 hn] at h; cases h
  · exact serE_ok

/-- the error of points that are asked about with a number -/
noncomputable def askedE (l : List (Int × Int)) (s : Int) : Int := if serE l ≠ 0 then serE l else if inB s 0 1000000000 = false then 2 else 0
theorem askedE_zero {l : List (Int × Int)} {s : Int} : askedE l s = 0 ↔ SerOk l ∧ inB s 0 1000000000 = true := by
  unfold askedE
  split
  · rename_i h; constructor
    · intro h'; exact absurd h' h
    · intro h'; exact absurd (serE_ok h'.1) h
  · rename_i h; simp at h
    split
    · rename_i h2; simp [h2]
    · rename_i h2; simp at h2; simp [h2, serE_zero.1 h]

end Go.Proofs.YtjpobkmlcjbpiaaGreat.Ga

namespace Go.Proofs.YtjpobkmlcjbpiaaGreat.Ga
open Go.RowKit Go.Proofs
attribute [local go_sem ↓] Go.wp_at_zero Go.wp_at_succ

end Go.Proofs.YtjpobkmlcjbpiaaGreat.Ga

namespace Go.Proofs.YtjpobkmlcjbpiaaGreat.Ga
open Go.RowKit Go.Proofs

abbrev vR (r : Rdg) : Value := .agg #[.int .i64 r.ins, .int .i64 r.num, .int .i64 r.tim, .int .i64 r.val]
theorem rdg_eq_iff (r r' : Rdg) : r = r' ↔ r.ins = r'.ins ∧ r.num = r'.num ∧ r.tim = r'.tim ∧ r.val = r'.val := by
  cases r; cases r'; simp
theorem run_equal_rdg (r r' : Rdg) (W : World) : (Op.equalIn 10000 55 (vR r) (vR r')).run Tryz.prog W = .ok (decide (r = r')) W := by
  simp [go_sem, Tryz.underlying55]
  rw [show decide (r = r') = decide (r.ins = r'.ins ∧ r.num = r'.num ∧ r.tim = r'.tim ∧ r.val = r'.val) from by simp only [rdg_eq_iff]]
  by_cases h1 : r.ins = r'.ins <;> by_cases h2 : r.num = r'.num <;> by_cases h3 : r.tim = r'.tim <;> by_cases h4 : r.val = r'.val <;> simp [h1, h2, h3, h4]
theorem run_eql_rdg (r r' : Rdg) (W : World) : (binOp .eql 55 (vR r) (vR r')).run Tryz.prog W = .ok (.bool (decide (r = r'))) W := by
  rw [run_eql_struct, run_equal_rdg]; rfl
theorem run_neq_rdg (r r' : Rdg) (W : World) : (binOp .neq 55 (vR r) (vR r')).run Tryz.prog W = .ok (.bool (!decide (r = r'))) W := by
  rw [run_neq_struct, run_equal_rdg]; rfl

theorem take_eq_all {α : Type} {a b : List α} {n : Nat} (ha : a.length = n) (hb : b.length = n) (h : a.take n = b.take n) : a = b := by
  rwa [List.take_of_length_le (by omega), List.take_of_length_le (by omega)] at h
theorem ne_of_get {α : Type} {a b : List α} {k : Nat} {x y : α} (ha : a[k]? = some x) (hb : b[k]? = some y) (h : x ≠ y) : a ≠ b := by
  rintro rfl; rw [ha] at hb; cases hb; exact h rfl
theorem take_snoc_eq {α : Type} {a b : List α} {k : Nat} {x : α} (ha : a[k]? = some x) (hb : b[k]? = some x) (h : a.take k = b.take k) : a.take (k + 1) = b.take (k + 1) := by
  rw [List.take_add_one, List.take_add_one, ha, hb, h]

def wireB : List UInt8 := [165, 7, 1, 2, 0, 0, 3, 232, 255, 255, 255, 254, 116, 100, 238, 90]
def serP (l : List Int) (k : Nat) : List (Int × Int) := (List.range k).map fun (i : Nat) => (10 * (i : Int), l.getD i 0)
theorem serP_succ (l : List Int) (k : Nat) : serP l (k + 1) = serP l k ++ [(10 * (k : Int), l.getD k 0)] := by simp [serP, List.range_succ]
theorem serP_len (l : List Int) (k : Nat) : (serP l k).length = k := by simp [serP]

end Go.Proofs.YtjpobkmlcjbpiaaGreat.Ga
