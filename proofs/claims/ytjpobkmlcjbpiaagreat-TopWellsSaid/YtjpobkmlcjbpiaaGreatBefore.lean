/- PLAIN LAWS of right marks and the right time. No program in sight. -/
import Derived.Test.YtjpobkmlcjbpiaaGreatAllReading
import Derived.Test.YtjpobkmlcjbpiaaGreatRSort
import Derived.Test.YtjpobkmlcjbpiaaGreatRegion
import Derived.Sort.Grow
set_option linter.unusedVariables false
set_option linter.unusedSimpArgs false
namespace Go.Proofs.YtjpobkmlcjbpiaaGreat.Ga

def markB (x : Int × Int) : Bool := inB x.1 0 1000000000 && inB x.2 0 1000000000
def Rising (l : List (Int × Int)) (m : Nat) : Prop := ∀ (i : Nat) (x y : Int × Int), i < m → l[i]? = some x → l[i + 1]? = some y → x.1 < y.1 ∧ x.2 < y.2
def MarksOk (l : List (Int × Int)) : Prop := 1 ≤ l.length ∧ l.length ≤ 10 ∧ allB markB l = true ∧ Rising l (l.length - 1)
open Classical in
noncomputable def marksB (l : List (Int × Int)) : Bool := decide (MarksOk l)
theorem marksB_yes {l : List (Int × Int)} (h : MarksOk l) : marksB l = true := by simp [marksB, h]
theorem marksB_no {l : List (Int × Int)} (h : ¬ MarksOk l) : marksB l = false := by simp [marksB, h]
theorem marksB_iff {l : List (Int × Int)} : marksB l = true ↔ MarksOk l := by simp [marksB]

theorem markB_iff {x : Int × Int} : markB x = true ↔ (0 ≤ x.1 ∧ x.1 ≤ 1000000000) ∧ 0 ≤ x.2 ∧ x.2 ≤ 1000000000 := by
  simp [markB, inB_iff]
theorem Rising.zero (l : List (Int × Int)) : Rising l 0 := fun i _ _ hi => absurd hi (by omega)
theorem Rising.le {l : List (Int × Int)} {m : Nat} (h : Rising l m) (hm : l.length ≤ m + 1) : Rising l (l.length - 1) := fun i x y hi hx hy => h i x y (by omega) hx hy
theorem Rising.succ {l : List (Int × Int)} {m : Nat} {x y : Int × Int} (h : Rising l m) (hx : l[m]? = some x) (hy : l[m + 1]? = some y) (h1 : x.1 < y.1) (h2 : x.2 < y.2) : Rising l (m + 1) := by
  intro i u v hi hu hv
  rcases Nat.lt_or_ge i m with h' | h'
  · exact h i u v h' hu hv
  · obtain rfl : i = m := by omega
    rw [hx] at hu; rw [hy] at hv; cases hu; cases hv; exact ⟨h1, h2⟩
theorem not_rising {l : List (Int × Int)} {m : Nat} {x y : Int × Int} (hm : m + 1 < l.length) (hx : l[m]? = some x) (hy : l[m + 1]? = some y) (h : y.1 ≤ x.1 ∨ y.2 ≤ x.2) : ¬ MarksOk l := by
  intro hk
  have := hk.2.2.2 m x y (by omega) hx hy
  omega

theorem MarksOk.mark {l : List (Int × Int)} (h : MarksOk l) {i : Nat} {x : Int × Int} (hx : l[i]? = some x) : (0 ≤ x.1 ∧ x.1 ≤ 1000000000) ∧ 0 ≤ x.2 ∧ x.2 ≤ 1000000000 :=
  markB_iff.1 (allB_iff.1 h.2.2.1 i x hx)
theorem lt_of_get {α : Type} {l : List α} {i : Nat} {x : α} (hx : l[i]? = some x) : i < l.length := (List.getElem?_eq_some_iff.1 hx).1
theorem get_of_lt {α : Type} {l : List α} {i : Nat} (h : i < l.length) : ∃ x, l[i]? = some x := ⟨_, List.getElem?_eq_getElem h⟩
theorem MarksOk.step {l : List (Int × Int)} (h : MarksOk l) {i : Nat} {x y : Int × Int} (hx : l[i]? = some x) (hy : l[i + 1]? = some y) : x.1 < y.1 ∧ x.2 < y.2 :=
  h.2.2.2 i x y (by have := lt_of_get hy; omega) hx hy
theorem MarksOk.mono {l : List (Int × Int)} (h : MarksOk l) {i : Nat} : ∀ {j : Nat} {x y : Int × Int}, i < j → l[i]? = some x → l[j]? = some y → x.1 < y.1 ∧ x.2 < y.2 := by
  intro j
  induction j with
  | zero => intro x y hij; omega
  | succ j ih =>
    intro x y hij hx hy
    obtain ⟨z, hz⟩ := get_of_lt (l := l) (i := j) (by have := lt_of_get hy; omega)
    have h1 := h.step hz hy
    rcases Nat.lt_or_ge i j with h' | h'
    · have := ih h' hx hz; omega
    · obtain rfl : i = j := by omega
      rw [hx] at hz; cases hz; exact h1

/-- The right time of a clock by marks, by the document's three cases. -/
def IsTime (l : List (Int × Int)) (clock v : Int) : Prop :=
  (∀ x, l[0]? = some x → clock ≤ x.1 → v = x.2 + clock - x.1) ∧ (∀ x, l[l.length - 1]? = some x → x.1 ≤ clock → v = x.2 + clock - x.1) ∧
  ∀ (i : Nat) (x y : Int × Int), l[i]? = some x → l[i + 1]? = some y → x.1 ≤ clock → clock < y.1 → v = x.2 + (clock - x.1) * (y.2 - x.2) / (y.1 - x.1)

theorem isTime_mk {l : List (Int × Int)} {clock v : Int} (hok : MarksOk l) {i : Nat} {x : Int × Int} (hx : l[i]? = some x) (hlo : i = 0 ∨ x.1 ≤ clock) (hhi : ∀ y, l[i + 1]? = some y → clock < y.1)
    (hv : clock ≤ x.1 ∨ i = l.length - 1 → v = x.2 + clock - x.1) (hv2 : ∀ y, l[i + 1]? = some y → x.1 < clock → v = x.2 + (clock - x.1) * (y.2 - x.2) / (y.1 - x.1)) : IsTime l clock v := by
  have hi := lt_of_get hx
  refine ⟨fun z hz hc => ?_, fun z hz hc => ?_, fun j u z hu hz h1 h2 => ?_⟩
  · by_cases h0 : i = 0
    · subst h0; rw [hx] at hz; cases hz; exact hv (.inl hc)
    · have := hok.mono (by omega : 0 < i) hz hx
      omega
  · by_cases h0 : i = l.length - 1
    · subst h0; rw [hx] at hz; cases hz; exact hv (.inr rfl)
    · obtain ⟨y, hy⟩ := get_of_lt (l := l) (i := i + 1) (by omega)
      have h3 := hhi y hy
      rcases Nat.lt_or_ge (i + 1) (l.length - 1) with h' | h'
      · have := hok.mono h' hy hz; omega
      · obtain h4 : l.length - 1 = i + 1 := by omega
        rw [h4, hy] at hz; cases hz; omega
  · by_cases hij : j = i
    · subst hij; rw [hx] at hu; cases hu
      by_cases hc : clock ≤ x.1
      · have : clock - x.1 = 0 := by omega
        rw [hv (.inl hc), this, Int.zero_mul, Int.zero_ediv]; omega
      · exact hv2 z hz (by omega)
    · rcases Nat.lt_or_ge j i with h' | h'
      · have h3 : z.1 ≤ x.1 := by
          rcases Nat.lt_or_ge (j + 1) i with h'' | h''
          · have := hok.mono h'' hz hx; omega
          · obtain rfl : i = j + 1 := by omega
            rw [hx] at hz; cases hz; exact Int.le_refl _
        omega
      · obtain ⟨y, hy⟩ := get_of_lt (l := l) (i := i + 1) (by have := lt_of_get hu; omega)
        have h3 := hhi y hy
        rcases Nat.lt_or_ge (i + 1) j with h'' | h''
        · have := hok.mono h'' hy hu; omega
        · obtain rfl : j = i + 1 := by omega
          rw [hy] at hu; cases hu; omega

/-- Every clock has its place: the last mark that is not behind it, or the first one. -/
theorem place_of {l : List (Int × Int)} (clock : Int) (hok : MarksOk l) : ∃ (i : Nat) (x : Int × Int), l[i]? = some x ∧ (i = 0 ∨ x.1 ≤ clock) ∧ ∀ y, l[i + 1]? = some y → clock < y.1 := by
  have key : ∀ m : Nat, m < l.length → ∃ (i : Nat) (x : Int × Int), i ≤ m ∧ l[i]? = some x ∧ (i = 0 ∨ x.1 ≤ clock) ∧ ∀ y, i < m → l[i + 1]? = some y → clock < y.1 := by
    intro m
    induction m with
    | zero =>
      intro hm
      obtain ⟨x, hx⟩ := get_of_lt hm
      exact ⟨0, x, Nat.le_refl _, hx, .inl rfl, fun y h => absurd h (by omega)⟩
    | succ m ih =>
      intro hm
      obtain ⟨i, x, hi, hx, h1, h2⟩ := ih (by omega)
      obtain ⟨z, hz⟩ := get_of_lt hm
      by_cases hc : z.1 ≤ clock
      · exact ⟨m + 1, z, Nat.le_refl _, hz, .inr hc, fun y h => absurd h (by omega)⟩
      · refine ⟨i, x, by omega, hx, h1, fun y hlt hy => ?_⟩
        rcases Nat.lt_or_ge i m with h' | h'
        · exact h2 y h' hy
        · obtain rfl : i = m := by omega
          rw [hz] at hy; cases hy; omega
  obtain ⟨i, x, hi, hx, h1, h2⟩ := key (l.length - 1) (by have := hok.1; omega)
  exact ⟨i, x, hx, h1, fun y hy => h2 y (by have := lt_of_get hy; omega) hy⟩

theorem IsTime.at_ {l : List (Int × Int)} {clock v : Int} (h : IsTime l clock v) {i : Nat} {x : Int × Int} (hx : l[i]? = some x) (hlo : i = 0 ∨ x.1 ≤ clock) (hhi : ∀ y, l[i + 1]? = some y → clock < y.1) :
    (clock ≤ x.1 ∨ i = l.length - 1 → v = x.2 + clock - x.1) ∧ ∀ y, l[i + 1]? = some y → x.1 < clock → v = x.2 + (clock - x.1) * (y.2 - x.2) / (y.1 - x.1) := by
  have hi := lt_of_get hx
  constructor
  · intro hc
    by_cases hlast : i = l.length - 1
    · by_cases h1 : x.1 ≤ clock
      · exact h.2.1 x (by rw [← hlast]; exact hx) h1
      · have h0 : i = 0 := by omega
        subst h0; exact h.1 x hx (by omega)
    · obtain ⟨y, hy⟩ := get_of_lt (l := l) (i := i + 1) (by omega)
      have h3 := hhi y hy
      by_cases h1 : x.1 ≤ clock
      · have h4 := h.2.2 i x y hx hy h1 h3
        have : clock - x.1 = 0 := by omega
        rw [h4, this, Int.zero_mul, Int.zero_ediv]; omega
      · have h0 : i = 0 := by omega
        subst h0; exact h.1 x hx (by omega)
  · intro y hy hlt
    exact h.2.2 i x y hx hy (by omega) (hhi y hy)

theorem IsTime.unique {l : List (Int × Int)} {clock v v' : Int} (hok : MarksOk l) (h : IsTime l clock v) (h' : IsTime l clock v') : v = v' := by
  obtain ⟨i, x, hx, h1, h2⟩ := place_of clock hok
  have a := h.at_ hx h1 h2
  have b := h'.at_ hx h1 h2
  by_cases hc : clock ≤ x.1 ∨ i = l.length - 1
  · rw [a.1 hc, b.1 hc]
  · obtain ⟨y, hy⟩ := get_of_lt (l := l) (i := i + 1) (by have := lt_of_get hx; omega)
    rw [a.2 y hy (by omega), b.2 y hy (by omega)]

/-- What gauge.Right answers. -/
def RightR (l : List (Int × Int)) (clock v e : Int) : Prop :=
  (¬ MarksOk l ∧ v = 0 ∧ e = 1) ∨ (MarksOk l ∧ inB clock 0 1000000000 = false ∧ v = 0 ∧ e = 2) ∨ (MarksOk l ∧ inB clock 0 1000000000 = true ∧ e = 0 ∧ IsTime l clock v)

/-- The product and the quotient of the interpolation stay small. -/
theorem interp_bounds {a b c d : Int} (ha : 0 ≤ a) (ha' : a ≤ 1000000000) (hb : 0 ≤ b) (hb' : b ≤ 1000000000) (hc : a < c) (_hd : b ≤ d) :
    0 ≤ a * b ∧ a * b ≤ 1000000000000000000 ∧ 0 ≤ a * b / c ∧ a * b / c ≤ b := by
  have h1 : 0 ≤ a * b := Int.mul_nonneg ha hb
  have h2 : a * b ≤ 1000000000 * 1000000000 := Int.mul_le_mul ha' hb' hb (by omega)
  have h3 : a * b ≤ c * b := Int.mul_le_mul_of_nonneg_right (by omega) hb
  refine ⟨h1, by omega, Int.ediv_nonneg h1 (by omega), ?_⟩
  have h4 : a * b / c ≤ c * b / c := Int.ediv_le_ediv (by omega) h3
  rwa [Int.mul_ediv_cancel_left b (by omega : c ≠ 0)] at h4
end Go.Proofs.YtjpobkmlcjbpiaaGreat.Ga

namespace Go.Proofs.YtjpobkmlcjbpiaaGreat.Ga
open Go.RowKit Go.Proofs Go.Sort

theorem Rd.of_blk' {α : Type} {enc : α → List Value} {k : Nat} (henc : ∀ x, (enc x).length = k) {w : World} {g n : Nat} {t : TypeId} {cs : Array Value} {fr : Nat × Nat} {l : List α} (h : w.heap[g]? = some (.cells cs t fr)) (hc : ∀ (j : Nat) (v : Value), (l.flatMap enc)[j]? = some v → cs[j]? = some v) (hl : l.length = n) :
    Rd enc k w (some ⟨g, 0, none⟩) n l := by
  refine ⟨hl, fun hn => ⟨g, 0, rfl, (Array.getElem?_eq_some_iff.1 h).1, fun i x hx j v hv => ?_⟩⟩
  have h1 := flatMap_get henc l i x j v hx hv
  rw [Nat.zero_add, cell_of_row w g _ cs t fr h]
  exact hc _ _ h1
def orI : List Int → Int
  | [] => 0
  | x :: l => if x = 0 then orI l else x
theorem orI_zero {l : List Int} (h : ∀ (i : Nat) (x : Int), l[i]? = some x → x = 0) : orI l = 0 := by
  induction l with
  | nil => rfl
  | cons x l ih => rw [orI, if_pos (h 0 x rfl)]; exact ih fun i y hy => h (i + 1) y (by simpa using hy)
theorem orI_at : ∀ {l : List Int} {k : Nat} {x : Int}, l[k]? = some x → x ≠ 0 → (∀ (i : Nat) (y : Int), i < k → l[i]? = some y → y = 0) → orI l = x
  | [], k, x, hx, _, _ => by simp at hx
  | y :: l, 0, x, hx, h0, _ => by
    simp at hx; subst hx
    rw [orI, if_neg h0]
  | y :: l, k + 1, x, hx, h0, h => by
    rw [orI, if_pos (h 0 y (by omega) rfl)]
    exact orI_at (by simpa using hx) h0 fun i z hi hz => h (i + 1) z (by omega) (by simpa using hz)
/-- what before says of two readings -/
def cfR (x y : Rdg) : Int := orI [x.ins - y.ins, x.num - y.num, x.tim - y.tim, x.val - y.val]
theorem cfR_neg (x y : Rdg) : decide (cfR x y < 0) = rlt x y := by
  unfold cfR orI orI orI orI orI rlt
  rw [decide_eq_decide]
  split
  · split
    · split
      · split <;> omega
      · omega
    · omega
  · omega

set_option maxHeartbeats 400000 in
theorem or_c {l : List Int} {A : Option Addr} {n c : Nat} {w : World} (h : Rd enc1 1 w A n l) (hn : n ≤ 1000000) :
    Calls Tryz.prog 102 #[.slice A n c] w fun e w' => e = .returned (.int .i64 (orI l)) ∧ w = w' := by
  have hl := h.len
  have HL := Lib.hid hl; clear hl
  go_enter Tryz.func102, Tryz.ntmps102
  go_wp2_with fail
  go_loop [8] (fun i => ∃ k : Nat, k ≤ n ∧ i = .int .i64 k ∧ ∀ (j : Nat) (y : Int), j < k → l[j]? = some y → y = 0) (fun i => n - (intOf i).toNat)
  case atStart => exact ⟨0, Nat.zero_le _, rfl, fun j y hj => absurd hj (by omega)⟩
  case round =>
    obtain ⟨k, hk, rfl, hall⟩ := hrel
    have HA := Lib.hid hall; clear hall
    by_cases hlt : k < n
    · obtain ⟨b, o, x, hA, _, hx, h0⟩ := h.at1 hlt
      subst hA
      have HX := Lib.hid hx; clear hx
      by_cases hx0 : x = 0
      · subst hx0
        go_wp2
        go_round
        case rel => exact ⟨k + 1, by omega, by go_num, fun j y hj hy => by
          rcases Nat.lt_or_ge j k with h' | h'
          · exact HA.out j y h' hy
          · obtain rfl : j = k := by omega
            rw [HX.out] at hy; cases hy; rfl⟩
        case measure => simp [intOf] <;> omega
      · have e1 : (x == 0) = false := by rw [beq_eq_false_iff_ne]; exact hx0
        have e2 : (x != 0) = true := by rw [bne_iff_ne]; exact hx0
        have HR := Lib.hid (orI_at HX.out hx0 HA.out)
        go_wp2
        go_ret
        exact ⟨ret_int HR.out.symm, rfl⟩
    · obtain rfl : k = n := by omega
      go_wp2
      go_ret
      exact ⟨ret_int (orI_zero fun i x hx => HA.out i x (by have := lt_of_get hx; rw [HL.out] at this; exact this) hx).symm, rfl⟩
theorem first_c {l : List Int} {A : Option Addr} {n c : Nat} {w : World} (h : Rd enc1 1 w A n l) (hn : n ≤ 1000000) :
    Calls Tryz.prog 71 #[.slice A n c] w fun e w' => e = .returned (.int .i64 (orI l)) ∧ w = w' := by
  go_enter Tryz.func71, Tryz.ntmps71
  go_wp2_with (go_at_call 102; refine (or_c h hn).mono ?_; rintro e w' ⟨rfl, rfl⟩)
  go_ret
  exact ⟨rfl, rfl⟩

theorem first4_c (a b c d : Int) (g : Nat) (W : World) (hg : g = W.heap.size) :
    Calls Tryz.prog 71 #[.slice (some ⟨g, 0, none⟩) 4 4] (W.alloc (.cells #[.int .i64 a, .int .i64 b, .int .i64 c, .int .i64 d] 3)) fun e w' => e = .returned (.int .i64 (orI [a, b, c, d])) ∧ W.alloc (.cells #[.int .i64 a, .int .i64 b, .int .i64 c, .int .i64 d] 3) = w' := by
  subst hg
  exact first_c (Rd.of_blk' enc1_len (heap_alloc_new W _) (fun j v hv => by simpa [enc1] using hv) rfl) (by omega)

set_option maxRecDepth 100000 in
set_option maxHeartbeats 1000000 in
theorem before_c {x y : Rdg} (hx : validB x = true) (hy : validB y = true) (w : World) :
    Calls Tryz.prog 34 #[.agg #[.int .i64 x.ins, .int .i64 x.num, .int .i64 x.tim, .int .i64 x.val], .agg #[.int .i64 y.ins, .int .i64 y.num, .int .i64 y.tim, .int .i64 y.val]] w fun e w' =>
      e = .returned (.int .i64 (cfR x y)) ∧ ∃ q os', w' = grow (w.drewN q) os' := by
  have hx' := validB_iff.1 hx; have hy' := validB_iff.1 hy
  have w1 : IntKind.i64.wrap (x.ins - y.ins) = x.ins - y.ins := wi (by omega)
  have w2 : IntKind.i64.wrap (x.num - y.num) = x.num - y.num := wi (by omega)
  have w3 : IntKind.i64.wrap (x.tim - y.tim) = x.tim - y.tim := wi (by omega)
  have w4 : IntKind.i64.wrap (x.val - y.val) = x.val - y.val := wi (by omega)
  have HR := Lib.hid (show cfR x y = orI [x.ins - y.ins, x.num - y.num, x.tim - y.tim, x.val - y.val] from rfl)
  clear hx' hy' hx hy
  go_enter Tryz.func34, Tryz.ntmps34
  go_wp2_with fail
  refine (first4_c _ _ _ _ _ _ (by simp)).mono ?_
  rintro e w' ⟨rfl, rfl⟩
  go_wp2_with fail
  go_ret
  exact ⟨ret_int HR.out.symm, 0, _, by rw [alloc_eq_grow, alloc_eq_grow, alloc_eq_grow, grow_grow, grow_grow]; rfl⟩

set_option maxHeartbeats 1000000 in
theorem name_c (x : Rdg) (w : World) :
    Calls Tryz.prog 36 #[.agg #[.int .i64 x.ins, .int .i64 x.num, .int .i64 x.tim, .int .i64 x.val]] w fun e w' =>
      e = .returned (.agg #[.int .i64 x.ins, .int .i64 x.num]) ∧ Below w.heap.size w w' := by
  go_enter Tryz.func36, Tryz.ntmps36
  go_wp2_with fail
  refine bodyPost_ret (v := .agg #[.int .i64 x.ins, .int .i64 x.num]) ?_ rfl ⟨rfl, ?_⟩
  · simp [results, Tryz.f36, go_sem]
  · exact ((Below.refl _ w).alloc (Nat.le_refl _) _).alloc (by simp) _
end Go.Proofs.YtjpobkmlcjbpiaaGreat.Ga
