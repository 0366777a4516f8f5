/- THE CONTRACTS of what compares readings: before, first, cmp.Or, Reading.name; the reference's Less and Same. -/
import Derived.Test.YtkgoojilmnkgiaaRSort
import Derived.Test.YtkgoojilmnkgiaaCheck
import Derived.Test.YtkgoojilmnkgiaaTimes
import Derived.Sort.Grow
namespace Go.Proofs.Ytkgoojilmnkgiaa
open Go.RowKit Go.Proofs Go.Sort

theorem Rd.of_blk' {α : Type} {enc : α → List Value} {k : Nat} (henc : ∀ x, (enc x).length = k) {w : World} {g n : Nat} {t : TypeId} {cs : Array Value} {fr : Nat × Nat} {l : List α} (h : w.heap[g]? = some (.cells cs t fr)) (hc : ∀ (j : Nat) (v : Value), (l.flatMap enc)[j]? = some v → cs[j]? = some v) (hl : l.length = n) :
    Rd enc k w (some ⟨g, 0, none⟩) n l := by
  refine ⟨hl, fun hn => ⟨g, 0, rfl, (Array.getElem?_eq_some_iff.1 h).1, fun i x hx j v hv => ?_⟩⟩
  have h1 := flatMap_get henc l i x j v hx hv
  rw [Nat.zero_add, cell_of_row w g _ cs t fr h]
  exact hc _ _ h1
def orI : List Int → Int
  | [] => 0
  | x :: l => if x = 0 then orI l else x
theorem orI_zero {l : List Int} (h : ∀ (i : Nat) (x : Int), l[i]? = some x → x = 0) : orI l = 0 := by
  induction l with
  | nil => rfl
  | cons x l ih => rw [orI, if_pos (h 0 x rfl)]; exact ih fun i y hy => h (i + 1) y (by simpa using hy)
theorem orI_at : ∀ {l : List Int} {k : Nat} {x : Int}, l[k]? = some x → x ≠ 0 → (∀ (i : Nat) (y : Int), i < k → l[i]? = some y → y = 0) → orI l = x
  | [], k, x, hx, _, _ => by simp at hx
  | y :: l, 0, x, hx, h0, _ => by
    simp at hx; subst hx
    rw [orI, if_neg h0]
  | y :: l, k + 1, x, hx, h0, h => by
    rw [orI, if_pos (h 0 y (by omega) rfl)]
    exact orI_at (by simpa using hx) h0 fun i z hi hz => h (i + 1) z (by omega) (by simpa using hz)
/-- what before says of two readings -/
def cfR (x y : Rdg) : Int := orI [x.ins - y.ins, x.num - y.num, x.tim - y.tim, x.val - y.val]
theorem cfR_neg (x y : Rdg) : decide (cfR x y < 0) = rlt x y := by
  unfold cfR orI orI orI orI orI rlt
  rw [decide_eq_decide]
  split
  · split
    · split
      · split <;> omega
      · omega
    · omega
  · omega

set_option maxHeartbeats 400000 in
theorem or_c {l : List Int} {A : Option Addr} {n c : Nat} {w : World} (h : Rd enc1 1 w A n l) (hn : n ≤ 1000000) :
    Calls Try.prog 123 #[.slice A n c] w fun e w' => e = .returned (.int .i64 (orI l)) ∧ w = w' := by
  have hl := h.len
  have HL := Lib.hid hl; clear hl
  go_enter Try.func123, Try.ntmps123
  go_wp2_with fail
  go_loop [8] (fun i => ∃ k : Nat, k ≤ n ∧ i = .int .i64 k ∧ ∀ (j : Nat) (y : Int), j < k → l[j]? = some y → y = 0) (fun i => n - (intOf i).toNat)
  case atStart => exact ⟨0, Nat.zero_le _, rfl, fun j y hj => absurd hj (by omega)⟩
  case round =>
    obtain ⟨k, hk, rfl, hall⟩ := hrel
    have HA := Lib.hid hall; clear hall
    by_cases hlt : k < n
    · obtain ⟨b, o, x, hA, _, hx, h0⟩ := h.at1 hlt
      subst hA
      have HX := Lib.hid hx; clear hx
      by_cases hx0 : x = 0
      · subst hx0
        go_wp2
        go_round
        case rel => exact ⟨k + 1, by omega, by go_num, fun j y hj hy => by
          rcases Nat.lt_or_ge j k with h' | h'
          · exact HA.out j y h' hy
          · obtain rfl : j = k := by omega
            rw [HX.out] at hy; cases hy; rfl⟩
        case measure => simp [intOf] <;> omega
      · have e1 : (x == 0) = false := by rw [beq_eq_false_iff_ne]; exact hx0
        have e2 : (x != 0) = true := by rw [bne_iff_ne]; exact hx0
        have HR := Lib.hid (orI_at HX.out hx0 HA.out)
        go_wp2
        go_ret
        exact ⟨ret_int HR.out.symm, rfl⟩
    · obtain rfl : k = n := by omega
      go_wp2
      go_ret
      exact ⟨ret_int (orI_zero fun i x hx => HA.out i x (by have := lt_of_get hx; rw [HL.out] at this; exact this) hx).symm, rfl⟩
theorem first_c {l : List Int} {A : Option Addr} {n c : Nat} {w : World} (h : Rd enc1 1 w A n l) (hn : n ≤ 1000000) :
    Calls Try.prog 98 #[.slice A n c] w fun e w' => e = .returned (.int .i64 (orI l)) ∧ w = w' := by
  go_enter Try.func98, Try.ntmps98
  go_wp2_with (go_at_call 123; refine (or_c h hn).mono ?_; rintro e w' ⟨rfl, rfl⟩)
  go_ret
  exact ⟨rfl, rfl⟩

theorem first4_c (a b c d : Int) (g : Nat) (W : World) (hg : g = W.heap.size) :
    Calls Try.prog 98 #[.slice (some ⟨g, 0, none⟩) 4 4] (W.alloc (.cells #[.int .i64 a, .int .i64 b, .int .i64 c, .int .i64 d] 3)) fun e w' => e = .returned (.int .i64 (orI [a, b, c, d])) ∧ W.alloc (.cells #[.int .i64 a, .int .i64 b, .int .i64 c, .int .i64 d] 3) = w' := by
  subst hg
  exact first_c (Rd.of_blk' enc1_len (heap_alloc_new W _) (fun j v hv => by simpa [enc1] using hv) rfl) (by omega)

set_option maxRecDepth 100000 in
set_option maxHeartbeats 1000000 in
theorem before_c {x y : Rdg} (hx : validB x = true) (hy : validB y = true) (w : World) :
    Calls Try.prog 73 #[.agg #[.int .i64 x.ins, .int .i64 x.num, .int .i64 x.tim, .int .i64 x.val], .agg #[.int .i64 y.ins, .int .i64 y.num, .int .i64 y.tim, .int .i64 y.val]] w fun e w' =>
      e = .returned (.int .i64 (cfR x y)) ∧ ∃ q os', w' = grow (w.drewN q) os' := by
  have hx' := validB_iff.1 hx; have hy' := validB_iff.1 hy
  have w1 : IntKind.i64.wrap (x.ins - y.ins) = x.ins - y.ins := wi (by omega)
  have w2 : IntKind.i64.wrap (x.num - y.num) = x.num - y.num := wi (by omega)
  have w3 : IntKind.i64.wrap (x.tim - y.tim) = x.tim - y.tim := wi (by omega)
  have w4 : IntKind.i64.wrap (x.val - y.val) = x.val - y.val := wi (by omega)
  have HR := Lib.hid (show cfR x y = orI [x.ins - y.ins, x.num - y.num, x.tim - y.tim, x.val - y.val] from rfl)
  clear hx' hy' hx hy
  go_enter Try.func73, Try.ntmps73
  go_wp2_with fail
  refine (first4_c _ _ _ _ _ _ (by simp)).mono ?_
  rintro e w' ⟨rfl, rfl⟩
  go_wp2_with fail
  go_ret
  exact ⟨ret_int HR.out.symm, 0, _, by rw [alloc_eq_grow, alloc_eq_grow, alloc_eq_grow, grow_grow, grow_grow]; rfl⟩

set_option maxHeartbeats 400000 in
theorem Same_c (x y : Rdg) (w : World) :
    Calls Try.prog 75 #[.agg #[.int .i64 x.ins, .int .i64 x.num, .int .i64 x.tim, .int .i64 x.val], .agg #[.int .i64 y.ins, .int .i64 y.num, .int .i64 y.tim, .int .i64 y.val]] w fun e w' =>
      e = .returned (.bool (nameB x y)) ∧ Below w.heap.size w w' := by
  by_cases h1 : x.ins = y.ins
  · have e1 : (x.ins == y.ins) = true := by simpa using h1
    have HR := Lib.hid (show nameB x y = decide (x.num = y.num) by simp [nameB, h1])
    clear h1
    go_enter Try.func75, Try.ntmps75
    go_wp2_with fail
    go_ret
    exact ⟨ret_bool (by rw [HR.out]; rfl), ((Below.refl _ w).alloc (Nat.le_refl _) _).alloc (by simp) _⟩
  · have e1 : (x.ins == y.ins) = false := by simpa using h1
    have HR := Lib.hid (show nameB x y = false by simp [nameB, h1])
    clear h1
    go_enter Try.func75, Try.ntmps75
    go_wp2_with fail
    go_ret
    exact ⟨ret_bool HR.out.symm, ((Below.refl _ w).alloc (Nat.le_refl _) _).alloc (by simp) _⟩

set_option maxHeartbeats 1000000 in
theorem Less_c (x y : Rdg) (w : World) :
    Calls Try.prog 99 #[.agg #[.int .i64 x.ins, .int .i64 x.num, .int .i64 x.tim, .int .i64 x.val], .agg #[.int .i64 y.ins, .int .i64 y.num, .int .i64 y.tim, .int .i64 y.val]] w fun e w' =>
      e = .returned (.bool (rlt x y)) ∧ Below w.heap.size w w' := by
  by_cases h1 : x.ins = y.ins
  · have e1 : (x.ins == y.ins) = true := by simpa using h1
    have d1 : (x.ins != y.ins) = false := by simpa using h1
    by_cases h2 : x.num = y.num
    · have e2 : (x.num == y.num) = true := by simpa using h2
      have d2 : (x.num != y.num) = false := by simpa using h2
      by_cases h3 : x.tim = y.tim
      · have e3 : (x.tim == y.tim) = true := by simpa using h3
        have d3 : (x.tim != y.tim) = false := by simpa using h3
        have HR := Lib.hid (show rlt x y = decide (x.val < y.val) by simp [rlt, h1, h2, h3])
        clear h1 h2 h3
        go_enter Try.func99, Try.ntmps99
        go_wp2_with fail
        go_ret
        exact ⟨ret_bool HR.out.symm, ((Below.refl _ w).alloc (Nat.le_refl _) _).alloc (by simp) _⟩
      · have e3 : (x.tim == y.tim) = false := by simpa using h3
        have d3 : (x.tim != y.tim) = true := by simpa using h3
        have HR := Lib.hid (show rlt x y = decide (x.tim < y.tim) by simp [rlt, h1, h2, h3])
        clear h1 h2 h3
        go_enter Try.func99, Try.ntmps99
        go_wp2_with fail
        go_ret
        exact ⟨ret_bool HR.out.symm, ((Below.refl _ w).alloc (Nat.le_refl _) _).alloc (by simp) _⟩
    · have e2 : (x.num == y.num) = false := by simpa using h2
      have d2 : (x.num != y.num) = true := by simpa using h2
      have HR := Lib.hid (show rlt x y = decide (x.num < y.num) by simp [rlt, h1, h2])
      clear h1 h2
      go_enter Try.func99, Try.ntmps99
      go_wp2_with fail
      go_ret
      exact ⟨ret_bool HR.out.symm, ((Below.refl _ w).alloc (Nat.le_refl _) _).alloc (by simp) _⟩
  · have e1 : (x.ins == y.ins) = false := by simpa using h1
    have d1 : (x.ins != y.ins) = true := by simpa using h1
    have HR := Lib.hid (show rlt x y = decide (x.ins < y.ins) by simp [rlt, h1])
    clear h1
    go_enter Try.func99, Try.ntmps99
    go_wp2_with fail
    go_ret
    exact ⟨ret_bool HR.out.symm, ((Below.refl _ w).alloc (Nat.le_refl _) _).alloc (by simp) _⟩

set_option maxHeartbeats 1000000 in
theorem name_c (x : Rdg) (w : World) :
    Calls Try.prog 74 #[.agg #[.int .i64 x.ins, .int .i64 x.num, .int .i64 x.tim, .int .i64 x.val]] w fun e w' =>
      e = .returned (.agg #[.int .i64 x.ins, .int .i64 x.num]) ∧ Below w.heap.size w w' := by
  go_enter Try.func74, Try.ntmps74
  go_wp2_with fail
  refine bodyPost_ret (v := .agg #[.int .i64 x.ins, .int .i64 x.num]) ?_ rfl ⟨rfl, ?_⟩
  · simp [results, Try.f74, go_sem]
  · exact ((Below.refl _ w).alloc (Nat.le_refl _) _).alloc (by simp) _
end Go.Proofs.Ytkgoojilmnkgiaa
