/- THE CONTRACT of gauge.number: the number of some bytes; and '==' of two records. -/
import Derived.Test.YtkgoojilmnkgiaaProg
import Derived.Test.YtkgoojilmnkgiaaRecord
import Derived.Laws.BitsAllLaws
import Derived.ChangeKeysEq
namespace Go.Proofs.Ytkgoojilmnkgiaa
open Go.RowKit Go.Proofs

/-- the number of some bytes, the greatest first -/
def numB (l : List UInt8) : Int := l.foldl (fun (n : Int) (b : UInt8) => 256 * n + (b.toNat : Int)) 0
theorem numB_snoc (l : List UInt8) (b : UInt8) : numB (l ++ [b]) = 256 * numB l + (b.toNat : Int) := by simp [numB]
theorem numB_bd_aux : ∀ (l : List UInt8) (n : Int), 0 ≤ n → 0 ≤ l.foldl (fun (n : Int) (b : UInt8) => 256 * n + (b.toNat : Int)) n ∧ l.foldl (fun (n : Int) (b : UInt8) => 256 * n + (b.toNat : Int)) n < (n + 1) * 256 ^ l.length
  | [], n, h => ⟨h, by simp; omega⟩
  | b :: l, n, h => by
    have hb := b.toNat_lt
    have := numB_bd_aux l (256 * n + (b.toNat : Int)) (by omega)
    simp only [List.foldl_cons, List.length_cons]
    refine ⟨this.1, Int.lt_of_lt_of_le this.2 ?_⟩
    rw [Int.pow_succ, Int.mul_comm (256 ^ l.length : Int) 256, ← Int.mul_assoc]
    exact Int.mul_le_mul_of_nonneg_right (by omega) (Int.le_of_lt (Int.pow_pos (by omega)))
theorem numB_bd (l : List UInt8) : 0 ≤ numB l ∧ numB l < 256 ^ l.length := by
  have := numB_bd_aux l 0 (by omega)
  simpa [numB] using this

theorem ofInt_i64 (a : Nat) (ha : a < 9223372036854775808) : (BitVec.ofInt 64 (a : Int)).toNat = a := by
  rw [BitVec.ofInt_natCast, BitVec.toNat_ofNat]; exact Nat.mod_eq_of_lt (by omega)
theorem i64_or_nat (a b : Nat) (ha : a < 9223372036854775808) (hb : b < 9223372036854775808) : bits .or .i64 (a : Int) (b : Int) = ((a ||| b : Nat) : Int) := by
  have hx : a ||| b < 2 ^ 63 := Nat.or_lt_two_pow (by omega) (by omega)
  show IntKind.i64.wrap ((BitVec.ofInt 64 (a : Int) ||| BitVec.ofInt 64 (b : Int)).toNat : Int) = _
  rw [BitVec.toNat_or, ofInt_i64 a ha, ofInt_i64 b hb, IntKind.wrap_i64]
  omega
theorem or_byte (n b : Int) (h0 : 0 ≤ n) (h1 : n < 16777216) (hb0 : 0 ≤ b) (hb1 : b < 256) : bits .or .i64 (n * 256) b = 256 * n + b := by
  obtain ⟨m, rfl⟩ := Int.eq_ofNat_of_zero_le h0
  obtain ⟨c, rfl⟩ := Int.eq_ofNat_of_zero_le hb0
  have e : ((m : Int) * 256) = ((m * 256 : Nat) : Int) := by simp
  rw [e, i64_or_nat _ _ (by omega) (by omega)]
  have := Nat.shiftLeft_add_eq_or_of_lt (b := c) (i := 8) (by omega) m
  rw [Nat.shiftLeft_eq] at this
  rw [← this]
  simp; omega

set_option maxRecDepth 100000 in
set_option maxHeartbeats 400000 in
theorem number_c {l : List UInt8} {A : Option Addr} {n c : Nat} {w : World} (h : Rd encB 1 w A n l) (hn : n ≤ 4) :
    Calls Try.prog 107 #[.slice A n c] w fun e w' => e = .returned (.int .i64 (numB l)) ∧ w = w' := by
  have hl := h.len
  have HL := Lib.hid hl; clear hl
  go_enter Try.func107, Try.ntmps107
  go_wp2_with fail
  go_loop [2, 7] (fun v i => ∃ (k : Nat) (m : Int), k ≤ n ∧ i = .int .i64 k ∧ v = .int .i64 m ∧ m = numB (l.take k)) (fun _ i => n - (intOf i).toNat)
  case atStart => exact ⟨0, 0, Nat.zero_le _, rfl, rfl, rfl⟩
  case round =>
    obtain ⟨k, m, hk, rfl, rfl, hm⟩ := hrel
    have HM := Lib.hid hm; clear hm
    by_cases hlt : k < n
    · obtain ⟨b, o, x, hA, _, hx, h0⟩ := h.atB hlt
      subst hA
      have HX := Lib.hid hx; clear hx
      have hx1 : (x.toNat : Int) < 256 := by have := x.toNat_lt; omega
      have hx0 : (0 : Int) ≤ (x.toNat : Int) := by omega
      have hbd : 0 ≤ m ∧ m < 16777216 := by
        rw [HM.out]
        have h1 := numB_bd (l.take k)
        have h2 : (l.take k).length ≤ 3 := by rw [List.length_take]; omega
        have h3 : (256 : Int) ^ (l.take k).length ≤ 256 ^ 3 := by
          have := Nat.pow_le_pow_right (n := 256) (by omega) h2
          exact_mod_cast this
        omega
      have w1 : IntKind.i64.wrap (m * 256) = m * 256 := wi (by omega)
      have w2 := or_byte m (x.toNat : Int) hbd.1 hbd.2 hx0 hx1
      go_wp2
      go_round
      case rel => exact ⟨k + 1, 256 * m + (x.toNat : Int), by omega, by go_num, rfl, by rw [List.take_add_one, HX.out, HM.out]; exact (numB_snoc _ _).symm⟩
      case measure => simp [intOf] <;> omega
    · obtain rfl : k = n := by omega
      go_wp2
      go_ret
      exact ⟨ret_int (by rw [HM.out, List.take_of_length_le (by rw [HL.out]; exact Nat.le_refl _)]), rfl⟩

theorem run_eqItems_bytes {P : Program} {e : TypeId} (he : P.underlying e = some (.int .u8)) (hs : P.cellsOf e = 1) (d : Nat) (a b : List UInt8) (W : World) : ∀ (is : List Nat), (∀ i ∈ is, i < a.length ∧ i < b.length) →
    (Op.eqItems (d + 1) e (P.cellsOf e) (cellsB a) (cellsB b) is).run P W = .ok (is.all fun i => a[i]? == b[i]?) W
  | [], _ => by simp [Op.eqItems]
  | i :: is, h => by
    have hi := h i (by simp)
    have ih := run_eqItems_bytes he hs d a b W is (fun j hj => h j (by simp [hj]))
    have hag : (isAgg e).run P W = .ok false W := by unfold isAgg; simp [run_underlying he]
    have p1 : (part e (cellsB a) (i * P.cellsOf e)).run P W = .ok (.int .u8 ((a[i]'hi.1).toNat : Int)) W := by
      rw [hs]; simp [part, hag, cellsB, hi.1]
    have p2 : (part e (cellsB b) (i * P.cellsOf e)).run P W = .ok (.int .u8 ((b[i]'hi.2).toNat : Int)) W := by
      rw [hs]; simp [part, hag, cellsB, hi.2]
    have p3 : (Op.equalIn (d + 1) e (.int .u8 ((a[i]'hi.1).toNat : Int)) (.int .u8 ((b[i]'hi.2).toNat : Int))).run P W = .ok (a[i]? == b[i]?) W := by
      simp [Op.equalIn, run_underlying he, hi.1, hi.2]
      rw [Bool.eq_iff_iff]; simp
      exact ⟨fun h => UInt8.toNat_inj.1 (by omega), fun h => by rw [h]⟩
    simp only [Op.eqItems, Sem.run_bind, p1, p2, p3, Result.andThen_ok]
    cases hab : (a[i]? == b[i]?)
    · simp [hab]
    · simp [hab, ih]
theorem all_range_eq (a b : List UInt8) (n : Nat) (ha : a.length = n) (hb : b.length = n) : ((List.range n).all fun i => a[i]? == b[i]?) = decide (a = b) := by
  rw [Bool.eq_iff_iff]
  simp only [List.all_eq_true, List.mem_range, beq_iff_eq, decide_eq_true_eq]
  constructor
  · intro h
    apply List.ext_getElem?
    intro i
    rcases Nat.lt_or_ge i n with hi | hi
    · exact h i hi
    · rw [List.getElem?_eq_none (by omega), List.getElem?_eq_none (by omega)]
  · rintro rfl i _; rfl

theorem info8 : ∃ i, Try.prog.info? 5 = some i := by
  obtain ⟨i0, hi, _⟩ := info_parts (show (Try.prog.info? 5).map (fun i => (i.zero, i.size, i.bytes)) = some (some (.int .u8 0), 1, 1) by kernel_rfl)
  exact ⟨i0, hi⟩
theorem run_eql_rec (a b : List UInt8) (ha : a.length = 16) (hb : b.length = 16) (W : World) :
    (binOp .eql 105 (.agg (cellsB a)) (.agg (cellsB b))).run Try.prog W = .ok (.bool (decide (a = b))) W := by
  obtain ⟨i8, hi8⟩ := info8
  have h1 := run_equalIn_array (P := Try.prog) W 9999 (cellsB a) (cellsB b) Try.underlying105 hi8
  have h2 := run_eqItems_bytes (P := Try.prog) Try.underlying5 (by kernel_rfl) 9998 a b W (List.range 16) (fun i hi => by simp at hi; omega)
  simp only [binOp]
  simp [Op.equal, Op.maxDepth]
  rw [h1, h2, all_range_eq a b 16 ha hb]
  simp
end Go.Proofs.Ytkgoojilmnkgiaa
