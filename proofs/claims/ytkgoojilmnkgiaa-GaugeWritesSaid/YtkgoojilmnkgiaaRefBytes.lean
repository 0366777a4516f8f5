/- THE CONTRACTS of the reference's Bytes, Record, Records and number. -/
import Derived.Test.YtkgoojilmnkgiaaFault
import Derived.Test.YtkgoojilmnkgiaaNumber
import Derived.Test.YtkgoojilmnkgiaaRegion
import Derived.Deep.RegionHeld3
import Derived.Laws.IdiomStrings
namespace Go.Proofs.Ytkgoojilmnkgiaa
open Go.RowKit Go.Proofs

def str (l : List UInt8) : Value := .string ⟨l.toArray⟩
theorem str_append (a b : List UInt8) : (⟨a.toArray⟩ ++ ⟨b.toArray⟩ : ByteArray) = ⟨(a ++ b).toArray⟩ := ByteArray.ext (by simp)
theorem add_str (a b : List UInt8) (W : World) (h : a.length + b.length ≤ 1000000) : (binOp BinOp.add 9 (str a) (str b)).run Try.prog W = .ok (str (a ++ b)) W := by
  unfold str
  rw [← str_append]
  simp [binOp, go_sem]
  omega
theorem beB_div (n : Int) : ∀ m : Nat, beB n (m + 1) = beB (n / 256) m ++ [byteOf n]
  | 0 => by simp [beB]
  | m + 1 => by
    rw [beB_succ n (m + 1), beB_div n m, beB_succ (n / 256) m, List.cons_append]
    congr 2
    rw [Int.ediv_ediv_of_nonneg (by omega), Int.pow_succ, Int.mul_comm]

theorem conv1 {W W' : World} {b : Int} (h0 : 0 ≤ b) (h1 : b < 256) (h : Below (W.alloc (.cells #[.int .u8 b] 5)).heap.size (W.alloc (.cells #[.int .u8 b] 5)) W') :
    (convert 23 9 (.slice (some ⟨W.heap.size, 0, none⟩) 1 1)).run Try.prog W' = .ok (str [byteOf b]) W' := by
  have hc : W'.cell? ⟨W.heap.size, 0, none⟩ = some (.int .u8 b) := (h.cell (p := ⟨W.heap.size, 0, none⟩) (by simp)).trans (by simp)
  exact run_convert_bytes_back (P := Try.prog) W' 23 9 5 ⟨W.heap.size, 0, none⟩ 1 [byteOf b] Try.underlying23 Try.underlying5 Try.underlying9 (fun j hj => by
    obtain rfl : j = 0 := by simp at hj; omega
    rw [Addr.add_mid, Nat.zero_add, hc]
    simp [byteOf_toNat]
    omega)

theorem conv2 {W' : World} {b : Int} {g : Nat} (h0 : 0 ≤ b) (h1 : b < 256) (hc : W'.cell? ⟨g, 0, none⟩ = some (.int .u8 b)) :
    (convert 23 9 (.slice (some ⟨g, 0, none⟩) 1 1)).run Try.prog W' = .ok (str [byteOf b]) W' :=
  run_convert_bytes_back (P := Try.prog) W' 23 9 5 ⟨g, 0, none⟩ 1 [byteOf b] Try.underlying23 Try.underlying5 Try.underlying9 (fun j hj => by
    obtain rfl : j = 0 := by simp at hj; omega
    rw [Addr.add_mid, Nat.zero_add, hc]
    simp [byteOf_toNat]
    omega)

set_option maxRecDepth 100000 in
set_option maxHeartbeats 1000000 in
theorem rbytes_c : ∀ (m : Nat) (n : Int) (w : World), m ≤ 4 → 0 ≤ n → n ≤ 9223372036854775807 →
    Calls Try.prog 85 #[.int .i64 n, .int .i64 m] w fun e w' => e = .returned (str (beB n m)) ∧ Below w.heap.size w w' := by
  intro m
  induction m with
  | zero =>
    intro n w _ _ _
    go_enter Try.func85, Try.ntmps85
    go_wp2_with fail
    go_ret
    exact ⟨rfl, Below.refl _ _⟩
  | succ m ih =>
    intro n w hm h0 h1
    have IH := Lib.hid (fun W => ih (n / 256) W (by omega) (by omega) (by omega)); clear ih
    have hm0 : (((m : Int) + 1) == 0) = false := by simp; omega
    have s1 : IntKind.i64.wrap ((m : Int) + 1 - 1) = (m : Int) := by rw [wi (by omega)]; omega
    have s2 : IntKind.i64.wrap (m : Int) = (m : Int) := wi (by omega)
    have hcv : ∀ W W' : World, Below (W.alloc (.cells #[.int .u8 (n % 256)] 5)).heap.size (W.alloc (.cells #[.int .u8 (n % 256)] 5)) W' → (convert 23 9 (.slice (some ⟨W.heap.size, 0, none⟩) 1 1)).run Try.prog W' = .ok (str [byteOf (n % 256)]) W' := fun W W' h => conv1 (by omega) (by omega) h
    have hcv0 : ∀ W : World, (convert 23 9 (.slice (some ⟨W.heap.size, 0, none⟩) 1 1)).run Try.prog (W.alloc (.cells #[.int .u8 (n % 256)] 5)) = .ok (str [byteOf (n % 256)]) (W.alloc (.cells #[.int .u8 (n % 256)] 5)) := fun W => conv1 (by omega) (by omega) (Below.refl _ _)
    have hcA : (w.alloc (.cells #[.int .u8 (n % 256)] 5)).cell? ⟨w.heap.size, 0, none⟩ = some (.int .u8 (n % 256)) := by simp
    have hlA : w.heap.size < (w.alloc (.cells #[.int .u8 (n % 256)] 5)).heap.size := by simp
    have HCA := Lib.hid hcA; have HLA := Lib.hid hlA; clear hcA hlA
    have hcvd : (convert 23 9 (.slice (some ⟨w.heap.size, 0, none⟩) 1 1)).run Try.prog (w.alloc (.cells #[.int .u8 (n % 256)] 5)).drew = .ok (str [byteOf (n % 256)]) (w.alloc (.cells #[.int .u8 (n % 256)] 5)).drew := conv2 (by omega) (by omega) HCA.out
    have HV : Hid (str (beB (n / 256) m ++ [byteOf (n % 256)]) = str (beB n (m + 1))) := by
      show str (beB (n / 256) m ++ [byteOf (n % 256)]) = str (beB n (m + 1))
      rw [beB_div, show byteOf (n % 256) = byteOf n by unfold byteOf; rw [Int.emod_emod_of_dvd n (Int.dvd_refl 256)]]
    have hadd := fun W => add_str (beB (n / 256) m) [byteOf (n % 256)] W (by rw [beB_len]; simp; omega)
    have q1 : n.tdiv 256 = n / 256 := Int.tdiv_eq_ediv_of_nonneg h0
    have q2 : n.tmod 256 = n % 256 := Int.tmod_eq_emod_of_nonneg h0
    have q3 : IntKind.i64.wrap (n / 256) = n / 256 := wi (by omega)
    have q4 : IntKind.i64.wrap (n % 256) = n % 256 := wi (by omega)
    have q5 : IntKind.u8.wrap (n % 256) = n % 256 := by simp [IntKind.wrap, IntKind.bits, IntKind.signed]
    go_enter Try.func85, Try.ntmps85
    go_wp2_with fail
    go_region_with ((go_at_call 85; refine (IH.out _).mono ?_; rintro e w1 ⟨rfl, hb1⟩; (have hbb : Below w.heap.size w w1 := by (first | exact below_tr ((Below.refl _ w).alloc (Nat.le_refl _) _).drew hb1 | exact below_tr (Below.refl _ w).drew hb1 | exact below_tr ((Below.refl _ w).alloc (Nat.le_refl _) _) hb1 | exact hb1)); (try (have hc1 : w1.cell? ⟨w.heap.size, 0, none⟩ = some (.int .u8 (n % 256)) := (hb1.cell (p := ⟨w.heap.size, 0, none⟩) HLA.out).trans HCA.out; have hcv2 := conv2 (by omega) (by omega) hc1))))
    all_goals
      go_wp2
      go_ret
      refine ⟨by rw [← HV.out]; rfl, ?_⟩
      first
        | exact hbb
        | exact hbb.alloc hbb.size _
        | exact hbb.drew
        | exact (hbb.alloc hbb.size _).drew
        | exact hbb.drew.alloc hbb.size _
end Go.Proofs.Ytkgoojilmnkgiaa
