/- THE CONTRACT of the reference's number. -/
import Derived.Test.YtkgoojilmnkgiaaRefBytes
namespace Go.Proofs.Ytkgoojilmnkgiaa
open Go.RowKit Go.Proofs

theorem numB_take {l : List UInt8} {k : Nat} {x : UInt8} (hx : l[k]? = some x) : numB (l.take (k + 1)) = 256 * numB (l.take k) + (x.toNat : Int) := by
  rw [List.take_add_one, hx]
  exact numB_snoc _ _
theorem numB_bd' {l : List UInt8} (h : l.length ≤ 4) : 0 ≤ numB l ∧ numB l < 4294967296 := by
  have := numB_bd_aux l 0 (Int.le_refl _)
  refine ⟨this.1, ?_⟩
  have h2 := this.2
  rcases (show l.length = 0 ∨ l.length = 1 ∨ l.length = 2 ∨ l.length = 3 ∨ l.length = 4 by omega) with h | h | h | h | h <;> rw [h] at h2 <;> simp [numB] at h2 ⊢ <;> omega

set_option maxHeartbeats 400000 in
theorem rnumber_c {l : List UInt8} (hl : l.length ≤ 4) (w : World) :
    Calls Try.prog 88 #[str l] w fun e w' => e = .returned (.int .i64 (numB l)) ∧ w = w' := by
  unfold str
  go_enter Try.func88, Try.ntmps88
  go_wp2_with fail
  go_loop [3, 4] (fun v i => ∃ k : Nat, k ≤ l.length ∧ i = .int .i64 k ∧ v = .int .i64 (numB (l.take k))) (fun _ i => l.length - (intOf i).toNat)
  case atStart => exact ⟨0, Nat.zero_le _, rfl, rfl⟩
  case round =>
    obtain ⟨k, hk, rfl, rfl⟩ := hrel
    by_cases hlt : k < l.length
    · obtain ⟨x, hx⟩ := get_of_lt hlt
      have hn := numB_take hx
      have hb := numB_bd' (l := l.take k) (by rw [List.length_take]; omega)
      have hxl := x.toNat_lt
      have HN := Lib.hid hn
      generalize numB (l.take k) = q at *
      have k1 : (k : Int) < (l.length : Int) := by omega
      have k0 : (0 : Int) ≤ (k : Int) := by omega
      have w1 : IntKind.i64.wrap (256 * q) = 256 * q := wi (by omega)
      have w2 : IntKind.i64.wrap (x.toNat : Int) = (x.toNat : Int) := wi (by omega)
      have w3 : IntKind.i64.wrap (256 * q + (x.toNat : Int)) = 256 * q + (x.toNat : Int) := wi (by omega)
      go_wp2
      go_round
      case rel =>
        have hxx : l[k] = x := by rw [List.getElem?_eq_getElem hlt] at hx; exact Option.some.inj hx
        refine ⟨k + 1, by omega, by go_num, ?_⟩
        rw [HN.out]
        show Value.int .i64 (wrap64 (256 * q + wrap64 ((l[k].toNat : Nat) : Int))) = _
        rw [hxx]
        congr 1
        unfold wrap64
        omega
      case measure => simp [intOf] <;> omega
    · obtain rfl : k = l.length := by omega
      rw [List.take_length]
      go_wp2
      go_ret
      simp
end Go.Proofs.Ytkgoojilmnkgiaa
