/- WORDS for evidence in memory; the contract of the test that Hear makes of each piece. -/
import Derived.Test.YtphdndiikikecaaZPrem
import Derived.Test.YtphdndiikikecaaZHearLaw
namespace Go.Proofs.Ytphdndiikikecaa
open Go.RowKit Go.Proofs
attribute [local go_sem ↓] Go.wp_at_zero Go.wp_at_succ

theorem Rd.at3 {w : World} {A : Option Addr} {n : Nat} {l : List Evd} (h : Rd encE 3 w A n l) {i : Nat} (hi : i < n) :
    ∃ b o x, A = some ⟨b, o, none⟩ ∧ b < w.heap.size ∧ l[i]? = some x ∧ w.cell? ⟨b, o + i * 3, none⟩ = some (.int .i64 x.k) ∧ w.cell? ⟨b, o + i * 3 + 1, none⟩ = some (.int .i64 x.lo) ∧ w.cell? ⟨b, o + i * 3 + 2, none⟩ = some (.int .i64 x.hi) := by
  obtain ⟨b, o, x, e, hb, hx, hc⟩ := h.at_ hi
  exact ⟨b, o, x, e, hb, hx, hc 0 _ rfl, hc 1 _ rfl, hc 2 _ rfl⟩

set_option maxRecDepth 100000 in
theorem Hear1_c {PA SA : Option Addr} {pn pc sn sc : Nat} {v : Vly} {V : Nat} (x : Evd) {w : World} (hV : Blk w V 36 (vA PA pn pc SA sn sc v)) (hsn : sn ≤ 10) :
    Calls Try.prog 78 #[.agg #[.int .i64 x.k, .int .i64 x.lo, .int .i64 x.hi], .pointer (some ⟨V, 0, none⟩)] w fun e w' => e = .returned (.bool (evOk sn x)) ∧ Below w.heap.size w w' := by
  have hlt := hV.lt
  have c1 := hV.cell 1
  simp at c1
  have hwsn : IntKind.i64.wrap ((sn : Int) - 1) = (sn : Int) - 1 := wi (by omega)
  have hR : evOk sn x = (inB x.k 0 ((sn : Int) - 1) && upB x.lo x.hi 12) := rfl
  have HIN := Lib.hid (fun W => within_c x.k 0 ((sn : Int) - 1) W)
  clear hV
  cases hin : inB x.k 0 ((sn : Int) - 1)
  · simp only [hin] at HIN
    rw [hin] at hR
    have HR := Lib.hid hR
    clear hR hin
    go_enter Try.func78, Try.ntmps78
    go_wp2_with (go_at_call 69; refine (HIN.out _).mono ?_; rintro e w5 ⟨rfl, rfl⟩)
    go_ret
    exact ⟨by rw [HR.out]; rfl, (Below.refl _ _).alloc (Nat.le_refl _) _⟩
  · simp only [hin] at HIN
    rw [hin, Bool.true_and] at hR
    have HR := Lib.hid hR
    clear hR hin
    go_enter Try.func78, Try.ntmps78
    go_wp2_with (first
      | (go_at_call 69; refine (HIN.out _).mono ?_; rintro e w5 ⟨rfl, rfl⟩)
      | (go_at_call 79; refine (up_c _ _ _ _).mono ?_; rintro e w6 ⟨rfl, hb6⟩))
    go_ret
    exact ⟨by rw [HR.out]; rfl, ((Below.refl _ _).alloc (Nat.le_refl _) _).trans (hb6.mono (by simp))⟩
end Go.Proofs.Ytphdndiikikecaa
