/- CONTRACTS of a house and a river: valid, and the height of a wave. -/
import Derived.Test.YtpijmfbpdglchaaKLeaf
import Derived.Test.YtpijmfbpdglchaaKWaveLaw
namespace Go.Proofs.Ytpijmfbpdglchaa
open Go.RowKit Go.Proofs
theorem Rd.atH {w : World} {A : Option Addr} {n : Nat} {l : List Hou} (h : Rd encH 3 w A n l) {i : Nat} (hi : i < n) :
    ∃ b o x, A = some ⟨b, o, none⟩ ∧ b < w.heap.size ∧ l[i]? = some x ∧ w.cell? ⟨b, o + i * 3, none⟩ = some (.int .i64 x.far) ∧ w.cell? ⟨b, o + i * 3 + 1, none⟩ = some (.int .i64 x.high) ∧
      w.cell? ⟨b, o + i * 3 + 2, none⟩ = some (.int .i64 x.wide) := by
  obtain ⟨b, o, x, e, hb, hx, hc⟩ := h.at_ hi
  exact ⟨b, o, x, e, hb, hx, hc 0 _ rfl, hc 1 _ rfl, hc 2 _ rfl⟩
theorem Rd.atQ {w : World} {A : Option Addr} {n : Nat} {l : List Rea} (h : Rd encQ 3 w A n l) {i : Nat} (hi : i < n) :
    ∃ b o x, A = some ⟨b, o, none⟩ ∧ b < w.heap.size ∧ l[i]? = some x ∧ w.cell? ⟨b, o + i * 3, none⟩ = some (.bool x.may) ∧ w.cell? ⟨b, o + i * 3 + 1, none⟩ = some (.int .i64 x.height) ∧
      w.cell? ⟨b, o + i * 3 + 2, none⟩ = some (.int .i64 x.frm) := by
  obtain ⟨b, o, x, e, hb, hx, hc⟩ := h.at_ hi
  exact ⟨b, o, x, e, hb, hx, hc 0 _ rfl, hc 1 _ rfl, hc 2 _ rfl⟩
theorem house_c (x : Hou) (w : World) :
    Calls Try.prog 81 #[.agg #[.int .i64 x.far, .int .i64 x.high, .int .i64 x.wide]] w fun e w' => e = .returned (.bool (okH x)) ∧ Below w.heap.size w w' := by
  have hv : okH x = (inB x.far 0 200 && (inB x.high 0 10000 && inB x.wide 1 10000)) := rfl
  cases h1 : inB x.far 0 200
  · rw [h1] at hv
    have HM := Lib.hid hv; clear hv
    go_enter Try.func81, Try.ntmps81
    go_wp2_with (go_at_call 78; refine (within_c _ _ _ _).mono ?_; rintro e w' ⟨rfl, rfl⟩)
    go_ret
    exact ⟨ret_bool HM.out.symm, (Below.refl _ _).alloc (Nat.le_refl _) _⟩
  · cases h2 : inB x.high 0 10000
    all_goals
      rw [h1, h2] at hv
      have HM := Lib.hid hv; clear hv
      go_enter Try.func81, Try.ntmps81
      go_wp2_with (go_at_call 78; refine (within_c _ _ _ _).mono ?_; rintro e w' ⟨rfl, rfl⟩)
      go_ret
      exact ⟨ret_bool HM.out.symm, (Below.refl _ _).alloc (Nat.le_refl _) _⟩
end Go.Proofs.Ytpijmfbpdglchaa
