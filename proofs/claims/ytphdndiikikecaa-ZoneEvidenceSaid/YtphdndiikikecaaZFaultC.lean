/- THE CONTRACTS of the reference's Fault and of the law's fault. -/
import Derived.Test.YtphdndiikikecaaZFault
namespace Go.Proofs.Ytphdndiikikecaa
open Go.RowKit Go.Proofs

theorem Fault_c {v : Vly} {PA SA : Option Addr} {pn pc sn sc : Nat} {w : World} (h : RdV w PA pn SA sn v) (hpn : pn ≤ maxLen) (hsn : sn ≤ maxLen) :
    Calls Try.prog 34 #[.agg #[.slice PA pn pc, .slice SA sn sc, .int .i64 v.s0, .int .i64 v.s1, .int .i64 v.s2]] w fun e w' => e = .returned (.int .i64 (errV v)) ∧ Below w.heap.size w w' := by
  by_cases hb : 10 < sn ∨ inB (pn : Int) 1 12 = false ∨ stepsOk v.s0 v.s1 v.s2 = false
  · exact Fault_early h hpn hsn hb
  · exact Fault_main h hpn hsn (fun h1 => hb (.inl h1)) (by cases e : inB (pn : Int) 1 12 with | true => rfl | false => exact absurd (.inr (.inl e)) hb) (by cases e : stepsOk v.s0 v.s1 v.s2 with | true => rfl | false => exact absurd (.inr (.inr e)) hb)
theorem fault_c {v : Vly} {PA SA : Option Addr} {pn pc sn sc : Nat} {w : World} (h : RdV w PA pn SA sn v) (hpn : pn ≤ maxLen) (hsn : sn ≤ maxLen) :
    Calls Try.prog 21 #[.agg #[.slice PA pn pc, .slice SA sn sc, .int .i64 v.s0, .int .i64 v.s1, .int .i64 v.s2]] w fun e w' => e = .returned (.int .i64 (errV v)) ∧ Below w.heap.size w w' := by
  have hb0 : Below w.heap.size w (w.alloc (.cells (vA PA pn pc SA sn sc v) 26)) := (Below.refl _ w).alloc (Nat.le_refl _) _
  have HF := Lib.hid (Fault_c (pc := pc) (sc := sc) (h.below hb0) hpn hsn)
  obtain ⟨R, hR⟩ : ∃ R, R = errV v := ⟨_, rfl⟩
  rw [← hR] at HF ⊢
  have HB := Lib.hid hb0
  clear h hb0 hR
  go_enter Try.func21, Try.ntmps21
  go_wp2_with fail
  refine HF.out.mono ?_
  rintro e w2 ⟨rfl, hb⟩
  have HB2 := Lib.hid (below_tr HB.out hb)
  clear hb
  go_wp2_with fail
  go_ret
  exact ⟨rfl, HB2.out⟩
end Go.Proofs.Ytphdndiikikecaa
