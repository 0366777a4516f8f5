/- THE CONTRACT of the law's ready. -/
import Derived.Test.YtphdndiikikecaaZLawRanges
namespace Go.Proofs.Ytphdndiikikecaa
open Go.RowKit Go.Proofs
attribute [local go_sem ↓] Go.wp_at_zero Go.wp_at_succ

/-- may a statement play a valley? -/
def readyB (v : Vly) : Bool := thinB v && decide (errV v = 0)
theorem readyB_iff {v : Vly} : readyB v = true ↔ thinB v = true ∧ VOk v := by
  unfold readyB
  rw [Bool.and_eq_true, decide_eq_true_iff, errV_zero]
theorem SW.bel {w2 : World} {g : Nat} {cs : Array Value} {W : World} (h : SW w2 g cs W) : Below w2.heap.size w2 W := h.1
theorem SW.refl {W : World} {g : Nat} {cs : Array Value} (h : Blk W g 26 cs) : SW W g cs W := ⟨Below.refl _ _, h⟩
theorem SW.new (w : World) (cs : Array Value) : SW w w.heap.size cs (w.alloc (.cells cs 26)) := ⟨(Below.refl _ w).alloc (Nat.le_refl _) _, Blk.new w _ _⟩

set_option maxRecDepth 100000 in
theorem ready_c {v : Vly} {PA SA : Option Addr} {pn pc sn sc : Nat} {w : World} (h : RdV w PA pn SA sn v) (hpn : pn ≤ maxLen) (hsn : sn ≤ maxLen) :
    Calls Try.prog 31 #[.agg #[.slice PA pn pc, .slice SA sn sc, .int .i64 v.s0, .int .i64 v.s1, .int .i64 v.s2]] w fun e w' => e = .returned (.bool (readyB v)) ∧ Below w.heap.size w w' := by
  have hs0 := SW.new w (vA PA pn pc SA sn sc v)
  have HS0 := Lib.hid hs0
  have HTH := Lib.hid (Thin_c (pc := pc) (sc := sc) (h.below hs0.1) hsn)
  have HV := Lib.hid h
  have hR : readyB v = (thinB v && decide (errV v = 0)) := rfl
  cases hth : thinB v
  · rw [hth] at HTH hR
    have HR := Lib.hid hR
    clear h hs0 hth hR
    go_enter Try.func31, Try.ntmps31
    go_wp2_with fail
    refine HTH.out.mono ?_
    rintro e w1 ⟨rfl, hb⟩
    have HB1 := Lib.hid (HS0.out.below hb).1
    clear hb
    go_wp2_with fail
    go_ret
    exact ⟨by rw [HR.out]; rfl, HB1.out⟩
  · rw [hth] at HTH hR
    have HFT := Lib.hid (fun W (hW : Below w.heap.size w W) => fault_c (pc := pc) (sc := sc) (h.below hW) hpn hsn)
    obtain ⟨E, hE⟩ : ∃ E, E = errV v := ⟨_, rfl⟩
    rw [← hE] at HFT hR
    have HR := Lib.hid (show readyB v = decide (E = 0) by rw [hR]; simp)
    clear h hs0 hth hE hR
    go_enter Try.func31, Try.ntmps31
    go_wp2_with fail
    refine HTH.out.mono ?_
    rintro e w1 ⟨rfl, hb⟩
    have HS1 := Lib.hid (HS0.out.below hb)
    obtain ⟨c0, c1, c2, c3, c4⟩ := HS1.out.cells
    clear hb
    go_wp2_with fail
    refine (HFT.out _ HS1.out.bel).mono ?_
    rintro e w2 ⟨rfl, hb2⟩
    have HB2 := Lib.hid (below_tr HS1.out.bel hb2)
    clear hb2
    go_wp2_with fail
    go_ret
    exact ⟨by rw [HR.out]; first | rfl | simp | (congr 2; exact Bool.eq_iff_iff.2 (by simp)), HB2.out⟩
end Go.Proofs.Ytphdndiikikecaa
