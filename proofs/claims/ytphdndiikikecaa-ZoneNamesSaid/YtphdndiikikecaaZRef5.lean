/- THE CONTRACT of the law's dangers: two rows that grow side by side. -/
import Derived.Test.YtphdndiikikecaaZRef3
import Derived.Deep.DeepCutAuto
set_option linter.unusedVariables false
set_option linter.unusedSimpArgs false
namespace Go.Proofs.Ytphdndiikikecaa
open Go.RowKit Go.Proofs
attribute [local go_sem ↓] Go.wp_at_zero Go.wp_at_succ

/-- Two rows of ints, in two blocks; a box; an element that has been laid for either row, or not. -/
def JJ (w : World) (s : Nat) (t : TypeId) (cs : Array Value) (base : Nat) (n z : Int) (ga gb : Option Nat) (va vb : Value) (ka kb : Nat) (la lb : List Int) (W : World) : Prop :=
  W.ownsRow base 3 1 va ka (la.flatMap enc1) ∧ W.ownsRow base 3 1 vb kb (lb.flatMap enc1) ∧ (∀ g, va.ownBlock = some g → vb.ownBlock ≠ some g) ∧ Blk W s t cs ∧ Below w.heap.size w W ∧ (base ≤ W.heap.size ∧ s < base ∧ w.heap.size ≤ s ∧ ka ≤ 1000 ∧ kb ≤ 1000) ∧
  (∀ g, ga = some g → W.cell? ⟨g, 0, none⟩ = some (.int .i64 n) ∧ g < W.heap.size ∧ va.ownBlock ≠ some g ∧ vb.ownBlock ≠ some g) ∧ (∀ g, gb = some g → W.cell? ⟨g, 0, none⟩ = some (.int .i64 z) ∧ g < W.heap.size ∧ va.ownBlock ≠ some g ∧ vb.ownBlock ≠ some g)
section
variable {w : World} {s : Nat} {t : TypeId} {cs : Array Value} {base : Nat} {n z : Int} {ga gb : Option Nat} {va vb : Value} {ka kb : Nat} {la lb : List Int} {W W' : World}
theorem JJ.below (h : JJ w s t cs base n z ga gb va vb ka kb la lb W) (hb : Below W.heap.size W W') : JJ w s t cs base n z ga gb va vb ka kb la lb W' := by
  obtain ⟨h1, h2, h3, h4, h5, h6, h7, h8⟩ := h
  exact ⟨own_mono h1 hb, own_mono h2 hb, h3, h4.below hb h4.lt, below_tr h5 hb, ⟨Nat.le_trans h6.1 hb.size, h6.2⟩,
    fun g hg => ⟨(hb.cell (p := ⟨g, 0, none⟩) (h7 g hg).2.1).trans (h7 g hg).1, Nat.lt_of_lt_of_le (h7 g hg).2.1 hb.size, (h7 g hg).2.2⟩,
    fun g hg => ⟨(hb.cell (p := ⟨g, 0, none⟩) (h8 g hg).2.1).trans (h8 g hg).1, Nat.lt_of_lt_of_le (h8 g hg).2.1 hb.size, (h8 g hg).2.2⟩⟩
theorem JJ.drew (h : JJ w s t cs base n z ga gb va vb ka kb la lb W) : JJ w s t cs base n z ga gb va vb ka kb la lb W.drew := h.below (Below.refl _ _).drew
theorem own_new_ne {base : Nat} {e : TypeId} {size k : Nat} {v : Value} {xs : List Value} (h : W.ownsRow base e size v k xs) : v.ownBlock ≠ some W.heap.size := fun e => by have := (h.lt _ e).2; omega
theorem JJ.b1 (h : JJ w s t cs base n z ga gb va vb ka kb la lb W) : JJ w s t cs base n z (some W.heap.size) gb va vb ka kb la lb (W.alloc (.cells #[.int .i64 n] 3)) := by
  have ha := h.below ((Below.refl _ W).alloc (Nat.le_refl _) (.cells #[.int .i64 n] 3))
  obtain ⟨h1, h2, h3, h4, h5, h6, h7, h8⟩ := ha
  refine ⟨h1, h2, h3, h4, h5, h6, fun g hg => ?_, h8⟩
  cases hg
  exact ⟨by simp, by simp, own_new_ne h.1, own_new_ne h.2.1⟩
theorem JJ.b2 (h : JJ w s t cs base n z ga gb va vb ka kb la lb W) : JJ w s t cs base n z ga (some W.heap.size) va vb ka kb la lb (W.alloc (.cells #[.int .i64 z] 3)) := by
  have ha := h.below ((Below.refl _ W).alloc (Nat.le_refl _) (.cells #[.int .i64 z] 3))
  obtain ⟨h1, h2, h3, h4, h5, h6, h7, h8⟩ := ha
  refine ⟨h1, h2, h3, h4, h5, h6, h7, fun g hg => ?_⟩
  cases hg
  exact ⟨by simp, by simp, own_new_ne h.1, own_new_ne h.2.1⟩
theorem JJ.swap (h : JJ w s t cs base n z ga gb va vb ka kb la lb W) : JJ w s t cs base z n gb ga vb va kb ka lb la W :=
  ⟨h.2.1, h.1, fun g h1 h2 => h.2.2.1 g h2 h1, h.2.2.2.1, h.2.2.2.2.1, ⟨h.2.2.2.2.2.1.1, h.2.2.2.2.2.1.2.1, h.2.2.2.2.2.1.2.2.1, h.2.2.2.2.2.1.2.2.2.2, h.2.2.2.2.2.1.2.2.2.1⟩,
    fun g hg => ⟨(h.2.2.2.2.2.2.2 g hg).1, (h.2.2.2.2.2.2.2 g hg).2.1, (h.2.2.2.2.2.2.2 g hg).2.2.2, (h.2.2.2.2.2.2.2 g hg).2.2.1⟩, fun g hg => ⟨(h.2.2.2.2.2.2.1 g hg).1, (h.2.2.2.2.2.2.1 g hg).2.1, (h.2.2.2.2.2.2.1 g hg).2.2.2, (h.2.2.2.2.2.2.1 g hg).2.2.1⟩⟩
theorem JJ.app {g : Nat} (h : JJ w s t cs base n z (some g) gb va vb ka kb la lb W) (hka : ka < 1000) {ty : TypeId} :
    ∃ v' W', (Builtin.append_ #[39, 39] ty #[va, .slice (some ⟨g, 0, none⟩) 1 1]).run Try.prog W = .ok v' W' ∧ JJ w s t cs base n z none gb v' vb (ka + 1) kb (la ++ [n]) lb W' := by
  obtain ⟨i0, hi0, hz0, hz1, hz2⟩ := info_parts infoZ
  obtain ⟨h1, h2, h3, h4, h5, h6, h7, h8⟩ := h
  obtain ⟨v', W', hr, ho, hg, hl, _⟩ := run_app1 (P := Try.prog) W base 39 ty 3 i0 (.int .i64 0) Try.underlying39 hi0 hz0 hz1 hz2 rfl va ka (la.flatMap enc1) h1 ⟨g, 0, none⟩ 1 (.int .i64 n) (h7 g rfl).1 rfl (by omega) h6.1
  refine ⟨v', W', hr, by rw [List.flatMap_append]; exact ho, own_kept h2 hg (fun b hb e => h3 b e hb), fun b hb => ?_, h4.grown hg (fun e => own_ge h1 h6.2.1 e), h5.grown hg h5.size (fun b hb => by have := (h1.lt b hb).1; omega), ⟨Nat.le_trans h6.1 hg.size, h6.2.1, h6.2.2.1, by omega, h6.2.2.2.2⟩, fun b hb => (by cases hb), fun b hb => ?_⟩
  · rcases hl with e | e
    · exact h3 b (by rw [← e]; exact hb)
    · rw [e] at hb; cases hb; exact own_new_ne h2
  · have hh := h8 b hb
    refine ⟨?_, Nat.lt_of_lt_of_le hh.2.1 hg.size, fun e => ?_, hh.2.2.2⟩
    · rw [World.cell?_of_block (w := W) (a := ⟨b, 0, none⟩) (hg.block b hh.2.1 (fun e => hh.2.2.1 e.symm))]; exact hh.1
    · rcases hl with e2 | e2
      · exact hh.2.2.1 (by rw [← e2]; exact e)
      · rw [e2] at e; cases e; have := hh.2.1; omega
theorem JJ.app2 {g : Nat} (h : JJ w s t cs base n z ga (some g) va vb ka kb la lb W) (hkb : kb < 1000) {ty : TypeId} :
    ∃ v' W', (Builtin.append_ #[39, 39] ty #[vb, .slice (some ⟨g, 0, none⟩) 1 1]).run Try.prog W = .ok v' W' ∧ JJ w s t cs base n z ga none va v' ka (kb + 1) la (lb ++ [z]) W' := by
  obtain ⟨v', W', hr, h'⟩ := h.swap.app hkb (ty := ty)
  exact ⟨v', W', hr, h'.swap⟩
theorem JJ.step1 {ops : Array Oper} {o : Oper} {a : Act} {K : Act → World → Prop} {Q : Exit → Act → World → Prop} {E : Prop} {g : Nat} (hgd : o.guard = none) (x1 x2 : Operand) (ho : o.op = .call { callee := .builtin .append, args := #[x1, x2], argTypes := #[39, 39] })
    (h : JJ w s t cs base n z (some g) gb va vb ka kb la lb W) (hka : ka < 1000) (hs : a.eval x1 = va) (hx : a.eval x2 = .slice (some ⟨g, 0, none⟩) 1 1)
    (hK : ∀ v' W', JJ w s t cs base n z none gb v' vb (ka + 1) kb (la ++ [n]) lb W' → K (a.put o.dst v') W') : if Region.wanted o (yielded ops a.tmps) = true then Oper.wp Try.prog o a W K Q else E := by
  obtain ⟨v', W', hr, h'⟩ := h.app hka (ty := o.type)
  exact step_append_run hgd x1 x2 39 ho _ _ v' W' hs hx hr (hK v' W' h')
theorem JJ.step2 {ops : Array Oper} {o : Oper} {a : Act} {K : Act → World → Prop} {Q : Exit → Act → World → Prop} {E : Prop} {g : Nat} (hgd : o.guard = none) (x1 x2 : Operand) (ho : o.op = .call { callee := .builtin .append, args := #[x1, x2], argTypes := #[39, 39] })
    (h : JJ w s t cs base n z ga (some g) va vb ka kb la lb W) (hkb : kb < 1000) (hs : a.eval x1 = vb) (hx : a.eval x2 = .slice (some ⟨g, 0, none⟩) 1 1)
    (hK : ∀ v' W', JJ w s t cs base n z ga none va v' ka (kb + 1) la (lb ++ [z]) W' → K (a.put o.dst v') W') : if Region.wanted o (yielded ops a.tmps) = true then Oper.wp Try.prog o a W K Q else E := by
  obtain ⟨v', W', hr, h'⟩ := h.app2 hkb (ty := o.type)
  exact step_append_run hgd x1 x2 39 ho _ _ v' W' hs hx hr (hK v' W' h')
theorem JJ.cells {PA SA : Option Addr} {pn pc sn sc : Nat} {v : Vly} (h : JJ w s t (vA PA pn pc SA sn sc v) base n z ga gb va vb ka kb la lb W) :
    W.cell? ⟨s, 0, none⟩ = some (.slice PA pn pc) ∧ W.cell? ⟨s, 1, none⟩ = some (.slice SA sn sc) ∧ W.cell? ⟨s, 2, none⟩ = some (.int .i64 v.s0) ∧ W.cell? ⟨s, 3, none⟩ = some (.int .i64 v.s1) ∧ W.cell? ⟨s, 4, none⟩ = some (.int .i64 v.s2) := by
  have hb := h.2.2.2.1
  refine ⟨?_, ?_, ?_, ?_, ?_⟩
  · rw [hb.cell 0]; rfl
  · rw [hb.cell 1]; rfl
  · rw [hb.cell 2]; rfl
  · rw [hb.cell 3]; rfl
  · rw [hb.cell 4]; rfl
end
end Go.Proofs.Ytphdndiikikecaa

namespace Go.Proofs.Ytphdndiikikecaa
open Go.RowKit Go.Proofs
attribute [local go_sem ↓] Go.wp_at_zero Go.wp_at_succ

theorem JJ.free {w : World} {s : Nat} {t : TypeId} {cs : Array Value} {base : Nat} {n z : Int} {va vb : Value} {ka kb : Nat} {la lb : List Int} {W : World} (h : JJ w s t cs base n z none none va vb ka kb la lb W) (n' z' : Int) : JJ w s t cs base n' z' none none va vb ka kb la lb W := by
  obtain ⟨h1, h2, h3, h4, h5, h6, _, _⟩ := h
  exact ⟨h1, h2, h3, h4, h5, h6, (fun g hg => by cases hg), (fun g hg => by cases hg)⟩
theorem dangs_take {v : Vly} {tr : List Int} {k : Nat} (hk : k < v.pars.length) : (dangs v tr).take (k + 1) = (dangs v tr).take k ++ [dTo v.sls tr (k : Int) v.sls.length] := by
  rw [List.take_add_one]
  have : (dangs v tr)[k]? = some (dTo v.sls tr (k : Int) v.sls.length) := by simp [dangs, hk]
  rw [this]; rfl
set_option maxRecDepth 100000 in
set_option maxHeartbeats 2000000 in
theorem dangersL_c {v : Vly} {tr : List Int} {PA SA TA : Option Addr} {pn pc sn sc tn tc : Nat} {w : World} (hok : VOk v) (hfit : Fits v tr) (h : RdV w PA pn SA sn v) (hT : Rd enc1 1 w TA tn tr) :
    Calls Try.prog 22 #[.agg #[.slice PA pn pc, .slice SA sn sc, .int .i64 v.s0, .int .i64 v.s1, .int .i64 v.s2], .slice TA tn tc] w fun e w' => ∃ A1 c1 A2 c2, e = .returned (.tuple #[.slice A1 pn c1, .slice A2 pn c2]) ∧ Rd enc1 1 w' A1 pn (dangs v tr) ∧ Rd enc1 1 w' A2 pn ((dangs v tr).map (zoneOf v)) ∧ Below w.heap.size w w' := by
  have hlp := h.pars.len
  have hpn := hok.pn
  have hst := (stepsOk_iff.1 hok.steps)
  have hb0 : Below w.heap.size w (w.alloc (.cells (vA PA pn pc SA sn sc v) 26)) := (Below.refl _ w).alloc (Nat.le_refl _) _
  have HB := Lib.hid hb0
  have HX := Lib.hid (Blk.new w 26 (vA PA pn pc SA sn sc v))
  have HDG := Lib.hid (fun (k : Nat) W (hW : Below w.heap.size w W) => Danger_c (pc := pc) (sc := sc) (tc := tc) (k : Int) hok hfit (h.below hW) (hT.below hW))
  have HZN := Lib.hid (fun (d : Int) W => refZone_c PA SA pn pc sn sc (v := v) d (w := W) ⟨hst.2.1, hst.2.2.1⟩)
  have HTK := Lib.hid (fun k (hk : k < pn) => dangs_take (v := v) (tr := tr) (k := k) (by omega))
  obtain ⟨D, hD⟩ : ∃ D, D = dangs v tr := ⟨_, rfl⟩
  have HDL := Lib.hid (show D.length = pn by rw [hD, dangs_len, hlp])
  rw [← hD] at HTK ⊢
  clear h hT hok hfit hb0 hD hst
  go_enter Try.func22, Try.ntmps22
  go_wp2_with fail
  go_loopw [6, 7, 8] (fun o p i wr => ∃ k : Nat, k ≤ pn ∧ i = .int .i64 k ∧ JJ w w.heap.size 26 (vA PA pn pc SA sn sc v) (w.heap.size + 1) 0 0 none none o p k k (D.take k) ((D.take k).map (zoneOf v)) wr) (fun _ _ i _ => pn - (intOf i).toNat)
  case atStart => exact ⟨0, Nat.zero_le _, rfl, World.ownsRow_nil _ _ _ _, World.ownsRow_nil _ _ _ _, (fun g hg => by cases hg), HX.out, HB.out, ⟨by simp, by omega, Nat.le_refl _, by omega, by omega⟩, (fun g hg => by cases hg), (fun g hg => by cases hg)⟩
  case round =>
    obtain ⟨k, hk, rfl, hjj⟩ := hrel
    have HJ := Lib.hid hjj
    obtain ⟨c0, c1, c2, c3, c4⟩ := hjj.cells
    by_cases hlt : k < pn
    · have hkn : (k : Int) < (pn : Int) := by omega
      have hk0 : (0 : Int) ≤ (k : Int) := by omega
      have HD1 := Lib.hid (HDG.out k wr hjj.2.2.2.2.1)
      have HTA := Lib.hid (HTK.out k hlt)
      obtain ⟨d, hd⟩ : ∃ d, d = dTo v.sls tr (k : Int) v.sls.length := ⟨_, rfl⟩
      rw [← hd] at HD1 HTA
      obtain ⟨z, hz⟩ : ∃ z, z = zoneOf v d := ⟨_, rfl⟩
      have HZ1 := Lib.hid (HZN.out d)
      rw [← hz] at HZ1
      have HZE := Lib.hid hz
      clear hjj hd hz
      go_wp2_with fail
      refine HD1.out.mono ?_
      rintro e w2 ⟨rfl, hb2⟩
      have hj2 := (HJ.out.below hb2).free d z
      have jj := hj2
      have hc := hj2.cells
      obtain ⟨c0, c1, c2, c3, c4⟩ := hc
      clear hb2 hj2 HJ HD1
      go_upto_region 6 with fail
      go_region_held3 (fun w' => w'.cell? ⟨w.heap.size, 0, none⟩ = some (.slice PA pn pc) ∧ w'.cell? ⟨w.heap.size, 1, none⟩ = some (.slice SA sn sc) ∧ w'.cell? ⟨w.heap.size, 2, none⟩ = some (.int .i64 v.s0) ∧ w'.cell? ⟨w.heap.size, 3, none⟩ = some (.int .i64 v.s1) ∧ w'.cell? ⟨w.heap.size, 4, none⟩ = some (.int .i64 v.s2))
        (first | exact jj.cells | exact jj.b1.cells | exact jj.b2.cells | exact jj.b1.b2.cells | exact jj.b2.b1.cells | assumption)
        (first
          | (go_at_call 60; refine (HZ1.out _).mono ?_; rintro e w3 ⟨rfl, hbz⟩; (first | (have jj := jj.drew.below hbz) | (have jj := jj.below hbz) | (have jj := jj.b1.drew.below hbz) | (have jj := jj.b1.below hbz)))
          | (refine JJ.step1 (by rfl) (.tmp 21) (.tmp 23) (by rfl) (by first | with_reducible exact jj | with_reducible exact jj.b1 | with_reducible exact jj.b1.drew | with_reducible exact jj.b1.b2 | with_reducible exact jj.b2.b1 | with_reducible exact jj.b1.b2.drew | with_reducible exact jj.b2.b1.drew | with_reducible exact jj.b2) (by omega) (by rfl) (by rfl) ?_; intro va3 w4 jj)
          | (refine JJ.step2 (by rfl) (.tmp 25) (.tmp 29) (by rfl) (by first | with_reducible exact jj | with_reducible exact jj.b2 | with_reducible exact jj.b2.drew | with_reducible exact jj.b1.b2 | with_reducible exact jj.b2.b1 | with_reducible exact jj.b1.b2.drew | with_reducible exact jj.b2.b1.drew | with_reducible exact jj.b1) (by omega) (by rfl) (by rfl) ?_; intro vb3 w4 jj))
      all_goals
        have jf := jj.free 0 0
        have HJF := Lib.hid (show JJ w w.heap.size 26 (vA PA pn pc SA sn sc v) (w.heap.size + 1) 0 0 none none va3 vb3 (k + 1) (k + 1) (D.take (k + 1)) ((D.take (k + 1)).map (zoneOf v)) w4 by
          rw [HTA.out, List.map_append]
          rw [HZE.out] at jf
          exact jf)
        clear jf jj c0 c1 c2 c3 c4
        go_wp2_with fail
        go_roundw
        case rel => exact ⟨k + 1, by omega, by go_num, HJF.out⟩
        case measure => simp [intOf] <;> omega
    · obtain rfl : k = pn := by omega
      have h1 := hjj.1; have h2 := hjj.2.1; have h3 := hjj.2.2.2.2.1
      rw [List.take_of_length_le (by rw [HDL.out]; exact Nat.le_refl _)] at h1 h2
      obtain ⟨A1, c1, rfl, _, hr1⟩ := Rd.of_own2 h1 HDL.out
      obtain ⟨A2, c2, rfl, _, hr2⟩ := Rd.of_own2 h2 (by rw [List.length_map, HDL.out])
      have HR1 := Lib.hid hr1; have HR2 := Lib.hid hr2; have HB3 := Lib.hid h3
      clear h1 h2 h3 hr1 hr2 hjj
      go_wp2_with fail
      go_ret2
      exact ⟨A1, c1, A2, c2, rfl, HR1.out, HR2.out, HB3.out⟩
end Go.Proofs.Ytphdndiikikecaa
