/- CONTRACTS of 'all' over a slice of zone.Slide with the function (zone.Valley).slide: written by mkallz.py. -/
import Derived.Test.YtphdndiikikecaaZInts
import Derived.Test.YtphdndiikikecaaZAllPar
import Derived.Deep.DeepCutAuto
set_option linter.unusedVariables false
set_option linter.unusedSimpArgs false
namespace Go.Proofs.Ytphdndiikikecaa
open Go.RowKit Go.Proofs

section
variable {p : Sli → Bool}
theorem allSli_1 (x : Sli) (B : Nat) (V : Value) (w : World) (_hBl : B < w.heap.size) (hB : w.cell? ⟨B, 0, none⟩ = some (.func (.func 75) #[V] #[]))
    (hp : ∀ W : World, Below w.heap.size w W → Calls Try.prog 75 #[V, .agg #[.slice x.A x.n x.c, .int .i64 x.rate, .int .i64 x.lo, .int .i64 x.hi]] W fun e w' => e = .returned (.bool (p x)) ∧ Below W.heap.size W w') :
    Calls Try.prog 90 #[.agg #[.slice x.A x.n x.c, .int .i64 x.rate, .int .i64 x.lo, .int .i64 x.hi], .pointer (some ⟨B, 0, none⟩)] w fun e w' => e = .returned (.bool (!p x)) ∧ Below w.heap.size w w' := by
  have hp' := hp (w.alloc (.cells #[.slice x.A x.n x.c, .int .i64 x.rate, .int .i64 x.lo, .int .i64 x.hi] 103)) ((Below.refl w.heap.size w).alloc (Nat.le_refl _) (.cells #[.slice x.A x.n x.c, .int .i64 x.rate, .int .i64 x.lo, .int .i64 x.hi] 103))
  have HP := Lib.hid hp'; clear hp hp'
  go_enter Try.func90, Try.ntmps90
  go_wp2_with (go_at_call 75; refine (HP.out).mono ?_; rintro e w' ⟨rfl, hb⟩)
  go_ret
  exact ⟨rfl, ((Below.refl _ _).alloc (Nat.le_refl _) _).trans (hb.mono (by simp))⟩

theorem idxSli_c {l : List (Sli)} {A : Option Addr} {n c : Nat} {B : Nat} (V : Value) (w : World) (h : Rd encS 4 w A n l) (hn : n ≤ maxLen) (hBl : B < w.heap.size)
    (hB : w.cell? ⟨B, 0, none⟩ = some (.func (.func 75) #[V] #[]))
    (hp : ∀ (i : Nat) (x : Sli) (W : World), l[i]? = some x → Below w.heap.size w W → Calls Try.prog 75 #[V, .agg #[.slice x.A x.n x.c, .int .i64 x.rate, .int .i64 x.lo, .int .i64 x.hi]] W fun e w' => e = .returned (.bool (p x)) ∧ Below W.heap.size W w') :
    Calls Try.prog 98 #[.slice A n c, .func (.func 90) #[] #[.pointer (some ⟨B, 0, none⟩)]] w
      fun e w' => (∃ r : Int, e = .returned (.int .i64 r) ∧ (!decide (r ≥ 0)) = allB p l) ∧ Below w.heap.size w w' := by
  unfold maxLen at hn
  have HP := Lib.hid hp; clear hp
  go_enter Try.func98, Try.ntmps98
  go_wp2_with fail
  go_loopw [5, 8] (fun _ i wr => ∃ k : Nat, k ≤ n ∧ i = .int .i64 k ∧ Below w.heap.size w wr ∧ ∀ (j : Nat) (x : Sli), j < k → l[j]? = some x → p x = true) (fun _ i _ => n - (intOf i).toNat)
  case atStart => exact ⟨0, Nat.zero_le _, rfl, Below.refl _ _, fun j x hj => absurd hj (by omega)⟩
  case round =>
    obtain ⟨k, hk, rfl, hb, hall⟩ := hrel
    have HA := Lib.hid hall; clear hall
    by_cases hlt : k < n
    · obtain ⟨b, o, x, rfl, hbl, hx, h0, h1, h2, h3⟩ := (h.below hb).atS hlt
      have hx1 := fun W (hW : Below wr.heap.size wr W) => HP.out k x W hx (hb.trans (hW.mono hb.size))
      have HX1 := Lib.hid hx1; clear hx1
      have HX := Lib.hid hx; clear hx
      have hB' := (hb.cell (p := ⟨B, 0, none⟩) hBl).trans hB
      have hBl' : B < wr.heap.size := Nat.lt_of_lt_of_le hBl hb.size
      cases hm : p x
      all_goals
        have HM := Lib.hid hm; clear hm
        go_wp2_with (go_at_call 90; refine (allSli_1 _ _ V _ hBl' hB' HX1.out).mono ?_; rintro e w' ⟨rfl, hb'⟩; simp only [HM.out])
      · go_ret
        exact ⟨⟨k, rfl, by rw [(allB_not (p := p) (l := l)).2 ⟨k, x, HX.out, HM.out⟩]; simp⟩, hb.trans (hb'.mono hb.size)⟩
      · go_roundw
        case rel => exact ⟨k + 1, by omega, by go_num, hb.trans (hb'.mono hb.size), fun j y hj hy => by
          rcases Nat.lt_or_ge j k with hjk | hjk
          · exact HA.out j y hjk hy
          · obtain rfl : j = k := by omega
            rw [HX.out] at hy; cases hy; exact HM.out⟩
        case measure => simp [intOf]; omega
    · go_wp2
      go_ret
      refine ⟨⟨-1, rfl, ?_⟩, hb⟩
      rw [(allB_iff (p := p) (l := l)).2 fun i x hx => HA.out i x (by have := (List.getElem?_eq_some_iff.1 hx).1; have := h.len; omega) hx]
      simp

theorem containsSli_c {l : List (Sli)} {A : Option Addr} {n c : Nat} {B : Nat} (V : Value) (w : World) (h : Rd encS 4 w A n l) (hn : n ≤ maxLen) (hBl : B < w.heap.size)
    (hB : w.cell? ⟨B, 0, none⟩ = some (.func (.func 75) #[V] #[]))
    (hp : ∀ (i : Nat) (x : Sli) (W : World), l[i]? = some x → Below w.heap.size w W → Calls Try.prog 75 #[V, .agg #[.slice x.A x.n x.c, .int .i64 x.rate, .int .i64 x.lo, .int .i64 x.hi]] W fun e w' => e = .returned (.bool (p x)) ∧ Below W.heap.size W w') :
    Calls Try.prog 89 #[.slice A n c, .func (.func 90) #[] #[.pointer (some ⟨B, 0, none⟩)]] w
      fun e w' => e = .returned (.bool (!allB p l)) ∧ Below w.heap.size w w' := by
  have hc := idxSli_c (c := c) V w h hn hBl hB hp
  have HC := Lib.hid hc; clear hc hp
  go_enter Try.func89, Try.ntmps89
  go_wp2_with (go_at_call 98; refine (HC.out).mono ?_; rintro e w' ⟨⟨r, rfl, hr⟩, hb⟩; have HR := Lib.hid hr; clear hr)
  go_ret
  exact ⟨ret_bool (by rw [← HR.out]; simp), hb⟩

theorem allSli_c {l : List (Sli)} {A : Option Addr} {n c : Nat} (V : Value) (w : World) (h : Rd encS 4 w A n l) (hn : n ≤ maxLen)
    (hp : ∀ (i : Nat) (x : Sli) (W : World), l[i]? = some x → Below w.heap.size w W → Calls Try.prog 75 #[V, .agg #[.slice x.A x.n x.c, .int .i64 x.rate, .int .i64 x.lo, .int .i64 x.hi]] W fun e w' => e = .returned (.bool (p x)) ∧ Below W.heap.size W w') :
    Calls Try.prog 74 #[.slice A n c, .func (.func 75) #[V] #[]] w
      fun e w' => e = .returned (.bool (allB p l)) ∧ Below w.heap.size w w' := by
  have hbx := (Below.refl w.heap.size w).alloc (Nat.le_refl _) (.cells #[.func (.func 75) #[V] #[]] 124)
  have hc := containsSli_c (c := c) (B := w.heap.size) V (w.alloc (.cells #[.func (.func 75) #[V] #[]] 124)) (h.mono hbx) hn (by simp) (by simp) (fun i x W hx hW => hp i x W hx (hbx.trans (hW.mono (by simp))))
  have HC := Lib.hid hc; clear hc hp
  go_enter Try.func74, Try.ntmps74
  go_wp2_with (go_at_call 89; refine (HC.out).mono ?_; rintro e w' ⟨rfl, hb⟩)
  go_ret
  exact ⟨ret_bool (by simp), ((Below.refl _ _).alloc (Nat.le_refl _) _).trans (hb.mono (by simp))⟩
end
end Go.Proofs.Ytphdndiikikecaa

namespace Go.Proofs.Ytphdndiikikecaa
open Go.RowKit Go.Proofs

theorem errV_big {v : Vly} (h : 10 < v.sls.length) : errV v = 3 := by simp [errV, h]
theorem errV_of {v : Vly} (h : v.sls.length ≤ 10) : errV v = if (inB v.pars.length 1 12 && allB parOk v.pars && allB (sliOk v.pars.length) v.sls && stepsOk v.s0 v.s1 v.s2) = true then 0 else 1 := by
  unfold errV; rw [if_neg (by omega)]

set_option maxRecDepth 100000 in
set_option maxHeartbeats 1000000 in
theorem checkV_c {v : Vly} {PA SA : Option Addr} {pn pc sn sc : Nat} {w : World} (h : RdV w PA pn SA sn v) (hpn : pn ≤ maxLen) (hsn : sn ≤ maxLen) :
    Calls Try.prog 40 #[.agg #[.slice PA pn pc, .slice SA sn sc, .int .i64 v.s0, .int .i64 v.s1, .int .i64 v.s2]] w fun e w' => e = .returned (.int .i64 (errV v)) ∧ Below w.heap.size w w' := by
  have HB := Lib.hid (errV_big (v := v)); have HO := Lib.hid (errV_of (v := v))
  obtain ⟨R, hR⟩ : ∃ R, R = errV v := ⟨_, rfl⟩
  rw [← hR] at HB HO ⊢
  clear hR
  have HLP := Lib.hid h.pars.len; have HLS := Lib.hid h.sls.len
  have HV := Lib.hid h
  obtain ⟨pars, sls, s0, s1, s2⟩ := v
  simp only at HB HO HLP HLS ⊢
  clear h
  go_enter Try.func40, Try.ntmps40
  go_upto_region 1 with fail
  go_cut [3] (fun x wx => x = .bool (stepsOk s0 s1 s2) ∧ wx = w.alloc (.cells #[.slice PA pn pc, .slice SA sn sc, .int .i64 s0, .int .i64 s1, .int .i64 s2] 36))
  case first =>
    by_cases h1 : 1 ≤ s0
    · by_cases h2 : s0 < s1
      · by_cases h3 : s1 < s2
        · go_wp2_with fail
          go_meet
          exact ⟨by simp [stepsOk, h1, h2, h3], rfl⟩
        · have h3' : s2 ≤ s1 := by omega
          go_wp2_with fail
          go_meet
          exact ⟨by rw [show stepsOk s0 s1 s2 = false by rw [← Bool.not_eq_true, stepsOk_iff]; omega], rfl⟩
      · have h2' : s1 ≤ s0 := by omega
        go_wp2_with fail
        go_meet
        exact ⟨by rw [show stepsOk s0 s1 s2 = false by rw [← Bool.not_eq_true, stepsOk_iff]; omega], rfl⟩
    · have h1' : s0 < 1 := by omega
      go_wp2_with fail
      go_meet
      exact ⟨by rw [show stepsOk s0 s1 s2 = false by rw [← Bool.not_eq_true, stepsOk_iff]; omega], rfl⟩
  case rest =>
    obtain ⟨rfl, rfl⟩ := hcut
    have hb0 : Below w.heap.size w (w.alloc (.cells #[.slice PA pn pc, .slice SA sn sc, .int .i64 s0, .int .i64 s1, .int .i64 s2] 36)) := (Below.refl _ w).alloc (Nat.le_refl _) _
    have HB0 := Lib.hid hb0; clear hb0
    by_cases h10 : 10 < sn
    · have hRR := HB.out (by rw [HLS.out]; exact h10)
      have HR := Lib.hid hRR; clear hRR
      have h10' : (10 : Int) < (sn : Int) := by omega
      go_wp2_with fail
      go_ret
      exact ⟨ret_int HR.out.symm, HB0.out⟩
    · have hRR := HO.out (by rw [HLS.out]; omega)
      rw [HLP.out] at hRR
      have h10' : (sn : Int) ≤ 10 := by omega
      cases hin : inB (pn : Int) 1 12
      · rw [hin] at hRR
        simp only [Bool.false_and, Bool.false_eq_true, if_false] at hRR
        have HR := Lib.hid hRR; clear hRR
        go_wp2_with (go_at_call 69; refine (within_c _ _ _ _).mono ?_; rintro e w' ⟨rfl, rfl⟩; simp only [hin])
        go_ret
        exact ⟨ret_int HR.out.symm, HB0.out⟩
      · have hin2 := inB_iff.1 hin
        have h12 : pn ≤ 12 := by omega
        have cp := fun (W : World) (hW : Below w.heap.size w W) => allPar_c (p := parOk) (c := pc) W (HV.out.pars.mono hW) hpn fun _ x W' _ _ => parcel_c x W'
        have cs := fun (W : World) (hW : Below w.heap.size w W) => allSli_c (p := sliOk pn) (c := sc) (.agg #[.slice PA pn pc, .slice SA sn sc, .int .i64 s0, .int .i64 s1, .int .i64 s2]) W (HV.out.sls.mono hW) hsn
          fun i x W' hx hW' => slide_c PA SA pn pc sn sc s0 s1 s2 x W' ((HV.out.way i x hx).1.mono (hW.trans (hW'.mono hW.size))) (HV.out.way i x hx).2.1 h12
        have CP := Lib.hid cp; have CS := Lib.hid cs
        clear cp cs
        simp only at CP CS
        rw [hin] at hRR
        cases hp : allB parOk pars
        · rw [hp] at hRR
          simp only [Bool.and_false, Bool.false_and, Bool.false_eq_true, if_false] at hRR
          have HR := Lib.hid hRR; clear hRR
          go_wp2_with (go_at_call 69; refine (within_c _ _ _ _).mono ?_; rintro e w' ⟨rfl, rfl⟩; simp only [hin])
          refine (CP.out _ HB0.out).mono ?_
          rintro e w1 ⟨rfl, hb1⟩
          rw [hp]
          go_wp2_with fail
          go_ret
          exact ⟨ret_int HR.out.symm, below_tr HB0.out hb1⟩
        · rw [hp] at hRR
          cases hs : allB (sliOk pn) sls
          · rw [hs] at hRR
            simp only [Bool.and_false, Bool.false_and, Bool.false_eq_true, if_false] at hRR
            have HR := Lib.hid hRR; clear hRR
            go_wp2_with (go_at_call 69; refine (within_c _ _ _ _).mono ?_; rintro e w' ⟨rfl, rfl⟩; simp only [hin])
            refine (CP.out _ HB0.out).mono ?_
            rintro e w1 ⟨rfl, hb1⟩
            rw [hp]
            have kb := (Blk.new w 36 #[.slice PA pn pc, .slice SA sn sc, .int .i64 s0, .int .i64 s1, .int .i64 s2]).below hb1 (by simp)
            have x0 := kb.cell 0; have x1 := kb.cell 1; have x2 := kb.cell 2; have x3 := kb.cell 3; have x4 := kb.cell 4
            simp at x0 x1 x2 x3 x4
            go_wp2_with fail
            refine (CS.out _ (below_tr HB0.out hb1)).mono ?_
            rintro e w2 ⟨rfl, hb2⟩
            rw [hs]
            go_wp2_with fail
            go_ret
            exact ⟨ret_int HR.out.symm, below_tr (below_tr HB0.out hb1) hb2⟩
          · rw [hs] at hRR
            simp only [Bool.true_and] at hRR
            have HR := Lib.hid hRR; clear hRR
            cases hst : stepsOk s0 s1 s2
            all_goals
              go_wp2_with (go_at_call 69; refine (within_c _ _ _ _).mono ?_; rintro e w' ⟨rfl, rfl⟩; simp only [hin])
              refine (CP.out _ HB0.out).mono ?_
              rintro e w1 ⟨rfl, hb1⟩
              rw [hp]
              have kb := (Blk.new w 36 #[.slice PA pn pc, .slice SA sn sc, .int .i64 s0, .int .i64 s1, .int .i64 s2]).below hb1 (by simp)
              have x0 := kb.cell 0; have x1 := kb.cell 1; have x2 := kb.cell 2; have x3 := kb.cell 3; have x4 := kb.cell 4
              simp at x0 x1 x2 x3 x4
              go_wp2_with fail
              refine (CS.out _ (below_tr HB0.out hb1)).mono ?_
              rintro e w2 ⟨rfl, hb2⟩
              rw [hs]
              go_wp2_with fail
              go_ret
              have hRR := HR.out
              rw [hst] at hRR
              exact ⟨ret_int (by rw [hRR]; rfl), below_tr (below_tr HB0.out hb1) hb2⟩
end Go.Proofs.Ytphdndiikikecaa
