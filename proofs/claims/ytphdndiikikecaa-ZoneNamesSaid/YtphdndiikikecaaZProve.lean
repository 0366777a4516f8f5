/- THE CONTRACTS of zone.ProveGain and of the reference's Bound and Less. -/
import Derived.Test.YtphdndiikikecaaZBuysLaw
set_option linter.unusedVariables false
set_option linter.unusedSimpArgs false
namespace Go.Proofs.Ytphdndiikikecaa
open Go.RowKit Go.Proofs
attribute [local go_sem ↓] Go.wp_at_zero Go.wp_at_succ

theorem mul_bd {a b A B : Int} (h1 : 0 ≤ a ∧ a ≤ A) (h2 : 0 ≤ b ∧ b ≤ B) : 0 ≤ a * b ∧ a * b ≤ A * B :=
  ⟨Int.mul_nonneg h1.1 h2.1, Int.le_trans (Int.mul_le_mul_of_nonneg_right h1.2 h2.1) (Int.mul_le_mul_of_nonneg_left h2.2 (by omega))⟩
theorem moreAt_bd {gs ps : List Int} {r : Int} {i : Nat} (hg : 0 ≤ gAt gs i ∧ gAt gs i ≤ 10000000) (hp : 0 ≤ gAt ps i ∧ gAt ps i ≤ 100000) (hr : 0 ≤ r ∧ r ≤ 100000000) : 0 ≤ moreAt gs ps r i ∧ moreAt gs ps r i ≤ 10000000000 := by
  have := (mul_bd hr hp).1
  unfold moreAt; omega
theorem moreTo_bd {gs ps : List Int} {r : Int} (h : ∀ i, 0 ≤ moreAt gs ps r i ∧ moreAt gs ps r i ≤ 10000000000) : ∀ k, 0 ≤ moreTo gs ps r k ∧ moreTo gs ps r k ≤ 10000000000 * (k : Int)
  | 0 => by simp [moreTo]
  | k + 1 => by
    have := moreTo_bd h k
    have := h k
    unfold moreTo; omega
theorem cmp_at : ∀ (k : Nat) (a b : List Int) (x y : Int), a.take k = b.take k → a[k]? = some x → b[k]? = some y → x ≠ y → cmpL a b = if x < y then -1 else 1
  | 0, [], _, x, y, _, h, _, _ => by simp at h
  | 0, _ :: _, [], x, y, _, _, h, _ => by simp at h
  | 0, a :: l, b :: m, x, y, _, h1, h2, hne => by
    simp at h1 h2
    subst h1; subst h2
    simp only [cmpL, if_neg hne]
  | k + 1, [], _, x, y, _, h, _, _ => by simp at h
  | k + 1, _ :: _, [], x, y, _, _, h, _ => by simp at h
  | k + 1, a :: l, b :: m, x, y, ht, h1, h2, hne => by
    simp at ht h1 h2
    obtain ⟨rfl, ht⟩ := ht
    simp only [cmpL, if_pos]
    exact cmp_at k l m x y ht h1 h2 hne
theorem cmp_end : ∀ (k : Nat) (a b : List Int), a.take k = b.take k → (k = a.length ∨ k = b.length) → k ≤ a.length → k ≤ b.length → (cmpL a b < 0 ↔ a.length < b.length)
  | 0, [], [], _, _, _, _ => by simp [cmpL]
  | 0, [], _ :: _, _, _, _, _ => by simp [cmpL]
  | 0, _ :: _, [], _, _, _, _ => by simp [cmpL]
  | 0, _ :: _, _ :: _, _, h, _, _ => by simp at h
  | k + 1, [], _, _, _, h, _ => by simp at h
  | k + 1, _ :: _, [], _, _, _, h => by simp at h
  | k + 1, a :: l, b :: m, ht, he, h1, h2 => by
    simp at ht
    obtain ⟨rfl, ht⟩ := ht
    simp only [cmpL, if_pos, List.length_cons]
    have := cmp_end k l m ht (by simp at he; exact he) (by simp at h1; exact h1) (by simp at h2; exact h2)
    omega

set_option maxRecDepth 100000 in
set_option maxHeartbeats 1000000 in
theorem Less_c {a b : List Int} {A B : Option Addr} {n m c d : Nat} {w : World} (hA : Rd enc1 1 w A n a) (hB : Rd enc1 1 w B m b) (hn : n ≤ 1000000) (hm : m ≤ 1000000) :
    Calls Try.prog 70 #[.slice A n c, .slice B m d] w fun e w' => e = .returned (.bool (decide (cmpL a b < 0))) ∧ Below w.heap.size w w' := by
  have hal := hA.len; have hbl := hB.len
  have HA := Lib.hid hA; have HB := Lib.hid hB
  have HAL := Lib.hid hal; have HBL := Lib.hid hbl
  obtain ⟨R, hR⟩ : ∃ R, R = cmpL a b := ⟨_, rfl⟩
  have HR := Lib.hid hR
  rw [← hR]
  clear hA hB hal hbl hR
  go_enter Try.func70, Try.ntmps70
  go_wp2_with fail
  go_loopw [5] (fun i wr => ∃ k : Nat, k ≤ n ∧ k ≤ m ∧ i = .int .i64 k ∧ a.take k = b.take k ∧ Below w.heap.size w wr) (fun i _ => n - (intOf i).toNat)
  case atStart => exact ⟨0, Nat.zero_le _, Nat.zero_le _, rfl, by simp, Below.refl _ _⟩
  case round =>
    obtain ⟨k, hkn, hkm, rfl, ht, hb⟩ := hrel
    have HT := Lib.hid ht
    have HBr := Lib.hid hb
    by_cases hlt : k < n
    · have hn1 : (k : Int) < (n : Int) := by omega
      have hk0 : (0 : Int) ≤ (k : Int) := by omega
      by_cases hlt2 : k < m
      · have hm1 : (k : Int) < (m : Int) := by omega
        obtain ⟨b1, o1, x, hA1, hl1, hx, x0⟩ := (HA.out.below hb).at1 hlt
        obtain ⟨b2, o2, y, hA2, hl2, hy, y0⟩ := (HB.out.below hb).at1 hlt2
        subst hA1 hA2
        by_cases hxy : x = y
        · subst hxy
          have HT2 := Lib.hid (take_snoc_eq hx hy ht)
          clear ht hb hx hy
          go_wp2_with fail
          go_quiet (fail)
          go_wp2_with fail
          go_roundw
          case rel => exact ⟨k + 1, by omega, by omega, by go_num, HT2.out, below_drewN HBr.out _⟩
          case measure => simp [intOf] <;> omega
        · have HC := Lib.hid (show R = if x < y then -1 else 1 by rw [HR.out]; exact cmp_at k a b x y ht hx hy hxy)
          have hne : (x == y) = false := by rw [beq_eq_false_iff_ne]; exact hxy
          have hne2 : (x != y) = true := by simp [bne, hne]
          have HDD := Lib.hid (show decide (R < 0) = decide (x < y) by
            rw [HC.out]
            by_cases hlt : x < y
            · simp [hlt]
            · simp [hlt])
          clear ht hb hx hy hxy
          go_wp2_with fail
          go_quiet (fail)
          go_wp2_with fail
          go_quiet (fail)
          go_wp2_with fail
          go_ret
          exact ⟨by rw [HDD.out]; rfl, by first | exact below_drewN (below_drewN HBr.out _) _ | exact below_drewN HBr.out _⟩
      · obtain rfl : k = m := by omega
        have HDD := Lib.hid (show decide (R < 0) = decide ((n : Int) < (k : Int)) by
          have := cmp_end k a b ht (.inr HBL.out.symm) (by have := HAL.out; omega) (by have := HBL.out; omega)
          rw [← HR.out] at this
          have h1 := HAL.out; have h2 := HBL.out
          rw [decide_eq_decide, this]; omega)
        clear ht hb
        go_wp2_with fail
        go_ret
        exact ⟨by rw [HDD.out]; first | rfl | simp, HBr.out⟩
    · obtain rfl : k = n := by omega
      have HDD := Lib.hid (show decide (R < 0) = decide ((k : Int) < (m : Int)) by
        have := cmp_end k a b ht (.inl HAL.out.symm) (by have := HAL.out; omega) (by have := HBL.out; omega)
        rw [← HR.out] at this
        have h1 := HAL.out; have h2 := HBL.out
        rw [decide_eq_decide, this]; omega)
      clear ht hb
      go_wp2_with fail
      go_ret
      exact ⟨by rw [HDD.out]; first | rfl | simp, HBr.out⟩

set_option maxRecDepth 100000 in
set_option maxHeartbeats 2000000 in
theorem Bound_c {v : Vly} {B r : Int} {PA SA : Option Addr} {pn pc sn sc : Nat} {w : World} (hok : VOk v) (h : RdV w PA pn SA sn v) (hB : 0 ≤ B ∧ B ≤ 100000000) (hr : 0 ≤ r ∧ r ≤ 100000000) :
    Calls Try.prog 37 #[.agg #[.slice PA pn pc, .slice SA sn sc, .int .i64 v.s0, .int .i64 v.s1, .int .i64 v.s2], .int .i64 B, .int .i64 r] w fun e w' => e = .returned (.int .i64 (boundL (gainsL v) (pricesL v) pn B r)) ∧ Below w.heap.size w w' := by
  have HSW := Lib.hid (SW.new w (vA PA pn pc SA sn sc v))
  have HV := Lib.hid h
  have hp12 : pn ≤ 12 := by have := hok.pn; have := h.pars.len; omega
  have HGN := Lib.hid (fun W (q : Nat) (hW : RdV W PA pn SA sn v) (hq : q < pn) => Gain_c (pc := pc) (sc := sc) hok hW hq)
  obtain ⟨G, hG⟩ : ∃ G, G = gainsL v := ⟨_, rfl⟩
  obtain ⟨P, hP⟩ : ∃ P, P = pricesL v := ⟨_, rfl⟩
  have HGE := Lib.hid (fun (q : Nat) (p : Par) (hp : v.pars[q]? = some p) => show gAt P q = p.price from by rw [hP]; exact gAt_of (by simp [pricesL, hp]))
  have HGB := Lib.hid (show ∀ i, 0 ≤ gAt G i ∧ gAt G i ≤ 10000000 by rw [hG]; exact gAt_bd (by omega) (gainsL_bd hok))
  have HPB := Lib.hid (show ∀ i, 0 ≤ gAt P i ∧ gAt P i ≤ 100000 by rw [hP]; exact gAt_bd (by omega) (pricesL_bd hok))
  have HMA := Lib.hid (fun i => moreAt_bd (HGB.out i) (HPB.out i) hr)
  have HMT := Lib.hid (moreTo_bd HMA.out)
  rw [← hG] at HGN ⊢
  rw [← hP]
  have hrb := mul_bd hr hB
  have hwrb : IntKind.i64.wrap (r * B) = r * B := wi (by omega)
  clear h hok hG hP
  obtain ⟨RB, hRB⟩ : ∃ RB, RB = r * B := ⟨_, rfl⟩
  have HRB := Lib.hid hRB
  have hBL : boundL G P pn B r = (RB + moreTo G P r pn) / 1000 := by rw [hRB]; rfl
  rw [hBL]
  rw [← hRB] at hrb
  clear hBL
  have hmulB : r * B = RB := hRB.symm
  clear hRB
  go_enter Try.func37, Try.ntmps37
  go_wp2_with fail
  go_loopw [7, 8, 9] (fun t i _ wr => ∃ k : Nat, k ≤ pn ∧ i = .int .i64 k ∧ t = .int .i64 (RB + moreTo G P r k) ∧ SW w w.heap.size (vA PA pn pc SA sn sc v) wr) (fun _ i _ _ => pn - (intOf i).toNat)
  case atStart => exact ⟨0, Nat.zero_le _, rfl, by simp [moreTo], HSW.out⟩
  case round =>
    obtain ⟨k, hk, rfl, rfl, hsw⟩ := hrel
    have HS1 := Lib.hid hsw
    obtain ⟨c0, c1, c2, c3, c4⟩ := hsw.cells
    have hmt := HMT.out k
    have hms : moreTo G P r (k + 1) = moreTo G P r k + moreAt G P r k := rfl
    by_cases hlt : k < pn
    · obtain ⟨b4, o4, p, hA4, hb4, hp, p0, p1, p2, p3⟩ := ((HV.out.below hsw.bel).pars).atP hlt
      subst hA4
      have hma := HMA.out k
      have hmdef : moreAt G P r k = max 0 (1000 * gAt G k - r * gAt P k) := rfl
      rw [HGE.out k p hp] at hmdef
      have hgb := HGB.out k
      have hpb := HPB.out k
      rw [HGE.out k p hp] at hpb
      have hrp := mul_bd hr hpb
      obtain ⟨y, hy⟩ : ∃ y, y = gAt G k := ⟨_, rfl⟩
      obtain ⟨u, hu⟩ : ∃ u, u = moreTo G P r k := ⟨_, rfl⟩
      obtain ⟨t, ht⟩ : ∃ t, t = moreAt G P r k := ⟨_, rfl⟩
      obtain ⟨rp, hrp'⟩ : ∃ rp, rp = r * p.price := ⟨_, rfl⟩
      rw [← hu, ← ht] at hms
      rw [← hu] at hmt ⊢
      rw [← ht] at hma hmdef
      rw [← hy] at hgb hmdef
      rw [← hrp'] at hrp hmdef
      have HMS := Lib.hid hms
      have HY := Lib.hid hy.symm
      have hw1 : IntKind.i64.wrap (1000 * y) = 1000 * y := wi (by omega)
      have hw2 : IntKind.i64.wrap rp = rp := wi (by omega)
      have hw3 : IntKind.i64.wrap (1000 * y - rp) = 1000 * y - rp := wi (by omega)
      have hmulP : r * p.price = rp := hrp'.symm
      have hkn : (k : Int) < (pn : Int) := by omega
      have hk0 : (0 : Int) ≤ (k : Int) := by omega
      have HSR := Lib.hid (SW.refl hsw.2)
      have HS := Lib.hid (fun W (hW : SW wr w.heap.size (vA (some ⟨b4, o4, none⟩) pn pc SA sn sc v) W) => And.intro hW.cells ((hW.1.cell (p := ⟨b4, o4 + k * 4 + 1, none⟩) hb4).trans p1))
      have hcase : (1000 * y - rp ≤ 0 ∧ t = 0) ∨ (0 < 1000 * y - rp ∧ t = 1000 * y - rp) := by omega
      clear hsw hp hu ht hy hrp' hms hmdef p0 p1 p2 p3
      rcases hcase with ⟨hc, rfl⟩ | ⟨hc, rfl⟩
      · have hd : decide (0 < 1000 * y - rp) = false := decide_eq_false (by omega)
        go_wp2_with fail
        go_region_held3 (fun w' => (w'.cell? ⟨w.heap.size, 0, none⟩ = some (.slice (some ⟨b4, o4, none⟩) pn pc) ∧ w'.cell? ⟨w.heap.size, 1, none⟩ = some (.slice SA sn sc) ∧ w'.cell? ⟨w.heap.size, 2, none⟩ = some (.int .i64 v.s0) ∧ w'.cell? ⟨w.heap.size, 3, none⟩ = some (.int .i64 v.s1) ∧ w'.cell? ⟨w.heap.size, 4, none⟩ = some (.int .i64 v.s2)) ∧ w'.cell? ⟨b4, o4 + k * 4 + 1, none⟩ = some (.int .i64 p.price))
          (first | exact HS.out _ HSR.out.drew | exact HS.out _ HSR.out | exact HS.out _ hs5 | assumption)
          ((go_at_call 71; go_must (with_reducible refine (HGN.out _ k (by exact HV.out.below (below_tr HS1.out.bel HSR.out.drew.bel)) hlt).mono ?_; rintro e w5 ⟨rfl, hb5⟩; have hs5 := HSR.out.drew.below hb5; rw [HY.out])))
        all_goals
          have HS6 := Lib.hid (show SW w w.heap.size (vA (some ⟨b4, o4, none⟩) pn pc SA sn sc v) _ from ⟨below_tr HS1.out.bel hs5.bel, hs5.2⟩)
          clear hs5 hb5 c0 c1 c2 c3 c4
          go_wp2_with fail
          go_roundw
          case rel => exact ⟨k + 1, by omega, by go_num, by rw [HMS.out, Int.add_zero], HS6.out⟩
          case measure => simp [intOf] <;> omega
      · have hd : decide (0 < 1000 * y - rp) = true := decide_eq_true (by omega)
        have hwt : IntKind.i64.wrap (RB + u + (1000 * y - rp)) = RB + u + (1000 * y - rp) := wi (by omega)
        go_wp2_with fail
        go_region_held3 (fun w' => (w'.cell? ⟨w.heap.size, 0, none⟩ = some (.slice (some ⟨b4, o4, none⟩) pn pc) ∧ w'.cell? ⟨w.heap.size, 1, none⟩ = some (.slice SA sn sc) ∧ w'.cell? ⟨w.heap.size, 2, none⟩ = some (.int .i64 v.s0) ∧ w'.cell? ⟨w.heap.size, 3, none⟩ = some (.int .i64 v.s1) ∧ w'.cell? ⟨w.heap.size, 4, none⟩ = some (.int .i64 v.s2)) ∧ w'.cell? ⟨b4, o4 + k * 4 + 1, none⟩ = some (.int .i64 p.price))
          (first | exact HS.out _ HSR.out.drew | exact HS.out _ HSR.out | exact HS.out _ hs5 | assumption)
          ((go_at_call 71; go_must (with_reducible refine (HGN.out _ k (by exact HV.out.below (below_tr HS1.out.bel HSR.out.drew.bel)) hlt).mono ?_; rintro e w5 ⟨rfl, hb5⟩; have hs5 := HSR.out.drew.below hb5; rw [HY.out])))
        all_goals
          have HS6 := Lib.hid (show SW w w.heap.size (vA (some ⟨b4, o4, none⟩) pn pc SA sn sc v) _ from ⟨below_tr HS1.out.bel hs5.bel, hs5.2⟩)
          clear hs5 hb5 c0 c1 c2 c3 c4
          go_wp2_with fail
          go_roundw
          case rel => exact ⟨k + 1, by omega, by go_num, by rw [HMS.out, Int.add_assoc], HS6.out⟩
          case measure => simp [intOf] <;> omega
    · obtain rfl : k = pn := by omega
      obtain ⟨u, hu⟩ : ∃ u, u = moreTo G P r k := ⟨_, rfl⟩
      rw [← hu] at hmt ⊢
      have HU := Lib.hid hu
      clear hsw hu hms
      go_wp2_with fail
      go_ret
      exact ⟨by rw [← HU.out]; rfl, HS1.out.bel⟩

set_option maxRecDepth 100000 in
set_option maxHeartbeats 1000000 in
theorem Prove_no {v : Vly} {B r t : Int} {PA SA : Option Addr} {pn pc sn sc : Nat} {w : World} (h : RdV w PA pn SA sn v) (hpn : pn ≤ maxLen) (hsn : sn ≤ maxLen) (hbad : errV v ≠ 0 ∨ inB B 0 100000000 = false ∨ inB r 0 100000000 = false) :
    Calls Try.prog 35 #[.agg #[.slice PA pn pc, .slice SA sn sc, .int .i64 v.s0, .int .i64 v.s1, .int .i64 v.s2], .int .i64 B, .int .i64 r, .int .i64 t] w fun e w' => e = .returned (.bool false) ∧ Below w.heap.size w w' := by
  have hb0 : Below w.heap.size w (w.alloc (.cells (vA PA pn pc SA sn sc v) 36)) := (Below.refl _ w).alloc (Nat.le_refl _) _
  have HC := Lib.hid (checkV_c (pc := pc) (sc := sc) (h.below hb0) hpn hsn)
  have HF := Lib.hid (fun W => fund_c B W)
  have HW := Lib.hid (fun W => within_c r 0 100000000 W)
  have HB := Lib.hid hb0
  obtain ⟨E, hE⟩ : ∃ E, E = errV v := ⟨_, rfl⟩
  rw [← hE] at HC hbad
  clear h hE hb0
  by_cases hz : E = 0
  · subst hz
    cases hf : inB B 0 100000000
    · simp only [hf] at HF
      clear hf hbad
      go_enter Try.func35, Try.ntmps35
      go_wp2_with fail
      refine HC.out.mono ?_
      rintro e w2 ⟨rfl, hb⟩
      have HB2 := Lib.hid (below_tr HB.out hb)
      clear hb
      go_wp2_with (go_at_call 61; refine (HF.out _).mono ?_; rintro e w5 ⟨rfl, rfl⟩)
      go_ret
      exact ⟨rfl, HB2.out⟩
    · have hr : inB r 0 100000000 = false := (hbad.resolve_left (by simp)).resolve_left (by rw [hf]; simp)
      simp only [hf] at HF
      simp only [hr] at HW
      clear hf hbad hr
      go_enter Try.func35, Try.ntmps35
      go_wp2_with fail
      refine HC.out.mono ?_
      rintro e w2 ⟨rfl, hb⟩
      have HB2 := Lib.hid (below_tr HB.out hb)
      clear hb
      go_wp2_with (first
        | (go_at_call 61; refine (HF.out _).mono ?_; rintro e w5 ⟨rfl, rfl⟩)
        | (go_at_call 69; refine (HW.out _).mono ?_; rintro e w5 ⟨rfl, rfl⟩))
      go_ret
      exact ⟨rfl, HB2.out⟩
  · have hne : (E == 0) = false := by rw [beq_eq_false_iff_ne]; exact hz
    have hne2 : (E != 0) = true := by simp [bne, hne]
    clear hbad hz
    go_enter Try.func35, Try.ntmps35
    go_wp2_with fail
    refine HC.out.mono ?_
    rintro e w2 ⟨rfl, hb⟩
    have HB2 := Lib.hid (below_tr HB.out hb)
    clear hb
    go_wp2_with fail
    go_ret
    exact ⟨rfl, HB2.out⟩

set_option maxRecDepth 100000 in
set_option maxHeartbeats 2000000 in
theorem Prove_c {v : Vly} {B r t : Int} {PA SA : Option Addr} {pn pc sn sc : Nat} {w : World} (hok : VOk v) (h : RdV w PA pn SA sn v) (hB : inB B 0 100000000 = true) (hr : inB r 0 100000000 = true) :
    Calls Try.prog 35 #[.agg #[.slice PA pn pc, .slice SA sn sc, .int .i64 v.s0, .int .i64 v.s1, .int .i64 v.s2], .int .i64 B, .int .i64 r, .int .i64 t] w fun e w' => e = .returned (.bool (decide (t = boundL (gainsL v) (pricesL v) pn B r))) ∧ Below w.heap.size w w' := by
  have hb0 : Below w.heap.size w (w.alloc (.cells (vA PA pn pc SA sn sc v) 36)) := (Below.refl _ w).alloc (Nat.le_refl _) _
  have hp12 : pn ≤ 12 := by have := hok.pn; have := h.pars.len; omega
  have HC := Lib.hid (checkV_c (pc := pc) (sc := sc) (h.below hb0) (by unfold maxLen; omega) (by unfold maxLen; have := hok.sn; have := h.sls.len; omega))
  rw [errV_zero.2 hok] at HC
  have HF := Lib.hid (fun W => fund_c B W)
  have HW := Lib.hid (fun W => within_c r 0 100000000 W)
  have HB := Lib.hid hb0
  have HX := Lib.hid (Blk.new w 36 (vA PA pn pc SA sn sc v))
  have HV := Lib.hid h; have HOK := Lib.hid hok
  have hrB := inB_iff.1 hr
  have hrb := mul_bd hrB (inB_iff.1 hB)
  have hwrb : IntKind.i64.wrap (r * B) = r * B := wi (by omega)
  simp only [hB] at HF
  simp only [hr] at HW
  obtain ⟨G, hG⟩ : ∃ G, G = gainsL v := ⟨_, rfl⟩
  have HG := Lib.hid hG
  obtain ⟨P, hP⟩ : ∃ P, P = pricesL v := ⟨_, rfl⟩
  have HGE := Lib.hid (fun (q : Nat) (p : Par) (hp : v.pars[q]? = some p) => show gAt P q = p.price from by rw [hP]; exact gAt_of (by simp [pricesL, hp]))
  have HGL := Lib.hid (show G.length = pn by rw [hG, gainsL_len]; exact h.pars.len)
  have HGB := Lib.hid (show ∀ i, 0 ≤ gAt G i ∧ gAt G i ≤ 10000000 by rw [hG]; exact gAt_bd (by omega) (gainsL_bd hok))
  have HPB := Lib.hid (show ∀ i, 0 ≤ gAt P i ∧ gAt P i ≤ 100000 by rw [hP]; exact gAt_bd (by omega) (pricesL_bd hok))
  have HMA := Lib.hid (fun i => moreAt_bd (HGB.out i) (HPB.out i) hrB)
  have HMT := Lib.hid (moreTo_bd HMA.out)
  rw [← hG, ← hP]
  obtain ⟨RB, hRB⟩ : ∃ RB, RB = r * B := ⟨_, rfl⟩
  have hBL : boundL G P pn B r = (RB + moreTo G P r pn) / 1000 := by rw [hRB]; rfl
  rw [hBL]
  rw [← hRB] at hrb
  have hmulB : r * B = RB := hRB.symm
  clear hBL hRB h hok hb0 hB hr hG hP
  go_enter Try.func35, Try.ntmps35
  go_wp2_with fail
  refine HC.out.mono ?_
  rintro e w2 ⟨rfl, hb⟩
  have hx2 := HX.out.below hb (by simp)
  have HX2 := Lib.hid hx2
  have HB2 := Lib.hid (below_tr HB.out hb)
  obtain ⟨q0, q1, q2, q3, q4⟩ := (show SV w2 w.heap.size (vA PA pn pc SA sn sc v) w2 from ⟨Below.refl _ _, hx2⟩).cells
  have HGN := Lib.hid (gains_c (pc := pc) (sc := sc) (HV.out.below (below_tr HB.out hb)) HOK.out)
  rw [← HG.out] at HGN
  clear hb hx2 HX HC
  go_wp2_with (first
    | (go_at_call 61; refine (HF.out _).mono ?_; rintro e w5 ⟨rfl, rfl⟩)
    | (go_at_call 69; refine (HW.out _).mono ?_; rintro e w5 ⟨rfl, rfl⟩))
  refine HGN.out.mono ?_
  rintro e w3 ⟨gg, rfl, hgg, hgr, hb⟩
  have HX3 := Lib.hid (HX2.out.below hb HX2.out.lt)
  have HB3 := Lib.hid (below_tr HB2.out hb)
  have HGR := Lib.hid hgr
  clear hb hgr HGN HX2 HB2 q0 q1 q2 q3 q4
  go_wp2_with fail
  go_loopw [9, 10, 11, 31] (fun t _ _ i wr => ∃ k : Nat, k ≤ pn ∧ i = .int .i64 k ∧ t = .int .i64 (RB + moreTo G P r k) ∧ wr = w3) (fun _ _ _ i _ => pn - (intOf i).toNat)
  case atStart => exact ⟨0, Nat.zero_le _, rfl, by simp [moreTo], rfl⟩
  case round =>
    obtain ⟨k, hk, rfl, rfl, rfl⟩ := hrel
    have hmt := HMT.out k
    have hms : moreTo G P r (k + 1) = moreTo G P r k + moreAt G P r k := rfl
    by_cases hlt : k < pn
    · obtain ⟨b4, o4, p, hA4, hb4, hp, p0, p1, p2, p3⟩ := ((HV.out.below HB3.out).pars).atP hlt
      subst hA4
      have hma := HMA.out k
      have hmdef : moreAt G P r k = max 0 (1000 * gAt G k - r * gAt P k) := rfl
      rw [HGE.out k p hp] at hmdef
      have hgb := HGB.out k
      have hpb := HPB.out k
      rw [HGE.out k p hp] at hpb
      have hrp := mul_bd hrB hpb
      obtain ⟨y, hy⟩ : ∃ y, y = gAt G k := ⟨_, rfl⟩
      have hgk : G[k]? = some y := by
        have hh := List.getElem?_eq_getElem (show k < G.length by have := HGL.out; omega)
        rw [hh, hy, gAt_of hh]
      have c0 := HX3.out.cell 0
      have g0 := HGR.out.cell k
      rw [intsA_get, hgk] at g0
      simp at c0 g0
      obtain ⟨u, hu⟩ : ∃ u, u = moreTo G P r k := ⟨_, rfl⟩
      obtain ⟨t2, ht⟩ : ∃ t, t = moreAt G P r k := ⟨_, rfl⟩
      obtain ⟨rp, hrp'⟩ : ∃ rp, rp = r * p.price := ⟨_, rfl⟩
      rw [← hu, ← ht] at hms
      rw [← hu] at hmt ⊢
      rw [← ht] at hma hmdef
      rw [← hy] at hgb hmdef
      rw [← hrp'] at hrp hmdef
      rw [hmdef] at hms hma
      have HMS := Lib.hid hms
      have hw1 : IntKind.i64.wrap (1000 * y) = 1000 * y := wi (by omega)
      have hw2 : IntKind.i64.wrap rp = rp := wi (by omega)
      have hw3 : IntKind.i64.wrap (1000 * y - rp) = 1000 * y - rp := wi (by omega)
      have hw4 : IntKind.i64.wrap (RB + u + max 0 (1000 * y - rp)) = RB + u + max 0 (1000 * y - rp) := wi (by omega)
      have hmulP : r * p.price = rp := hrp'.symm
      have hkn : (k : Int) < (pn : Int) := by omega
      have hk0 : (0 : Int) ≤ (k : Int) := by omega
      clear hp hu ht hy hrp' hms hmdef p0 p2 p3 hgk
      go_wp2_with fail
      go_roundw
      case rel => exact ⟨k + 1, by omega, by go_num, by rw [HMS.out, Int.add_assoc], by first | rfl | trivial⟩
      case measure => simp [intOf] <;> omega
    · obtain rfl : k = pn := by omega
      obtain ⟨u, hu⟩ : ∃ u, u = moreTo G P r k := ⟨_, rfl⟩
      rw [← hu] at hmt ⊢
      have HU := Lib.hid hu
      clear hu hms
      go_wp2_with fail
      go_ret
      exact ⟨ret_bool (by rw [← HU.out]; first | rfl | exact Bool.eq_iff_iff.2 (by simp)), HB3.out⟩
end Go.Proofs.Ytphdndiikikecaa
