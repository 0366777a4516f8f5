/- THE CONTRACTS of the reference's Gain, Gains and Costs. -/
import Derived.Test.YtphdndiikikecaaZEv
import Derived.Test.YtphdndiikikecaaZBitsLaw
set_option linter.unusedVariables false
set_option linter.unusedSimpArgs false
namespace Go.Proofs.Ytphdndiikikecaa
open Go.RowKit Go.Proofs
attribute [local go_sem ↓] Go.wp_at_zero Go.wp_at_succ

theorem gL_take {gs l : List Int} {k : Nat} {x : Int} (h : l[k]? = some x) : gL gs (l.take (k + 1)) = gL gs (l.take k) + gAt gs x.toNat := by
  rw [List.take_add_one, h]
  simp [gL]
theorem gL_bd {gs : List Int} {M : Int} (h : ∀ i, 0 ≤ gAt gs i ∧ gAt gs i ≤ M) : ∀ l : List Int, 0 ≤ gL gs l ∧ gL gs l ≤ M * l.length
  | [] => by simp [gL]
  | a :: l => by
    have := gL_bd h l
    have := h a.toNat
    unfold gL at *
    simp [Int.mul_add]; omega
theorem gAt_bd {gs : List Int} {M : Int} (hM : 0 ≤ M) (h : ∀ x ∈ gs, 0 ≤ x ∧ x ≤ M) (i : Nat) : 0 ≤ gAt gs i ∧ gAt gs i ≤ M := by
  cases hx : gs[i]? with
  | none => simp [gAt, List.getD, hx]; exact hM
  | some x => rw [gAt_of hx]; exact h x (List.mem_of_getElem? hx)
theorem pricesL_bd {v : Vly} (hok : VOk v) : ∀ x ∈ pricesL v, 0 ≤ x ∧ x ≤ 100000 := by
  intro x hx
  obtain ⟨p, hp, rfl⟩ := List.mem_map.1 hx
  obtain ⟨i, hi⟩ := List.getElem?_of_mem hp
  exact (hok.parcel hi).2.1

set_option maxRecDepth 100000 in
set_option maxHeartbeats 2000000 in
theorem Gain_c {v : Vly} {PA SA : Option Addr} {pn pc sn sc q : Nat} {w : World} (hok : VOk v) (h : RdV w PA pn SA sn v) (hq : q < pn) :
    Calls Try.prog 71 #[.agg #[.slice PA pn pc, .slice SA sn sc, .int .i64 v.s0, .int .i64 v.s1, .int .i64 v.s2], .int .i64 (q : Int)] w fun e w' => e = .returned (.int .i64 (gAt (gainsL v) q)) ∧ Below w.heap.size w w' := by
  have hlp := h.pars.len; have hls := h.sls.len
  have hpn := hok.pn; have hsn := hok.sn
  have HSW := Lib.hid (SW.new w (vA PA pn pc SA sn sc v))
  have HV := Lib.hid h
  obtain ⟨d, hd⟩ : ∃ d, d = dTo v.sls (endsT v true) (q : Int) v.sls.length := ⟨_, rfl⟩
  have HDE := Lib.hid hd.symm
  have hdb : 0 ≤ d ∧ d ≤ 1000 * (v.sls.length : Int) := by rw [hd]; exact dTo_bd (sls := v.sls) (tr := endsT v true) (fun k s hs => by have := (hok.slide hs).2.2.1; omega) (q : Int) v.sls.length
  have HEN := Lib.hid (fun W (hW : RdV W PA pn SA sn v) => Ends_c true (pc := pc) (sc := sc) hW (by omega))
  have HDG := Lib.hid (fun W (p : Int) TA tc (hW : RdV W PA pn SA sn v) (hT : Rd enc1 1 W TA sn (endsT v true)) => Danger_c (pc := pc) (sc := sc) (tc := tc) p hok (endsT_fits hok true) hW hT)
  obtain ⟨b, o, x, hA, hblt, hx, h0, h1, h2, h3⟩ := h.pars.atP hq
  subst hA
  have hpb := (hok.parcel hx).2.2
  have hgd : (dangs v (endsT v true))[q]? = some d := by rw [hd]; simp [dangs, show q < v.pars.length by omega]
  have HG := Lib.hid (show gAt (gainsL v) q = x.people * d by rw [gAt_of (gainsL_get hx hgd), Int.mul_comm])
  have HS := Lib.hid (fun W (hW : SW w w.heap.size (vA (some ⟨b, o, none⟩) pn pc SA sn sc v) W) => And.intro hW.cells ((hW.1.cell (p := ⟨b, o + q * 4 + 2, none⟩) hblt).trans h2))
  have hm : 0 ≤ x.people * d ∧ x.people * d ≤ 10000000 := by
    refine ⟨Int.mul_nonneg hpb.1 hdb.1, ?_⟩
    calc x.people * d ≤ 1000 * d := Int.mul_le_mul_of_nonneg_right hpb.2 hdb.1
      _ ≤ 1000 * 10000 := Int.mul_le_mul_of_nonneg_left (by omega) (by omega)
  have hw1 : IntKind.i64.wrap (x.people * d) = x.people * d := wi (by omega)
  have hqn : (q : Int) < (pn : Int) := by omega
  have hq0 : (0 : Int) ≤ (q : Int) := by omega
  obtain ⟨W0, hW0⟩ : ∃ W0, W0 = w.alloc (.cells (vA (some ⟨b, o, none⟩) pn pc SA sn sc v) 26) := ⟨_, rfl⟩
  have HW0 := Lib.hid hW0
  have HBW := Lib.hid (show Below w.heap.size w W0 by rw [hW0]; exact HSW.out.bel)
  clear h hok hd hx hgd hls hlp hpn hsn h0 h1 h2 h3 hW0
  go_enter Try.func71, Try.ntmps71
  go_wp2_with fail
  go_region_held3 (fun w' => (w'.cell? ⟨w.heap.size, 0, none⟩ = some (.slice (some ⟨b, o, none⟩) pn pc) ∧ w'.cell? ⟨w.heap.size, 1, none⟩ = some (.slice SA sn sc) ∧ w'.cell? ⟨w.heap.size, 2, none⟩ = some (.int .i64 v.s0) ∧ w'.cell? ⟨w.heap.size, 3, none⟩ = some (.int .i64 v.s1) ∧ w'.cell? ⟨w.heap.size, 4, none⟩ = some (.int .i64 v.s2)) ∧ w'.cell? ⟨b, o + q * 4 + 2, none⟩ = some (.int .i64 x.people))
    (first | exact HS.out _ HSW.out.drew | exact HS.out _ HSW.out | exact HS.out _ hs5 | assumption)
    (first
      | (go_at_call 23; go_must (with_reducible refine (HEN.out _ (by exact HV.out.below HSW.out.drew.bel)).mono ?_; rintro e w5 ⟨TA, tc, rfl, hT, hb5⟩; have hs5 := HSW.out.drew.below hb5))
      | (go_at_call 59; with_reducible refine (HDG.out _ _ _ _ (HV.out.below hs5.bel) hT).mono ?_; rintro e w6 ⟨rfl, hb6⟩; replace hs5 := hs5.below hb6; rw [HDE.out]))
  all_goals
    go_wp2_with fail
    go_ret
    exact ⟨by rw [HG.out]; rfl, hs5.bel⟩

set_option maxRecDepth 100000 in
set_option maxHeartbeats 2000000 in
theorem Gains_c {v : Vly} {l : List Int} {PA SA A : Option Addr} {pn pc sn sc n c : Nat} {w : World} (hok : VOk v) (h : RdV w PA pn SA sn v) (hA : Rd enc1 1 w A n l) (hn : n ≤ 1000) (hl : ∀ x ∈ l, 0 ≤ x ∧ x < (pn : Int)) :
    Calls Try.prog 38 #[.agg #[.slice PA pn pc, .slice SA sn sc, .int .i64 v.s0, .int .i64 v.s1, .int .i64 v.s2], .slice A n c] w fun e w' => e = .returned (.int .i64 (gL (gainsL v) l)) ∧ Below w.heap.size w w' := by
  have HSW := Lib.hid (SW.new w (vA PA pn pc SA sn sc v))
  have HV := Lib.hid h; have HA := Lib.hid hA
  have HL := Lib.hid hA.len
  have HLB := Lib.hid hl
  have HGN := Lib.hid (fun W (q : Nat) (hW : RdV W PA pn SA sn v) (hq : q < pn) => Gain_c (pc := pc) (sc := sc) hok hW hq)
  obtain ⟨G, hG⟩ : ∃ G, G = gainsL v := ⟨_, rfl⟩
  have HGB := Lib.hid (show ∀ i, 0 ≤ gAt G i ∧ gAt G i ≤ 10000000 by rw [hG]; exact gAt_bd (by omega) (gainsL_bd hok))
  rw [← hG] at HGN ⊢
  clear h hA hl hok hG
  go_enter Try.func38, Try.ntmps38
  go_wp2_with fail
  go_loopw [5, 6] (fun t i wr => ∃ k : Nat, k ≤ n ∧ i = .int .i64 k ∧ t = .int .i64 (gL G (l.take k)) ∧ SW w w.heap.size (vA PA pn pc SA sn sc v) wr) (fun _ i _ => n - (intOf i).toNat)
  case atStart => exact ⟨0, Nat.zero_le _, rfl, rfl, HSW.out⟩
  case round =>
    obtain ⟨k, hk, rfl, rfl, hsw⟩ := hrel
    have HS1 := Lib.hid hsw
    obtain ⟨c0, c1, c2, c3, c4⟩ := hsw.cells
    have hbd := gL_bd HGB.out (l.take k)
    have hlk : (l.take k).length ≤ 1000 := by rw [List.length_take]; have := HL.out; omega
    by_cases hlt : k < n
    · obtain ⟨b, o, x, hA, hblt, hx, h0⟩ := (HA.out.below hsw.bel).at1 hlt
      subst hA
      have hxb := HLB.out x (List.mem_of_getElem? hx)
      obtain ⟨q, rfl⟩ : ∃ q : Nat, x = (q : Int) := ⟨x.toNat, by omega⟩
      have hqp : q < pn := by omega
      have htk := gL_take (gs := G) hx
      rw [Int.toNat_natCast] at htk
      have hgb := HGB.out q
      obtain ⟨z, hz⟩ : ∃ z, z = gL G (l.take k) := ⟨_, rfl⟩
      obtain ⟨y, hy⟩ : ∃ y, y = gAt G q := ⟨_, rfl⟩
      rw [← hz] at hbd htk ⊢
      rw [← hy] at hgb htk
      have HTK := Lib.hid htk
      have HY := Lib.hid hy.symm
      have hwz : IntKind.i64.wrap (z + y) = z + y := wi (by omega)
      have hkn : (k : Int) < (n : Int) := by omega
      have hk0 : (0 : Int) ≤ (k : Int) := by omega
      have HSR := Lib.hid (SW.refl hsw.2)
      have HS := Lib.hid (fun W (hW : SW wr w.heap.size (vA PA pn pc SA sn sc v) W) => And.intro hW.cells ((hW.1.cell (p := ⟨b, o + k, none⟩) hblt).trans h0))
      clear hsw hx htk hz hy hbd hlk
      go_wp2_with fail
      go_region_held3 (fun w' => (w'.cell? ⟨w.heap.size, 0, none⟩ = some (.slice PA pn pc) ∧ w'.cell? ⟨w.heap.size, 1, none⟩ = some (.slice SA sn sc) ∧ w'.cell? ⟨w.heap.size, 2, none⟩ = some (.int .i64 v.s0) ∧ w'.cell? ⟨w.heap.size, 3, none⟩ = some (.int .i64 v.s1) ∧ w'.cell? ⟨w.heap.size, 4, none⟩ = some (.int .i64 v.s2)) ∧ w'.cell? ⟨b, o + k, none⟩ = some (.int .i64 (q : Int)))
        (first | exact HS.out _ HSR.out.drew | exact HS.out _ HSR.out | exact HS.out _ hs5 | assumption)
        ((go_at_call 71; go_must (with_reducible refine (HGN.out _ q (by exact HV.out.below (below_tr HS1.out.bel HSR.out.drew.bel)) hqp).mono ?_; rintro e w5 ⟨rfl, hb5⟩; have hs5 := HSR.out.drew.below hb5; rw [HY.out])))
      all_goals
        have HS6 := Lib.hid (show SW w w.heap.size (vA PA pn pc SA sn sc v) _ from ⟨below_tr HS1.out.bel hs5.bel, hs5.2⟩)
        clear hs5 hb5 c0 c1 c2 c3 c4 h0
        go_wp2_with fail
        go_roundw
        case rel => exact ⟨k + 1, by omega, by go_num, by rw [HTK.out], HS6.out⟩
        case measure => simp [intOf] <;> omega
    · obtain rfl : k = n := by omega
      have hT : l.take k = l := List.take_of_length_le (by have := HL.out; omega)
      rw [hT]
      clear hT hsw
      go_wp2_with fail
      go_ret
      exact ⟨rfl, HS1.out.bel⟩

set_option maxRecDepth 100000 in
set_option maxHeartbeats 2000000 in
theorem Costs_c {v : Vly} {l : List Int} {PA SA A : Option Addr} {pn pc sn sc n c : Nat} {w : World} (hok : VOk v) (h : RdV w PA pn SA sn v) (hA : Rd enc1 1 w A n l) (hn : n ≤ 1000) (hl : ∀ x ∈ l, 0 ≤ x ∧ x < (pn : Int)) :
    Calls Try.prog 39 #[.agg #[.slice PA pn pc, .slice SA sn sc, .int .i64 v.s0, .int .i64 v.s1, .int .i64 v.s2], .slice A n c] w fun e w' => e = .returned (.int .i64 (gL (pricesL v) l)) ∧ Below w.heap.size w w' := by
  have HSW := Lib.hid (SW.new w (vA PA pn pc SA sn sc v))
  have HV := Lib.hid h; have HA := Lib.hid hA
  have HL := Lib.hid hA.len
  have HLB := Lib.hid hl
  have hp12 : pn ≤ 12 := by have := hok.pn; have := h.pars.len; omega
  obtain ⟨G, hG⟩ : ∃ G, G = pricesL v := ⟨_, rfl⟩
  have HGE := Lib.hid (fun (q : Nat) (p : Par) (hp : v.pars[q]? = some p) => show gAt G q = p.price from by rw [hG]; exact gAt_of (by simp [pricesL, hp]))
  have HGB := Lib.hid (show ∀ i, 0 ≤ gAt G i ∧ gAt G i ≤ 100000 by rw [hG]; exact gAt_bd (by omega) (pricesL_bd hok))
  rw [← hG]
  clear h hA hl hok hG
  go_enter Try.func39, Try.ntmps39
  go_wp2_with fail
  go_loopw [5, 6] (fun t i wr => ∃ k : Nat, k ≤ n ∧ i = .int .i64 k ∧ t = .int .i64 (gL G (l.take k)) ∧ SW w w.heap.size (vA PA pn pc SA sn sc v) wr) (fun _ i _ => n - (intOf i).toNat)
  case atStart => exact ⟨0, Nat.zero_le _, rfl, rfl, HSW.out⟩
  case round =>
    obtain ⟨k, hk, rfl, rfl, hsw⟩ := hrel
    have HS1 := Lib.hid hsw
    obtain ⟨c0, c1, c2, c3, c4⟩ := hsw.cells
    have hbd := gL_bd HGB.out (l.take k)
    have hlk : (l.take k).length ≤ 1000 := by rw [List.length_take]; have := HL.out; omega
    by_cases hlt : k < n
    · obtain ⟨b, o, x, hA, hblt, hx, h0⟩ := (HA.out.below hsw.bel).at1 hlt
      subst hA
      have hxb := HLB.out x (List.mem_of_getElem? hx)
      obtain ⟨q, rfl⟩ : ∃ q : Nat, x = (q : Int) := ⟨x.toNat, by omega⟩
      have hqp : q < pn := by omega
      obtain ⟨b4, o4, p, hA4, hb4, hp, p0, p1, p2, p3⟩ := ((HV.out.below hsw.bel).pars).atP hqp
      subst hA4
      have htk := gL_take (gs := G) hx
      rw [Int.toNat_natCast, HGE.out q p hp] at htk
      have hgb := HGB.out q
      rw [HGE.out q p hp] at hgb
      obtain ⟨z, hz⟩ : ∃ z, z = gL G (l.take k) := ⟨_, rfl⟩
      rw [← hz] at hbd htk ⊢
      have HTK := Lib.hid htk
      have hwz : IntKind.i64.wrap (z + p.price) = z + p.price := wi (by omega)
      have hkn : (k : Int) < (n : Int) := by omega
      have hk0 : (0 : Int) ≤ (k : Int) := by omega
      have hqn : (q : Int) < (pn : Int) := by omega
      have hq0 : (0 : Int) ≤ (q : Int) := by omega
      clear hsw hx htk hz hbd hlk hp
      go_wp2_with fail
      go_quiet (fail)
      go_wp2_with fail
      go_roundw
      case rel => exact ⟨k + 1, by omega, by go_num, by rw [HTK.out], ⟨below_drewN HS1.out.bel _, Blk.drewN HS1.out.2 _⟩⟩
      case measure => simp [intOf] <;> omega
    · obtain rfl : k = n := by omega
      have hT : l.take k = l := List.take_of_length_le (by have := HL.out; omega)
      rw [hT]
      clear hT hsw
      go_wp2_with fail
      go_ret
      exact ⟨rfl, HS1.out.bel⟩
end Go.Proofs.Ytphdndiikikecaa

namespace Go.Proofs.Ytphdndiikikecaa

/-- is a set better than the best one till now? -/
def betterR (gs ps : List Int) (B : Int) (l best : List Int) : Bool :=
  decide (gL ps l ≤ B) && (decide (0 < gL gs l - gL gs best) || (decide (gL gs l - gL gs best = 0) && decide (gL ps l - gL ps best < 0)) || (decide (gL gs l - gL gs best = 0) && decide (gL ps l - gL ps best = 0) && decide (cmpL l best < 0)))
theorem betterR_iff {gs ps : List Int} {B : Int} {l best : List Int} : betterR gs ps B l best = true ↔ gL ps l ≤ B ∧ ¬ geB (bst gs ps best) (bst gs ps l) := by
  unfold betterR geB bst
  simp only [Bool.and_eq_true, Bool.or_eq_true, decide_eq_true_eq]
  have := cmpL_swap l best
  omega
/-- the best one of the sets by bits up to a number -/
def refTo (gs ps : List Int) (n : Nat) (B : Int) : Nat → List Int
  | 0 => []
  | k + 1 => if betterR gs ps B (bitsL (k + 1) n) (refTo gs ps n B k) = true then bitsL (k + 1) n else refTo gs ps n B k
theorem bitsL_zero : ∀ n, bitsL 0 n = []
  | 0 => rfl
  | n + 1 => by unfold bitsL; rw [bitsL_zero n]; simp
theorem refTo_spec {gs ps : List Int} {n : Nat} {B : Int} (hB : 0 ≤ B) : ∀ k, (AscB 0 n (refTo gs ps n B k) ∧ (refTo gs ps n B k).length ≤ n) ∧ gL ps (refTo gs ps n B k) ≤ B ∧ ∀ b, b ≤ k → gL ps (bitsL b n) ≤ B → geB (bst gs ps (refTo gs ps n B k)) (bst gs ps (bitsL b n))
  | 0 => ⟨⟨AscB.nil _ _, Nat.zero_le _⟩, by unfold refTo; rw [gL_nil]; exact hB, fun b hb _ => by
      obtain rfl : b = 0 := by omega
      rw [bitsL_zero]; exact geB_refl _⟩
  | k + 1 => by
    obtain ⟨h1, h2, h3⟩ := refTo_spec (gs := gs) (ps := ps) (n := n) hB k
    unfold refTo
    by_cases h : betterR gs ps B (bitsL (k + 1) n) (refTo gs ps n B k) = true
    · rw [if_pos h]
      obtain ⟨a1, a2⟩ := betterR_iff.1 h
      refine ⟨⟨bitsL_asc _ _, bitsL_len _ _⟩, a1, fun b hb hc => ?_⟩
      by_cases hbk : b = k + 1
      · subst hbk; exact geB_refl _
      · exact geB_trans ((geB_total _ _).resolve_left a2) (h3 b (by omega) hc)
    · rw [if_neg h]
      refine ⟨h1, h2, fun b hb hc => ?_⟩
      by_cases hbk : b = k + 1
      · subst hbk
        exact Classical.byContradiction fun hn => h (betterR_iff.2 ⟨hc, hn⟩)
      · exact h3 b (by omega) hc
theorem refTo_best {gs ps : List Int} {n : Nat} {B : Int} (hB : 0 ≤ B) : BestOf gs ps n B (bst gs ps (refTo gs ps n B (2 ^ n - 1))) := by
  obtain ⟨h1, h2, h3⟩ := refTo_spec (gs := gs) (ps := ps) (n := n) hB (2 ^ n - 1)
  refine ⟨rfl, h1.1, h2, fun e he hc => ?_⟩
  obtain ⟨b, hb, rfl⟩ := bits_all n e he
  exact h3 b (by omega) hc
/-- the tries and the sets by bits find the same -/
theorem best_ref {gs ps : List Int} {B : Int} (hp : ∀ i, 0 ≤ gAt ps i) (hB : 0 ≤ B) : bestB gs ps B = bst gs ps (refTo gs ps gs.length B (2 ^ gs.length - 1)) :=
  (bestB_spec hp hB).uniq (refTo_best hB)
end Go.Proofs.Ytphdndiikikecaa
