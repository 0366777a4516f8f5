/- THE CONTRACTS of zone.Hear. -/
import Derived.Test.YtphdndiikikecaaZHearMap
import Derived.Test.YtphdndiikikecaaZZonesAll
set_option linter.unusedVariables false
set_option linter.unusedSimpArgs false
namespace Go.Proofs.Ytphdndiikikecaa
open Go.RowKit Go.Proofs
attribute [local go_sem ↓] Go.wp_at_zero Go.wp_at_succ

def mapOf (ps : List (Int × Int)) (j : Int) : Int × Int := if j < 0 then (0, 0) else ps.getD j.toNat (0, 0)
theorem mapOf_nil : mapOf [] = fun _ => (0, 0) := by
  funext j; unfold mapOf; split <;> simp
theorem mapOf_get {ps : List (Int × Int)} {k : Nat} {r : Int × Int} (h : ps[k]? = some r) : mapOf ps (k : Int) = r := by
  unfold mapOf
  rw [if_neg (by omega)]
  simp [List.getD, h]
theorem mapOf_push (ps : List (Int × Int)) (r : Int × Int) : (fun j => if j = ((ps.length : Nat) : Int) then r else mapOf ps j) = mapOf (ps ++ [r]) := by
  funext j
  unfold mapOf
  by_cases h0 : j < 0
  · rw [if_neg (by omega), if_pos h0, if_pos h0]
  · rw [if_neg h0, if_neg h0]
    by_cases h1 : j = (ps.length : Int)
    · subst h1; simp [List.getD]
    · rw [if_neg h1]
      simp only [List.getD]
      by_cases h2 : j.toNat < ps.length
      · rw [List.getElem?_append_left h2]
      · rw [List.getElem?_eq_none (by omega), List.getElem?_eq_none (by simp; omega)]
theorem mapOf_set {ps : List (Int × Int)} {k : Nat} (hk : k < ps.length) (r : Int × Int) : (fun j => if j = (k : Int) then r else mapOf ps j) = mapOf (ps.set k r) := by
  funext j
  unfold mapOf
  by_cases h0 : j < 0
  · rw [if_neg (by omega), if_pos h0, if_pos h0]
  · rw [if_neg h0, if_neg h0]
    simp only [List.getD, List.getElem?_set]
    by_cases h1 : j = (k : Int)
    · subst h1; simp [hk]
    · rw [if_neg h1, if_neg (show ¬ k = j.toNat by omega)]
/-- a look-up in the map, for the walk -/
theorem wpList_lookF {w : World} {ops : Array Oper} {rest : List Oper} {o : Oper} {a : Act} {Q : Exit → Act → World → Prop}
    (hg : o.guard = none) (m x : Operand) (hop : o.op = Op.lookup 128 m x false) (M n : Nat) (f : Int → Int × Int) (hm : a.eval m = .map (some M)) (h : MapF w M n f)
    (k : Int) (hx : a.eval x = .int .i64 k) (hk : -9223372036854775808 ≤ k ∧ k ≤ 9223372036854775807) (r : Int × Int) (hr : f k = r)
    (hK : wpList Try.prog ops Q rest (a.put o.dst (.agg #[.int .i64 r.1, .int .i64 r.2])) w) :
    wpList Try.prog ops Q (o :: rest) a w := by
  refine wpList_plain hg fun K' hK' => ?_
  have hrun := h.look hk
  rw [hr] at hrun
  unfold Oper.wp
  simp [execOp, hop, hm, hx, hrun, Result.andThen]
  exact hK' _ _ hK

theorem fieldR0 (a b : Int) (W : World) : (Instr.field 67 (.agg #[.int .i64 a, .int .i64 b]) 0).run Try.prog W = .ok (.int .i64 a) W := by kernel_rfl
theorem fieldR1 (a b : Int) (W : World) : (Instr.field 67 (.agg #[.int .i64 a, .int .i64 b]) 1).run Try.prog W = .ok (.int .i64 b) W := by kernel_rfl
/-- how Hear of good evidence ends -/
def HearP (v : Vly) (l : List Evd) (sn : Nat) (w : World) (e : Ending) (w' : World) : Prop :=
  ((∃ A c, allB upR (leftsL v l) = true ∧ e = .returned (.tuple #[.slice A sn c, .int .i64 0]) ∧ Rd enc2 2 w' A sn (leftsL v l)) ∨
    (allB upR (leftsL v l) = false ∧ e = .returned (.tuple #[.slice none 0 0, .int .i64 9]))) ∧ Below w.heap.size w w'
theorem HearP.yes {v : Vly} {l : List Evd} {sn : Nat} {w w' : World} {A : Option Addr} {c : Nat} (h : allB upR (leftsL v l) = true) (hr : Rd enc2 2 w' A sn (leftsL v l)) (hb : Below w.heap.size w w') : HearP v l sn w (.returned (.tuple #[.slice A sn c, .int .i64 0])) w' := ⟨.inl ⟨A, c, h, rfl, hr⟩, hb⟩
theorem HearP.no {v : Vly} {l : List Evd} {sn : Nat} {w w' : World} (h : allB upR (leftsL v l) = false) (hb : Below w.heap.size w w') : HearP v l sn w (.returned (.tuple #[.slice none 0 0, .int .i64 9])) w' := ⟨.inr ⟨h, rfl⟩, hb⟩

set_option maxRecDepth 100000 in
set_option maxHeartbeats 400000 in
theorem Hear_bad {v : Vly} {PA SA LA : Option Addr} {pn pc sn sc ln lc : Nat} {w : World} (h : RdV w PA pn SA sn v) (hpn : pn ≤ maxLen) (hsn : sn ≤ maxLen) (hbad : errV v ≠ 0) :
    Calls Try.prog 46 #[.agg #[.slice PA pn pc, .slice SA sn sc, .int .i64 v.s0, .int .i64 v.s1, .int .i64 v.s2], .slice LA ln lc] w
      fun e w' => e = .returned (.tuple #[.slice none 0 0, .int .i64 (errV v)]) ∧ Below w.heap.size w w' := by
  have hne : (errV v == 0) = false := by simpa using hbad
  have hb0 : Below w.heap.size w (w.alloc (.cells (vA PA pn pc SA sn sc v) 36)) := (Below.refl _ w).alloc (Nat.le_refl _) _
  have HC := Lib.hid (checkV_c (pc := pc) (sc := sc) (h.below hb0) hpn hsn)
  obtain ⟨E, hE⟩ : ∃ E, E = errV v := ⟨_, rfl⟩
  rw [← hE] at HC hne hbad ⊢
  have HB := Lib.hid hb0
  clear h hE hb0
  go_enter Try.func46, Try.ntmps46
  go_wp2_with fail
  go_step3
  go_wp2_with fail
  refine HC.out.mono ?_
  rintro e w2 ⟨rfl, hb⟩
  have HB2 := Lib.hid (below_tr HB.out hb)
  clear hb
  go_wp2_with fail
  (try rw [Exit.noGoto_ret])
  go_ret2
  exact ⟨rfl, HB2.out⟩

set_option maxRecDepth 100000 in
set_option maxHeartbeats 1000000 in
theorem Hear_arg {v : Vly} {l : List Evd} {PA SA LA : Option Addr} {pn pc sn sc ln lc : Nat} {w : World} (h : RdV w PA pn SA sn v) (hok : VOk v) (hL : Rd encE 3 w LA ln l) (hln : ln ≤ maxLen) (hno : 20 < l.length ∨ allB (evOk sn) l = false) :
    Calls Try.prog 46 #[.agg #[.slice PA pn pc, .slice SA sn sc, .int .i64 v.s0, .int .i64 v.s1, .int .i64 v.s2], .slice LA ln lc] w
      fun e w' => e = .returned (.tuple #[.slice none 0 0, .int .i64 (if 20 < l.length then 3 else 2)]) ∧ Below w.heap.size w w' := by
  have hlp := h.pars.len; have hls := h.sls.len; have hll := hL.len
  have hpn := hok.pn; have hsn := hok.sn
  have hb0 : Below w.heap.size w (w.alloc (.cells (vA PA pn pc SA sn sc v) 36)) := (Below.refl _ w).alloc (Nat.le_refl _) _
  have HC := Lib.hid (checkV_c (pc := pc) (sc := sc) (h.below hb0) (by unfold maxLen; omega) (by unfold maxLen; omega))
  rw [errV_zero.2 hok] at HC
  have HB := Lib.hid hb0
  have HX := Lib.hid (Blk.new w 36 (vA PA pn pc SA sn sc v))
  have HL := Lib.hid hL
  have HLN := Lib.hid hln
  have hsn10 : sn ≤ 10 := by omega
  clear h hb0 hok hL hpn hsn hlp hls
  by_cases h20 : 20 < l.length
  · rw [if_pos h20]
    have hg : (20 : Int) < (ln : Int) := by omega
    unfold maxLen at hln
    clear hno h20 hll
    go_enter Try.func46, Try.ntmps46
    go_wp2_with fail
    go_step3
    go_wp2_with fail
    refine HC.out.mono ?_
    rintro e w2 ⟨rfl, hb⟩
    have HB2 := Lib.hid (below_tr HB.out hb)
    clear hb
    go_wp2_with fail
    (try rw [Exit.noGoto_ret])
    go_ret2
    exact ⟨rfl, HB2.out⟩
  · rw [if_neg h20]
    have hev := hno.resolve_left h20
    have hg : ¬ (20 : Int) < (ln : Int) := by omega
    unfold maxLen at hln
    have HEV := Lib.hid hev
    clear hno h20 hll hev
    go_enter Try.func46, Try.ntmps46
    go_wp2_with fail
    go_step3
    go_wp2_with fail
    refine HC.out.mono ?_
    rintro e w2 ⟨rfl, hb⟩
    have hx2 := HX.out.below hb (by simp)
    have HB2 := Lib.hid (below_tr HB.out hb)
    have HAL := Lib.hid (allEv_c (p := evOk sn) (c := lc) w.heap.size w2 (HL.out.below (below_tr HB.out hb)) HLN.out (fun i x W _ hW => Hear1_c x (hx2.below hW hx2.lt) hsn10))
    rw [HEV.out] at HAL
    clear hb hx2
    go_wp2_with (go_at_call 80; refine HAL.out.mono ?_; rintro e w5 ⟨rfl, hb5⟩)
    (try rw [Exit.noGoto_ret])
    go_ret2
    exact ⟨rfl, below_tr HB2.out hb5⟩

set_option maxRecDepth 100000 in
set_option maxHeartbeats 4000000 in
theorem Hear_c {v : Vly} {l : List Evd} {PA SA LA : Option Addr} {pn pc sn sc ln lc : Nat} {w : World} (h : RdV w PA pn SA sn v) (hok : VOk v) (hL : Rd encE 3 w LA ln l) (hln : ln ≤ 20) (hev : allB (evOk sn) l = true) :
    Calls Try.prog 46 #[.agg #[.slice PA pn pc, .slice SA sn sc, .int .i64 v.s0, .int .i64 v.s1, .int .i64 v.s2], .slice LA ln lc] w (HearP v l sn w) := by
  have hlp := h.pars.len; have hls := h.sls.len; have hll := hL.len
  have hpn := hok.pn; have hsn := hok.sn
  obtain ⟨i0, hi0, hz0, hz1, hz2⟩ := info_parts infoRg
  have HI := Lib.hid hi0; have HZ0 := Lib.hid hz0; have HZ1 := Lib.hid hz1; have HZ2 := Lib.hid hz2
  clear hi0 hz0 hz1 hz2
  have hb0 : Below w.heap.size w (w.alloc (.cells (vA PA pn pc SA sn sc v) 36)) := (Below.refl _ w).alloc (Nat.le_refl _) _
  have HC := Lib.hid (checkV_c (pc := pc) (sc := sc) (h.below hb0) (by unfold maxLen; omega) (by unfold maxLen; omega))
  rw [errV_zero.2 hok] at HC
  have HB := Lib.hid hb0
  have HX := Lib.hid (Blk.new w 36 (vA PA pn pc SA sn sc v))
  have HV := Lib.hid h; have HL := Lib.hid hL; have HEV := Lib.hid hev
  have HLS := Lib.hid hls
  have hsn10 : sn ≤ 10 := by omega
  have hg : ¬ (20 : Int) < (ln : Int) := by omega
  have hgd : decide ((20 : Int) < (ln : Int)) = false := decide_eq_false hg
  have HLL := Lib.hid hll
  have HEB := Lib.hid (fun (i : Nat) (x : Evd) (hx : l[i]? = some x) => show (0 ≤ x.k ∧ x.k < sn) ∧ 0 ≤ x.lo ∧ x.lo ≤ x.hi ∧ x.hi ≤ 12 from by
    have := allB_iff.1 hev i x hx
    simp only [evOk, Bool.and_eq_true, inB_iff, upB_iff] at this
    omega)
  have HSB := Lib.hid (fun (i : Nat) (x : Sli) (hx : v.sls[i]? = some x) => show 0 ≤ x.lo ∧ x.lo ≤ x.hi ∧ x.hi ≤ 12 from by
    have := hok.slide hx
    have := wayTo_len this.1
    omega)
  clear h hb0 hok hL hpn hsn hlp hls hev hll hg
  have hmm := @run_makeMap Try.prog
  go_enter Try.func46, Try.ntmps46
  go_wp2_with fail
  go_step3
  go_wp2_with fail
  refine HC.out.mono ?_
  rintro e w2 ⟨rfl, hb⟩
  have hx2 := HX.out.below hb (by simp)
  have HX2 := Lib.hid hx2
  have HB2 := Lib.hid (below_tr HB.out hb)
  have HAL := Lib.hid (allEv_c (p := evOk sn) (c := lc) w.heap.size w2 (HL.out.below (below_tr HB.out hb)) (by unfold maxLen; omega) (fun i x W _ hW => Hear1_c x (hx2.below hW hx2.lt) hsn10))
  rw [HEV.out] at HAL
  clear hb hx2 HX
  go_upto_region 9 with (go_at_call 80; refine HAL.out.mono ?_; rintro e w5 ⟨rfl, hb5⟩)
  have hx5 := HX2.out.below hb5 HX2.out.lt
  have HX5 := Lib.hid hx5
  have HB5 := Lib.hid (below_tr HB2.out hb5)
  have c1 := hx5.cell 1
  simp at c1
  have hlt5 := hx5.lt
  have HM0 := Lib.hid (MapF.made w5)
  clear hb5 hx5 HAL
  go_wp2_with fail
  obtain ⟨M, hM⟩ : ∃ M, M = w5.heap.size := ⟨_, rfl⟩
  have hb6 : Below w5.heap.size w5 (w5.alloc (.map #[] 0)) := (Below.refl _ w5).alloc (Nat.le_refl _) _
  have HX6 := Lib.hid (HX5.out.below hb6 hlt5)
  have HB6 := Lib.hid (below_tr HB5.out hb6)
  have hMw : w.heap.size < M := by omega
  rw [← hM] at HM0 ⊢
  clear hM hb6 HX5 HB5 HX2 HB2 c1 hlt5 hmm
  go_loopw [36] (fun i wr => ∃ k : Nat, k ≤ sn ∧ i = .int .i64 k ∧ MapF wr M k (mapOf ((leftsL v []).take k)) ∧ Blk wr w.heap.size 36 (vA PA pn pc SA sn sc v) ∧ Below w.heap.size w wr) (fun i _ => sn - (intOf i).toNat)
  case atStart => exact ⟨0, Nat.zero_le _, rfl, by rw [List.take_zero, mapOf_nil]; exact HM0.out, HX6.out, HB6.out⟩
  case round =>
    clear HX6 HB6 HM0
    obtain ⟨k, hk, rfl, hm, hbx, hb⟩ := hrel
    by_cases hlt : k < sn
    · obtain ⟨b, o, x, hA, hblt, hx, h0, h1, h2, h3⟩ := (HV.out.sls.below hb).atS hlt
      subst hA
      have hsb := HSB.out k x hx
      have hkl : ((leftsL v []).take k).length = k := by rw [List.length_take, leftsL_len]; have := HLS.out; omega
      have hpush := mapOf_push ((leftsL v []).take k) (x.lo, x.hi)
      rw [hkl, show (leftsL v []).take k ++ [(x.lo, x.hi)] = (leftsL v []).take (k + 1) by rw [List.take_add_one, leftsL_get hx]; rfl] at hpush
      have HP := Lib.hid hpush
      have hb1 : Below wr.heap.size wr (wr.alloc (.cells #[.slice x.A x.n x.c, .int .i64 x.rate, .int .i64 x.lo, .int .i64 x.hi] 103)) := (Below.refl _ wr).alloc (Nat.le_refl _) _
      have HM1 := Lib.hid (hm.below hb1)
      have HX1 := Lib.hid (hbx.below hb1 hbx.lt)
      have HB1 := Lib.hid (below_tr hb hb1)
      have hkn : (k : Int) < (sn : Int) := by omega
      have hk0 : (0 : Int) ≤ (k : Int) := by omega
      have hM1 := hm.lt
      clear hkl hpush hb1 hm hbx hb hx
      go_wp2_with (at_mapUpdate; go_must (refine wpList_mapF rfl _ _ _ rfl M k _ rfl HM1.out (k : Int) rfl (by omega) (by omega) (x.lo, x.hi) rfl ?_; intro w1 hm1 hg1))
      rw [HP.out] at hm1
      have HM2 := Lib.hid hm1
      have HX2 := Lib.hid (HX1.out.grown hg1 (by intro e; have := Option.some.inj e; omega))
      have HB2 := Lib.hid (HB1.out.grown hg1 HB1.out.size (fun g hg => by cases hg; omega))
      clear hm1 hg1
      go_wp2_with fail
      go_roundw
      case rel => exact ⟨k + 1, by omega, by go_num, HM2.out, HX2.out, HB2.out⟩
      case measure => simp [intOf] <;> omega
    · obtain rfl : k = sn := by omega
      rw [show (leftsL v []).take k = leftsL v (l.take 0) by rw [List.take_zero]; exact List.take_of_length_le (by rw [leftsL_len]; have := HLS.out; omega)] at hm
      have HM1 := Lib.hid hm; have HX1 := Lib.hid hbx; have HB1 := Lib.hid hb
      clear hm hbx hb
      go_wp2_with fail
      go_loopw [48] (fun i wr => ∃ j n : Nat, j ≤ ln ∧ n ≤ 100 + j ∧ i = .int .i64 j ∧ MapF wr M n (mapOf (leftsL v (l.take j))) ∧ Blk wr w.heap.size 36 (vA PA pn pc SA k sc v) ∧ Below w.heap.size w wr) (fun i _ => ln - (intOf i).toNat)
      case atStart => exact ⟨0, k, Nat.zero_le _, by omega, rfl, HM1.out, HX1.out, HB1.out⟩
      case round =>
        clear HX1 HB1 HM1
        obtain ⟨j, n, hj, hn, rfl, hm, hbx, hb⟩ := hrel
        by_cases hlt2 : j < ln
        · obtain ⟨b, o, x, hA, hblt, hx, h0, h1, h2⟩ := (HL.out.below hb).at3 hlt2
          subst hA
          have heb := HEB.out j x hx
          obtain ⟨q, hq⟩ : ∃ q : Nat, x.k = (q : Int) := ⟨x.k.toNat, by omega⟩
          have hqk : q < k := by omega
          obtain ⟨r, hr⟩ : ∃ r, (leftsL v (l.take j))[q]? = some r := ⟨_, List.getElem?_eq_getElem (by rw [leftsL_len]; have := HLS.out; omega)⟩
          have hset := mapOf_set (ps := leftsL v (l.take j)) (k := q) (by rw [leftsL_len]; have := HLS.out; omega) (max r.1 x.lo, min r.2 x.hi)
          rw [← leftsL_snoc hq hr, show l.take j ++ [x] = l.take (j + 1) by rw [List.take_add_one, hx]; rfl] at hset
          have HP := Lib.hid hset
          have HG := Lib.hid (mapOf_get hr)
          have hb1 : Below wr.heap.size wr (wr.alloc (.cells #[.int .i64 (q : Int), .int .i64 x.lo, .int .i64 x.hi] 101)) := (Below.refl _ wr).alloc (Nat.le_refl _) _
          have HM1 := Lib.hid (hm.below hb1)
          have HX1 := Lib.hid (hbx.below hb1 hbx.lt)
          have HB1 := Lib.hid (below_tr hb hb1)
          have hjn : (j : Int) < (ln : Int) := by omega
          have hj0 : (0 : Int) ≤ (j : Int) := by omega
          have hM1 := hm.lt
          rw [hq] at h0
          clear hset hb1 hm hbx hb hx hr
          go_wp2_with (first
            | (at_lookup; go_must (refine wpList_lookF rfl _ _ rfl M n _ rfl HM1.out (q : Int) rfl (by omega) r HG.out ?_))
            | (at_mapUpdate; go_must (refine wpList_mapF rfl _ _ _ rfl M n _ rfl (HM1.out.alloc _) (q : Int) rfl (by omega) (by omega) (max r.1 x.lo, min r.2 x.hi) rfl ?_; intro w1 hm1 hg1)))
          rw [HP.out] at hm1
          have HM2 := Lib.hid hm1
          have HX2 := Lib.hid ((HX1.out.alloc _).grown hg1 (by intro e; have := Option.some.inj e; omega))
          have HB2 := Lib.hid ((HB1.out.alloc HB1.out.size _).grown hg1 (by simp; have := HB1.out.size; simp at this; omega) (fun g hg => by cases hg; omega))
          clear hm1 hg1
          go_wp2_with fail
          go_roundw
          case rel => exact ⟨j + 1, n + 1, by omega, by omega, by go_num, HM2.out, HX2.out, HB2.out⟩
          case measure => simp [intOf] <;> omega
        · obtain rfl : j = ln := by omega
          rw [show l.take j = l from List.take_of_length_le (by have := HLL.out; omega)] at hm
          have HM1 := Lib.hid hm; have HX1 := Lib.hid hbx; have HB1 := Lib.hid hb
          obtain ⟨L, hL⟩ : ∃ L, L = leftsL v l := ⟨_, rfl⟩
          have HLE := Lib.hid hL
          have HLN := Lib.hid (show L.length = k by rw [hL, leftsL_len]; exact HLS.out)
          have hMw2 := hm.lt
          have c1 := hbx.cell 1
          simp at c1
          rw [← hL] at hm HM1
          obtain ⟨W3, hW3⟩ : ∃ W3, W3 = wr := ⟨_, rfl⟩
          rw [← hW3] at HM1 HX1 HB1 hMw2 c1 ⊢
          clear hm hbx hb hL hW3
          go_wp2_with fail
          go_step3
          go_wp2_with fail
          obtain ⟨w0, hw0⟩ : ∃ w0, w0 = w.heap.size := ⟨_, rfl⟩
          have hszw : w0 ≤ W3.heap.size := by rw [hw0]; exact HB1.out.size
          have HW0 := Lib.hid hw0
          clear hw0
          go_loopw [14, 15, 76] (fun o er i wr => ∃ t : Nat, t ≤ k ∧ i = .int .i64 t ∧ er = .int .i64 0 ∧ (∀ (i : Nat) (r : Int × Int), i < t → L[i]? = some r → upR r = true) ∧ wr.ownsRow W3.heap.size 67 2 o t ((L.take t).flatMap enc2) ∧ Below W3.heap.size W3 wr) (fun _ _ i _ => k - (intOf i).toNat)
          case atStart => exact ⟨0, Nat.zero_le _, rfl, rfl, fun i r hi => by omega, World.ownsRow_nil _ _ _ _, Below.refl _ _⟩
          case round =>
            obtain ⟨t, ht, rfl, rfl, hup, hown, hb⟩ := hrel
            have HBr := Lib.hid hb; have HO := Lib.hid hown; have HU := Lib.hid hup
            have HMt := Lib.hid (HM1.out.below hb)
            by_cases hlt3 : t < k
            · obtain ⟨r, hr⟩ : ∃ r, L[t]? = some r := ⟨_, List.getElem?_eq_getElem (by have := HLN.out; omega)⟩
              have HR := Lib.hid hr
              have HG := Lib.hid (mapOf_get hr)
              have htk : (t : Int) < (k : Int) := by omega
              have fr0 := fieldR0 r.1 r.2 wr; have fr1 := fieldR1 r.1 r.2 wr
              clear hup hown hb hr
              by_cases hc : r.1 ≤ r.2
              · have hd : decide (r.2 < r.1) = false := decide_eq_false (by omega)
                go_wp2_with (first
                  | (at_lookup; go_must (refine wpList_lookF rfl _ _ rfl M _ _ rfl HMt.out (t : Int) rfl (by omega) r HG.out ?_))
                  | (at_builtin; go_must (refine wpList_append_own_at _ rfl _ _ 29 rfl W3.heap.size 67 i0 _ 2 16 Try.underlying29 HI.out HZ0.out HZ1.out HZ2.out rfl (by decide) _ _ _ rfl (HO.out.alloc _) ⟨wr.heap.size, 0, none⟩ 1 1 [.int .i64 r.1, .int .i64 r.2] rfl rfl (fun j u hj => World.news_of_block (cs := #[.int .i64 r.1, .int .i64 r.2]) (t := 67) (fr := (0, 0)) (heap_alloc_new wr _) j u hj) (by simp [Value.oneCell']) (by unfold maxLen; omega) (by omega) (by simp; have := HBr.out.size; omega) ?_; intro v' w1 hown' hgrow _ _)))
                have H1 : Hid (w1.ownsRow W3.heap.size 67 2 v' (t + 1) ((L.take (t + 1)).flatMap enc2)) := by
                  rw [List.take_add_one, HR.out, List.flatMap_append]
                  exact hown'
                have H2 := Lib.hid ((HBr.out.alloc HBr.out.size _).grown hgrow (by simp; have := HBr.out.size; omega) (fun g hg => (HO.out.lt g hg).1))
                clear hown' hgrow
                go_wp2_with fail
                go_roundw
                case rel => exact ⟨t + 1, by omega, by go_num, rfl, fun i r' hi hr' => by
                  by_cases hit : i = t
                  · subst hit; rw [HR.out] at hr'; cases hr'; exact decide_eq_true hc
                  · exact HU.out i r' (by omega) hr', H1.out, H2.out⟩
                case measure => simp [intOf] <;> omega
              · have hd : decide (r.2 < r.1) = true := decide_eq_true (by omega)
                have HF := Lib.hid (show allB upR (leftsL v l) = false from allB_not.2 ⟨t, r, by rw [← HLE.out]; exact HR.out, decide_eq_false hc⟩)
                clear hc
                go_wp2_with (at_lookup; go_must (refine wpList_lookF rfl _ _ rfl M _ _ rfl HMt.out (t : Int) rfl (by omega) r HG.out ?_))
                (try rw [Exit.noGoto_ret])
                go_ret2
                exact HearP.no HF.out (below_tr HB1.out HBr.out)
            · obtain rfl : t = k := by omega
              have hfin := hown
              obtain ⟨A', c', rfl, hc'⟩ := own_form hfin
              rw [List.take_of_length_le (by have := HLN.out; omega)] at hfin
              have HRD := Lib.hid (Rd.of_own enc2_len hfin HLN.out)
              have HF := Lib.hid (show allB upR (leftsL v l) = true from allB_iff.2 fun i r hr => by
                rw [← HLE.out] at hr
                exact HU.out i r (by have := lt_of_get hr; have := HLN.out; omega) hr)
              clear hup hown hb hfin
              go_wp2_with fail
              (try rw [Exit.noGoto_ret])
              go_ret2
              exact HearP.yes HF.out (by rw [← HLE.out]; exact HRD.out) (below_tr HB1.out HBr.out)
end Go.Proofs.Ytphdndiikikecaa
