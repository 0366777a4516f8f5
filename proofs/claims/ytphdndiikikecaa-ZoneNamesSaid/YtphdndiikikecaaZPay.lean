/- THE CONTRACTS of zone.Pay. -/
import Derived.Test.YtphdndiikikecaaZPrem
import Derived.Test.YtphdndiikikecaaZDueLaw
set_option linter.unusedVariables false
set_option linter.unusedSimpArgs false
namespace Go.Proofs.Ytphdndiikikecaa
open Go.RowKit Go.Proofs
attribute [local go_sem ↓] Go.wp_at_zero Go.wp_at_succ

theorem take_snoc {l : List Int} {j : Nat} {x : Int} (h : l[j]? = some x) : l.take (j + 1) = l.take j ++ [x] := by rw [List.take_add_one, h]; rfl

set_option maxRecDepth 100000 in
set_option maxHeartbeats 400000 in
theorem Pay_bad {v : Vly} {PA SA : Option Addr} {pn pc sn sc : Nat} {k m c : Int} {w : World} (h : RdV w PA pn SA sn v) (hpn : pn ≤ maxLen) (hsn : sn ≤ maxLen) (hbad : errV v ≠ 0) :
    Calls Try.prog 44 #[.agg #[.slice PA pn pc, .slice SA sn sc, .int .i64 v.s0, .int .i64 v.s1, .int .i64 v.s2], .int .i64 k, .int .i64 m, .int .i64 c] w
      fun e w' => e = .returned (.tuple #[.slice none 0 0, .int .i64 (errV v)]) ∧ Below w.heap.size w w' := by
  have hne : (errV v == 0) = false := by simpa using hbad
  have hb0 : Below w.heap.size w (w.alloc (.cells (vA PA pn pc SA sn sc v) 36)) := (Below.refl _ w).alloc (Nat.le_refl _) _
  have HC := Lib.hid (checkV_c (pc := pc) (sc := sc) (h.below hb0) hpn hsn)
  obtain ⟨E, hE⟩ : ∃ E, E = errV v := ⟨_, rfl⟩
  rw [← hE] at HC hne hbad ⊢
  have HB := Lib.hid hb0
  clear h hE hb0
  go_enter Try.func44, Try.ntmps44
  go_wp2_with fail
  refine HC.out.mono ?_
  rintro e w2 ⟨rfl, hb⟩
  have HB2 := Lib.hid (below_tr HB.out hb)
  clear hb
  go_wp2_with fail
  go_ret2
  exact ⟨rfl, HB2.out⟩

set_option maxRecDepth 100000 in
set_option maxHeartbeats 4000000 in
theorem Pay_arg {v : Vly} {PA SA : Option Addr} {pn pc sn sc : Nat} {k m c : Int} {w : World} (h : RdV w PA pn SA sn v) (hok : VOk v)
    (hno : inB k 0 ((sn : Int) - 1) = false ∨ ∃ (K : Nat) (s : Sli), k = (K : Int) ∧ v.sls[K]? = some s ∧ (inB m 0 (s.n : Int) = false ∨ inB c 0 100000000 = false)) :
    Calls Try.prog 44 #[.agg #[.slice PA pn pc, .slice SA sn sc, .int .i64 v.s0, .int .i64 v.s1, .int .i64 v.s2], .int .i64 k, .int .i64 m, .int .i64 c] w
      fun e w' => e = .returned (.tuple #[.slice none 0 0, .int .i64 2]) ∧ Below w.heap.size w w' := by
  have hlp := h.pars.len; have hls := h.sls.len
  have hpn := hok.pn; have hsn := hok.sn
  have hb0 : Below w.heap.size w (w.alloc (.cells (vA PA pn pc SA sn sc v) 36)) := (Below.refl _ w).alloc (Nat.le_refl _) _
  have HC := Lib.hid (checkV_c (pc := pc) (sc := sc) (h.below hb0) (by unfold maxLen; omega) (by unfold maxLen; omega))
  rw [errV_zero.2 hok] at HC
  have HB := Lib.hid hb0
  have HX := Lib.hid (Blk.new w 36 (vA PA pn pc SA sn sc v))
  have HV := Lib.hid h
  have hwsn : IntKind.i64.wrap ((sn : Int) - 1) = (sn : Int) - 1 := wi (by omega)
  clear h hb0 hok
  have HW1 := Lib.hid (fun W => within_c k 0 ((sn : Int) - 1) W)
  have HFU := Lib.hid (fun W => fund_c c W)
  rcases hno with hno | ⟨K, s, rfl, hs, hno⟩
  · simp only [hno] at HW1
    clear hno
    go_enter Try.func44, Try.ntmps44
    go_wp2_with fail
    refine HC.out.mono ?_
    rintro e w2 ⟨rfl, hb⟩
    have hx2 := HX.out.below hb (by simp)
    have HB2 := Lib.hid (below_tr HB.out hb)
    have c1 := hx2.cell 1
    simp at c1
    clear hb hx2
    go_wp2_with (go_at_call 69; refine (HW1.out _).mono ?_; rintro e w5 ⟨rfl, rfl⟩)
    go_ret2
    exact ⟨rfl, HB2.out⟩
  · have hKl := lt_of_get hs
    have hin1 : inB (K : Int) 0 ((sn : Int) - 1) = true := inB_iff.2 (by omega)
    simp only [hin1] at HW1
    have HS := Lib.hid hs
    have hks : (K : Int) < (sn : Int) := by omega
    have hk0 : (0 : Int) ≤ (K : Int) := by omega
    have HW2 := Lib.hid (fun W => within_c m 0 (s.n : Int) W)
    clear hin1
    cases hin2 : inB m 0 (s.n : Int)
    · simp only [hin2] at HW2
      clear hin2 hno
      go_enter Try.func44, Try.ntmps44
      go_wp2_with fail
      refine HC.out.mono ?_
      rintro e w2 ⟨rfl, hb⟩
      have hx2 := HX.out.below hb (by simp)
      have HB2 := Lib.hid (below_tr HB.out hb)
      have c1 := hx2.cell 1
      simp at c1
      obtain ⟨b, o, x, hA, hblt, hx, h0, h1, h2, h3⟩ := (HV.out.sls.below (below_tr HB.out hb)).atS (show K < sn by omega)
      rw [HS.out] at hx; cases hx
      subst hA
      clear hb hx2
      go_wp2_with (go_at_call 69; (first | with_reducible refine (HW1.out _).mono ?_ | with_reducible refine (HW2.out _).mono ?_); rintro e w5 ⟨rfl, rfl⟩)
      go_ret2
      exact ⟨rfl, HB2.out⟩
    · simp only [hin2] at HW2
      have hno' : inB c 0 100000000 = false := hno.resolve_left (by rw [hin2]; simp)
      simp only [hno'] at HFU
      clear hin2 hno hno'
      go_enter Try.func44, Try.ntmps44
      go_wp2_with fail
      refine HC.out.mono ?_
      rintro e w2 ⟨rfl, hb⟩
      have hx2 := HX.out.below hb (by simp)
      have HB2 := Lib.hid (below_tr HB.out hb)
      have c1 := hx2.cell 1
      simp at c1
      obtain ⟨b, o, x, hA, hblt, hx, h0, h1, h2, h3⟩ := (HV.out.sls.below (below_tr HB.out hb)).atS (show K < sn by omega)
      rw [HS.out] at hx; cases hx
      subst hA
      clear hb hx2
      go_wp2_with (first
        | (go_at_call 69; (first | with_reducible refine (HW1.out _).mono ?_ | with_reducible refine (HW2.out _).mono ?_); rintro e w5 ⟨rfl, rfl⟩)
        | (go_at_call 61; refine (HFU.out _).mono ?_; rintro e w5 ⟨rfl, rfl⟩))
      go_ret2
      exact ⟨rfl, HB2.out⟩

set_option maxRecDepth 100000 in
set_option maxHeartbeats 4000000 in
theorem Pay_ok {v : Vly} {PA SA : Option Addr} {pn pc sn sc : Nat} {k M : Nat} {c : Int} {s : Sli} {w : World} (h : RdV w PA pn SA sn v) (hok : VOk v) (hs : v.sls[k]? = some s) (hM : M ≤ s.n) (hf : inB c 0 100000000 = true) :
    Calls Try.prog 44 #[.agg #[.slice PA pn pc, .slice SA sn sc, .int .i64 v.s0, .int .i64 v.s1, .int .i64 v.s2], .int .i64 (k : Int), .int .i64 (M : Int), .int .i64 c] w
      fun e w' => ∃ A d, e = .returned (.tuple #[.slice A pn d, .int .i64 0]) ∧ Rd enc1 1 w' A pn (paidL c (dueL v.pars (s.way.take M))) ∧ Below w.heap.size w w' := by
  have hlp := h.pars.len; have hls := h.sls.len
  have hpn := hok.pn; have hsn := hok.sn
  have hb0 : Below w.heap.size w (w.alloc (.cells (vA PA pn pc SA sn sc v) 36)) := (Below.refl _ w).alloc (Nat.le_refl _) _
  have HC := Lib.hid (checkV_c (pc := pc) (sc := sc) (h.below hb0) (by unfold maxLen; omega) (by unfold maxLen; omega))
  rw [errV_zero.2 hok] at HC
  have HB := Lib.hid hb0
  have HX := Lib.hid (Blk.new w 36 (vA PA pn pc SA sn sc v))
  have HV := Lib.hid h; have HOK := Lib.hid hok; have HS := Lib.hid hs
  have hkl := lt_of_get hs
  have hks : (k : Int) < (sn : Int) := by omega
  have hk0 : (0 : Int) ≤ (k : Int) := by omega
  have hwsn : IntKind.i64.wrap ((sn : Int) - 1) = (sn : Int) - 1 := wi (by omega)
  have hin1 : inB (k : Int) 0 ((sn : Int) - 1) = true := inB_iff.2 (by omega)
  have hin2 : inB (M : Int) 0 (s.n : Int) = true := inB_iff.2 (by omega)
  have HW1 := Lib.hid (fun W => within_c (k : Int) 0 ((sn : Int) - 1) W)
  have HW2 := Lib.hid (fun W => within_c (M : Int) 0 (s.n : Int) W)
  have HFU := Lib.hid (fun W => fund_c c W)
  simp only [hin1] at HW1
  simp only [hin2] at HW2
  simp only [hf] at HFU
  have hcb := inB_iff.1 hf
  have hwy := h.way k s hs
  have hwl := hwy.1.len
  have hsl := hok.slide hs
  have hwn := wayTo_len hsl.1
  have hMn : M ≤ s.n := hM
  have hsnc : s.n ≤ s.c := hwy.2.2
  have HWT := Lib.hid hsl.1
  have hs12 : s.n ≤ 12 := by omega
  have hcut := cut_to_gen (t := 39) (e := 3) (size := 1) Try.underlying39 Try.sizeOf3 s.A (n := s.n) (c := s.c) (k := M) (by omega)
  have hmk := mk_ints pn (by omega)
  have hp12 : pn ≤ 12 := by omega
  have HLP := Lib.hid hlp
  clear h hb0 hok hs hin1 hin2 hf hwy hwl hsl hwn hlp hls hpn hsn
  go_enter Try.func44, Try.ntmps44
  go_wp2_with fail
  refine HC.out.mono ?_
  rintro e w2 ⟨rfl, hb⟩
  have hx2 := HX.out.below hb (by simp)
  have HX2 := Lib.hid hx2
  have HB2 := Lib.hid (below_tr HB.out hb)
  have c0 := hx2.cell 0
  have c1 := hx2.cell 1
  simp at c0 c1
  obtain ⟨b, o, x, hA, hblt, hx, h0, h1, h2, h3⟩ := (HV.out.sls.below (below_tr HB.out hb)).atS (show k < sn by omega)
  rw [HS.out] at hx; cases hx
  subst hA
  have hwlt := hx2.lt
  clear hb hx2 HC HX
  go_upto_region 7 with (first
    | (go_at_call 69; (first | with_reducible refine (HW1.out _).mono ?_ | with_reducible refine (HW2.out _).mono ?_); rintro e w5 ⟨rfl, rfl⟩)
    | (go_at_call 61; refine (HFU.out _).mono ?_; rintro e w5 ⟨rfl, rfl⟩))
  obtain ⟨W1, hW1⟩ : ∃ W1, W1 = w2.alloc (.cells (intsA (List.replicate pn 0)) 3) := ⟨_, rfl⟩
  rw [← hW1]
  have hb1 : Below w2.heap.size w2 W1 := by rw [hW1]; exact (Below.refl _ w2).alloc (Nat.le_refl _) _
  have hg0 : Blk W1 w2.heap.size 3 (intsA (dueL v.pars (s.way.take 0))) := by
    rw [List.take_zero, dueL_nil, HLP.out, hW1]; exact Blk.new _ _ _
  have HG0 := Lib.hid hg0
  have hx3 := HX2.out.below hb1 HX2.out.lt
  have HX3 := Lib.hid hx3
  have HB3 := Lib.hid (below_tr HB2.out hb1)
  have d1 := hx3.cell 1
  simp at d1
  have e0 := (hb1.cell (p := ⟨b, o + k * 4, none⟩) hblt).trans h0
  have hgw : w.heap.size < w2.heap.size := hwlt
  obtain ⟨g, hg⟩ : ∃ g, g = w2.heap.size := ⟨_, rfl⟩
  rw [← hg] at HG0 hgw ⊢
  clear hg
  clear hW1 hb1 hg0 hx3 c0 c1 h0 h1 h2 h3 hblt hmk HX2 HB2 hwlt
  go_wp2_with fail
  go_loopw [56] (fun i wr => ∃ j : Nat, j ≤ M ∧ i = .int .i64 j ∧ Blk wr g 3 (intsA (dueL v.pars (s.way.take j))) ∧ Blk wr w.heap.size 36 (vA PA pn pc (some ⟨b, o, none⟩) sn sc v) ∧ Below w.heap.size w wr) (fun i _ => M - (intOf i).toNat)
  case atStart => exact ⟨0, Nat.zero_le _, rfl, HG0.out, HX3.out, HB3.out⟩
  case round =>
    obtain ⟨j, hj, rfl, hbg, hbx, hb⟩ := hrel
    have HBG := Lib.hid hbg; have HBX := Lib.hid hbx; have HBr := Lib.hid hb
    have c0 := hbx.cell 0
    have c1 := hbx.cell 1
    simp at c0 c1
    by_cases hlt : j < M
    · have hwd := ((HV.out.below hb).way k s HS.out).1
      obtain ⟨b3, o3, x, hA3, hb3, hx, hxc⟩ := hwd.at1 (show j < s.n by omega)
      have hxb := HWT.out.1 x (by rw [List.take_length]; exact List.mem_of_getElem? hx)
      obtain ⟨q, rfl⟩ : ∃ q : Nat, x = (q : Int) := ⟨x.toNat, by omega⟩
      have hqp : q < pn := by have := HLP.out; omega
      obtain ⟨b4, o4, p, hA4, hb4, hp, p0, p1, p2, p3⟩ := ((HV.out.below hb).pars).atP hqp
      subst hA4
      have HTS := Lib.hid (take_snoc hx)
      have hold : ∃ z, (dueL v.pars (s.way.take j))[q]? = some z := ⟨_, List.getElem?_eq_getElem (by rw [dueL_len, HLP.out]; exact hqp)⟩
      obtain ⟨z, hz⟩ := hold
      have hcell : wr.cell? ⟨g, q, none⟩ = some (.int .i64 z) := by rw [hbg.cell q, intsA_get, hz]; rfl
      have hfz := hbg.frozen q
      have hjn : (j : Int) < (M : Int) := by omega
      have hj0 : (0 : Int) ≤ (j : Int) := by omega
      have hqn : (q : Int) < (pn : Int) := by omega
      have hq0 : (0 : Int) ≤ (q : Int) := by omega
      have hglt := hbg.lt
      have HP := Lib.hid hp
      have hplt : b4 < wr.heap.size := hb4
      clear hbg hbx hb hwd hx hxb hp hz
      cases hins : p.ins
      · rw [hins] at p3
        have HN := Lib.hid (dueL_not (W := s.way.take j) HP.out hins)
        clear hins
        go_wp2_with fail
        go_roundw
        case rel => exact ⟨j + 1, by omega, by go_num, by rw [HTS.out, HN.out]; exact HBG.out, HBX.out, HBr.out⟩
        case measure => simp [intOf] <;> omega
      · rw [hins] at p3
        have HN := Lib.hid (dueL_ins (W := s.way.take j) HP.out hins)
        have hset := HBG.out.set_ q (.int .i64 p.worth)
        rw [intsA_set, ← HN.out, ← HTS.out] at hset
        have H5 := Lib.hid hset
        have H6 := Lib.hid (HBX.out.far (by show w.heap.size ≠ g; omega) (p := ⟨g, q, none⟩) (.int .i64 p.worth))
        have H7 := Lib.hid (HBr.out.setCell (p := ⟨g, q, none⟩) (Nat.le_of_lt hgw) (.int .i64 p.worth))
        clear hins hset
        go_wp2_with fail
        go_roundw
        case rel => exact ⟨j + 1, by omega, by go_num, H5.out, H6.out, H7.out⟩
        case measure => simp [intOf] <;> omega
    · obtain rfl : j = M := by omega
      clear hbx hb c0 c1
      have HR := Lib.hid (Rd.of_blk hbg (show _ = pn by rw [dueL_len]; exact HLP.out))
      obtain ⟨L, hL⟩ : ∃ L, L = dueL v.pars (s.way.take j) := ⟨_, rfl⟩
      have HLB := Lib.hid (show ∀ x ∈ L, 0 ≤ x ∧ x ≤ 1000000000 from fun x hx => by rw [hL] at hx; have := dueL_bd HOK.out x hx; omega)
      have HLL := Lib.hid (show L.length = pn by rw [hL, dueL_len]; exact HLP.out)
      have HE := Lib.hid hL
      have hpl : paidL c L = if sumL L ≤ c then L else shareL c L := rfl
      rw [← hL] at HR
      clear hbg hL
      have HSM := Lib.hid (sum_c (c := pn) HR.out (by omega) (SumOk.of (M := 1000000000) (by omega) HLB.out (by rw [HLL.out]; omega)))
      by_cases hle : sumL L ≤ c
      · have hd : decide (sumL L ≤ c) = true := decide_eq_true hle
        rw [if_pos hle] at hpl
        have HPL := Lib.hid hpl
        obtain ⟨Z, hZ⟩ : ∃ Z, Z = sumL L := ⟨_, rfl⟩
        rw [← hZ] at HSM hd hle
        clear hpl hZ
        go_wp2_with (go_at_call 62; refine HSM.out.mono ?_; rintro e w5 ⟨rfl, rfl⟩)
        go_ret2
        exact ⟨_, _, rfl, by rw [← HE.out, HPL.out]; exact HR.out, HBr.out⟩
      · have hd : decide (sumL L ≤ c) = false := decide_eq_false hle
        rw [if_neg hle] at hpl
        have HPL := Lib.hid hpl
        have HSH := Lib.hid (share_c (c := pn) HR.out (by omega) hcb HLB.out (by omega))
        have HSL := Lib.hid (show (shareL c L).length = pn by unfold shareL; rw [outsAt_len, HLL.out])
        obtain ⟨Z, hZ⟩ : ∃ Z, Z = sumL L := ⟨_, rfl⟩
        rw [← hZ] at HSM hd hle
        clear hpl hZ
        go_wp2_with (first
          | (go_at_call 62; refine HSM.out.mono ?_; rintro e w5 ⟨rfl, rfl⟩)
          | (go_at_call 63; refine HSH.out.mono ?_; rintro e w5 ⟨v5, rfl, hown, hb5⟩))
        obtain ⟨A5, c5, rfl, _, hr5⟩ := Rd.of_own2 hown HSL.out
        go_ret2
        exact ⟨_, _, rfl, by rw [← HE.out, HPL.out]; exact hr5, below_tr HBr.out hb5⟩
end Go.Proofs.Ytphdndiikikecaa
