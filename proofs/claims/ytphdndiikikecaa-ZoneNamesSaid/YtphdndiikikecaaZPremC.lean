/- THE CONTRACT of zone.Premiums. -/
import Derived.Test.YtphdndiikikecaaZPrem
set_option linter.unusedVariables false
set_option linter.unusedSimpArgs false
namespace Go.Proofs.Ytphdndiikikecaa
open Go.RowKit Go.Proofs
attribute [local go_sem ↓] Go.wp_at_zero Go.wp_at_succ

theorem own_base {w : World} {base base' : Nat} {e : TypeId} {k n : Nat} {v : Value} {xs : List Value} (h : w.ownsRow base e k v n xs) (hb : base' ≤ base) : w.ownsRow base' e k v n xs := by
  refine ⟨h.1, ?_⟩
  rcases h.2 with h0 | ⟨g, cap, cur, hv, hbase, hrest⟩
  · exact .inl h0
  · exact .inr ⟨g, cap, cur, hv, Nat.le_trans hb hbase, hrest⟩
set_option maxRecDepth 100000 in
set_option maxHeartbeats 400000 in
theorem Premiums_bad {v : Vly} {PA SA : Option Addr} {pn pc sn sc : Nat} {coins : Int} {w : World} (h : RdV w PA pn SA sn v) (hpn : pn ≤ maxLen) (hsn : sn ≤ maxLen) (hbad : errV v ≠ 0) :
    Calls Try.prog 25 #[.agg #[.slice PA pn pc, .slice SA sn sc, .int .i64 v.s0, .int .i64 v.s1, .int .i64 v.s2], .int .i64 coins] w
      fun e w' => e = .returned (.tuple #[.slice none 0 0, .int .i64 (errV v)]) ∧ Below w.heap.size w w' := by
  have hne : (errV v == 0) = false := by simpa using hbad
  have hb0 : Below w.heap.size w (w.alloc (.cells (vA PA pn pc SA sn sc v) 36)) := (Below.refl _ w).alloc (Nat.le_refl _) _
  have HC := Lib.hid (checkV_c (pc := pc) (sc := sc) (h.below hb0) hpn hsn)
  obtain ⟨E, hE⟩ : ∃ E, E = errV v := ⟨_, rfl⟩
  rw [← hE] at HC hne hbad ⊢
  have HB := Lib.hid hb0
  clear h hE hb0
  go_enter Try.func25, Try.ntmps25
  go_wp2_with fail
  refine HC.out.mono ?_
  rintro e w2 ⟨rfl, hb⟩
  have HB2 := Lib.hid (below_tr HB.out hb)
  clear hb
  go_wp2_with fail
  go_ret2
  exact ⟨rfl, HB2.out⟩
set_option maxRecDepth 100000 in
set_option maxHeartbeats 400000 in
theorem Premiums_fund {v : Vly} {PA SA : Option Addr} {pn pc sn sc : Nat} {coins : Int} {w : World} (h : RdV w PA pn SA sn v) (hok : VOk v) (hf : inB coins 0 100000000 = false) :
    Calls Try.prog 25 #[.agg #[.slice PA pn pc, .slice SA sn sc, .int .i64 v.s0, .int .i64 v.s1, .int .i64 v.s2], .int .i64 coins] w
      fun e w' => e = .returned (.tuple #[.slice none 0 0, .int .i64 2]) ∧ Below w.heap.size w w' := by
  have hlp := h.pars.len; have hls := h.sls.len
  have hpn := hok.pn; have hsn := hok.sn
  have hb0 : Below w.heap.size w (w.alloc (.cells (vA PA pn pc SA sn sc v) 36)) := (Below.refl _ w).alloc (Nat.le_refl _) _
  have HC := Lib.hid (checkV_c (pc := pc) (sc := sc) (h.below hb0) (by unfold maxLen; omega) (by unfold maxLen; omega))
  rw [errV_zero.2 hok] at HC
  have HB := Lib.hid hb0
  have HF := Lib.hid (fun W => fund_c coins W)
  rw [hf] at HF
  clear h hb0 hok hf
  go_enter Try.func25, Try.ntmps25
  go_wp2_with fail
  refine HC.out.mono ?_
  rintro e w2 ⟨rfl, hb⟩
  have HB2 := Lib.hid (below_tr HB.out hb)
  clear hb
  go_wp2_with fail
  refine (HF.out _).mono ?_
  rintro e w3 ⟨rfl, rfl⟩
  go_wp2_with fail
  go_ret2
  exact ⟨rfl, HB2.out⟩

/-- premiums by weights: none, where all weights are 0 -/
def PremP (G : List Int) (coins : Int) (pn base : Nat) (e : Ending) (w' : World) : Prop :=
  if sumL G = 0 then e = .returned (.tuple #[.slice none 0 0, .int .i64 7]) else ∃ u, e = .returned (.tuple #[u, .int .i64 0]) ∧ w'.ownsRow base 3 1 u pn ((shareL coins G).flatMap enc1)
set_option maxRecDepth 100000 in
set_option maxHeartbeats 1000000 in
theorem Premiums_ok {v : Vly} {PA SA : Option Addr} {pn pc sn sc : Nat} {coins : Int} {w : World} (h : RdV w PA pn SA sn v) (hok : VOk v) (hf : inB coins 0 100000000 = true) :
    Calls Try.prog 25 #[.agg #[.slice PA pn pc, .slice SA sn sc, .int .i64 v.s0, .int .i64 v.s1, .int .i64 v.s2], .int .i64 coins] w
      fun e w' => PremP (wtsL v) coins pn w.heap.size e w' ∧ Below w.heap.size w w' := by
  have hlp := h.pars.len; have hls := h.sls.len
  have hpn := hok.pn; have hsn := hok.sn
  have hb0 : Below w.heap.size w (w.alloc (.cells (vA PA pn pc SA sn sc v) 36)) := (Below.refl _ w).alloc (Nat.le_refl _) _
  have HB := Lib.hid hb0
  have HX := Lib.hid (Blk.new w 36 (vA PA pn pc SA sn sc v))
  have HV := Lib.hid h
  have HOK := Lib.hid hok
  have HC := Lib.hid (checkV_c (pc := pc) (sc := sc) (h.below hb0) (by unfold maxLen; omega) (by unfold maxLen; omega))
  rw [errV_zero.2 hok] at HC
  have HF := Lib.hid (fun W => fund_c coins W)
  rw [hf] at HF
  have hf2 := inB_iff.1 hf
  clear h hb0 hok hf
  obtain ⟨D, hD⟩ : ∃ D, D = dangs v (endsT v true) := ⟨_, rfl⟩
  obtain ⟨G, hG⟩ : ∃ G, G = wtsL v := ⟨_, rfl⟩
  have hDl : D.length = pn := by rw [hD, dangs_len, hlp]
  have hGl : G.length = D.length := by rw [hG, wtsL_len, hlp, hDl]
  have HDG := Lib.hid (fun (i : Nat) (p : Par) (d : Int) (hp : v.pars[i]? = some p) (hd : D[i]? = some d) => show G[i]? = some (if p.ins then d * p.worth else 0) from by rw [hG]; exact wtsL_get hp (by rw [← hD]; exact hd))
  have HDB := Lib.hid (fun (i : Nat) (d : Int) (hd : D[i]? = some d) => dangs_bd HOK.out (tr := endsT v true) (by rw [← hD]; exact hd))
  have HDE := Lib.hid hD
  have HGB := Lib.hid (show ∀ x ∈ G, 0 ≤ x ∧ x ≤ 1000000000 by rw [hG]; exact wtsL_bd HOK.out)
  rw [← hG]
  clear hD hG
  go_enter Try.func25, Try.ntmps25
  go_wp2_with fail
  refine HC.out.mono ?_
  rintro e w1 ⟨rfl, hb⟩
  have HB1 := Lib.hid (below_tr HB.out hb)
  have HX1 := Lib.hid (HX.out.below hb (by simp))
  have HE := Lib.hid (end_high_c (pc := pc) (sc := sc) (HV.out.below HB1.out) (by omega))
  have hcells : w1.cell? ⟨w.heap.size, 0, none⟩ = some (.slice PA pn pc) ∧ w1.cell? ⟨w.heap.size, 1, none⟩ = some (.slice SA sn sc) ∧ w1.cell? ⟨w.heap.size, 2, none⟩ = some (.int .i64 v.s0) ∧ w1.cell? ⟨w.heap.size, 3, none⟩ = some (.int .i64 v.s1) ∧ w1.cell? ⟨w.heap.size, 4, none⟩ = some (.int .i64 v.s2) :=
    (show SV w1 w.heap.size (vA PA pn pc SA sn sc v) w1 from ⟨Below.refl _ _, HX1.out⟩).cells
  obtain ⟨q0, q1, q2, q3, q4⟩ := hcells
  clear hb HC HX
  go_wp2_with fail
  refine (HF.out _).mono ?_
  rintro e w1' ⟨rfl, rfl⟩
  go_wp2_with fail
  refine HE.out.mono ?_
  rintro e w2 ⟨TA, tc, rfl, htc, hT, hb⟩
  have HB2 := Lib.hid (below_tr HB1.out hb)
  have HX2 := Lib.hid (HX1.out.below hb HX1.out.lt)
  have HD := Lib.hid (dangers_c (pc := pc) (sc := sc) (tc := tc) HOK.out (endsT_fits HOK.out true) (HV.out.below HB2.out) hT)
  clear hb hT HX1 HB1 HE HF
  go_wp2_with fail
  refine HD.out.mono ?_
  rintro e w3 ⟨g, rfl, hg, hblk, hb⟩
  have HB3 := Lib.hid (below_tr HB2.out hb)
  have HX3 := Lib.hid (HX2.out.below hb (by have := HX2.out.lt; omega))
  have HG := Lib.hid hblk
  rw [← HDE.out] at HG
  have hgw : w.heap.size < g := by have := HB2.out.size; have := HX2.out.lt; omega
  have c0 := HX3.out.cell 0
  simp at c0
  clear hb hblk HD HX2 HB2
  go_wp2_with fail
  go_loopw [24] (fun i wr => ∃ k : Nat, k ≤ pn ∧ i = .int .i64 k ∧ Blk wr g 3 (intsA (half G D k)) ∧ Below w.heap.size w wr) (fun i _ => pn - (intOf i).toNat)
  case atStart => exact ⟨0, Nat.zero_le _, rfl, by rw [half_zero]; exact HG.out, HB3.out⟩
  case round =>
    obtain ⟨k, hk, rfl, hblk, hb⟩ := hrel
    have HK := Lib.hid hblk; have HB4 := Lib.hid hb
    by_cases hlt : k < pn
    · obtain ⟨b, o, p, hA, _, hp, p0, p1, p2, p3⟩ := ((HV.out.below hb).pars).atP hlt
      subst hA
      have hd : D[k]? = some (D[k]'(by omega)) := List.getElem?_eq_getElem (by omega)
      obtain ⟨d, hdd⟩ : ∃ d, d = D[k]'(by omega) := ⟨_, rfl⟩
      rw [← hdd] at hd
      have hcell : wr.cell? ⟨g, k, none⟩ = some (.int .i64 d) := by
        rw [hblk.cell k, intsA_get, half_get hGl (by omega), hd]; rfl
      have hfz := hblk.frozen k
      have hgx := HDG.out k p d hp hd
      have hdb := HDB.out k d hd
      have hpb := HOK.out.parcel hp
      have hmul : 0 ≤ d * p.worth ∧ d * p.worth ≤ 1000000000 := by
        constructor
        · exact Int.mul_nonneg hdb.1 hpb.1.1
        · calc d * p.worth ≤ 10000 * p.worth := Int.mul_le_mul_of_nonneg_right hdb.2 hpb.1.1
            _ ≤ 10000 * 100000 := Int.mul_le_mul_of_nonneg_left hpb.1.2 (by omega)
      have hw1 : IntKind.i64.wrap (d * p.worth) = d * p.worth := wi (by omega)
      have hglt := hblk.lt
      have hne : ¬ (g = wr.heap.size) := by omega
      have hk0 : (0 : Int) ≤ (k : Int) := by omega
      have hkn : (k : Int) < (pn : Int) := by omega
      clear hp hd hdd
      cases hins : p.ins
      · rw [hins] at hgx p3
        have hset := half_set hGl hgx
        simp only [Bool.false_eq_true, if_false] at hset
        have HSET := Lib.hid hset
        have hB5 := (HK.out.set_ k (.int .i64 (d * p.worth))).set_ k (.int .i64 0)
        rw [intsA_set, intsA_set, List.set_set, HSET.out] at hB5
        have hbb := (HB4.out.setCell (p := ⟨g, k, none⟩) (Nat.le_of_lt hgw) (.int .i64 (d * p.worth))).setCell (p := ⟨g, k, none⟩) (Nat.le_of_lt hgw) (.int .i64 0)
        have H5 := Lib.hid (blk_drew (hB5.alloc (.cells #[.int .i64 p.worth, .int .i64 p.price, .int .i64 p.people, .bool false] 111)))
        have H6 := Lib.hid ((hbb.alloc hbb.size (.cells #[.int .i64 p.worth, .int .i64 p.price, .int .i64 p.people, .bool false] 111)).drew)
        clear hset hgx hB5 hbb hblk hb
        go_wp2_with fail
        go_region
        all_goals
          go_wp2_with fail
          go_roundw
          case rel => exact ⟨k + 1, by omega, by go_num, H5.out, H6.out⟩
          case measure => simp [intOf] <;> omega
      · rw [hins] at hgx p3
        have hset := half_set hGl hgx
        simp only [if_true] at hset
        have HSET := Lib.hid hset
        have hB5 := HK.out.set_ k (.int .i64 (d * p.worth))
        rw [intsA_set, HSET.out] at hB5
        have hbb := HB4.out.setCell (p := ⟨g, k, none⟩) (Nat.le_of_lt hgw) (.int .i64 (d * p.worth))
        have H5 := Lib.hid (blk_drew (hB5.alloc (.cells #[.int .i64 p.worth, .int .i64 p.price, .int .i64 p.people, .bool true] 111)))
        have H6 := Lib.hid ((hbb.alloc hbb.size (.cells #[.int .i64 p.worth, .int .i64 p.price, .int .i64 p.people, .bool true] 111)).drew)
        clear hset hgx hB5 hbb hblk hb
        go_wp2_with fail
        go_region
        all_goals
          go_wp2_with fail
          go_roundw
          case rel => exact ⟨k + 1, by omega, by go_num, H5.out, H6.out⟩
          case measure => simp [intOf] <;> omega
    · obtain rfl : k = pn := by omega
      rw [half_all hGl hDl] at HK
      have hGn : G.length = k := by rw [hGl, hDl]
      have hrd := Rd.of_blk HK.out hGn
      have hsb := sumL_bd (by omega) HGB.out
      have HSM := Lib.hid (sum_c (c := k) hrd (by omega) (SumOk.of (M := 1000000000) (by omega) HGB.out (by omega)))
      obtain ⟨S, hS⟩ : ∃ S, S = sumL G := ⟨_, rfl⟩
      rw [← hS] at HSM hsb
      have HSH := Lib.hid (fun hp => share_c (coins := coins) (c := k) hrd (by omega) hf2 HGB.out hp)
      have HSS := Lib.hid hS
      rw [← hS] at HSH
      clear hblk hb hS hrd
      by_cases hz : S = 0
      · subst hz
        go_wp2_with (go_at_call 62; refine HSM.out.mono ?_; rintro e w' ⟨rfl, rfl⟩)
        go_ret2
        refine ⟨?_, HB4.out⟩
        unfold PremP
        rw [if_pos HSS.out.symm]
        rfl
      · have hz2 : (S == 0) = false := by rw [beq_eq_false_iff_ne]; exact hz
        go_wp2_with (go_at_call 62; refine HSM.out.mono ?_; rintro e w' ⟨rfl, rfl⟩)
        refine (HSH.out (by omega)).mono ?_
        rintro e w5 ⟨u, rfl, hown, hb5⟩
        have HO := Lib.hid (own_base hown HB4.out.size)
        have HB5 := Lib.hid (below_tr HB4.out hb5)
        clear hown hb5
        go_wp2_with fail
        go_ret2
        refine ⟨?_, HB5.out⟩
        unfold PremP
        rw [if_neg (by rw [← HSS.out]; exact hz)]
        exact ⟨u, rfl, HO.out⟩
end Go.Proofs.Ytphdndiikikecaa
