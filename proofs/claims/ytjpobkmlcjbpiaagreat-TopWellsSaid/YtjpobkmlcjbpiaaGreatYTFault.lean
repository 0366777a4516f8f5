/- CONTRACT of sackungtop.hears: a reading that is written and read. -/
import Derived.Test.YtjpobkmlcjbpiaaGreatWrite
import Derived.Test.YtjpobkmlcjbpiaaGreatRead
import Derived.Test.YtjpobkmlcjbpiaaGreatRSort
import Derived.Test.YtjpobkmlcjbpiaaGreatYRow
import Derived.Test.YtjpobkmlcjbpiaaGreatYTLeaf
import Derived.Test.YtjpobkmlcjbpiaaGreatYPassLaw
set_option linter.unusedVariables false
set_option linter.unusedSimpArgs false
namespace Go.Proofs.YtjpobkmlcjbpiaaGreat
open Go.RowKit Go.Proofs Ga
attribute [local go_sem ↓] Go.wp_at_zero Go.wp_at_succ

theorem err_one (r : Rdg) (h : validB r = true) : errR [r] = 0 := by
  refine errR_zero.2 ⟨by simp, Ga.allB_iff.2 fun i x hx => ?_⟩
  have hm := List.mem_of_getElem? hx
  have e : x = r := by simpa using hm
  rw [e]; exact h
theorem bytes_one (r : Rdg) : bytesOf [r] = bOf [.inr r] := by simp [bytesOf, bOf, bI]
theorem good_one (r : Rdg) (h : validB r = true) : Ga.Good [.inr r] := by intro j hj; simp at hj; subst hj; exact h
theorem read_one (r : Rdg) (h : validB r = true) : readOf (bytesOf [r]) = [r] ∧ lostOf (bytesOf [r]) = [] := by
  rw [bytes_one]
  have := read_items (good_one r h)
  exact ⟨this.1, this.2⟩
set_option maxRecDepth 100000 in
set_option maxHeartbeats 1000000 in
theorem hears_c (w : World) : Calls Tryz.prog 6 #[] w fun e w' => e = .returned (.bool true) ∧ Below w.heap.size w w' := by
  have hv : validB ⟨1, 2, 3, 4⟩ = true := by decide
  have hrd : Rd encR 4 (w.alloc (.cells #[.int .i64 1, .int .i64 2, .int .i64 3, .int .i64 4] 55)) (some ⟨w.heap.size, 0, none⟩) 1 [⟨1, 2, 3, 4⟩] := Rd.of_blkE encR_len (Blk.new w _ _) rfl rfl
  have hwr := Write_c (c := 1) hrd (by unfold maxLen; omega) (Nat.le_refl _)
  rw [err_one _ hv] at hwr
  have HWR := Lib.hid hwr; have HV := Lib.hid hv
  have HB := Lib.hid ((Below.refl w.heap.size w).alloc (Nat.le_refl _) (.cells #[.int .i64 1, .int .i64 2, .int .i64 3, .int .i64 4] 55))
  clear hrd hwr hv
  go_enter Tryz.func6, Tryz.ntmps6
  go_wp2_with fail
  refine HWR.out.mono ?_
  rintro e w3 ⟨⟨A1, m1, c1, rfl, hm1, _, hok⟩, hb3⟩
  obtain ⟨hm1e, hown1⟩ := hok (by trivial)
  obtain rfl : m1 = 16 := by omega
  have hrd := Read_c (Rd.of_own encB_len hown1 (by rw [bytesOf_len]; rfl)) hm1 (by omega)
  rw [(read_one _ HV.out).1, (read_one _ HV.out).2] at hrd
  have HB3 := Lib.hid (below_tr HB.out hb3); have HRD := Lib.hid hrd
  clear hok hown1 hm1e hb3 HWR hrd HB
  go_wp2_with fail
  refine HRD.out.mono ?_
  rintro e w4 ⟨A2, n2, c2, A3, n3, c3, rfl, hc2, hc3, hr2, hr3, hb⟩
  obtain rfl : n2 = 1 := by have h1 := hr2.len; simpa using h1.symm
  obtain rfl : n3 = 0 := by have h1 := hr3.len; simpa using h1.symm
  obtain ⟨b, o, x, rfl, _, hx, e0, e1, e2, e3⟩ := hr2.at4 (i := 0) (by omega)
  obtain rfl : x = ⟨1, 2, 3, 4⟩ := by simpa using hx.symm
  have HB4 := Lib.hid (below_tr HB3.out hb)
  clear hb hr2 hr3 HRD HB3 hx
  simp only [Nat.zero_mul, Nat.add_zero] at e0 e1 e2 e3
  go_wp2_with fail
  go_ret
  exact ⟨rfl, HB4.out⟩
end Go.Proofs.YtjpobkmlcjbpiaaGreat

namespace Go.Proofs.YtjpobkmlcjbpiaaGreat
open Go.RowKit Go.Proofs
attribute [local go_sem ↓] Go.wp_at_zero Go.wp_at_succ

theorem celOk_B {n : Nat} {x : Cel} : celOk n x ↔ (inB x.cap 1 100000 && upB x.lo x.hi x.cap && inB x.keep 0 x.cap && inB x.pass 0 1000 && inB x.to (-1) ((n : Int) - 1) && inB x.pump 0 100000) = true := by
  unfold celOk
  simp only [Bool.and_eq_true, inB_iff, upB_iff]
  constructor
  · rintro ⟨h1, h2, h3, h4, h5, h6⟩; exact ⟨⟨⟨⟨⟨h1, h2⟩, h3⟩, h4⟩, h5⟩, h6⟩
  · rintro ⟨⟨⟨⟨⟨h1, h2⟩, h3⟩, h4⟩, h5⟩, h6⟩; exact ⟨h1, h2, h3, h4, h5, h6⟩
theorem grd_no {n k : Nat} {C : List Cel} {sn0 sn1 so0 so1 melt : Int} {x : Cel} (hl : C.length = n) (hx : C[k]? = some x) (h : ¬ celOk n x) : groundOk C sn0 sn1 so0 so1 melt = false := by
  rw [Bool.eq_false_iff]
  intro hg
  have := (groundOk_iff.1 hg).2.1 x (List.mem_of_getElem? hx)
  rw [hl] at this
  exact h this
theorem grd_self {k : Nat} {C : List Cel} {sn0 sn1 so0 so1 melt : Int} {x : Cel} (hx : C[k]? = some x) (h : x.to = (k : Int)) : groundOk C sn0 sn1 so0 so1 melt = false := by
  rw [Bool.eq_false_iff]
  intro hg
  have h1 := (groundOk_iff.1 hg).2.2.2.2.2 k (List.getElem?_eq_some_iff.1 hx).1
  rw [celA_at hx] at h1
  exact h1 h
set_option linter.unusedSimpArgs false in
set_option maxRecDepth 100000 in
set_option maxHeartbeats 4000000 in
theorem rGround_c {A : Option Addr} {n c : Nat} {sn0 sn1 so0 so1 melt : Int} {C : List Cel} {w : World} (h : Rd encCel 7 w A n C) (hn : n ≤ 1000000) :
    Calls Tryz.prog 17 #[.agg #[.slice A n c, .int .i64 sn0, .int .i64 sn1, .int .i64 so0, .int .i64 so1, .int .i64 melt]] w fun e w' => e = .returned (.bool (groundOk C sn0 sn1 so0 so1 melt)) ∧ Below w.heap.size w w' := by
  have hlen := h.len
  have hv : groundOk C sn0 sn1 so0 so1 melt = (inB (n : Int) 1 8 && allB (fun c => decide (celOk C.length c)) C && upB sn0 sn1 100000 && upB so0 so1 1000 && inB melt 0 50 && noSelf C) := by unfold groundOk; rw [hlen]
  have hal := (Below.refl w.heap.size w).alloc (Nat.le_refl _) (.cells #[.slice A n c, .int .i64 sn0, .int .i64 sn1, .int .i64 so0, .int .i64 so1, .int .i64 melt] 26)
  have HG := Lib.hid (Blk.new w 26 #[.slice A n c, .int .i64 sn0, .int .i64 sn1, .int .i64 so0, .int .i64 so1, .int .i64 melt]); have HB := Lib.hid hal; have HM := Lib.hid hv; have HRC := Lib.hid hlen; have HC := Lib.hid (h.below hal)
  clear hal hv hlen h
  go_enter Tryz.func17, Tryz.ntmps17
  go_upto_region 1 with fail
  revert HG HB HC
  generalize World.alloc w _ = w1
  intro HG HB HC
  have g0 := HG.out.cell 0
  simp at g0
  go_wp2_with fail
  go_at_call 19
  refine (rIn_c (n : Int) 1 8 _).mono ?_
  rintro e v0 ⟨rfl, rfl⟩
  clear g0
  obtain ⟨q0, hq0⟩ : ∃ q, q = inB (n : Int) 1 8 := ⟨_, rfl⟩
  rw [← hq0]
  have HQ0 := Lib.hid hq0
  clear hq0
  cases q0
  · go_wp2_with fail
    go_ret
    exact ⟨by rw [HM.out]; simp [← HQ0.out], HB.out⟩
  · skip
    have g1 := HG.out.cell 1; have g2 := HG.out.cell 2
    simp at g1 g2
    go_wp2_with fail
    go_at_call 18
    refine (rUp_c sn0 sn1 100000 _).mono ?_
    rintro e v1 ⟨rfl, hb9⟩
    have t0 := HG.out.below hb9 HG.out.lt; have t1 := below_tr HB.out hb9; have t2 := HC.out.below hb9
    clear HG HB HC
    have HG := Lib.hid t0; have HB := Lib.hid t1; have HC := Lib.hid t2
    clear t0 t1 t2
    clear hb9
    clear g1 g2
    obtain ⟨q1, hq1⟩ : ∃ q, q = upB sn0 sn1 100000 := ⟨_, rfl⟩
    rw [← hq1]
    have HQ1 := Lib.hid hq1
    clear hq1
    cases q1
    · go_wp2_with fail
      go_ret
      exact ⟨by rw [HM.out]; simp [← HQ1.out], HB.out⟩
    · skip
      have g3 := HG.out.cell 3; have g4 := HG.out.cell 4
      simp at g3 g4
      go_wp2_with fail
      go_at_call 18
      refine (rUp_c so0 so1 1000 _).mono ?_
      rintro e v2 ⟨rfl, hb9⟩
      have t0 := HG.out.below hb9 HG.out.lt; have t1 := below_tr HB.out hb9; have t2 := HC.out.below hb9
      clear HG HB HC
      have HG := Lib.hid t0; have HB := Lib.hid t1; have HC := Lib.hid t2
      clear t0 t1 t2
      clear hb9
      clear g3 g4
      obtain ⟨q2, hq2⟩ : ∃ q, q = upB so0 so1 1000 := ⟨_, rfl⟩
      rw [← hq2]
      have HQ2 := Lib.hid hq2
      clear hq2
      cases q2
      · go_wp2_with fail
        go_ret
        exact ⟨by rw [HM.out]; simp [← HQ2.out], HB.out⟩
      · skip
        have g5 := HG.out.cell 5
        simp at g5
        go_wp2_with fail
        go_at_call 19
        refine (rIn_c melt 0 50 _).mono ?_
        rintro e v3 ⟨rfl, rfl⟩
        clear g5
        obtain ⟨q3, hq3⟩ : ∃ q, q = inB melt 0 50 := ⟨_, rfl⟩
        rw [← hq3]
        have HQ3 := Lib.hid hq3
        clear hq3
        cases q3
        · go_wp2_with fail
          go_ret
          exact ⟨by rw [HM.out]; simp [← HQ3.out], HB.out⟩
        · skip
          have g0 := HG.out.cell 0
          simp at g0
          go_wp2_with fail
          have HW := Lib.hid (Below.refl v2.heap.size v2)
          go_loopw [4, 5] (fun i _ wr => ∃ k : Nat, k ≤ n ∧ i = .int .i64 (k : Int) ∧ Below v2.heap.size v2 wr ∧ ∀ j x, j < k → C[j]? = some x → celOk n x ∧ x.to ≠ (j : Int)) (fun i _ _ => n - (intOf i).toNat)
          case atStart => exact ⟨0, Nat.zero_le _, rfl, HW.out, fun j x hj => absurd hj (by omega)⟩
          case round =>
            obtain ⟨k, hk, rfl, hb, hall⟩ := hrel
            have HALL := Lib.hid hall
            clear hall HW g0
            by_cases hlt : k < n
            · obtain ⟨b, o, x, rfl, hbl, hx, y0, y1, y2, y3, y4, y5, y6⟩ := (HC.out.below hb).atCel hlt
              have hkn : (k : Int) < (n : Int) := by omega
              have hk0 : (0 : Int) ≤ (k : Int) := by omega
              have hg9 := HG.out.below hb HG.out.lt
              have g0 := hg9.cell 0
              simp at g0
              have hal := (Below.refl wr.heap.size wr).alloc (Nat.le_refl _) (.cells #[.int .i64 x.lo, .int .i64 x.hi, .int .i64 x.cap, .int .i64 x.keep, .int .i64 x.pass, .int .i64 x.to, .int .i64 x.pump] 76)
              have HX := Lib.hid (Blk.new wr 76 #[.int .i64 x.lo, .int .i64 x.hi, .int .i64 x.cap, .int .i64 x.keep, .int .i64 x.pass, .int .i64 x.to, .int .i64 x.pump])
              have HB0 := Lib.hid HB.out
              have HBR := Lib.hid (below_tr hb hal)
              have hb0 := below_tr (below_tr HB.out hb) hal
              clear HB
              have HB := Lib.hid hb0; have HGX := Lib.hid hx
              clear hb hx hal hg9 hb0
              go_upto_region 8 with fail
              clear y0 y1 y2 y3 y4 y5 y6 g0
              revert HX HBR HB
              generalize World.alloc wr _ = w6
              intro HX HBR HB
              have x2 := HX.out.cell 2
              simp at x2
              go_wp2_with fail
              go_at_call 19
              refine (rIn_c x.cap 1 100000 _).mono ?_
              rintro e u0 ⟨rfl, rfl⟩
              clear x2
              obtain ⟨p0, hp0⟩ : ∃ q, q = inB x.cap 1 100000 := ⟨_, rfl⟩
              rw [← hp0]
              have HP0 := Lib.hid hp0
              clear hp0
              cases p0
              · go_wp2_with fail
                go_ret
                exact ⟨(grd_no HRC.out HGX.out (fun h => by have h1 := (celOk_B.1 h); simp [← HP0.out] at h1)).symm ▸ rfl, HB.out⟩
              · skip
                have x0 := HX.out.cell 0; have x1 := HX.out.cell 1; have x2 := HX.out.cell 2
                simp at x0 x1 x2
                go_wp2_with fail
                go_at_call 18
                refine (rUp_c x.lo x.hi x.cap _).mono ?_
                rintro e u1 ⟨rfl, hb9⟩
                have t0 := HX.out.below hb9 HX.out.lt; have t1 := below_tr HBR.out hb9; have t2 := below_tr HB.out hb9
                clear HX HBR HB
                have HX := Lib.hid t0; have HBR := Lib.hid t1; have HB := Lib.hid t2
                clear t0 t1 t2
                clear hb9
                clear x0 x1 x2
                obtain ⟨p1, hp1⟩ : ∃ q, q = upB x.lo x.hi x.cap := ⟨_, rfl⟩
                rw [← hp1]
                have HP1 := Lib.hid hp1
                clear hp1
                cases p1
                · go_wp2_with fail
                  go_ret
                  exact ⟨(grd_no HRC.out HGX.out (fun h => by have h1 := (celOk_B.1 h); simp [← HP1.out] at h1)).symm ▸ rfl, HB.out⟩
                · skip
                  have x3 := HX.out.cell 3; have x2 := HX.out.cell 2
                  simp at x3 x2
                  go_wp2_with fail
                  go_at_call 19
                  refine (rIn_c x.keep 0 x.cap _).mono ?_
                  rintro e u2 ⟨rfl, rfl⟩
                  clear x3 x2
                  obtain ⟨p2, hp2⟩ : ∃ q, q = inB x.keep 0 x.cap := ⟨_, rfl⟩
                  rw [← hp2]
                  have HP2 := Lib.hid hp2
                  clear hp2
                  cases p2
                  · go_wp2_with fail
                    go_ret
                    exact ⟨(grd_no HRC.out HGX.out (fun h => by have h1 := (celOk_B.1 h); simp [← HP2.out] at h1)).symm ▸ rfl, HB.out⟩
                  · skip
                    have x4 := HX.out.cell 4
                    simp at x4
                    go_wp2_with fail
                    go_at_call 19
                    refine (rIn_c x.pass 0 1000 _).mono ?_
                    rintro e u3 ⟨rfl, rfl⟩
                    clear x4
                    obtain ⟨p3, hp3⟩ : ∃ q, q = inB x.pass 0 1000 := ⟨_, rfl⟩
                    rw [← hp3]
                    have HP3 := Lib.hid hp3
                    clear hp3
                    cases p3
                    · go_wp2_with fail
                      go_ret
                      exact ⟨(grd_no HRC.out HGX.out (fun h => by have h1 := (celOk_B.1 h); simp [← HP3.out] at h1)).symm ▸ rfl, HB.out⟩
                    · skip
                      have x5 := HX.out.cell 5
                      simp at x5
                      go_wp2_with fail
                      go_at_call 19
                      refine (rIn_c x.to (-1) ((n : Int) - 1) _).mono ?_
                      rintro e u4 ⟨rfl, rfl⟩
                      clear x5
                      obtain ⟨p4, hp4⟩ : ∃ q, q = inB x.to (-1) ((n : Int) - 1) := ⟨_, rfl⟩
                      rw [← hp4]
                      have HP4 := Lib.hid hp4
                      clear hp4
                      cases p4
                      · go_wp2_with fail
                        go_ret
                        exact ⟨(grd_no HRC.out HGX.out (fun h => by have h1 := (celOk_B.1 h); simp [← HP4.out] at h1)).symm ▸ rfl, HB.out⟩
                      · skip
                        by_cases hself : x.to = (k : Int)
                        · have hsb : (x.to == (k : Int)) = true := by simp [hself]
                          have x5 := HX.out.cell 5
                          simp at x5
                          go_wp2_with fail
                          go_ret
                          exact ⟨(grd_self HGX.out hself).symm ▸ rfl, HB.out⟩
                        · have hsb : (x.to == (k : Int)) = false := by rw [beq_eq_false_iff_ne]; exact hself
                          have x5 := HX.out.cell 5
                          simp at x5
                          have x6 := HX.out.cell 6
                          simp at x6
                          go_wp2_with fail
                          go_at_call 19
                          refine (rIn_c x.pump 0 100000 _).mono ?_
                          rintro e v0 ⟨rfl, rfl⟩
                          clear x6
                          obtain ⟨q0, hq0⟩ : ∃ q, q = inB x.pump 0 100000 := ⟨_, rfl⟩
                          rw [← hq0]
                          have HQ0 := Lib.hid hq0
                          clear hq0
                          cases q0
                          · go_wp2_with fail
                            go_ret
                            exact ⟨(grd_no HRC.out HGX.out (fun h => by have h1 := (celOk_B.1 h); simp [← HQ0.out] at h1)).symm ▸ rfl, HB.out⟩
                          · skip
                            go_wp2_with fail
                            go_roundw
                            case rel => exact ⟨k + 1, by omega, by go_num, HBR.out, fun j y hj hy => by
                              rcases Nat.lt_or_ge j k with hjk | hjk
                              · exact HALL.out j y hjk hy
                              · obtain rfl : j = k := by omega
                                have hxy : y = x := Option.some.inj (hy.symm.trans HGX.out)
                                subst hxy
                                exact ⟨celOk_B.2 (by simp [← HQ0.out, ← HP0.out, ← HP1.out, ← HP2.out, ← HP3.out, ← HP4.out]), hself⟩⟩
                            case measure => simp [intOf] <;> omega
            · obtain rfl : k = n := by omega
              have HBW := Lib.hid hb
              have g0 := (HG.out.below hb HG.out.lt).cell 0
              simp at g0
              clear hb
              go_wp2_with fail
              go_ret
              refine ⟨?_, below_tr HB.out HBW.out⟩
              have e1 : allB (fun c => decide (celOk C.length c)) C = true := by
                simp only [allB, List.all_eq_true, decide_eq_true_eq]
                intro y hy
                obtain ⟨j, hj⟩ := List.getElem?_of_mem hy
                rw [HRC.out]
                exact (HALL.out j y (by have := (List.getElem?_eq_some_iff.1 hj).1; have := HRC.out; omega) hj).1
              have e2 : noSelf C = true := by
                rw [noSelf_iff]
                intro j hj
                have hj2 : C[j]? = some (C[j]'hj) := List.getElem?_eq_getElem hj
                rw [celA_at hj2]
                exact (HALL.out j _ (by have := HRC.out; omega) hj2).2
              rw [HM.out, e1, e2, ← HQ0.out, ← HQ1.out, ← HQ2.out, ← HQ3.out]
              rfl

set_option linter.unusedSimpArgs false in
set_option maxRecDepth 100000 in
set_option maxHeartbeats 4000000 in
theorem rFault_c {A DA : Option Addr} {n c dn dc : Nat} {sn0 sn1 so0 so1 melt : Int} {C : List Cel} {D : List Dy} {w : World} (h : Rd encCel 7 w A n C) (hn : n ≤ 1000000) (hd : Rd encDy 3 w DA dn D) (hdn : dn ≤ 1000000) :
    Calls Tryz.prog 5 #[.agg #[.slice A n c, .int .i64 sn0, .int .i64 sn1, .int .i64 so0, .int .i64 so1, .int .i64 melt], .slice DA dn dc] w fun e w' => e = .returned (.int .i64 (faultW C sn0 sn1 so0 so1 melt D)) ∧ Below w.heap.size w w' := by
  obtain ⟨R, hR⟩ : ∃ R, R = faultW C sn0 sn1 so0 so1 melt D := ⟨_, rfl⟩
  rw [← hR]
  unfold faultW at hR
  have hdl := hd.len
  rw [hdl] at hR
  have hal := (Below.refl w.heap.size w).alloc (Nat.le_refl _) (.cells #[.slice A n c, .int .i64 sn0, .int .i64 sn1, .int .i64 so0, .int .i64 so1, .int .i64 melt] 26)
  have hgc := rGround_c (c := c) (sn0 := sn0) (sn1 := sn1) (so0 := so0) (so1 := so1) (melt := melt) (h.below hal) hn
  have HG := Lib.hid (Blk.new w 26 #[.slice A n c, .int .i64 sn0, .int .i64 sn1, .int .i64 so0, .int .i64 so1, .int .i64 melt]); have HB := Lib.hid hal; have HD := Lib.hid (hd.below hal); have HRG := Lib.hid hgc; have HR := Lib.hid hR
  clear hal hgc h hd hR
  go_enter Tryz.func5, Tryz.ntmps5
  go_upto_region 1 with fail
  revert HG HB HD HRG
  generalize World.alloc w _ = w1
  intro HG HB HD HRG
  have g0 := HG.out.cell 0; have g1 := HG.out.cell 1; have g2 := HG.out.cell 2; have g3 := HG.out.cell 3; have g4 := HG.out.cell 4; have g5 := HG.out.cell 5
  simp at g0 g1 g2 g3 g4 g5
  go_wp2_with fail
  go_at_call 17
  refine (HRG.out).mono ?_
  rintro e w2 ⟨rfl, hb9⟩
  have t0 := below_tr HB.out hb9; have t1 := HD.out.below hb9
  clear HB HD
  have HB := Lib.hid t0; have HD := Lib.hid t1
  clear t0 t1
  clear hb9 HG HRG g0 g1 g2 g3 g4 g5
  have hr := HR.out
  clear HR
  cases hq : groundOk C sn0 sn1 so0 so1 melt
  · rw [hq, if_pos rfl] at hr
    subst hr
    clear hq
    go_wp2_with fail
    go_ret
    exact ⟨rfl, HB.out⟩
  · rw [hq, if_neg (by decide)] at hr
    clear hq
    by_cases h30 : 30 < dn
    · rw [if_pos h30] at hr
      subst hr
      have h30i : (30 : Int) < (dn : Int) := by omega
      go_wp2_with fail
      go_ret
      exact ⟨rfl, HB.out⟩
    · rw [if_neg h30] at hr
      have h30i : ¬ (30 : Int) < (dn : Int) := by omega
      have HR := Lib.hid hr
      clear hr
      have HW := Lib.hid (Below.refl w2.heap.size w2)
      go_wp2_with fail
      go_loopw [5] (fun i wr => ∃ k : Nat, k ≤ dn ∧ i = .int .i64 (k : Int) ∧ Below w2.heap.size w2 wr ∧ ∀ j x, j < k → D[j]? = some x → dayOk x = true) (fun i _ => dn - (intOf i).toNat)
      case atStart => exact ⟨0, Nat.zero_le _, rfl, HW.out, fun j x hj => absurd hj (by omega)⟩
      case round =>
        obtain ⟨k, hk, rfl, hb, hall⟩ := hrel
        have HALL := Lib.hid hall
        clear hall HW
        by_cases hlt : k < dn
        · obtain ⟨b, o, x, rfl, hbl, hx, y0, y1, y2⟩ := (HD.out.below hb).atDy hlt
          have hkn : (k : Int) < (dn : Int) := by omega
          have hk0 : (0 : Int) ≤ (k : Int) := by omega
          have HBR := Lib.hid hb; have HGX := Lib.hid hx
          have hno : dayOk x = false → allB dayOk D = false := fun hf => by
            rw [Bool.eq_false_iff]; intro ha
            simp only [allB, List.all_eq_true] at ha
            rw [ha x (List.mem_of_getElem? hx)] at hf; cases hf
          have HNO := Lib.hid hno
          clear hb hx hno
          go_wp2_with fail
          go_at_call 18
          refine (rUp_c x.lo x.hi 1000 _).mono ?_
          rintro e w4 ⟨rfl, hb9⟩
          have hb4 := below_tr HBR.out hb9
          have y2' := (hb9.cell (p := ⟨b, o + k * 3 + 2, none⟩) (Nat.lt_of_lt_of_le hbl (Nat.le_refl _))).trans y2
          clear HBR hb9 y0 y1 y2
          have HBR := Lib.hid hb4
          clear hb4
          cases hq : upB x.lo x.hi 1000
          · have hr := HR.out
            rw [HNO.out (by unfold dayOk; rw [hq]; rfl)] at hr
            simp at hr
            subst hr
            clear hq
            go_wp2_with fail
            go_ret
            exact ⟨rfl, below_tr HB.out HBR.out⟩
          · have HQ := Lib.hid hq
            clear hq
            go_wp2_with fail
            go_at_call 19
            refine (rIn_c x.warm (-50) 50 _).mono ?_
            rintro e w5 ⟨rfl, rfl⟩
            cases hq : inB x.warm (-50) 50
            · have hr := HR.out
              rw [HNO.out (by unfold dayOk; rw [hq]; simp)] at hr
              simp at hr
              subst hr
              clear hq
              go_wp2_with fail
              go_ret
              exact ⟨rfl, below_tr HB.out HBR.out⟩
            · have HQ2 := Lib.hid hq
              clear hq
              go_wp2_with fail
              go_roundw
              case rel => exact ⟨k + 1, by omega, by go_num, HBR.out, fun j y hj hy => by
                rcases Nat.lt_or_ge j k with hjk | hjk
                · exact HALL.out j y hjk hy
                · obtain rfl : j = k := by omega
                  have hxy : y = x := Option.some.inj (hy.symm.trans HGX.out)
                  subst hxy
                  unfold dayOk; rw [HQ.out, HQ2.out]; rfl⟩
              case measure => simp [intOf] <;> omega
        · obtain rfl : k = dn := by omega
          have HBW := Lib.hid hb
          have hr := HR.out
          have ha : allB dayOk D = true := by
            simp only [allB, List.all_eq_true]
            intro y hy
            obtain ⟨j, hj⟩ := List.getElem?_of_mem hy
            exact HALL.out j y (by have := (List.getElem?_eq_some_iff.1 hj).1; omega) hj
          rw [ha] at hr
          simp at hr
          subst hr
          clear hb ha
          go_wp2_with fail
          go_ret
          exact ⟨rfl, below_tr HB.out HBW.out⟩
end Go.Proofs.YtjpobkmlcjbpiaaGreat
