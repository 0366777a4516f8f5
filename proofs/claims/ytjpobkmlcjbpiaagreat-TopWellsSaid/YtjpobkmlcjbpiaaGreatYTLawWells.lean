/- THE WALK of the law TopWells. -/
import Derived.Test.YtjpobkmlcjbpiaaGreatYTRunW
import Derived.Test.YtjpobkmlcjbpiaaGreatYTFault
set_option linter.unusedVariables false
set_option linter.unusedSimpArgs false
namespace Go.Proofs.YtjpobkmlcjbpiaaGreat
open Go.RowKit Go.Proofs
attribute [local go_sem ↓] Go.wp_at_zero Go.wp_at_succ

theorem infoBy : (Tryz.prog.info? 5).map (fun i => (i.zero, i.size, i.bytes)) = some (some (.int .u8 0), 1, 1) := by kernel_rfl
theorem infoWR : (Tryz.prog.info? 65).map (fun i => (i.zero, i.size, i.bytes)) = some (some (.agg #[.int .i64 0, .int .i64 0, .int .i64 0, .int .i64 0]), 4, 32) := by kernel_rfl
theorem infoRd : (Tryz.prog.info? 55).map (fun i => (i.zero, i.size, i.bytes)) = some (some (.agg #[.int .i64 0, .int .i64 0, .int .i64 0, .int .i64 0]), 4, 32) := by kernel_rfl
/-- the two rows of the law's loop -/
structure TW (base : Nat) (vb v2 : Value) (its : List Ga.Itm) (two : List Rdg) (W : World) : Prop where
  o1 : W.ownsRow base 5 1 vb (Ga.bOf its).length ((Ga.bOf its).flatMap encB)
  o2 : W.ownsRow base 55 4 v2 two.length (two.flatMap encR)
  good : Ga.Good its
section
variable {base : Nat} {vb v2 v' : Value} {its : List Ga.Itm} {two : List Rdg} {W W' : World}
theorem TW.below (h : TW base vb v2 its two W) (hb : Below W.heap.size W W') : TW base vb v2 its two W' := ⟨own_mono h.o1 hb, own_mono h.o2 hb, h.good⟩
theorem TW.byte (h : TW base vb v2 its two W) {x : UInt8} (hx : x ≠ 165) (hown : W'.ownsRow base 5 1 v' ((Ga.bOf its).length + 1) ((Ga.bOf its).flatMap encB ++ [.int .u8 (x.toNat : Int)])) (hg : W.grownBy W' vb.ownBlock) : TW base v' v2 (its ++ [.inl x]) two W' := by
  refine ⟨?_, own_kept h.o2 hg (own_tyne h.o2 h.o1 (by decide)), h.good.snoc hx⟩
  have e : Ga.bOf (its ++ [.inl x]) = Ga.bOf its ++ [x] := by rw [Ga.bOf_app]; rfl
  rw [e, List.length_append, List.flatMap_append]
  exact hown
theorem TW.rec_ (h : TW base vb v2 its two W) {r : Rdg} (hr : Ga.validB r = true) (hown : W'.ownsRow base 5 1 v' ((Ga.bOf its).length + 16) ((Ga.bOf its).flatMap encB ++ (Ga.recB r).flatMap encB)) (hg : W.grownBy W' vb.ownBlock) : TW base v' v2 (its ++ [.inr r]) two W' := by
  refine ⟨?_, own_kept h.o2 hg (own_tyne h.o2 h.o1 (by decide)), h.good.snoc hr⟩
  have e : Ga.bOf (its ++ [.inr r]) = Ga.bOf its ++ Ga.recB r := by rw [Ga.bOf_app]; simp [Ga.bOf, Ga.bI]
  rw [e, List.length_append, List.flatMap_append, Ga.recB_len]
  exact hown
theorem TW.two_ (h : TW base vb v2 its two W) {r : Rdg} (hown : W'.ownsRow base 55 4 v' (two.length + 1) (two.flatMap encR ++ encR r)) (hg : W.grownBy W' v2.ownBlock) : TW base vb v' its (two ++ [r]) W' := by
  refine ⟨own_kept h.o1 hg (own_tyne h.o1 h.o2 (by decide)), ?_, h.good⟩
  rw [List.length_append, List.flatMap_append]
  simpa using hown
end
theorem learn_x {C : List Cel} {D : List Dy} {L Rn : List Int} {melt tsn tso : Int} {n dn : Nat} {st : Nat → WaySt} {S : List Rdg} (hst : st = stW C D L Rn melt tsn tso) (hC : C.length = n) (hn : 1 ≤ n) (hd : 1 ≤ dn) (hS : ∀ r ∈ S, ∃ z, r = recW st n dn z) :
    ∀ x ∈ S.map wrR, (0 ≤ x.cell ∧ x.cell ≤ (n : Int) - 1) ∧ (0 ≤ x.day ∧ x.day ≤ (dn : Int) - 1) ∧ x.lo = x.hi ∧ x.lo = lvA (stS (knC C L n) (knD D Rn) melt tsn tso (x.day.toNat + 1)).lv x.cell.toNat := by
  intro x hx
  obtain ⟨r, hr, rfl⟩ := List.mem_map.1 hx
  obtain ⟨z, rfl⟩ := hS r hr
  have h1 := Int.emod_nonneg z (show (n : Int) ≠ 0 by omega); have h2 := Int.emod_lt_of_pos z (show (0 : Int) < (n : Int) by omega)
  have h3 := Int.emod_nonneg (z / 8) (show (dn : Int) ≠ 0 by omega); have h4 := Int.emod_lt_of_pos (z / 8) (show (0 : Int) < (dn : Int) by omega)
  subst hC
  exact ⟨⟨h1, by show z % _ ≤ _; omega⟩, ⟨h3, by show z / 8 % _ ≤ _; omega⟩, rfl, by rw [hst]; rfl⟩
theorem knC_eq {C : List Cel} {L : List Int} {n : Nat} (hC : C.length = n) : ∀ c ∈ knC C L n, c.lo = c.hi := by
  subst hC
  intro c hc
  obtain ⟨i, d, _, _, rfl⟩ := knC_mem hc
  rfl
theorem knD_eq {D : List Dy} {Rn : List Int} : ∀ d ∈ knD D Rn, d.lo = d.hi := by
  intro d hd
  obtain ⟨i, x, _, _, rfl⟩ := knD_mem hd
  rfl
theorem oneRd (x : Rdg) : ∀ u ∈ encR x, u.oneCell' = true := by intro u hu; simp [encR] at hu; rcases hu with rfl | rfl | rfl | rfl <;> rfl
theorem oneBy (x : UInt8) : ∀ u ∈ encB x, u.oneCell' = true := by intro u hu; simp [encB] at hu; subst hu; rfl
/-- the rows, a reading, and the bytes of its record -/
structure NW (base B24 : Nat) (rcs : Array Value) (vb v2 bv : Value) (bl : List UInt8) (its : List Ga.Itm) (two : List Rdg) (W : World) : Prop where
  tw : TW base vb v2 its two W
  r : Blk W B24 55 rcs
  b : W.ownsRow base 5 1 bv 16 (bl.flatMap encB)
  ap : ∀ g, vb.ownBlock = some g → bv.ownBlock ≠ some g
section
variable {base B24 : Nat} {rcs : Array Value} {vb v2 bv v' : Value} {bl : List UInt8} {its : List Ga.Itm} {two : List Rdg} {W W' : World}
theorem NW.below (h : NW base B24 rcs vb v2 bv bl its two W) (hb : Below W.heap.size W W') : NW base B24 rcs vb v2 bv bl its two W' := ⟨h.tw.below hb, h.r.below hb h.r.lt, own_mono h.b hb, h.ap⟩
theorem NW.byte (h : NW base B24 rcs vb v2 bv bl its two W) {x : UInt8} (hx : x ≠ 165) (hown : W'.ownsRow base 5 1 v' ((Ga.bOf its).length + 1) ((Ga.bOf its).flatMap encB ++ [.int .u8 (x.toNat : Int)])) (hg : W.grownBy W' vb.ownBlock) (hloc : v'.ownBlock = vb.ownBlock ∨ v'.ownBlock = some W.heap.size) :
    NW base B24 rcs v' v2 bv bl (its ++ [.inl x]) two W' := by
  refine ⟨h.tw.byte hx hown hg, h.r.grown hg (fun e => own_blk_ne h.tw.o1 h.r (by decide) e.symm), own_kept h.b hg (fun g hb e => h.ap g e hb), fun g hv hb => ?_⟩
  rcases hloc with hl | hl
  · exact h.ap g (hl ▸ hv) hb
  · rw [hl] at hv
    have := (h.b.lt g hb).2
    have e := Option.some.inj hv
    omega
end
set_option linter.unusedSimpArgs false in
set_option maxRecDepth 100000 in
set_option maxHeartbeats 8000000 in
theorem TopWells_w {CA DA WA QA NA : Option Addr} {n cc dn dc wn wc qn qc mn mc : Nat} {sn0 sn1 so0 so1 melt : Int} {C : List Cel} {D : List Dy} {ws qs : List Int} {ns : List UInt8} {w : World}
    (hC : Rd encCel 7 w CA n C) (hD : Rd encDy 3 w DA dn D) (hW : Rd encU6 1 w WA wn ws) (hws : ∀ z ∈ ws, 0 ≤ z ∧ z ≤ 65535) (hwn : wn ≤ maxLen) (hQ : Rd encU6 1 w QA qn qs) (hqs : ∀ z ∈ qs, 0 ≤ z ∧ z ≤ 65535) (hNs : Rd encB 1 w NA mn ns) :
    Calls Tryz.prog 3 #[.agg #[.slice CA n cc, .int .i64 sn0, .int .i64 sn1, .int .i64 so0, .int .i64 so1, .int .i64 melt], .slice DA dn dc, .slice WA wn wc, .slice QA qn qc, .slice NA mn mc] w fun e w' => e = .returned (.bool true) ∧ Below w.heap.size w w' := by
  have hal := (Below.refl w.heap.size w).alloc (Nat.le_refl _) (.cells #[.slice CA n cc, .int .i64 sn0, .int .i64 sn1, .int .i64 so0, .int .i64 so1, .int .i64 melt] 26)
  have b0 := Blk.new w 26 #[.slice CA n cc, .int .i64 sn0, .int .i64 sn1, .int .i64 so0, .int .i64 so1, .int .i64 melt]
  have HB := Lib.hid hal; have HG := Lib.hid b0; have HC := Lib.hid hC; have HD := Lib.hid hD; have HW := Lib.hid hW; have HWS := Lib.hid hws; have HQ := Lib.hid hQ; have HQS := Lib.hid hqs; have HN := Lib.hid hNs
  clear hal b0 hC hD hW hws hQ hqs hNs
  have hth := fun (W : World) => rThin_c (A := CA) (DA := DA) (n := n) (c := cc) (dn := dn) (dc := dc) (x1 := sn0) (x2 := sn1) (x3 := so0) (x4 := so1) (x5 := melt) W
  by_cases hthin : n ≤ 10 ∧ dn ≤ 35
  · rw [decide_eq_true hthin.1, decide_eq_true hthin.2] at hth
    have HTH := Lib.hid hth
    have hfc := fun (W : World) (hb : Below w.heap.size w W) => rFault_c (c := cc) (dc := dc) (sn0 := sn0) (sn1 := sn1) (so0 := so0) (so1 := so1) (melt := melt) (HC.out.below hb) (by omega) (HD.out.below hb) (by omega)
    obtain ⟨F, hF⟩ : ∃ F, F = faultW C sn0 sn1 so0 so1 melt D := ⟨_, rfl⟩
    rw [← hF] at hfc
    have HFC := Lib.hid hfc; have HF := Lib.hid hF
    clear hth hfc hF
    by_cases hf0 : F = 0
    · subst hf0
      by_cases hbad : dn = 0 ∨ (dn ≠ 0 ∧ 15 < qn) ∨ (dn ≠ 0 ∧ qn ≤ 15 ∧ 40 < mn)
      · have hor : (dn : Int) = 0 ∨ (((dn : Int) == 0) = false ∧ 15 < (qn : Int)) ∨ (((dn : Int) == 0) = false ∧ ¬ 15 < (qn : Int) ∧ 40 < (mn : Int)) := by
          rcases hbad with hb | hb | hb
          · exact .inl (by omega)
          · exact .inr (.inl ⟨by rw [beq_eq_false_iff_ne]; omega, by omega⟩)
          · exact .inr (.inr ⟨by rw [beq_eq_false_iff_ne]; omega, by omega, by omega⟩)
        clear hbad
        rcases hor with e1 | ⟨e1, e2⟩ | ⟨e1, e2, e3⟩
        all_goals
          go_enter Tryz.func3, Tryz.ntmps3
          go_upto_region 1 with fail
          revert HB HG
          generalize World.alloc w _ = w1
          intro HB HG
          have g0 := HG.out.cell 0; have g1 := HG.out.cell 1; have g2 := HG.out.cell 2; have g3 := HG.out.cell 3; have g4 := HG.out.cell 4; have g5 := HG.out.cell 5
          simp at g0 g1 g2 g3 g4 g5
          go_wp2_with fail
          go_at_call 4
          refine (HTH.out _).mono ?_
          rintro e w2 ⟨rfl, hb9⟩
          have t0 := below_tr HB.out hb9; have t1 := HG.out.below hb9 HG.out.lt
          clear HB HG
          have HB := Lib.hid t0; have HG := Lib.hid t1
          clear t0 t1
          clear hb9 
          clear g0 g1 g2 g3 g4 g5
          have g0 := HG.out.cell 0; have g1 := HG.out.cell 1; have g2 := HG.out.cell 2; have g3 := HG.out.cell 3; have g4 := HG.out.cell 4; have g5 := HG.out.cell 5
          simp at g0 g1 g2 g3 g4 g5
          go_wp2_with fail
          go_at_call 5
          refine (HFC.out _ HB.out).mono ?_
          rintro e w3 ⟨rfl, hb9⟩
          have t0 := below_tr HB.out hb9; have t1 := HG.out.below hb9 HG.out.lt
          clear HB HG
          have HB := Lib.hid t0; have HG := Lib.hid t1
          clear t0 t1
          clear hb9 
          clear g0 g1 g2 g3 g4 g5
          go_wp2_with fail
          go_at_call 6
          refine (hears_c _).mono ?_
          rintro e w9 ⟨rfl, hb9⟩
          have t0 := below_tr HB.out hb9; have t1 := HG.out.below hb9 HG.out.lt
          clear HB HG
          have HB := Lib.hid t0; have HG := Lib.hid t1
          clear t0 t1
          clear hb9 
          go_wp2_with fail
          go_ret
          exact ⟨rfl, HB.out⟩
      · have hdn0 : 1 ≤ dn := by omega
        have hqn : qn ≤ 15 := by omega
        have hmn : mn ≤ 40 := by omega
        have k1 : ((dn : Int) == 0) = false := by rw [beq_eq_false_iff_ne]; omega
        have k2 : ¬ 15 < (qn : Int) := by omega
        have k3 : ¬ 40 < (mn : Int) := by omega
        clear hbad
        have hfw := HF.out.symm
        obtain ⟨hgr, hd30, hdo⟩ := faultW_zero.1 hfw
        obtain ⟨q1, q2, q3, q4, q5, q6⟩ := groundOk_iff.1 hgr
        have hcl := HC.out.len; have hdl := HD.out.len
        rw [hcl] at q1; rw [hdl] at hd30
        have hpc := fun (W : World) (hb : Below w.heap.size w W) => rPicked_c (cc := cc) (dc := dc) (wc := wc) (sn0 := sn0) (sn1 := sn1) (so0 := so0) (so1 := so1) (melt := melt) (HC.out.below hb) (HD.out.below hb) (HW.out.below hb) HWS.out (by omega) (by omega) hwn
          (fun c hc => by have h1 := q2 c hc; unfold celOk at h1; omega) (fun d hd => by have h1 := dayOk_iff.1 (hdo d hd); omega) (by omega) (by omega)
        have HFW := Lib.hid hfw; have HPC := Lib.hid hpc; have HCL := Lib.hid hcl; have HDL := Lib.hid hdl
        have hmelt := q5; have hq1 := q1; have hd1 : dn ≤ 30 := hd30; have hso := q4; have hsn := q3
        clear hfw hgr hdo q1 q2 q3 q4 q5 q6 hcl hdl hd30 hpc
        go_enter Tryz.func3, Tryz.ntmps3
        go_upto_region 1 with fail
        revert HB HG
        generalize World.alloc w _ = w1
        intro HB HG
        have g0 := HG.out.cell 0; have g1 := HG.out.cell 1; have g2 := HG.out.cell 2; have g3 := HG.out.cell 3; have g4 := HG.out.cell 4; have g5 := HG.out.cell 5
        simp at g0 g1 g2 g3 g4 g5
        go_wp2_with fail
        go_at_call 4
        refine (HTH.out _).mono ?_
        rintro e w2 ⟨rfl, hb9⟩
        have t0 := below_tr HB.out hb9; have t1 := HG.out.below hb9 HG.out.lt
        clear HB HG
        have HB := Lib.hid t0; have HG := Lib.hid t1
        clear t0 t1
        clear hb9 
        clear g0 g1 g2 g3 g4 g5
        have g0 := HG.out.cell 0; have g1 := HG.out.cell 1; have g2 := HG.out.cell 2; have g3 := HG.out.cell 3; have g4 := HG.out.cell 4; have g5 := HG.out.cell 5
        simp at g0 g1 g2 g3 g4 g5
        go_wp2_with fail
        go_at_call 5
        refine (HFC.out _ HB.out).mono ?_
        rintro e w3 ⟨rfl, hb9⟩
        have t0 := below_tr HB.out hb9; have t1 := HG.out.below hb9 HG.out.lt
        clear HB HG
        have HB := Lib.hid t0; have HG := Lib.hid t1
        clear t0 t1
        clear hb9 
        clear g0 g1 g2 g3 g4 g5
        have g0 := HG.out.cell 0; have g1 := HG.out.cell 1; have g2 := HG.out.cell 2; have g3 := HG.out.cell 3; have g4 := HG.out.cell 4; have g5 := HG.out.cell 5
        simp at g0 g1 g2 g3 g4 g5
        go_wp2_with fail
        go_at_call 7
        refine (HPC.out _ HB.out).mono ?_
        rintro e w4 ⟨tsn, tso, LA, lc, RA, rc, L, Rn, rfl, hts, hto, hfl, hfr, hrl, hrr, hb9⟩
        have HTS := Lib.hid hts; have HTO := Lib.hid hto; have HFL := Lib.hid hfl; have HFR := Lib.hid hfr; clear hts hto hfl hfr
        have t0 := below_tr HB.out hb9; have t1 := HG.out.below hb9 HG.out.lt
        clear HB HG
        have HB := Lib.hid t0; have HG := Lib.hid t1
        clear t0 t1
        have HL := Lib.hid hrl
        have HRN := Lib.hid hrr
        clear hb9 hrl hrr
        clear g0 g1 g2 g3 g4 g5
        go_upto_region 4 with fail
        have hb9 := (Below.refl w4.heap.size w4).alloc (Nat.le_refl _) (.cells #[.int .i64 tsn, .int .i64 tso, .slice LA n lc, .slice RA dn rc] 35)
        have hn9 := Blk.new w4 35 #[.int .i64 tsn, .int .i64 tso, .slice LA n lc, .slice RA dn rc]
        have HG1 := Lib.hid (show w.heap.size < w4.heap.size from HG.out.lt)
        have t0 := below_tr HB.out hb9; have t1 := HG.out.below hb9 HG.out.lt; have t2 := HL.out.below hb9; have t3 := HRN.out.below hb9
        clear HB HG HL HRN
        have HB := Lib.hid t0; have HG := Lib.hid t1; have HL := Lib.hid t2; have HRN := Lib.hid t3
        clear t0 t1 t2 t3
        have H11 := Lib.hid hn9
        clear hb9 hn9
        revert HG1 HB HG HL HRN H11
        generalize hgA : w4.heap.size = B11
        generalize (World.alloc w4 (.cells #[.int .i64 tsn, .int .i64 tso, .slice LA n lc, .slice RA dn rc] 35)) = w5
        intro HG1 HB HG HL HRN H11
        clear hgA
        have g0 := HG.out.cell 0; have g1 := HG.out.cell 1; have g2 := HG.out.cell 2; have g3 := HG.out.cell 3; have g4 := HG.out.cell 4; have g5 := HG.out.cell 5
        have t0 := H11.out.cell 0; have t1 := H11.out.cell 1; have t2 := H11.out.cell 2; have t3 := H11.out.cell 3
        simp at g0 g1 g2 g3 g4 g5 t0 t1 t2 t3
        go_wp2_with fail
        go_at_call 8
        refine (rKnown_c (HC.out.below HB.out) (HD.out.below HB.out) HL.out HRN.out (by omega) (by omega)).mono ?_
        rintro e w6 ⟨A1, c1, D1, d1, rfl, hr1, hr2, hb9⟩
        have t0 := below_tr HB.out hb9; have t1 := HG.out.below hb9 HG.out.lt; have t2 := HL.out.below hb9; have t3 := HRN.out.below hb9; have t4 := H11.out.below hb9 H11.out.lt
        clear HB HG HL HRN H11
        have HB := Lib.hid t0; have HG := Lib.hid t1; have HL := Lib.hid t2; have HRN := Lib.hid t3; have H11 := Lib.hid t4
        clear t0 t1 t2 t3 t4
        have HC1 := Lib.hid hr1
        have HD1 := Lib.hid hr2
        clear hb9 hr1 hr2
        clear g0 g1 g2 g3 g4 g5 t0 t1 t2 t3
        go_upto_region 5 with fail
        have hb9 := (Below.refl w6.heap.size w6).alloc (Nat.le_refl _) (.cells #[.slice A1 n c1, .int .i64 tsn, .int .i64 tsn, .int .i64 so0, .int .i64 so1, .int .i64 melt] 26)
        have hn9 := Blk.new w6 26 #[.slice A1 n c1, .int .i64 tsn, .int .i64 tsn, .int .i64 so0, .int .i64 so1, .int .i64 melt]
        have t0 := below_tr HB.out hb9; have t1 := HG.out.below hb9 HG.out.lt; have t2 := HL.out.below hb9; have t3 := HRN.out.below hb9; have t4 := H11.out.below hb9 H11.out.lt; have t5 := HC1.out.below hb9; have t6 := HD1.out.below hb9
        clear HB HG HL HRN H11 HC1 HD1
        have HB := Lib.hid t0; have HG := Lib.hid t1; have HL := Lib.hid t2; have HRN := Lib.hid t3; have H11 := Lib.hid t4; have HC1 := Lib.hid t5; have HD1 := Lib.hid t6
        clear t0 t1 t2 t3 t4 t5 t6
        have H12 := Lib.hid hn9
        clear hb9 hn9
        revert HB HG HL HRN H11 HC1 HD1 H12
        generalize hgA : w6.heap.size = B12
        generalize (World.alloc w6 (.cells #[.slice A1 n c1, .int .i64 tsn, .int .i64 tsn, .int .i64 so0, .int .i64 so1, .int .i64 melt] 26)) = w7
        intro HB HG HL HRN H11 HC1 HD1 H12
        clear hgA
        have t0 := H11.out.cell 0; have t1 := H11.out.cell 1; have t2 := H11.out.cell 2; have t3 := H11.out.cell 3
        have x0 := H12.out.cell 0; have x1 := H12.out.cell 1; have x2 := H12.out.cell 2; have x3 := H12.out.cell 3; have x4 := H12.out.cell 4; have x5 := H12.out.cell 5
        simp at x0 x1 x2 x3 x4 x5 t0 t1 t2 t3
        refine wp_region_till [15] (fun U => U.cell? ⟨B11, 0, none⟩ = some (.int .i64 tsn) ∧ U.cell? ⟨B11, 1, none⟩ = some (.int .i64 tso) ∧ U.cell? ⟨B11, 2, none⟩ = some (.slice LA n lc) ∧ U.cell? ⟨B11, 3, none⟩ = some (.slice RA dn rc) ∧ U.cell? ⟨B12, 0, none⟩ = some (.slice A1 n c1) ∧ U.cell? ⟨B12, 1, none⟩ = some (.int .i64 tsn) ∧ U.cell? ⟨B12, 2, none⟩ = some (.int .i64 tsn) ∧ U.cell? ⟨B12, 3, none⟩ = some (.int .i64 so0) ∧ U.cell? ⟨B12, 4, none⟩ = some (.int .i64 so1) ∧ U.cell? ⟨B12, 5, none⟩ = some (.int .i64 melt)) (by kernel_rfl) (by exact ⟨t0, t1, t2, t3, x0, x1, x2, x3, x4, x5⟩) (fun hHeld => ?_)
        have hb9 := (Below.refl w7.heap.size w7).drew
        have t0 := below_tr HB.out hb9; have t1 := HG.out.below hb9 HG.out.lt; have t2 := HL.out.below hb9; have t3 := HRN.out.below hb9; have t4 := H11.out.below hb9 H11.out.lt; have t5 := HC1.out.below hb9; have t6 := HD1.out.below hb9; have t7 := H12.out.below hb9 H12.out.lt
        clear HB HG HL HRN H11 HC1 HD1 H12
        have HB := Lib.hid t0; have HG := Lib.hid t1; have HL := Lib.hid t2; have HRN := Lib.hid t3; have H11 := Lib.hid t4; have HC1 := Lib.hid t5; have HD1 := Lib.hid t6; have H12 := Lib.hid t7
        clear t0 t1 t2 t3 t4 t5 t6 t7
        clear hb9
        revert hHeld HB HG HL HRN H11 HC1 HD1 H12
        generalize w7.drew = w0
        intro hHeld HB HG HL HRN H11 HC1 HD1 H12
        (refine wpAnyL_take (n := 0) (i := 0) (oi := ?ox1) (v := ?vx1) ?hix1 ?k1x1 ?k2x1 ?k3x1 ?k4x1 ?k5x1 ?k6x1 ?hQx1 ?hYx1 ?hSx1 ?restx1; (case hix1 => (simp only [List.getElem?_toArray, List.getElem?_cons_succ, List.getElem?_cons_zero]; exact rfl)); (case k1x1 | k2x1 | k3x1 | k4x1 | k5x1 | k6x1 => kernel_rfl); (case hSx1 => assumption); (case hYx1 => (refine Or.inl ⟨rfl, ?hyx1⟩; intro w hSw; (try dsimp only at hSw); go_simp; (try with_reducible rfl))); (case hQx1 => exact (fun _ _ _ h => h)); (try simp only [Act.put, List.setIfInBounds_toArray, List.set_cons_zero, List.set_cons_succ]))
        (refine wpAnyL_take (n := 0) (i := 2) (oi := ?ox2) (v := ?vx2) ?hix2 ?k1x2 ?k2x2 ?k3x2 ?k4x2 ?k5x2 ?k6x2 ?hQx2 ?hYx2 ?hSx2 ?restx2; (case hix2 => (simp only [List.getElem?_toArray, List.getElem?_cons_succ, List.getElem?_cons_zero]; exact rfl)); (case k1x2 | k2x2 | k3x2 | k4x2 | k5x2 | k6x2 => kernel_rfl); (case hSx2 => assumption); (case hYx2 => (refine Or.inl ⟨rfl, ?hyx2⟩; intro w hSw; (try dsimp only at hSw); go_simp; (try with_reducible rfl))); (case hQx2 => exact (fun _ _ _ h => h)); (try simp only [Act.put, List.setIfInBounds_toArray, List.set_cons_zero, List.set_cons_succ]))
        (refine wpAnyL_take (n := 0) (i := 4) (oi := ?ox3) (v := ?vx3) ?hix3 ?k1x3 ?k2x3 ?k3x3 ?k4x3 ?k5x3 ?k6x3 ?hQx3 ?hYx3 ?hSx3 ?restx3; (case hix3 => (simp only [List.getElem?_toArray, List.getElem?_cons_succ, List.getElem?_cons_zero]; exact rfl)); (case k1x3 | k2x3 | k3x3 | k4x3 | k5x3 | k6x3 => kernel_rfl); (case hSx3 => assumption); (case hYx3 => (refine Or.inl ⟨rfl, ?hyx3⟩; intro w hSw; (try dsimp only at hSw); go_simp; (try with_reducible rfl))); (case hQx3 => exact (fun _ _ _ h => h)); (try simp only [Act.put, List.setIfInBounds_toArray, List.set_cons_zero, List.set_cons_succ]))
        refine wpAnyL_ready (rs := [1]) (by kernel_rfl) (by simp) ?_
        refine AllReadyL.cons (o := ?o1x4) ?hi1x4 (fun K hK => ?_) AllReadyL.nil
        (case hi1x4 => (simp only [List.getElem?_toArray, List.getElem?_cons_succ, List.getElem?_cons_zero]; exact rfl))
        go_simp
        go_at_call 10
        refine (rGroundConv_c HC1.out (by omega)).mono ?_
        rintro e v1 ⟨A2, c2, rfl, hr1, hb9⟩
        have t0 := below_tr HB.out hb9; have t1 := HG.out.below hb9 HG.out.lt; have t2 := HL.out.below hb9; have t3 := HRN.out.below hb9; have t4 := H11.out.below hb9 H11.out.lt; have t5 := HC1.out.below hb9; have t6 := HD1.out.below hb9; have t7 := H12.out.below hb9 H12.out.lt
        clear HB HG HL HRN H11 HC1 HD1 H12
        have HB := Lib.hid t0; have HG := Lib.hid t1; have HL := Lib.hid t2; have HRN := Lib.hid t3; have H11 := Lib.hid t4; have HC1 := Lib.hid t5; have HD1 := Lib.hid t6; have H12 := Lib.hid t7
        clear t0 t1 t2 t3 t4 t5 t6 t7
        have HC2 := Lib.hid hr1
        clear hb9 hr1
        (try go_wp2_with fail)
        (try clear hHeld)
        refine hK.out _ _ (by (try dsimp only); exact ⟨by simpa using H11.out.cell 0, by simpa using H11.out.cell 1, by simpa using H11.out.cell 2, by simpa using H11.out.cell 3, by simpa using H12.out.cell 0, by simpa using H12.out.cell 1, by simpa using H12.out.cell 2, by simpa using H12.out.cell 3, by simpa using H12.out.cell 4, by simpa using H12.out.cell 5⟩) (fun hHeld => ?_)
        clear hK K
        (try simp only [Act.put, List.setIfInBounds_toArray, List.set_cons_zero, List.set_cons_succ])
        refine wpAnyL_ready (rs := [3]) (by kernel_rfl) (by simp) ?_
        refine AllReadyL.cons (o := ?o3x5) ?hi3x5 (fun K hK => ?_) AllReadyL.nil
        (case hi3x5 => (simp only [List.getElem?_toArray, List.getElem?_cons_succ, List.getElem?_cons_zero]; exact rfl))
        go_simp
        go_at_call 11
        refine (rDays_c HD1.out (by omega)).mono ?_
        rintro e v2 ⟨D2, d2, rfl, hr1, hb9⟩
        have t0 := below_tr HB.out hb9; have t1 := HG.out.below hb9 HG.out.lt; have t2 := HL.out.below hb9; have t3 := HRN.out.below hb9; have t4 := H11.out.below hb9 H11.out.lt; have t5 := HC1.out.below hb9; have t6 := HD1.out.below hb9; have t7 := H12.out.below hb9 H12.out.lt; have t8 := HC2.out.below hb9
        clear HB HG HL HRN H11 HC1 HD1 H12 HC2
        have HB := Lib.hid t0; have HG := Lib.hid t1; have HL := Lib.hid t2; have HRN := Lib.hid t3; have H11 := Lib.hid t4; have HC1 := Lib.hid t5; have HD1 := Lib.hid t6; have H12 := Lib.hid t7; have HC2 := Lib.hid t8
        clear t0 t1 t2 t3 t4 t5 t6 t7 t8
        have HD2 := Lib.hid hr1
        clear hb9 hr1
        (try go_wp2_with fail)
        (try clear hHeld)
        refine hK.out _ _ (by (try dsimp only); exact ⟨by simpa using H11.out.cell 0, by simpa using H11.out.cell 1, by simpa using H11.out.cell 2, by simpa using H11.out.cell 3, by simpa using H12.out.cell 0, by simpa using H12.out.cell 1, by simpa using H12.out.cell 2, by simpa using H12.out.cell 3, by simpa using H12.out.cell 4, by simpa using H12.out.cell 5⟩) (fun hHeld => ?_)
        clear hK K
        (try simp only [Act.put, List.setIfInBounds_toArray, List.set_cons_zero, List.set_cons_succ])
        refine wpAnyL_ready (rs := [5]) (by kernel_rfl) (by simp) ?_
        refine AllReadyL.cons (o := ?o5x6) ?hi5x6 (fun K hK => ?_) AllReadyL.nil
        (case hi5x6 => (simp only [List.getElem?_toArray, List.getElem?_cons_succ, List.getElem?_cons_zero]; exact rfl))
        go_simp
        go_at_call 12
        refine (rTruth_c HL.out HRN.out (by omega) (by omega)).mono ?_
        rintro e v3 ⟨LA2, lc2, RA2, rc2, rfl, hr1, hr2, hb9⟩
        have t0 := below_tr HB.out hb9; have t1 := HG.out.below hb9 HG.out.lt; have t2 := HL.out.below hb9; have t3 := HRN.out.below hb9; have t4 := H11.out.below hb9 H11.out.lt; have t5 := HC1.out.below hb9; have t6 := HD1.out.below hb9; have t7 := H12.out.below hb9 H12.out.lt; have t8 := HC2.out.below hb9; have t9 := HD2.out.below hb9
        clear HB HG HL HRN H11 HC1 HD1 H12 HC2 HD2
        have HB := Lib.hid t0; have HG := Lib.hid t1; have HL := Lib.hid t2; have HRN := Lib.hid t3; have H11 := Lib.hid t4; have HC1 := Lib.hid t5; have HD1 := Lib.hid t6; have H12 := Lib.hid t7; have HC2 := Lib.hid t8; have HD2 := Lib.hid t9
        clear t0 t1 t2 t3 t4 t5 t6 t7 t8 t9
        have HL2 := Lib.hid hr1
        have HR2 := Lib.hid hr2
        clear hb9 hr1 hr2
        (try go_wp2_with fail)
        (try clear hHeld)
        refine hK.out _ _ (by (try dsimp only); exact ⟨by simpa using H11.out.cell 0, by simpa using H11.out.cell 1, by simpa using H11.out.cell 2, by simpa using H11.out.cell 3, by simpa using H12.out.cell 0, by simpa using H12.out.cell 1, by simpa using H12.out.cell 2, by simpa using H12.out.cell 3, by simpa using H12.out.cell 4, by simpa using H12.out.cell 5⟩) (fun hHeld => ?_)
        clear hK K
        (try simp only [Act.put, List.setIfInBounds_toArray, List.set_cons_zero, List.set_cons_succ])
        refine wpAnyL_ready (rs := [6]) (by kernel_rfl) (by simp) ?_
        refine AllReadyL.cons (o := ?o6x7) ?hi6x7 (fun K hK => ?_) AllReadyL.nil
        (case hi6x7 => (simp only [List.getElem?_toArray, List.getElem?_cons_succ, List.getElem?_cons_zero]; exact rfl))
        go_simp
        go_at_call 9
        refine (RunW_c HFW.out (HL2.out.len.trans HCL.out.symm) (HR2.out.len.trans HDL.out.symm) HFL.out HFR.out HTS.out HTO.out HCL.out HDL.out hdn0 (by rw [HCL.out]; exact HC2.out) HD2.out HL2.out HR2.out).mono ?_
        rintro e v4 ⟨LVA, lvc, rows, vl, sn9, rfl, hlev, hb9⟩
        have t0 := below_tr HB.out hb9; have t1 := HG.out.below hb9 HG.out.lt; have t2 := HL.out.below hb9; have t3 := HRN.out.below hb9; have t4 := H11.out.below hb9 H11.out.lt; have t5 := HC1.out.below hb9; have t6 := HD1.out.below hb9; have t7 := H12.out.below hb9 H12.out.lt; have t8 := HC2.out.below hb9; have t9 := HD2.out.below hb9; have t10 := HL2.out.below hb9; have t11 := HR2.out.below hb9
        clear HB HG HL HRN H11 HC1 HD1 H12 HC2 HD2 HL2 HR2
        have HB := Lib.hid t0; have HG := Lib.hid t1; have HL := Lib.hid t2; have HRN := Lib.hid t3; have H11 := Lib.hid t4; have HC1 := Lib.hid t5; have HD1 := Lib.hid t6; have H12 := Lib.hid t7; have HC2 := Lib.hid t8; have HD2 := Lib.hid t9; have HL2 := Lib.hid t10; have HR2 := Lib.hid t11
        clear t0 t1 t2 t3 t4 t5 t6 t7 t8 t9 t10 t11
        have HLV := Lib.hid hlev
        clear hb9 hlev
        (try go_wp2_with fail)
        (try clear hHeld)
        refine hK.out _ _ (by (try dsimp only); exact ⟨by simpa using H11.out.cell 0, by simpa using H11.out.cell 1, by simpa using H11.out.cell 2, by simpa using H11.out.cell 3, by simpa using H12.out.cell 0, by simpa using H12.out.cell 1, by simpa using H12.out.cell 2, by simpa using H12.out.cell 3, by simpa using H12.out.cell 4, by simpa using H12.out.cell 5⟩) (fun hHeld => ?_)
        clear hK K
        (try simp only [Act.put, List.setIfInBounds_toArray, List.set_cons_zero, List.set_cons_succ])
        (refine wpAnyL_take (n := 0) (i := 7) (oi := ?ox8) (v := ?vx8) ?hix8 ?k1x8 ?k2x8 ?k3x8 ?k4x8 ?k5x8 ?k6x8 ?hQx8 ?hYx8 ?hSx8 ?restx8; (case hix8 => (simp only [List.getElem?_toArray, List.getElem?_cons_succ, List.getElem?_cons_zero]; exact rfl)); (case k1x8 | k2x8 | k3x8 | k4x8 | k5x8 | k6x8 => kernel_rfl); (case hSx8 => assumption); (case hYx8 => (refine Or.inl ⟨rfl, ?hyx8⟩; intro w hSw; (try dsimp only at hSw); go_simp; (try with_reducible rfl))); (case hQx8 => exact (fun _ _ _ h => h)); (try simp only [Act.put, List.setIfInBounds_toArray, List.set_cons_zero, List.set_cons_succ]))
        (refine wpAnyL_take (n := 0) (i := 8) (oi := ?ox9) (v := ?vx9) ?hix9 ?k1x9 ?k2x9 ?k3x9 ?k4x9 ?k5x9 ?k6x9 ?hQx9 ?hYx9 ?hSx9 ?restx9; (case hix9 => (simp only [List.getElem?_toArray, List.getElem?_cons_succ, List.getElem?_cons_zero]; exact rfl)); (case k1x9 | k2x9 | k3x9 | k4x9 | k5x9 | k6x9 => kernel_rfl); (case hSx9 => assumption); (case hYx9 => (refine Or.inl ⟨rfl, ?hyx9⟩; intro w hSw; (try dsimp only at hSw); go_simp; (try with_reducible rfl))); (case hQx9 => exact (fun _ _ _ h => h)); (try simp only [Act.put, List.setIfInBounds_toArray, List.set_cons_zero, List.set_cons_succ]))
        (refine wpAnyL_take (n := 0) (i := 9) (oi := ?ox10) (v := ?vx10) ?hix10 ?k1x10 ?k2x10 ?k3x10 ?k4x10 ?k5x10 ?k6x10 ?hQx10 ?hYx10 ?hSx10 ?restx10; (case hix10 => (simp only [List.getElem?_toArray, List.getElem?_cons_succ, List.getElem?_cons_zero]; exact rfl)); (case k1x10 | k2x10 | k3x10 | k4x10 | k5x10 | k6x10 => kernel_rfl); (case hSx10 => assumption); (case hYx10 => (refine Or.inl ⟨rfl, ?hyx10⟩; intro w hSw; (try dsimp only at hSw); go_simp; (try with_reducible rfl))); (case hQx10 => exact (fun _ _ _ h => h)); (try simp only [Act.put, List.setIfInBounds_toArray, List.set_cons_zero, List.set_cons_succ]))
        (refine wpAnyL_take (n := 0) (i := 10) (oi := ?ox11) (v := ?vx11) ?hix11 ?k1x11 ?k2x11 ?k3x11 ?k4x11 ?k5x11 ?k6x11 ?hQx11 ?hYx11 ?hSx11 ?restx11; (case hix11 => (simp only [List.getElem?_toArray, List.getElem?_cons_succ, List.getElem?_cons_zero]; exact rfl)); (case k1x11 | k2x11 | k3x11 | k4x11 | k5x11 | k6x11 => kernel_rfl); (case hSx11 => assumption); (case hYx11 => (refine Or.inl ⟨rfl, ?hyx11⟩; intro w hSw; (try dsimp only at hSw); go_simp; (try with_reducible rfl))); (case hQx11 => exact (fun _ _ _ h => h)); (try simp only [Act.put, List.setIfInBounds_toArray, List.set_cons_zero, List.set_cons_succ]))
        (refine wpAnyL_take (n := 0) (i := 11) (oi := ?ox12) (v := ?vx12) ?hix12 ?k1x12 ?k2x12 ?k3x12 ?k4x12 ?k5x12 ?k6x12 ?hQx12 ?hYx12 ?hSx12 ?restx12; (case hix12 => (simp only [List.getElem?_toArray, List.getElem?_cons_succ, List.getElem?_cons_zero]; exact rfl)); (case k1x12 | k2x12 | k3x12 | k4x12 | k5x12 | k6x12 => kernel_rfl); (case hSx12 => assumption); (case hYx12 => (refine Or.inl ⟨rfl, ?hyx12⟩; intro w hSw; (try dsimp only at hSw); go_simp; (try with_reducible rfl))); (case hQx12 => exact (fun _ _ _ h => h)); (try simp only [Act.put, List.setIfInBounds_toArray, List.set_cons_zero, List.set_cons_succ]))
        (refine wpAnyL_take (n := 0) (i := 12) (oi := ?ox13) (v := ?vx13) ?hix13 ?k1x13 ?k2x13 ?k3x13 ?k4x13 ?k5x13 ?k6x13 ?hQx13 ?hYx13 ?hSx13 ?restx13; (case hix13 => (simp only [List.getElem?_toArray, List.getElem?_cons_succ, List.getElem?_cons_zero]; exact rfl)); (case k1x13 | k2x13 | k3x13 | k4x13 | k5x13 | k6x13 => kernel_rfl); (case hSx13 => assumption); (case hYx13 => (refine Or.inl ⟨rfl, ?hyx13⟩; intro w hSw; (try dsimp only at hSw); go_simp; (try with_reducible rfl))); (case hQx13 => exact (fun _ _ _ h => h)); (try simp only [Act.put, List.setIfInBounds_toArray, List.set_cons_zero, List.set_cons_succ]))
        (refine wpAnyL_take (n := 0) (i := 13) (oi := ?ox14) (v := ?vx14) ?hix14 ?k1x14 ?k2x14 ?k3x14 ?k4x14 ?k5x14 ?k6x14 ?hQx14 ?hYx14 ?hSx14 ?restx14; (case hix14 => (simp only [List.getElem?_toArray, List.getElem?_cons_succ, List.getElem?_cons_zero]; exact rfl)); (case k1x14 | k2x14 | k3x14 | k4x14 | k5x14 | k6x14 => kernel_rfl); (case hSx14 => assumption); (case hYx14 => (refine Or.inl ⟨rfl, ?hyx14⟩; intro w hSw; (try dsimp only at hSw); go_simp; (try with_reducible rfl))); (case hQx14 => exact (fun _ _ _ h => h)); (try simp only [Act.put, List.setIfInBounds_toArray, List.set_cons_zero, List.set_cons_succ]))
        (refine wpAnyL_take (n := 0) (i := 14) (oi := ?ox15) (v := ?vx15) ?hix15 ?k1x15 ?k2x15 ?k3x15 ?k4x15 ?k5x15 ?k6x15 ?hQx15 ?hYx15 ?hSx15 ?restx15; (case hix15 => (simp only [List.getElem?_toArray, List.getElem?_cons_succ, List.getElem?_cons_zero]; exact rfl)); (case k1x15 | k2x15 | k3x15 | k4x15 | k5x15 | k6x15 => kernel_rfl); (case hSx15 => assumption); (case hYx15 => (refine Or.inl ⟨rfl, ?hyx15⟩; intro w hSw; (try dsimp only at hSw); go_simp; (try with_reducible rfl))); (case hQx15 => exact (fun _ _ _ h => h)); (try simp only [Act.put, List.setIfInBounds_toArray, List.set_cons_zero, List.set_cons_succ]))
        refine wpAnyL_ready (rs := [15]) (by kernel_rfl) (by simp) ?_
        refine AllReadyL.last (o := ?o15x16) ?hi15x16 ?he15x16 (fun K hK => ?_) AllReadyL.nil
        (case hi15x16 => (simp only [List.getElem?_toArray, List.getElem?_cons_succ, List.getElem?_cons_zero]; exact rfl))
        (case he15x16 => kernel_rfl)
        go_simp
        (try clear hHeld)
        refine hK.out _ _ ?_
        clear hK K
        (try simp only [Act.put, List.setIfInBounds_toArray, List.set_cons_zero, List.set_cons_succ])
        (refine wpAnyL_done (by kernel_rfl) ?_ _)
        obtain ⟨st, hst⟩ : ∃ st, st = stW C D L Rn melt tsn tso := ⟨_, rfl⟩
        have hbd := stW_bd HFW.out (HL2.out.len.trans HCL.out.symm) (HR2.out.len.trans HDL.out.symm) HFL.out HFR.out HTS.out HTO.out
        rw [← hst] at hbd
        have hlv9 := HLV.out
        rw [← hst] at hlv9
        clear HLV
        have HLV := Lib.hid hlv9; have HST := Lib.hid hst; have HBD := Lib.hid hbd; have HBS := Lib.hid HB.out.size
        clear hlv9 hst hbd HC2 HD2 HL2 HR2 x0 x1 x2 x3 x4 x5 t0 t1 t2 t3
        obtain ⟨i0, hi0, hz0, hz1, hz2⟩ := info_parts infoBy
        obtain ⟨j0, hj0, hy0, hy1, hy2⟩ := info_parts infoRd
        have HI := Lib.hid hi0; have HZ0 := Lib.hid hz0; have HZ1 := Lib.hid hz1; have HZ2 := Lib.hid hz2
        have HJ := Lib.hid hj0; have HY0 := Lib.hid hy0; have HY1 := Lib.hid hy1; have HY2 := Lib.hid hy2
        clear hi0 hz0 hz1 hz2 hj0 hy0 hy1 hy2
        go_wp2_with fail
        go_loopw [18, 19, 20] (fun vb v2 i wr => ∃ (k : Nat) (its : List Ga.Itm) (two : List Rdg), k ≤ qn ∧ i = .int .i64 (k : Int) ∧ TW v4.heap.size vb v2 its two wr ∧ Ga.rsOf its = (qs.take k).map (recW st n dn) ∧ (∀ r ∈ two, r ∈ Ga.rsOf its) ∧ two.length ≤ k ∧ (Ga.bOf its).length ≤ k * 80 ∧ Below v4.heap.size v4 wr) (fun _ _ i _ => qn - (intOf i).toNat)
        case atStart => exact ⟨0, [], [], Nat.zero_le _, rfl, ⟨World.ownsRow_nil _ _ _ _, World.ownsRow_nil _ _ _ _, (fun i hi => by cases hi)⟩, rfl, (fun r hr => by cases hr), Nat.zero_le _, Nat.zero_le _, Below.refl _ _⟩
        case round =>
          obtain ⟨k, its, two, hk, rfl, htw, hrs, htr, htl, hbl, hb⟩ := hrel
          have hsz := hb.size
          by_cases hlt : k < qn
          ·
            -- [Z
            have hkn : (k : Int) < (qn : Int) := by omega
            have hk0 : (0 : Int) ≤ (k : Int) := by omega
            obtain ⟨bq, oq, z, rfl, hbq, hz, hzc⟩ := (HQ.out.below (below_tr HB.out hb)).atU6 hlt
            have hzr := HQS.out z (List.mem_of_getElem? hz)
            have z0 : IntKind.i64.wrap z = z := wi (by omega)
            have m1 := Int.emod_nonneg z (show (n : Int) ≠ 0 by omega); have m2 := Int.emod_lt_of_pos z (show (0 : Int) < (n : Int) by omega)
            have m3 := Int.emod_nonneg (z / 8) (show (dn : Int) ≠ 0 by omega); have m4 := Int.emod_lt_of_pos (z / 8) (show (0 : Int) < (dn : Int) by omega)
            obtain ⟨ci, hci⟩ : ∃ ci : Nat, z % (n : Int) = (ci : Int) := ⟨(z % (n : Int)).toNat, by omega⟩
            obtain ⟨di, hdi⟩ : ∃ di : Nat, z / 8 % (dn : Int) = (di : Int) := ⟨(z / 8 % (dn : Int)).toNat, by omega⟩
            have hrec : recW st n dn z = ⟨ci, di, 86400 * (di : Int), lvA (st (di + 1)).lv ci⟩ := by unfold recW; rw [hci, hdi]; simp
            have hval : Ga.validB (recW st n dn z) = true := recW_valid hq1 ⟨hdn0, hd1⟩ HBD.out
            have e1 : z.tmod (n : Int) = (ci : Int) := (Int.tmod_eq_emod_of_nonneg hzr.1).trans hci
            have e2 : z.tdiv 8 = z / 8 := Int.tdiv_eq_ediv_of_nonneg hzr.1
            have e3 : (z / 8).tmod (dn : Int) = (di : Int) := (Int.tmod_eq_emod_of_nonneg (by omega)).trans hdi
            have e4 : IntKind.i64.wrap (z / 8) = z / 8 := wi (by omega)
            have e5 : IntKind.i64.wrap (ci : Int) = (ci : Int) := wi (by omega)
            have e6 : IntKind.i64.wrap (di : Int) = (di : Int) := wi (by omega)
            have hcin : ci < n := by omega
            have hdin : di < dn := by omega
            have nz1 : ((n : Int) == 0) = false := by rw [beq_eq_false_iff_ne]; omega
            have nz2 : ¬ (n : Int) = 0 := by omega
            have nz3 : ¬ (dn : Int) = 0 := by omega
            have HREC := Lib.hid hrec; have HVAL := Lib.hid hval; have HZ := Lib.hid hz
            have g0 := (HG.out.below hb HG.out.lt).cell 0
            simp at g0
            have HTW := Lib.hid htw; have HRS := Lib.hid hrs; have HTR := Lib.hid htr; have HB4 := Lib.hid hb; have HCI := Lib.hid hci; have HDI := Lib.hid hdi
            clear hrec hval hz htw hrs htr hb
            go_upto_region 14 with fail
            go_quiet (fail)
            have hb9 : Below wr.heap.size wr (wr.drewN nq) := below_drewN (Below.refl wr.heap.size wr) nq
            have tw9 := HTW.out.below hb9; have b9 := below_tr HB4.out hb9
            clear HTW HB4 hb9 g0 hzc
            have HTW := Lib.hid tw9; have HB4 := Lib.hid b9
            clear tw9 b9
            revert HTW HB4
            generalize wr.drewN nq = wx
            intro HTW HB4
            have g0 := (HG.out.below HB4.out HG.out.lt).cell 0
            simp at g0
            obtain ⟨bv, ov, b2, o2, c9, rfl, hbv, y1, hb2, y2⟩ := (HLV.out.below HB4.out).at_ hcin hdin
            obtain ⟨v, hv⟩ : ∃ v, v = lvA (st (di + 1)).lv ci := ⟨_, rfl⟩
            have hvb := HBD.out (di + 1) ci
            have hrec := HREC.out
            rw [← hv] at y2 hvb hrec
            clear HREC
            have HREC := Lib.hid hrec
            clear hv hrec
            have v1 : ¬ v < 0 := by omega
            have v2 : ¬ 100000 < v := by omega
            have ci1 : (ci : Int) < (n : Int) := by omega
            have di1 : (di : Int) < (dn : Int) := by omega
            have ci0 : (0 : Int) ≤ (ci : Int) := by omega
            have di0 : (0 : Int) ≤ (di : Int) := by omega
            go_upto_region 15 with fail
            go_quiet (fail)
            have hb9 : Below wx.heap.size wx (wx.drewN nq) := below_drewN (Below.refl wx.heap.size wx) nq
            have tw9 := HTW.out.below hb9; have b9 := below_tr HB4.out hb9
            have z1 := (hb9.cell (p := ⟨bv, ov + di, none⟩) hbv).trans y1; have z2 := (hb9.cell (p := ⟨b2, o2 + ci, none⟩) hb2).trans y2
            clear HTW HB4 hb9 g0 y1 y2
            have HTW := Lib.hid tw9; have HB4 := Lib.hid b9
            clear tw9 b9
            revert z1 z2 HTW HB4
            generalize wx.drewN nq = wy
            intro z1 z2 HTW HB4
            have e7 : IntKind.i64.wrap (86400 * (di : Int)) = 86400 * (di : Int) := wi (by omega)
            have e8 : IntKind.i64.wrap v = v := wi (by omega)
            go_upto_region 18 with fail
            have hb9 := (Below.refl wy.heap.size wy).alloc (Nat.le_refl _) (.cells #[.int .i64 (ci : Int), .int .i64 (di : Int), .int .i64 (86400 * (di : Int)), .int .i64 v] 55)
            have hn9 := Blk.new wy 55 #[.int .i64 (ci : Int), .int .i64 (di : Int), .int .i64 (86400 * (di : Int)), .int .i64 v]
            have tw9 := HTW.out.below hb9; have b9 := below_tr HB4.out hb9
            clear HTW HB4 hb9 z1 z2
            have HTW := Lib.hid tw9; have HB4 := Lib.hid b9; have HR24 := Lib.hid hn9
            clear tw9 b9 hn9
            revert HTW HB4 HR24
            generalize hgA : wy.heap.size = B24
            generalize (World.alloc wy (.cells #[.int .i64 (ci : Int), .int .i64 (di : Int), .int .i64 (86400 * (di : Int)), .int .i64 v] 55)) = wz
            intro HTW HB4 HR24
            clear hgA
            have r0 := HR24.out.cell 0; have r1 := HR24.out.cell 1; have r2 := HR24.out.cell 2; have r3 := HR24.out.cell 3
            simp at r0 r1 r2 r3
            have hval := HVAL.out
            rw [HREC.out] at hval
            have hrd9 : Rd encR 4 (wz.alloc (.cells #[.int .i64 (ci : Int), .int .i64 (di : Int), .int .i64 (86400 * (di : Int)), .int .i64 v] 55)) (some ⟨wz.heap.size, 0, none⟩) 1 [⟨ci, di, 86400 * (di : Int), v⟩] := Rd.of_blkE encR_len (Blk.new wz _ _) rfl rfl
            have hwr := Ga.Write_c (c := 1) hrd9 (by unfold maxLen; omega) (Nat.le_refl _)
            rw [err_one _ hval] at hwr
            have HWR := Lib.hid hwr; have HVL := Lib.hid hval
            have ha9 := (Below.refl wz.heap.size wz).alloc (Nat.le_refl _) (.cells #[.int .i64 (ci : Int), .int .i64 (di : Int), .int .i64 (86400 * (di : Int)), .int .i64 v] 55)
            have HA9 := Lib.hid ha9
            clear hrd9 hwr hval ha9
            go_wp2_with fail
            refine HWR.out.mono ?_
            rintro e w10 ⟨⟨A9, m9, c9', rfl, hm9, _, hok⟩, hb⟩
            obtain ⟨hm9e, hown9⟩ := hok (by trivial)
            obtain rfl : m9 = 16 := by omega
            have hbz := below_tr HA9.out hb
            have hsz4 := HB4.out.size
            have nw9 : NW v4.heap.size B24 #[.int .i64 (ci : Int), .int .i64 (di : Int), .int .i64 (86400 * (di : Int)), .int .i64 v] u18 u19 (.slice A9 16 c9') (Ga.recB ⟨ci, di, 86400 * (di : Int), v⟩) its two w10 := by
              have ho9 : w10.ownsRow wz.heap.size 5 1 (.slice A9 16 c9') 16 ((Ga.recB ⟨ci, di, 86400 * (di : Int), v⟩).flatMap encB) := own_low (by simpa [Ga.bytesOf] using hown9) (by simp)
              refine ⟨HTW.out.below hbz, HR24.out.below hbz HR24.out.lt, own_low ho9 hsz4, fun g h1 h2 => ?_⟩
              have h3 := (HTW.out.o1.lt g h1).2
              have h4 := (ho9.lt g h2).1
              omega
            have b9 := below_tr HB4.out hbz
            clear hok hown9 hm9e hb HWR HA9 HTW HR24 HB4 hbz r0 r1 r2 r3
            have HNW := Lib.hid nw9; have HB4 := Lib.hid b9
            clear nw9 b9
            go_wp2_with fail
            clear z0 m1 m2 m3 m4 e1 e2 e3 e4 e5 e6 e7 e8 nz1 nz2 nz3 ci1 di1 ci0 di0 v1 v2 hbv hb2 hsz4
            go_loopw [18, 27] (fun vb i wi => ∃ (q : Nat) (jts : List Ga.Itm), q ≤ 60 ∧ i = .int .i64 (q : Int) ∧ NW v4.heap.size B24 #[.int .i64 (ci : Int), .int .i64 (di : Int), .int .i64 (86400 * (di : Int)), .int .i64 v] vb u19 (.slice A9 16 c9') (Ga.recB ⟨ci, di, 86400 * (di : Int), v⟩) jts two wi ∧ Ga.rsOf jts = Ga.rsOf its ∧ (Ga.bOf jts).length ≤ k * 80 + q ∧ Below v4.heap.size v4 wi) (fun _ i _ => 60 - (intOf i).toNat)
            case atStart => exact ⟨k, its, by omega, rfl, HNW.out, rfl, by omega, HB4.out⟩
            case round =>
              obtain ⟨q, jts, hq, rfl, hnw, hrj, hbj, hb⟩ := hrel
              clear HNW HB4
              have HNW := Lib.hid hnw; have HRJ := Lib.hid hrj; have HB4 := Lib.hid hb
              have hsz2 := hb.size
              clear hnw hrj hb
              by_cases hqm : q < mn
              · have hqi : (q : Int) < (mn : Int) := by omega
                have hq0 : (0 : Int) ≤ (q : Int) := by omega
                have hwr : IntKind.i64.wrap ((q : Int) + (qn : Int)) = ((q + qn : Nat) : Int) := by rw [← Int.natCast_add]; exact wi (by omega)
                obtain ⟨bn, on, x, rfl, hbln, hx, hcn⟩ := (HN.out.below (below_tr HB.out HB4.out)).atB hqm
                clear hx
                by_cases h165 : x = 165
                · subst h165
                  have hcn' : wr.cell? ⟨bn, on + q, none⟩ = some (.int .u8 165) := hcn
                  clear hcn
                  go_wp2_with fail
                  go_roundw
                  case rel => exact ⟨q + qn, jts, by omega, rfl, HNW.out, HRJ.out, by omega, HB4.out⟩
                  case measure => simp [intOf] <;> omega
                · have hne : ¬ (x.toNat : Int) = 165 := fun e => h165 (UInt8.toNat.inj (by simpa using (show x.toNat = 165 by omega)))
                  have hne2 : ((x.toNat : Int) == 165) = false := by rw [beq_eq_false_iff_ne]; exact hne
                  have H165 := Lib.hid h165
                  clear h165
                  go_wp2_with (at_builtin; go_must (refine wpList_append_own_at _ rfl _ _ 29 rfl v4.heap.size 5 i0 (.int .u8 0) 1 1 Tryz.underlying29 HI.out HZ0.out HZ1.out HZ2.out rfl (by decide) _ _ _ rfl (HNW.out.tw.o1.alloc _) ⟨wr.heap.size, 0, none⟩ 1 1 [.int .u8 (x.toNat : Int)] rfl rfl (cell_one_new _ _ _) (by simp [Value.oneCell']) (by unfold maxLen; omega) (by omega) (by simp; omega) ?_; intro v9 w9 hown hgrow _ hloc))
                  have hbA := (Below.refl wr.heap.size wr).alloc (Nat.le_refl _) (.cells #[.int .u8 (x.toNat : Int)] 5)
                  have nw9 := (HNW.out.below hbA).byte H165.out hown hgrow hloc
                  have b9 := (HB4.out.alloc (by omega) (.cells #[.int .u8 (x.toNat : Int)] 5)).grown hgrow (by simp; omega) (fun g hg => (HNW.out.tw.o1.lt g hg).1)
                  clear hown hgrow hloc hbA
                  go_roundw
                  case rel => exact ⟨q + qn, jts ++ [.inl x], by omega, rfl, nw9, by rw [Ga.rsOf_app, HRJ.out]; simp [Ga.rsOf, Ga.rI], by rw [Ga.bOf_app, List.length_append]; simp only [Ga.bOf, List.flatMap_cons, List.flatMap_nil, Ga.bI, List.append_nil, List.length_singleton] at *; omega, b9⟩
                  case measure => simp [intOf] <;> omega
              · have hqi : ¬ (q : Int) < (mn : Int) := by omega
                have f1 : z.tdiv 256 = z / 256 := Int.tdiv_eq_ediv_of_nonneg hzr.1
                have f2 : IntKind.i64.wrap (z / 256) = z / 256 := wi (by omega)
                have f3 : (z / 256).tmod 2 = z / 256 % 2 := Int.tmod_eq_emod_of_nonneg (by omega)
                have f4 : IntKind.i64.wrap (z / 256 % 2) = z / 256 % 2 := wi (by omega)
                have hrb := Rd.of_own encB_len HNW.out.b (Ga.recB_len _)
                have HRB := Lib.hid hrb
                clear hrb
                have hrs9 : Ga.rsOf (jts ++ [.inr ⟨ci, di, 86400 * (di : Int), v⟩]) = (qs.take (k + 1)).map (recW st n dn) := by
                  rw [Ga.rsOf_app, HRJ.out, HRS.out, List.take_add_one, HZ.out, List.map_append]
                  simp [Ga.rsOf, Ga.rI, HREC.out]
                have htr9 : ∀ r ∈ two, r ∈ Ga.rsOf (jts ++ [.inr ⟨ci, di, 86400 * (di : Int), v⟩]) := fun r hr => by
                  rw [Ga.rsOf_app, HRJ.out]; exact List.mem_append_left _ (HTR.out r hr)
                have hme9 : (⟨ci, di, 86400 * (di : Int), v⟩ : Rdg) ∈ Ga.rsOf (jts ++ [.inr ⟨ci, di, 86400 * (di : Int), v⟩]) := by
                  rw [Ga.rsOf_app]; simp [Ga.rsOf, Ga.rI]
                have hln9 : (Ga.bOf (jts ++ [.inr ⟨ci, di, 86400 * (di : Int), v⟩])).length ≤ (k + 1) * 80 := by
                  have e : Ga.bOf (jts ++ [.inr ⟨ci, di, 86400 * (di : Int), v⟩]) = Ga.bOf jts ++ Ga.recB ⟨ci, di, 86400 * (di : Int), v⟩ := by rw [Ga.bOf_app]; simp [Ga.bOf, Ga.bI]
                  rw [e, List.length_append, Ga.recB_len]
                  omega
                have HRS9 := Lib.hid hrs9; have HTR9 := Lib.hid htr9; have HME9 := Lib.hid hme9; have HLN9 := Lib.hid hln9
                clear hrs9 htr9 hme9 hln9
                by_cases h2 : z / 256 % 2 = 0
                · have h3 : (z / 256 % 2 == 0) = true := by simp [h2]
                  clear h2
                  go_wp2_with (at_builtin; first
                    | (refine wpList_append_rd rfl _ _ 29 rfl v4.heap.size 5 i0 (.int .u8 0) 1 1 Tryz.underlying29 HI.out HZ0.out HZ1.out HZ2.out rfl (by decide) _ _ _ rfl HNW.out.tw.o1 encB_len oneBy A9 16 c9' _ rfl HRB.out (by unfold maxLen; omega) (by omega) (by omega) ?_; intro v9 w9 hown hgrow
                       have tw9 := HNW.out.tw.rec_ HVL.out hown hgrow
                       have rb := HNW.out.r.grown hgrow (fun e => own_blk_ne HNW.out.tw.o1 HNW.out.r (by decide) e.symm)
                       have b9 := HB4.out.grown hgrow (by omega) (fun g hg => (HNW.out.tw.o1.lt g hg).1)
                       have r0 := rb.cell 0; have r1 := rb.cell 1; have r2 := rb.cell 2; have r3 := rb.cell 3
                       simp at r0 r1 r2 r3
                       have HTW9 := Lib.hid tw9; have HB9 := Lib.hid b9
                       have hsz9 := b9.size
                       clear tw9 rb b9 hown hgrow)
                    | go_must (refine wpList_append_rd rfl _ _ 52 rfl v4.heap.size 55 j0 (.agg #[.int .i64 0, .int .i64 0, .int .i64 0, .int .i64 0]) 4 32 Tryz.underlying52 HJ.out HY0.out HY1.out HY2.out rfl (by decide) _ _ _ rfl (HTW9.out.o2.alloc _) encR_len oneRd (some ⟨w9.heap.size, 0, none⟩) 1 1 [⟨ci, di, 86400 * (di : Int), v⟩] rfl (Rd.of_blkE encR_len (Blk.new w9 _ _) rfl rfl) (by unfold maxLen; omega) (by omega) (by simp; omega) ?_; intro v8 w8 hown8 hgrow8))
                  have hbA := (Below.refl w9.heap.size w9).alloc (Nat.le_refl _) (.cells #[.int .i64 (ci : Int), .int .i64 (di : Int), .int .i64 (86400 * (di : Int)), .int .i64 v] 55)
                  have tw8 := (HTW9.out.below hbA).two_ (by simpa using hown8) hgrow8
                  have b8 := (HB9.out.alloc (by omega) (.cells #[.int .i64 (ci : Int), .int .i64 (di : Int), .int .i64 (86400 * (di : Int)), .int .i64 v] 55)).grown hgrow8 (by simp; omega) (fun g hg => (HTW9.out.o2.lt g hg).1)
                  go_roundw
                  case rel => exact ⟨k + 1, _, _, by omega, by go_num, tw8, HRS9.out, fun r hr => by rcases List.mem_append.1 hr with hr | hr; exact HTR9.out r hr; (rw [List.mem_singleton] at hr; rw [hr]; exact HME9.out), by rw [List.length_append, List.length_singleton]; omega, HLN9.out, b8⟩
                  case measure => simp [intOf] <;> omega
                · have h3 : (z / 256 % 2 == 0) = false := by simp [h2]
                  clear h2
                  go_wp2_with (at_builtin; go_must (refine wpList_append_rd rfl _ _ 29 rfl v4.heap.size 5 i0 (.int .u8 0) 1 1 Tryz.underlying29 HI.out HZ0.out HZ1.out HZ2.out rfl (by decide) _ _ _ rfl HNW.out.tw.o1 encB_len oneBy A9 16 c9' _ rfl HRB.out (by unfold maxLen; omega) (by omega) (by omega) ?_; intro v9 w9 hown hgrow))
                  have tw9 := HNW.out.tw.rec_ HVL.out hown hgrow
                  have b9 := HB4.out.grown hgrow (by omega) (fun g hg => (HNW.out.tw.o1.lt g hg).1)
                  go_roundw
                  case rel => exact ⟨k + 1, _, _, by omega, by go_num, tw9, HRS9.out, HTR9.out, by omega, HLN9.out, b9⟩
                  case measure => simp [intOf] <;> omega
            -- Z]
          · obtain rfl : qn = k := by omega
            have hrs2 : Ga.rsOf its = qs.map (recW st n dn) := by rw [hrs, List.take_of_length_le (by rw [HQ.out.len]; exact Nat.le_refl _)]
            obtain ⟨heard, hhd⟩ : ∃ l, l = Ga.rsOf its := ⟨_, rfl⟩
            rw [← hhd] at hrs2 htr
            have hhl : heard.length = qn := by rw [hrs2, List.length_map, HQ.out.len]
            have hrec : ∀ r ∈ heard, ∃ z, r = recW st n dn z := fun r hr => by rw [hrs2] at hr; obtain ⟨z, _, e⟩ := List.mem_map.1 hr; exact ⟨z, e.symm⟩
            have hva : ∀ r ∈ heard, Ga.validB r = true := fun r hr => by obtain ⟨z, rfl⟩ := hrec r hr; exact recW_valid hq1 ⟨hdn0, hd1⟩ HBD.out
            obtain ⟨Ab, cb, rfl, hcb⟩ := own_form htw.o1
            obtain ⟨At, ct, rfl, hct⟩ := own_form htw.o2
            have hri := Ga.read_items htw.good
            rw [← hhd] at hri
            have hrd := Ga.Read_c (Rd.of_own encB_len htw.o1 rfl) hcb (by omega)
            rw [hri.1] at hrd
            have hrt := Rd.of_own encR_len htw.o2 rfl
            have HRD := Lib.hid hrd; have HRT := Lib.hid hrt; have HHL := Lib.hid hhl; have HREC := Lib.hid hrec; have HVA := Lib.hid hva; have HTR := Lib.hid htr; have HB4 := Lib.hid hb
            have hkq : ¬ (qn : Int) < (qn : Int) := by omega
            clear hrs hrs2 hhd hhl hrec hva hri hrd hrt htw htr hb
            go_wp2_with fail
            refine HRD.out.mono ?_
            rintro e w9 ⟨A1', n1', c1', A2', n2', c2', rfl, hc1, hc2, hr1, hr2, hb⟩
            obtain rfl : n1' = qn := by have := hr1.len; have h2 := HHL.out; omega
            have hrt := HRT.out.below hb; have b9 := below_tr HB4.out hb
            have hll : Ga.RdLL (w9.alloc (.cells #[.slice At two.length ct, .slice A1' n1' c1'] 52)) (some ⟨w9.heap.size, 0, none⟩) 2 [⟨At, two.length, ct, two⟩, ⟨A1', n1', c1', heard⟩] := by
              refine ⟨Rd.of_blkE encL_len (Blk.new w9 _ _) rfl rfl, fun i x hx => ?_⟩
              have hal := (Below.refl w9.heap.size w9).alloc (Nat.le_refl _) (.cells #[.slice At two.length ct, .slice A1' n1' c1'] 52)
              match i, hx with
              | 0, hx => obtain rfl := Option.some.inj hx; exact ⟨hrt.below hal, by unfold maxLen; dsimp only; omega, hct⟩
              | 1, hx => obtain rfl := Option.some.inj hx; exact ⟨hr1.below hal, by unfold maxLen; dsimp only; omega, hc1⟩
            have hcat : Ga.catL [⟨At, two.length, ct, two⟩, ⟨A1', n1', c1', heard⟩] = two ++ heard := by simp [Ga.catL]
            have herr : Ga.errL [⟨At, two.length, ct, two⟩, ⟨A1', n1', c1', heard⟩] = 0 := by
              unfold Ga.errL
              rw [if_neg, if_neg]
              · rw [Bool.not_eq_false, Ga.allB_iff]
                intro i x hx
                unfold Ga.valB
                rw [Ga.allB_iff]
                intro j r hr
                match i, hx with
                | 0, hx => obtain rfl := Option.some.inj hx; exact HVA.out r (HTR.out r (List.mem_of_getElem? hr))
                | 1, hx => obtain rfl := Option.some.inj hx; exact HVA.out r (List.mem_of_getElem? hr)
              · rintro (h9 | h9)
                · simp at h9
                · rw [← Bool.not_eq_true, Ga.allB_iff] at h9
                  refine h9 fun i x hx => ?_
                  unfold Ga.shortB
                  rw [decide_eq_true_eq]
                  match i, hx with
                  | 0, hx => obtain rfl := Option.some.inj hx; dsimp only; omega
                  | 1, hx => obtain rfl := Option.some.inj hx; dsimp only; omega
            have hmc := Ga.Merge_c (c := 2) hll (by unfold maxLen; omega)
            rw [herr, hcat] at hmc
            have hby : ByName (two ++ heard) := recW_name (st := st) (n := n) (dn := dn) fun r hr => by
              rcases List.mem_append.1 hr with hr | hr
              · exact HREC.out r (HTR.out r hr)
              · exact HREC.out r hr
            obtain ⟨hma, hmb⟩ := merged_all hby
            rw [hma, hmb] at hmc
            have hml := merged_len HTR.out
            obtain ⟨hso1, hso2⟩ := Ga.sortedR_ok (two ++ heard)
            have hone := one_each (l := Ga.sortedR (two ++ heard)) (fun x hx y hy => hby x ((hso2 x).1 hx) y ((hso2 y).1 hy)) hso1
            have hsr : ∀ r ∈ Ga.sortedR (two ++ heard), ∃ z, r = recW st n dn z := fun r hr => by
              rcases List.mem_append.1 ((hso2 r).1 hr) with hr | hr
              · exact HREC.out r (HTR.out r hr)
              · exact HREC.out r hr
            obtain ⟨S, hS⟩ : ∃ S, S = Ga.sortedR (two ++ heard) := ⟨_, rfl⟩
            rw [← hS] at hmc hml hone hsr
            have HMC := Lib.hid hmc; have HML := Lib.hid hml; have HONE := Lib.hid hone; have HSR := Lib.hid hsr; have HB5 := Lib.hid b9; have HAL := Lib.hid ((Below.refl w9.heap.size w9).alloc (Nat.le_refl _) (.cells #[.slice At two.length ct, .slice A1' n1' c1'] 52))
            clear hrt b9 hll hcat herr hmc hby hma hmb hml hso1 hso2 hone hsr hS hr1 hr2 hb hc1 hc2 HRD HRT HREC HVA HTR HB4
            go_wp2_with fail
            refine HMC.out.mono ?_
            rintro e w10 ⟨⟨A5, n5, c5, A6, n6, c6, rfl, h5, h6, h5', h6', _, hok⟩, hb⟩
            obtain ⟨hm1, hm2⟩ := hok (by trivial)
            obtain rfl : n6 = 0 := by have := hm2.len; simpa using this.symm
            have hn5 : n5 ≤ n1' := by have := hm1.len; have := HML.out; have := HHL.out; omega
            have hn5i : ¬ (n1' : Int) < (n5 : Int) := by omega
            have hn5j : ¬ n1' < n5 := by omega
            have hn5d : decide (n1' < n5) = false := decide_eq_false hn5j
            have hn5e : decide ((n1' : Int) < (n5 : Int)) = false := decide_eq_false hn5i
            have b10 := below_tr HB5.out (below_tr HAL.out hb)
            have HS5 := Lib.hid hm1; have HB6 := Lib.hid b10
            clear hok hm1 hm2 b10 hb HMC HAL HB5 h6 h6'
            obtain ⟨k0, hk0, hq0, hq1', hq2⟩ := info_parts infoWR
            have HK := Lib.hid hk0; have HQ0 := Lib.hid hq0; have HQ1 := Lib.hid hq1'; have HQ2 := Lib.hid hq2
            clear hk0 hq0 hq1' hq2
            go_wp2_with fail
            have hsl := HS5.out.len
            have HSL := Lib.hid hsl
            clear hsl
            go_loopw [34, 35] (fun v i wi => ∃ j : Nat, j ≤ n5 ∧ i = .int .i64 (j : Int) ∧ wi.ownsRow w10.heap.size 65 4 v j (((S.map wrR).take j).flatMap encWR) ∧ Below w10.heap.size w10 wi) (fun _ i _ => n5 - (intOf i).toNat)
            case atStart => exact ⟨0, Nat.zero_le _, rfl, World.ownsRow_nil _ _ _ _, Below.refl _ _⟩
            case round =>
              obtain ⟨j, hj, rfl, hown, hb⟩ := hrel
              by_cases hjn : j < n5
              · have hji : (j : Int) < (n5 : Int) := by omega
                have hj0 : (0 : Int) ≤ (j : Int) := by omega
                obtain ⟨bs, os, x, rfl, hbs, hx, y0, y1, y2, y3⟩ := (HS5.out.below hb).at4 hjn
                have hxm : (S.map wrR)[j]? = some (wrR x) := by rw [List.getElem?_map, hx]; rfl
                have hbA := (Below.refl wr.heap.size wr).alloc (Nat.le_refl _) (.cells #[.int .i64 x.ins, .int .i64 x.num, .int .i64 x.tim, .int .i64 x.val] 55)
                have hnA := Blk.new wr 55 #[.int .i64 x.ins, .int .i64 x.num, .int .i64 x.tim, .int .i64 x.val]
                have HXM := Lib.hid hxm; have HO9 := Lib.hid (own_mono hown hbA); have HB9 := Lib.hid (below_tr hb hbA); have HX9 := Lib.hid hnA
                clear hx hxm hown hb hbA hnA
                go_upto_region 38 with fail
                clear y0 y1 y2 y3
                revert HO9 HB9 HX9
                generalize hgA : wr.heap.size = B36
                generalize (World.alloc wr (.cells #[.int .i64 x.ins, .int .i64 x.num, .int .i64 x.tim, .int .i64 x.val] 55)) = wj
                intro HO9 HB9 HX9
                clear hgA
                have hszj := HB9.out.size
                have y0 := HX9.out.cell 0; have y1 := HX9.out.cell 1; have y2 := HX9.out.cell 2; have y3 := HX9.out.cell 3
                simp at y0 y1 y2 y3
                go_wp2_with (at_builtin; go_must (refine wpList_append_rd rfl _ _ 63 rfl w10.heap.size 65 k0 (.agg #[.int .i64 0, .int .i64 0, .int .i64 0, .int .i64 0]) 4 32 Tryz.underlying63 HK.out HQ0.out HQ1.out HQ2.out rfl (by decide) _ _ _ rfl (HO9.out.alloc _) encWR_len oneWR (some ⟨wj.heap.size, 0, none⟩) 1 1 [wrR x] rfl (Rd.of_blkE encWR_len (Blk.new wj _ _) rfl rfl) (by unfold maxLen; omega) (by omega) (by simp; omega) ?_; intro v9 w11 hown9 hgrow9))
                have hbA := (Below.refl wj.heap.size wj).alloc (Nat.le_refl _) (.cells #[.int .i64 x.ins, .int .i64 x.num, .int .i64 x.val, .int .i64 x.val] 65)
                have b9 := (HB9.out.alloc (by omega) (.cells #[.int .i64 x.ins, .int .i64 x.num, .int .i64 x.val, .int .i64 x.val] 65)).grown hgrow9 (by simp; omega) (fun g hg => (HO9.out.lt g hg).1)
                rw [← flat_take HXM.out] at hown9
                clear hgrow9 hbA
                go_roundw
                case rel => exact ⟨j + 1, by omega, by go_num, hown9, b9⟩
                case measure => simp [intOf] <;> omega
              · obtain rfl : n5 = j := by omega
                rw [List.take_of_length_le (by rw [List.length_map, HSL.out]; exact Nat.le_refl _)] at hown
                obtain ⟨AX, cX, rfl, hcX⟩ := own_form hown
                have hrX := Rd.of_own encWR_len hown (by rw [List.length_map]; exact HSL.out)
                have q1 := below_tr HB6.out hb; have a1 := below_tr HB.out q1; have a2 := H11.out.below q1 H11.out.lt; have a3 := H12.out.below q1 H12.out.lt; have a4 := HC1.out.below q1; have a5 := HD1.out.below q1
                have hL := HL.out.len.trans HCL.out.symm; have hR := HRN.out.len.trans HDL.out.symm
                have hfk := fault_known HFW.out hL hR HFL.out HFR.out HTS.out
                rw [HCL.out] at hfk
                have hlx := learn_x HST.out HCL.out hq1.1 hdn0 HSR.out
                clear HB H11 H12 HC1 HD1 HG HL HRN HLV HB6
                have HB := Lib.hid a1; have H11 := Lib.hid a2; have H12 := Lib.hid a3; have HC1 := Lib.hid a4; have HD1 := Lib.hid a5; have HX := Lib.hid hrX; have HFK := Lib.hid hfk; have HLX := Lib.hid hlx
                clear a1 a2 a3 a4 a5 q1 hrX hown hb hL hR hfk hlx
                have hji : ¬ (n5 : Int) < (n5 : Int) := by omega
                have x0 := H12.out.cell 0; have x1 := H12.out.cell 1; have x2 := H12.out.cell 2; have x3 := H12.out.cell 3; have x4 := H12.out.cell 4; have x5 := H12.out.cell 5
                simp at x0 x1 x2 x3 x4 x5
                go_wp2_with fail
                go_at_call 10
                refine (rGroundConv_c HC1.out (by omega)).mono ?_
                rintro e w11 ⟨A12, c12, rfl, hr1, hb9⟩
                have t0 := below_tr HB.out hb9; have t1 := H11.out.below hb9 H11.out.lt; have t2 := H12.out.below hb9 H12.out.lt; have t3 := HC1.out.below hb9; have t4 := HD1.out.below hb9; have t5 := HX.out.below hb9
                clear HB H11 H12 HC1 HD1 HX
                have HB := Lib.hid t0; have H11 := Lib.hid t1; have H12 := Lib.hid t2; have HC1 := Lib.hid t3; have HD1 := Lib.hid t4; have HX := Lib.hid t5
                clear t0 t1 t2 t3 t4 t5
                have HC3 := Lib.hid hr1
                clear hb9 hr1
                clear x0 x1 x2 x3 x4 x5
                go_wp2_with fail
                go_at_call 11
                refine (rDays_c HD1.out (by omega)).mono ?_
                rintro e w12 ⟨A13, c13, rfl, hr1, hb9⟩
                have t0 := below_tr HB.out hb9; have t1 := H11.out.below hb9 H11.out.lt; have t2 := H12.out.below hb9 H12.out.lt; have t3 := HC1.out.below hb9; have t4 := HD1.out.below hb9; have t5 := HX.out.below hb9; have t6 := HC3.out.below hb9
                clear HB H11 H12 HC1 HD1 HX HC3
                have HB := Lib.hid t0; have H11 := Lib.hid t1; have H12 := Lib.hid t2; have HC1 := Lib.hid t3; have HD1 := Lib.hid t4; have HX := Lib.hid t5; have HC3 := Lib.hid t6
                clear t0 t1 t2 t3 t4 t5 t6
                have HD3 := Lib.hid hr1
                clear hb9 hr1
                go_wp2_with fail
                go_at_call 16
                refine (Learn_c (t := tso) HC3.out HD3.out HX.out HFK.out hdn0 (by omega) (knC_eq HCL.out) knD_eq HONE.out HLX.out HTO.out).mono ?_
                rintro e w13 ⟨a, b, rfl, hla, hlb, hb9⟩
                have t0 := below_tr HB.out hb9; have t1 := H11.out.below hb9 H11.out.lt; have t2 := H12.out.below hb9 H12.out.lt; have t3 := HC1.out.below hb9; have t4 := HD1.out.below hb9; have t5 := HX.out.below hb9; have t6 := HC3.out.below hb9; have t7 := HD3.out.below hb9
                clear HB H11 H12 HC1 HD1 HX HC3 HD3
                have HB := Lib.hid t0; have H11 := Lib.hid t1; have H12 := Lib.hid t2; have HC1 := Lib.hid t3; have HD1 := Lib.hid t4; have HX := Lib.hid t5; have HC3 := Lib.hid t6; have HD3 := Lib.hid t7
                clear t0 t1 t2 t3 t4 t5 t6 t7
                clear hb9 
                go_upto_region 40 with fail
                have hbA := (Below.refl w13.heap.size w13).alloc (Nat.le_refl _) (.cells #[.int .i64 a, .int .i64 b] 44)
                have y0 := (H11.out.below hbA H11.out.lt).cell 1
                have hz := (Blk.new w13 44 #[.int .i64 a, .int .i64 b])
                have y1 := hz.cell 0; have y2 := hz.cell 1
                simp at y0 y1 y2
                have HB9 := Lib.hid (below_tr HB.out hbA)
                clear hbA hz HB H11 H12 HC1 HD1 HX HC3 HD3
                have hga : a ≤ tso := hla; have hgb : tso ≤ b := hlb
                have hgc : ¬ tso < a := by omega
                have hgd : ¬ b < tso := by omega
                have hge : decide (a ≤ tso) = true := decide_eq_true hga
                have hgf : decide (tso ≤ b) = true := decide_eq_true hgb
                go_wp2_with fail
                refine (hears_c _).mono ?_
                rintro e w14 ⟨rfl, hb14⟩
                have HB14 := Lib.hid (below_tr HB9.out hb14)
                clear hb14
                go_wp2_with fail
                go_ret
                exact ⟨rfl, HB14.out⟩
    · have hf1 : (F == 0) = false := by rw [beq_eq_false_iff_ne]; exact hf0
      go_enter Tryz.func3, Tryz.ntmps3
      go_upto_region 1 with fail
      revert HB HG
      generalize World.alloc w _ = w1
      intro HB HG
      have g0 := HG.out.cell 0; have g1 := HG.out.cell 1; have g2 := HG.out.cell 2; have g3 := HG.out.cell 3; have g4 := HG.out.cell 4; have g5 := HG.out.cell 5
      simp at g0 g1 g2 g3 g4 g5
      go_wp2_with fail
      go_at_call 4
      refine (HTH.out _).mono ?_
      rintro e w2 ⟨rfl, hb9⟩
      have t0 := below_tr HB.out hb9; have t1 := HG.out.below hb9 HG.out.lt
      clear HB HG
      have HB := Lib.hid t0; have HG := Lib.hid t1
      clear t0 t1
      clear hb9 
      clear g0 g1 g2 g3 g4 g5
      have g0 := HG.out.cell 0; have g1 := HG.out.cell 1; have g2 := HG.out.cell 2; have g3 := HG.out.cell 3; have g4 := HG.out.cell 4; have g5 := HG.out.cell 5
      simp at g0 g1 g2 g3 g4 g5
      go_wp2_with fail
      go_at_call 5
      refine (HFC.out _ HB.out).mono ?_
      rintro e w3 ⟨rfl, hb9⟩
      have t0 := below_tr HB.out hb9; have t1 := HG.out.below hb9 HG.out.lt
      clear HB HG
      have HB := Lib.hid t0; have HG := Lib.hid t1
      clear t0 t1
      clear hb9 
      clear g0 g1 g2 g3 g4 g5
      go_wp2_with fail
      go_at_call 6
      refine (hears_c _).mono ?_
      rintro e w9 ⟨rfl, hb9⟩
      have t0 := below_tr HB.out hb9; have t1 := HG.out.below hb9 HG.out.lt
      clear HB HG
      have HB := Lib.hid t0; have HG := Lib.hid t1
      clear t0 t1
      clear hb9 
      go_wp2_with fail
      go_ret
      exact ⟨rfl, HB.out⟩
  · rw [show (decide (n ≤ 10) && decide (dn ≤ 35)) = false by simp; omega] at hth
    have HTH := Lib.hid hth
    clear hth
    go_enter Tryz.func3, Tryz.ntmps3
    go_upto_region 1 with fail
    revert HB HG
    generalize World.alloc w _ = w1
    intro HB HG
    have g0 := HG.out.cell 0; have g1 := HG.out.cell 1; have g2 := HG.out.cell 2; have g3 := HG.out.cell 3; have g4 := HG.out.cell 4; have g5 := HG.out.cell 5
    simp at g0 g1 g2 g3 g4 g5
    go_wp2_with fail
    go_at_call 4
    refine (HTH.out _).mono ?_
    rintro e w2 ⟨rfl, hb9⟩
    have t0 := below_tr HB.out hb9; have t1 := HG.out.below hb9 HG.out.lt
    clear HB HG
    have HB := Lib.hid t0; have HG := Lib.hid t1
    clear t0 t1
    clear hb9 
    clear g0 g1 g2 g3 g4 g5
    go_wp2_with fail
    go_at_call 6
    refine (hears_c _).mono ?_
    rintro e w9 ⟨rfl, hb9⟩
    have t0 := below_tr HB.out hb9; have t1 := HG.out.below hb9 HG.out.lt
    clear HB HG
    have HB := Lib.hid t0; have HG := Lib.hid t1
    clear t0 t1
    clear hb9 
    go_wp2_with fail
    go_ret
    exact ⟨rfl, HB.out⟩
end Go.Proofs.YtjpobkmlcjbpiaaGreat
