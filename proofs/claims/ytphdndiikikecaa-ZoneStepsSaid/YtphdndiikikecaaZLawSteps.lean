/- THE WALK of ZoneSteps. -/
import Derived.Test.YtphdndiikikecaaZStepLaw
import Derived.Test.YtphdndiikikecaaZFaultC
import Derived.Test.YtphdndiikikecaaZThin
namespace Go.Proofs.Ytphdndiikikecaa
open Go.RowKit Go.Proofs
attribute [local go_sem ↓] Go.wp_at_zero Go.wp_at_succ

theorem infoSSli : (Try.prog.info? 62).map (fun i => (i.zero, i.size, i.bytes)) = some (some (.agg #[.slice none 0 0, .int .i64 0, .int .i64 0, .int .i64 0]), 4, 48) := by kernel_rfl
/-- the world behind the copies: x with greater steps, y with one slide more -/
def YStep (w1 : World) (g : Nat) (VC XC : Array Value) (PA : Option Addr) (pn pc sn : Nat) (v : Vly) (s : Sli) (bx bz : Nat) (W : World) : Prop :=
  ∃ (gy cy : Nat), MS w1 g bx bz VC XC (vA PA pn pc (some ⟨gy, 0, none⟩) (sn + 1) cy v) W ∧ RdV W PA pn (some ⟨gy, 0, none⟩) (sn + 1) ⟨v.pars, v.sls ++ [s], v.s0, v.s1, v.s2⟩

set_option maxRecDepth 100000 in
set_option maxHeartbeats 4000000 in
theorem ZoneSteps_w {v : Vly} {s : Sli} {m : Int} {PA SA : Option Addr} {pn pc sn sc : Nat} {w : World} (h : RdV w PA pn SA sn v) (hpn : pn ≤ maxLen) (hsn : sn ≤ maxLen) (hm : 0 ≤ m ∧ m ≤ 255) (hs : Rd enc1 1 w s.A s.n s.way) (hs1 : s.n ≤ maxLen) (hs2 : s.n ≤ s.c) :
    Calls Try.prog 7 #[.agg #[.slice PA pn pc, .slice SA sn sc, .int .i64 v.s0, .int .i64 v.s1, .int .i64 v.s2], .int .u8 m, .agg #[.slice s.A s.n s.c, .int .i64 s.rate, .int .i64 s.lo, .int .i64 s.hi]] w fun e w' => e = .returned (.bool true) ∧ Below w.heap.size w w' := by
  obtain ⟨j0, hi0, hz0, hz1, hz2⟩ := info_parts infoSSli
  have JI := Lib.hid hi0; have JZ0 := Lib.hid hz0; have JZ1 := Lib.hid hz1; have JZ2 := Lib.hid hz2
  clear hi0 hz0 hz1 hz2
  have hlp := h.pars.len; have hls := h.sls.len
  have HSA := Lib.hid (SW.new w (vA PA pn pc SA sn sc v))
  have hbs : Below (w.alloc (.cells (vA PA pn pc SA sn sc v) 26)).heap.size (w.alloc (.cells (vA PA pn pc SA sn sc v) 26)) ((w.alloc (.cells (vA PA pn pc SA sn sc v) 26)).alloc (.cells #[.slice s.A s.n s.c, .int .i64 s.rate, .int .i64 s.lo, .int .i64 s.hi] 62)) := (Below.refl _ _).alloc (Nat.le_refl _) _
  have HS0 := Lib.hid (HSA.out.below hbs)
  have hbk := Blk.new (w.alloc (.cells (vA PA pn pc SA sn sc v) 26)) 62 #[.slice s.A s.n s.c, .int .i64 s.rate, .int .i64 s.lo, .int .i64 s.hi]
  rw [World.size_alloc] at hbk
  have HB0 := Lib.hid hbk
  have HRY := Lib.hid (ready_c (pc := pc) (sc := sc) (h.below HS0.out.bel) hpn hsn)
  have HV := Lib.hid h; have HSR := Lib.hid hs
  clear hbs hbk HSA
  cases hrd : readyB v
  · rw [hrd] at HRY
    clear hrd h hs
    go_enter Try.func7, Try.ntmps7
    go_wp2_with fail
    refine HRY.out.mono ?_
    rintro e w1 ⟨rfl, hb⟩
    have HB1 := Lib.hid (below_tr HS0.out.bel hb)
    clear hb
    go_wp2_with (go_at_call 18; refine (wakes_ok _).mono ?_; rintro e w2 ⟨rfl, hb2⟩)
    go_ret
    exact ⟨rfl, below_tr HB1.out hb2⟩
  · rw [hrd] at HRY
    obtain ⟨hth, hok⟩ := readyB_iff.1 hrd
    have htt := thinB_iff.1 hth
    have hsn10 : sn ≤ 10 := by have := hok.sn; omega
    have hpb : 1 ≤ pn ∧ pn ≤ 12 := by have := hok.pn; omega
    have HWY := Lib.hid (fun (s : Sli) (hs : s ∈ v.sls) => show s.way.length ≤ 15 from htt.1 s hs)
    have HOK := Lib.hid hok
    have hst := stepsOk_iff.1 hok.steps
    have hwm : IntKind.i64.wrap m = m := wi (by omega)
    have hw0 : IntKind.i64.wrap (v.s0 + m) = v.s0 + m := wi (by omega)
    have hw1 : IntKind.i64.wrap (v.s1 + m) = v.s1 + m := wi (by omega)
    have hw2 : IntKind.i64.wrap (v.s2 + m) = v.s2 + m := wi (by omega)
    have HLP := Lib.hid hlp; have HLS := Lib.hid hls
    clear h hs hrd hok hth htt hlp hls
    go_enter Try.func7, Try.ntmps7
    go_wp2_with fail
    refine HRY.out.mono ?_
    rintro e w1 ⟨rfl, hb⟩
    have HS1 := Lib.hid (HS0.out.below hb)
    have HBS := Lib.hid (HB0.out.below hb HB0.out.lt)
    obtain ⟨c0, c1, c2, c3, c4⟩ := HS1.out.cells
    clear hb HRY HS0 HB0
    go_upto_region 4 with fail
    go_cut [7, 8] (fun x y wx => CopB w1 w.heap.size (vA PA pn pc SA sn sc v) x y wx)
    case first =>
      have hnl := HS1.out.2.lt
      go_region
      all_goals
        go_wp2_with fail
        go_meet
        first | exact CopB.one HS1.out.2 | exact CopB.two HS1.out.2
    case rest =>
      obtain ⟨bx, bz, rfl, rfl, hms⟩ := hcut
      obtain ⟨W2, hW2⟩ : ∃ W2, W2 = wc := ⟨_, rfl⟩
      rw [← hW2] at hms ⊢
      have HMS := Lib.hid hms
      clear hW2 hms c0 c1 c2 c3 c4
      go_wp2_with fail
      go_loopw [9] (fun i wr => ∃ k : Nat, k ≤ 3 ∧ i = .int .i64 k ∧ MS w1 w.heap.size bx bz (vA PA pn pc SA sn sc v) (vA PA pn pc SA sn sc (stp v m k)) (vA PA pn pc SA sn sc v) wr) (fun i _ => 3 - (intOf i).toNat)
      case atStart => exact ⟨0, Nat.zero_le _, rfl, HMS.out⟩
      case round =>
        obtain ⟨k, hk, rfl, hmk⟩ := hrel
        have HMK := Lib.hid hmk
        by_cases hlt : k < 3
        · clear hmk
          have x2 := HMK.out.xs.cell 2
          have x3 := HMK.out.xs.cell 3
          have x4 := HMK.out.xs.cell 4
          have xf2 := HMK.out.xs.frozen 2
          have xf3 := HMK.out.xs.frozen 3
          have xf4 := HMK.out.xs.frozen 4
          obtain rfl | rfl | rfl : k = 0 ∨ k = 1 ∨ k = 2 := by omega
          · simp [stp] at x2
            clear x3 x4 xf3 xf4
            go_wp2_with fail
            go_roundw
            case rel => exact ⟨1, by omega, rfl, vA_set2 PA pn pc SA sn sc v m ▸ HMK.out.setX 2 (.int .i64 (v.s0 + m))⟩
            case measure => simp [intOf]
          · simp [stp] at x3
            clear x2 x4 xf2 xf4
            go_wp2_with fail
            go_roundw
            case rel => exact ⟨2, by omega, rfl, vA_set3 PA pn pc SA sn sc v m ▸ HMK.out.setX 3 (.int .i64 (v.s1 + m))⟩
            case measure => simp [intOf]
          · simp [stp] at x4
            clear x2 x3 xf2 xf3
            go_wp2_with fail
            go_roundw
            case rel => exact ⟨3, by omega, rfl, vA_set4 PA pn pc SA sn sc v m ▸ HMK.out.setX 4 (.int .i64 (v.s2 + m))⟩
            case measure => simp [intOf]
        · obtain rfl : k = 3 := by omega
          obtain ⟨W3, hW3⟩ : ∃ W3, W3 = wr := ⟨_, rfl⟩
          rw [← hW3] at HMK ⊢
          clear hmk HMS hW3
          have HR2 := Lib.hid (HV.out.below (below_tr HS1.out.bel HMK.out.bel))
          have HS3 := Lib.hid (HSR.out.below (below_tr HS1.out.bel HMK.out.bel))
          go_upto_region 9 with fail
          go_cut [] (fun wx => YStep w1 w.heap.size (vA PA pn pc SA sn sc v) (vA PA pn pc SA sn sc (stp v m 3)) PA pn pc sn v s bx bz wx)
          case first =>
            as_aux_lemma =>
              have c1 := HMK.out.vs.cell 1
              have z1 := HMK.out.zs.cell 1
              have zf := HMK.out.zs.frozen 1
              have hbk3 := HBS.out.below HMK.out.bel HBS.out.lt
              have q0 := hbk3.cell 0; have q1 := hbk3.cell 1; have q2 := hbk3.cell 2; have q3 := hbk3.cell 3
              simp at c1 z1 q0 q1 q2 q3
              have hvl := HMK.out.vs.lt; have hzl := HMK.out.zs.lt; have hql := hbk3.lt
              have HST := Lib.hid (fun W (hW : Below W3.heap.size W3 W) => show W.cell? ⟨w.heap.size, 1, none⟩ = some (.slice SA sn sc) ∧ W.cell? ⟨w.heap.size + 1, 0, none⟩ = some (.slice s.A s.n s.c) ∧ W.cell? ⟨w.heap.size + 1, 1, none⟩ = some (.int .i64 s.rate) ∧ W.cell? ⟨w.heap.size + 1, 2, none⟩ = some (.int .i64 s.lo) ∧ W.cell? ⟨w.heap.size + 1, 3, none⟩ = some (.int .i64 s.hi) from
                ⟨(hW.cell (p := ⟨w.heap.size, 1, none⟩) hvl).trans c1, (hW.cell (p := ⟨w.heap.size + 1, 0, none⟩) hql).trans q0, (hW.cell (p := ⟨w.heap.size + 1, 1, none⟩) hql).trans q1, (hW.cell (p := ⟨w.heap.size + 1, 2, none⟩) hql).trans q2, (hW.cell (p := ⟨w.heap.size + 1, 3, none⟩) hql).trans q3⟩)
              have HZC := Lib.hid (fun W (hW : Below W3.heap.size W3 W) => (hW.cell (p := ⟨bz, 1, none⟩) hzl).trans z1)
              have hne1 : w.heap.size ≠ bz := HMK.out.ne.2.1
              have hne2 : w.heap.size + 1 ≠ bz := by have := HBS.out.lt; have := HMK.out.ne; omega
              have HSC := Lib.hid (fun W (hW : Below W3.heap.size W3 W) (u : Value) => show (W.setCell ⟨bz, 1, none⟩ u).cell? ⟨w.heap.size, 1, none⟩ = some (.slice SA sn sc) ∧ (W.setCell ⟨bz, 1, none⟩ u).cell? ⟨w.heap.size + 1, 0, none⟩ = some (.slice s.A s.n s.c) ∧ (W.setCell ⟨bz, 1, none⟩ u).cell? ⟨w.heap.size + 1, 1, none⟩ = some (.int .i64 s.rate) ∧ (W.setCell ⟨bz, 1, none⟩ u).cell? ⟨w.heap.size + 1, 2, none⟩ = some (.int .i64 s.lo) ∧ (W.setCell ⟨bz, 1, none⟩ u).cell? ⟨w.heap.size + 1, 3, none⟩ = some (.int .i64 s.hi) from by
                have hS := HST.out W hW
                refine ⟨?_, ?_, ?_, ?_, ?_⟩
                · rw [World.cell?_setCell_other _ _ _ _ (fun e => hne1 (by injection e with e1; first | exact e1 | exact e1.symm))]; exact hS.1
                · rw [World.cell?_setCell_other _ _ _ _ (fun e => hne2 (by injection e with e1; first | exact e1 | exact e1.symm))]; exact hS.2.1
                · rw [World.cell?_setCell_other _ _ _ _ (fun e => hne2 (by injection e with e1; first | exact e1 | exact e1.symm))]; exact hS.2.2.1
                · rw [World.cell?_setCell_other _ _ _ _ (fun e => hne2 (by injection e with e1; first | exact e1 | exact e1.symm))]; exact hS.2.2.2.1
                · rw [World.cell?_setCell_other _ _ _ _ (fun e => hne2 (by injection e with e1; first | exact e1 | exact e1.symm))]; exact hS.2.2.2.2)
              have HZF := Lib.hid (fun W (hW : Below W3.heap.size W3 W) => (hW.frozen (p := ⟨bz, 1, none⟩) hzl).trans zf)
              clear hbk3 zf
              go_wp2_with fail
              go_region_held3 (fun w' => w'.cell? ⟨w.heap.size, 1, none⟩ = some (.slice SA sn sc) ∧ w'.cell? ⟨w.heap.size + 1, 0, none⟩ = some (.slice s.A s.n s.c) ∧ w'.cell? ⟨w.heap.size + 1, 1, none⟩ = some (.int .i64 s.rate) ∧ w'.cell? ⟨w.heap.size + 1, 2, none⟩ = some (.int .i64 s.lo) ∧ w'.cell? ⟨w.heap.size + 1, 3, none⟩ = some (.int .i64 s.hi))
                (first | exact HST.out _ (Below.refl _ _) | exact HST.out _ (Below.refl _ _).drew | exact HST.out _ ((Below.refl _ _).alloc (Nat.le_refl _) _) | exact HST.out _ (((Below.refl _ _).alloc (Nat.le_refl _) _).alloc (by simp) _) | exact HSC.out _ hb7 _ | exact HST.out _ hb7 | exact HST.out _ hb6 | exact HST.out _ (hb6.alloc hb6.size _) | assumption | go_keep)
                (first
                  | ((with_reducible show ite _ (Oper.wp _ _ _ (World.drew (World.alloc W3 _)) _ _) _); refine step_append_rd (by rfl) (.tmp 40) (.tmp 42) 23 (by rfl) W3.heap.size 62 j0 _ 4 48 Try.underlying23 JI.out JZ0.out JZ1.out JZ2.out rfl (by decide) _ 0 [] (by rfl) (own_empty W3 _ 4) encS_len oneS4 SA sn sc v.sls (by rfl) (HR2.out.sls.below ((Below.refl _ W3).alloc (Nat.le_refl _) _).drew) (by unfold maxLen; omega) (by omega) (by simp; try omega) ?_; intro v6 w6 hown6 hgrow6; rw [Nat.zero_add, List.nil_append] at hown6; obtain ⟨A6, c6, rfl, hc6⟩ := own_form hown6; have hb6 : Below W3.heap.size W3 w6 := (((Below.refl _ W3).alloc (Nat.le_refl _) _).drew).grown hgrow6 (by simp [World.drew]; try omega) (fun b hb => by cases hb; simp))
                  | ((with_reducible show ite _ (Oper.wp _ _ _ (World.drew (World.alloc (World.alloc W3 (.cells #[] _)) _)) _ _) _); refine step_append_rd (by rfl) (.tmp 40) (.tmp 42) 23 (by rfl) W3.heap.size 62 j0 _ 4 48 Try.underlying23 JI.out JZ0.out JZ1.out JZ2.out rfl (by decide) _ 0 [] (by rfl) ((own_empty W3 _ 4).alloc _) encS_len oneS4 SA sn sc v.sls (by rfl) (HR2.out.sls.below (((Below.refl _ W3).alloc (Nat.le_refl _) _).alloc (by simp) _).drew) (by unfold maxLen; omega) (by omega) (by simp; try omega) ?_; intro v6 w6 hown6 hgrow6; rw [Nat.zero_add, List.nil_append] at hown6; obtain ⟨A6, c6, rfl, hc6⟩ := own_form hown6; have hb6 : Below W3.heap.size W3 w6 := ((((Below.refl _ W3).alloc (Nat.le_refl _) _).alloc (by simp) _).drew).grown hgrow6 (by simp [World.drew]; try omega) (fun b hb => by cases hb; simp); have hL := news_two hgrow6)
                  | ((with_reducible show ite _ (Oper.wp _ _ _ (World.drew (World.alloc (World.alloc W3 _) (.cells #[] _))) _ _) _); refine step_append_rd (by rfl) (.tmp 40) (.tmp 42) 23 (by rfl) W3.heap.size 62 j0 _ 4 48 Try.underlying23 JI.out JZ0.out JZ1.out JZ2.out rfl (by decide) _ 0 [] (by rfl) (own_two W3 _ _ _ 4) encS_len oneS4 SA sn sc v.sls (by rfl) (HR2.out.sls.below (((Below.refl _ W3).alloc (Nat.le_refl _) _).alloc (by simp) _).drew) (by unfold maxLen; omega) (by omega) (by simp; try omega) ?_; intro v6 w6 hown6 hgrow6; rw [Nat.zero_add, List.nil_append] at hown6; obtain ⟨A6, c6, rfl, hc6⟩ := own_form hown6; have hb6 : Below W3.heap.size W3 w6 := ((((Below.refl _ W3).alloc (Nat.le_refl _) _).alloc (by simp) _).drew).grown hgrow6 (by simp [World.drew]; try omega) (fun b hb => by cases hb; simp); have hL := news_one hgrow6)
                  | ((with_reducible show ite _ (Oper.wp _ _ _ (World.alloc w6 _) _ _) _); refine step_append_lies _ (by rfl) (.tmp 43) (.tmp 45) 23 (by rfl) W3.heap.size 62 j0 _ 4 48 Try.underlying23 JI.out JZ0.out JZ1.out JZ2.out rfl (by decide) _ sn (v.sls.flatMap encS) (by rfl) (hown6.alloc _) ⟨w6.heap.size, 0, none⟩ 1 1 (encS s) (by rfl) (by rfl) (World.news_of_block (cs := #[.slice s.A s.n s.c, .int .i64 s.rate, .int .i64 s.lo, .int .i64 s.hi]) (t := 62) (fr := (0, 0)) (heap_alloc_new w6 _)) (oneS4 s) (by decide) (by unfold maxLen; omega) (by omega) (Nat.le_trans hb6.size (by simp)) (w6.heap.size + 1) (by simp) ?_; intro gg cap w7 hown7 hgrow7 hat hlt7; have hb7 : Below W3.heap.size W3 w7 := (hb6.alloc hb6.size _).grown hgrow7 (Nat.le_trans hb6.size (by simp)) (fun g hg => (hown6.lt g hg).1); have zf := HZF.out _ hb7; have zc := HZC.out _ hb7)
                  | ((with_reducible show ite _ (Oper.wp _ _ _ w6 _ _) _); refine step_append_lies _ (by rfl) (.tmp 43) (.tmp 45) 23 (by rfl) W3.heap.size 62 j0 _ 4 48 Try.underlying23 JI.out JZ0.out JZ1.out JZ2.out rfl (by decide) _ sn (v.sls.flatMap encS) (by rfl) hown6 _ 1 1 (encS s) (by rfl) (by rfl) hL (oneS4 s) (by decide) (by unfold maxLen; omega) (by omega) hb6.size w6.heap.size rfl ?_; intro gg cap w7 hown7 hgrow7 hat hlt7; have hb7 : Below W3.heap.size W3 w7 := hb6.grown hgrow7 hb6.size (fun g hg => (hown6.lt g hg).1); have zf := HZF.out _ hb7; have zc := HZC.out _ hb7))
              all_goals
                go_wp2_with fail
                go_meet
                have hM := (HMK.out.below hb7).setZ 1 (.slice (some ⟨gg, 0, none⟩) (sn + 1) cap)
                rw [vA_set1'] at hM
                refine ⟨gg, cap, hM, ?_⟩
                have hbw := below_tr HS1.out.bel hM.bel
                have hrow : w7.ownsRow W3.heap.size 62 4 (.slice (some ⟨gg, 0, none⟩) (sn + 1) cap) (sn + 1) ((v.sls ++ [s]).flatMap encS) := by
                  rw [List.flatMap_append]
                  simpa using hown7
                have hgg : W3.heap.size ≤ gg := (hown7.lt gg rfl).1
                refine ⟨(HV.out.below hbw).pars, Rd.far (Rd.of_own encS_len hrow (by rw [List.length_append, HLS.out]; rfl)) (fun a ha => by cases ha; show gg ≠ bz; omega) _, fun i s' hs' => ?_⟩
                by_cases hi : i < v.sls.length
                · rw [List.getElem?_append_left hi] at hs'
                  exact (HV.out.below hbw).way i s' hs'
                · rw [List.getElem?_append_right (by omega)] at hs'
                  have hz := (List.getElem?_eq_some_iff.1 hs').1
                  have e0 : i - v.sls.length = 0 := by simp at hz; omega
                  rw [e0] at hs'
                  simp at hs'
                  subst hs'
                  exact ⟨HSR.out.below hbw, hs1, hs2⟩
          case rest =>
            obtain ⟨gy, cy, hM, hY⟩ := hcut
            obtain ⟨W4, hW4⟩ : ∃ W4, W4 = wc := ⟨_, rfl⟩
            rw [← hW4] at hM hY ⊢
            obtain ⟨yv, hyv⟩ : ∃ yv : Vly, yv = ⟨v.pars, v.sls ++ [s], v.s0, v.s1, v.s2⟩ := ⟨_, rfl⟩
            obtain ⟨xv, hxv⟩ : ∃ xv : Vly, xv = stp v m 3 := ⟨_, rfl⟩
            rw [← hyv] at hY
            have HYE := Lib.hid hyv; have HXE := Lib.hid hxv
            have HM := Lib.hid hM; have HRY := Lib.hid hY
            have HVV := Lib.hid (fun W (hW : Below w1.heap.size w1 W) => Valley_c (pc := pc) (sc := sc) (HV.out.below (below_tr HS1.out.bel hW)) (by omega) (by omega) (fun s hs => by have := HWY.out s hs; omega))
            have hxr : ∀ W, Below w1.heap.size w1 W → RdV W PA pn SA sn xv := fun W hW => by
              rw [hxv]
              exact ⟨(HV.out.below (below_tr HS1.out.bel hW)).pars, (HV.out.below (below_tr HS1.out.bel hW)).sls, (HV.out.below (below_tr HS1.out.bel hW)).way⟩
            have HVX := Lib.hid (fun W (hW : Below w1.heap.size w1 W) => Valley_c (pc := pc) (sc := sc) (hxr W hW) (by omega) (by omega) (fun s hs => by rw [hxv] at hs; have := HWY.out s hs; omega))
            have HFX := Lib.hid (fun W (hW : Below w1.heap.size w1 W) => Fault_c (pc := pc) (sc := sc) (hxr W hW) hpn hsn)
            have HTY := Lib.hid (fun W (hW : Below W4.heap.size W4 W) => Thin_c (pc := pc) (sc := cy) (HRY.out.below hW) (by unfold maxLen; omega))
            have HFY := Lib.hid (fun W (hW : Below W4.heap.size W4 W) => Fault_c (pc := pc) (sc := cy) (HRY.out.below hW) hpn (by unfold maxLen; omega))
            have hx012 : xv.s0 = v.s0 + m ∧ xv.s1 = v.s1 + m ∧ xv.s2 = v.s2 + m := by rw [hxv]; exact ⟨rfl, rfl, rfl⟩
            have hy012 : yv.s0 = v.s0 ∧ yv.s1 = v.s1 ∧ yv.s2 = v.s2 := by rw [hyv]; exact ⟨rfl, rfl, rfl⟩
            rw [hx012.1, hx012.2.1, hx012.2.2] at HVX HFX
            rw [hy012.1, hy012.2.1, hy012.2.2] at HTY HFY
            clear hM hY hW4 HMK HR2 HS3 hyv hxr hxv hx012 hy012
            have c0 := HM.out.vs.cell 0; have c1 := HM.out.vs.cell 1; have c2 := HM.out.vs.cell 2; have c3 := HM.out.vs.cell 3; have c4 := HM.out.vs.cell 4
            simp at c0 c1 c2 c3 c4
            have HVL := Lib.hid (HVV.out _ HM.out.bel)
            go_wp2_with fail
            refine HVL.out.mono ?_
            rintro e wb ⟨A1, p1, A2, p2, v1, rfl, hv1, hal1, hb⟩
            have HM1 := Lib.hid (HM.out.below hb)
            have HW1 := Lib.hid hb
            have HZN := Lib.hid (ZonesB_c (pc := p1) (sc := p2) HOK.out hal1 hv1)
            clear hv1 hal1 hb HVL c0 c1 c2 c3 c4
            go_wp2_with fail
            refine HZN.out.mono ?_
            rintro e wd ⟨B1, e1, B2, e2, rfl, hr1, hr2, hb⟩
            have HM2 := Lib.hid (HM1.out.below hb)
            have HW2 := Lib.hid (below_tr HW1.out hb)
            have HR1 := Lib.hid hr1; have HR2 := Lib.hid hr2
            clear hr1 hr2 hb HM1 HW1 HZN
            have d0 := HM2.out.xs.cell 0; have d1 := HM2.out.xs.cell 1; have d2 := HM2.out.xs.cell 2; have d3 := HM2.out.xs.cell 3; have d4 := HM2.out.xs.cell 4
            have c0 := HM2.out.vs.cell 0
            simp [stp] at d0 d1 d2 d3 d4
            simp at c0
            obtain ⟨R, hR⟩ : ∃ R, R = errV xv := ⟨_, rfl⟩
            simp only [← hR] at HFX
            have HRE := Lib.hid hR
            have HFA := Lib.hid (HFX.out _ HM2.out.bel)
            clear hR
            go_upto_if 74 with (go_at_call 34; refine HFA.out.mono ?_; rintro e wf ⟨rfl, hbf⟩)
            have HM3 := Lib.hid (HM2.out.below hbf)
            have HW3 := Lib.hid (below_tr HW2.out hbf)
            have HR3 := Lib.hid (HR1.out.below hbf); have HR4 := Lib.hid (HR2.out.below hbf)
            clear hbf HFA HFX HR1 HR2 HM2 HW2 c0 d0 d1 d2 d3 d4
            go_cut [] (fun wx => Below wf.heap.size wf wx)
            case first =>
              as_aux_lemma =>
                by_cases hR0 : R = 0
                · subst hR0
                  have hxok : VOk xv := errV_zero.1 HRE.out.symm
                  have HXO := Lib.hid hxok
                  have d0 := HM3.out.xs.cell 0; have d1 := HM3.out.xs.cell 1; have d2 := HM3.out.xs.cell 2; have d3 := HM3.out.xs.cell 3; have d4 := HM3.out.xs.cell 4
                  simp [stp] at d0 d1 d2 d3 d4
                  have HVL := Lib.hid (HVX.out _ HM3.out.bel)
                  clear hxok HVX
                  go_wp2_with fail
                  refine HVL.out.mono ?_
                  rintro e wb ⟨A1, p1, A2, p2, v1, rfl, hv1, hal1, hb⟩
                  have HZN := Lib.hid (ZonesB_c (pc := p1) (sc := p2) HXO.out hal1 hv1)
                  have HB1 := Lib.hid hb
                  clear hv1 hal1 hb HVL d0 d1 d2 d3 d4
                  go_wp2_with fail
                  refine HZN.out.mono ?_
                  rintro e wd ⟨C1, g1, C2, g2, rfl, hr1, hr2, hb⟩
                  have HB2 := Lib.hid (below_tr HB1.out hb)
                  have HR5 := Lib.hid hr1; have HR6 := Lib.hid hr2
                  have HR7 := Lib.hid (HR3.out.below HB2.out); have HR8 := Lib.hid (HR4.out.below HB2.out)
                  clear hr1 hr2 hb HB1 HZN
                  go_wp2_with fail
                  go_loopw [16] (fun i wr => ∃ k : Nat, k ≤ pn ∧ i = .int .i64 k ∧ Below wd.heap.size wd wr) (fun i _ => pn - (intOf i).toNat)
                  case atStart => exact ⟨0, Nat.zero_le _, rfl, Below.refl _ _⟩
                  case round =>
                    obtain ⟨k, hk, rfl, hb⟩ := hrel
                    have HB := Lib.hid hb
                    by_cases hlt : k < pn
                    · obtain ⟨dl, dh, zl, zh, yl, yh, t1, t2, t3, t4, t5, t6⟩ := x_at (v := v) (m := m) hm.1 (i := k) (by have := HLP.out; omega)
                      rw [← HXE.out] at t3 t4
                      obtain ⟨b1, o1, y1, hA1, hl1, hy1, a1, a1'⟩ := (HR7.out.below hb).at2 hlt
                      obtain ⟨b2, o2, y2, hA2, hl2, hy2, a2, a2'⟩ := (HR8.out.below hb).at2 hlt
                      obtain ⟨b3, o3, y3, hA3, hl3, hy3, a3, a3'⟩ := (HR5.out.below hb).at2 hlt
                      obtain ⟨b4, o4, y4, hA4, hl4, hy4, a4, a4'⟩ := (HR6.out.below hb).at2 hlt
                      subst hA1 hA2 hA3 hA4
                      rw [t1] at hy1; cases hy1
                      rw [t2] at hy2; cases hy2
                      rw [t3] at hy3; cases hy3
                      rw [t4] at hy4; cases hy4
                      simp only at a1 a1' a2 a2' a3 a3' a4 a4'
                      clear t1 t2 t3 t4 hb
                      have n1 : decide (zl < yl) = false := decide_eq_false (by omega)
                      have n2 : decide (zh < yh) = false := decide_eq_false (by omega)
                      have hkn : (k : Int) < (pn : Int) := by omega
                      have hk0 : (0 : Int) ≤ (k : Int) := by omega
                      go_wp2_with fail
                      go_quiet (fail)
                      go_wp2_with fail
                      go_roundw
                      case rel => exact ⟨k + 1, by omega, by go_num, below_drewN HB.out _⟩
                      case measure => simp [intOf] <;> omega
                    · obtain rfl : k = pn := by omega
                      clear hb
                      go_wp2_with fail
                      go_meet
                      exact below_tr HB2.out HB.out
                · go_wp2_with fail
                  go_meet
                  exact Below.refl _ _
            case rest =>
              as_aux_lemma =>
                obtain ⟨W5, hW5⟩ : ∃ W5, W5 = wc := ⟨_, rfl⟩
                rw [← hW5] at hcut ⊢
                have HM4 := Lib.hid (HM3.out.below hcut)
                have HW4 := Lib.hid (below_tr HW3.out hcut)
                have HR5 := Lib.hid (HR3.out.below hcut); have HR6 := Lib.hid (HR4.out.below hcut)
                clear hW5 hcut HM3 HW3 HR3 HR4 HVX HXE
                have d0 := HM4.out.zs.cell 0; have d1 := HM4.out.zs.cell 1; have d2 := HM4.out.zs.cell 2; have d3 := HM4.out.zs.cell 3; have d4 := HM4.out.zs.cell 4
                simp at d0 d1 d2 d3 d4
                have HTA := Lib.hid (HTY.out _ HW4.out)
                obtain ⟨T, hT⟩ : ∃ T, T = thinB yv := ⟨_, rfl⟩
                obtain ⟨R2, hR2⟩ : ∃ R, R = errV yv := ⟨_, rfl⟩
                rw [← hT] at HTA
                simp only [← hR2] at HFY
                have HR2E := Lib.hid hR2; have HTE := Lib.hid hT
                clear hT hR2 HTY
                cases T
                · go_wp2_with fail
                  refine HTA.out.mono ?_
                  rintro e wt ⟨rfl, hb⟩
                  have HBE := Lib.hid (below_tr HM4.out.bel hb)
                  clear hb
                  go_wp2_with (go_at_call 18; refine (wakes_ok _).mono ?_; rintro e wz ⟨rfl, hbz⟩)
                  go_ret
                  exact ⟨rfl, below_tr HS1.out.bel (below_tr HBE.out hbz)⟩
                · by_cases hR0 : R2 = 0
                  · subst hR0
                    have HYO := Lib.hid (errV_zero.1 HR2E.out.symm)
                    go_wp2_with fail
                    refine HTA.out.mono ?_
                    rintro e wt ⟨rfl, hb⟩
                    have HM5 := Lib.hid (HM4.out.below hb)
                    have HW5 := Lib.hid (below_tr HW4.out hb)
                    have HR7 := Lib.hid (HR5.out.below hb); have HR8 := Lib.hid (HR6.out.below hb)
                    clear hb HTA HR5 HR6 d0 d1 d2 d3 d4 HM4 HW4
                    have HFA := Lib.hid (HFY.out _ HW5.out)
                    have d0 := HM5.out.zs.cell 0; have d1 := HM5.out.zs.cell 1; have d2 := HM5.out.zs.cell 2; have d3 := HM5.out.zs.cell 3; have d4 := HM5.out.zs.cell 4
                    simp at d0 d1 d2 d3 d4
                    go_wp2_with fail
                    refine HFA.out.mono ?_
                    rintro e wt2 ⟨rfl, hb⟩
                    have HM6 := Lib.hid (HM5.out.below hb)
                    have HW6 := Lib.hid (below_tr HW5.out hb)
                    have HR5 := Lib.hid (HR7.out.below hb); have HR6 := Lib.hid (HR8.out.below hb)
                    clear hb HFA HFY HR7 HR8 d0 d1 d2 d3 d4 HM5 HW5
                    have d0 := HM6.out.zs.cell 0; have d1 := HM6.out.zs.cell 1; have d2 := HM6.out.zs.cell 2; have d3 := HM6.out.zs.cell 3; have d4 := HM6.out.zs.cell 4
                    simp at d0 d1 d2 d3 d4
                    have hwt : ∀ s' ∈ yv.sls, s'.way.length ≤ 1000 := fun s' hs' => by have := (thinB_iff.1 HTE.out.symm).1 s' hs'; omega
                    have hy012 : yv.s0 = v.s0 ∧ yv.s1 = v.s1 ∧ yv.s2 = v.s2 := by rw [HYE.out]; exact ⟨rfl, rfl, rfl⟩
                    have hvl := Valley_c (pc := pc) (sc := cy) (HRY.out.below HW6.out) (by omega) (by omega) hwt
                    rw [hy012.1, hy012.2.1, hy012.2.2] at hvl
                    have HVL := Lib.hid hvl
                    clear hvl hwt hy012
                    go_wp2_with fail
                    refine HVL.out.mono ?_
                    rintro e wb ⟨A1, p1, A2, p2, v1, rfl, hv1, hal1, hb⟩
                    have HZN := Lib.hid (ZonesB_c (pc := p1) (sc := p2) HYO.out hal1 hv1)
                    have HB1 := Lib.hid hb
                    clear hv1 hal1 hb HVL d0 d1 d2 d3 d4
                    go_wp2_with fail
                    refine HZN.out.mono ?_
                    rintro e wd ⟨C1, g1, C2, g2, rfl, hr1, hr2, hb⟩
                    have HB2 := Lib.hid (below_tr HB1.out hb)
                    have HQ1 := Lib.hid hr1; have HQ2 := Lib.hid hr2
                    have HR7 := Lib.hid (HR5.out.below HB2.out); have HR8 := Lib.hid (HR6.out.below HB2.out)
                    have HBW := Lib.hid (below_tr HM6.out.bel HB2.out)
                    clear hr1 hr2 hb HB1 HZN
                    go_wp2_with fail
                    go_loopw [20] (fun i wr => ∃ k : Nat, k ≤ pn ∧ i = .int .i64 k ∧ Below wd.heap.size wd wr) (fun i _ => pn - (intOf i).toNat)
                    case atStart => exact ⟨0, Nat.zero_le _, rfl, Below.refl _ _⟩
                    case round =>
                      obtain ⟨k, hk, rfl, hb⟩ := hrel
                      have HB := Lib.hid hb
                      by_cases hlt : k < pn
                      · obtain ⟨dl, dh, zl, zh, el, eh, yl, yh, t1, t2, t3, t4, t5, t6, t7, t8⟩ := y_at HYE.out HYO.out (i := k) (by have := HLP.out; omega)
                        obtain ⟨b1, o1, y1, hA1, hl1, hy1, a1, a1'⟩ := (HR7.out.below hb).at2 hlt
                        obtain ⟨b2, o2, y2, hA2, hl2, hy2, a2, a2'⟩ := (HR8.out.below hb).at2 hlt
                        obtain ⟨b3, o3, y3, hA3, hl3, hy3, a3, a3'⟩ := (HQ1.out.below hb).at2 hlt
                        obtain ⟨b4, o4, y4, hA4, hl4, hy4, a4, a4'⟩ := (HQ2.out.below hb).at2 hlt
                        subst hA1 hA2 hA3 hA4
                        rw [t1] at hy1; cases hy1
                        rw [t2] at hy2; cases hy2
                        rw [t3] at hy3; cases hy3
                        rw [t4] at hy4; cases hy4
                        simp only at a1 a1' a2 a2' a3 a3' a4 a4'
                        clear t1 t2 t3 t4 hb
                        have n1 : decide (el < dl) = false := decide_eq_false (by omega)
                        have n2 : decide (eh < dh) = false := decide_eq_false (by omega)
                        have n3 : decide (yl < zl) = false := decide_eq_false (by omega)
                        have n4 : decide (yh < zh) = false := decide_eq_false (by omega)
                        have hkn : (k : Int) < (pn : Int) := by omega
                        have hk0 : (0 : Int) ≤ (k : Int) := by omega
                        go_wp2_with fail
                        go_quiet (fail)
                        go_wp2_with fail
                        go_roundw
                        case rel => exact ⟨k + 1, by omega, by go_num, below_drewN HB.out _⟩
                        case measure => simp [intOf] <;> omega
                      · obtain rfl : k = pn := by omega
                        clear hb
                        have HBE := Lib.hid (below_tr HBW.out HB.out)
                        go_wp2_with (go_at_call 18; refine (wakes_ok _).mono ?_; rintro e wz ⟨rfl, hbz⟩)
                        go_ret
                        exact ⟨rfl, below_tr HS1.out.bel (below_tr HBE.out hbz)⟩
                  · have hne : (R2 == 0) = false := by simpa using hR0
                    go_wp2_with fail
                    refine HTA.out.mono ?_
                    rintro e wt ⟨rfl, hb⟩
                    have HM5 := Lib.hid (HM4.out.below hb)
                    have HW5 := Lib.hid (below_tr HW4.out hb)
                    clear hb HTA d0 d1 d2 d3 d4 HM4 HW4
                    have HFA := Lib.hid (HFY.out _ HW5.out)
                    have d0 := HM5.out.zs.cell 0; have d1 := HM5.out.zs.cell 1; have d2 := HM5.out.zs.cell 2; have d3 := HM5.out.zs.cell 3; have d4 := HM5.out.zs.cell 4
                    simp at d0 d1 d2 d3 d4
                    go_wp2_with fail
                    refine HFA.out.mono ?_
                    rintro e wt2 ⟨rfl, hb⟩
                    have HBE := Lib.hid (below_tr HM5.out.bel hb)
                    clear hb
                    go_wp2_with (go_at_call 18; refine (wakes_ok _).mono ?_; rintro e wz ⟨rfl, hbz⟩)
                    go_ret
                    exact ⟨rfl, below_tr HS1.out.bel (below_tr HBE.out hbz)⟩
#print axioms ZoneSteps_w
end Go.Proofs.Ytphdndiikikecaa
