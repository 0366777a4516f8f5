/- THE CONTRACT of Waves at what is valid. -/
import Derived.Test.YtpijmfbpdglchaaKTool
import Derived.Test.YtpijmfbpdglchaaKHeight
import Derived.Test.YtpijmfbpdglchaaKBase
import Derived.Test.YtpijmfbpdglchaaKHours
import Derived.Test.YtpijmfbpdglchaaKWorked
import Derived.Test.YtpijmfbpdglchaaKPlain
import Derived.Test.YtpijmfbpdglchaaKStep
import Derived.Laws.EntriesVeiled
set_option linter.unusedVariables false
set_option linter.unusedSimpArgs false
namespace Go.Proofs.Ytpijmfbpdglchaa
open Go.RowKit Go.Proofs
attribute [local go_sem ↓] Go.wp_at_zero Go.wp_at_succ
theorem infoQ : (Try.prog.info? 100).map (fun i => (i.zero, i.size, i.bytes)) = some (some (.agg #[.bool false, .int .i64 0, .int .i64 0]), 3, 24) := by kernel_rfl
theorem mostTo_bd {l : Lak} (hok : LOk l) : ∀ k : Nat, mostTo l k ≤ 1000001 + k * 1000000
  | 0 => by have := hok.start; have := hok.weakV; simp only [mostTo]; omega
  | k + 1 => by
    have ih := mostTo_bd hok k
    simp only [mostTo]
    split
    · rename_i r hr; have := hok.inflow k r hr; push_cast; omega
    · push_cast; omega
theorem aft_brk_bd {l : Lak} {ws : List Wrk} {c : List Int} (hok : LOk l) (hwk : WOk ws) (hcho : choB ws.length c = true) {h : Nat} {a : Aft} (ha : (aftL l (netL l ws c))[h]? = some a) : -1 ≤ a.brk ∧ a.brk ≤ 1000000000 := by
  have hl := lt_of_get ha
  rw [aftL_len, netL_len] at hl
  have h60 := hok.h
  rcases brk_in hok (netOk hok ws c) ha with ⟨h1, _⟩ | ⟨h1, ⟨s, s1, s2, hb⟩, _⟩
  · omega
  · have := brk_bd hok hwk hcho hb
    have := mostTo_bd hok (h + 1)
    push_cast at this
    omega
def WavesV (w : World) (n : Nat) (R : List Rea) (e : Ending) (w' : World) : Prop := ∃ A cp, e = .returned (.tuple #[.slice A n cp, .int .i64 0]) ∧ n ≤ cp ∧ Rd encQ 3 w' A n R ∧ Below w.heap.size w w'
theorem rchTo_skip {r : Riv} {x : Hou} {L : List Aft} {k : Nat} {a : Aft} (ha : L[k]? = some a) (hb : a.brk < 0) : rchTo r x L (k + 1) = rchTo r x L k := by simp [rchTo, ha, hb]
theorem rchTo_may {r : Riv} {x : Hou} {L : List Aft} {k : Nat} {a : Aft} (ha : L[k]? = some a) (hb : ¬ a.brk < 0) (h : x.high < hgt r x a.brk ∧ (rchTo r x L k).may = false) : rchTo r x L (k + 1) = ⟨true, max (rchTo r x L k).height (hgt r x a.brk), 60 * (k : Int) + x.far * r.pace.1⟩ := by simp [rchTo, ha, hb, h]
theorem rchTo_not {r : Riv} {x : Hou} {L : List Aft} {k : Nat} {a : Aft} (ha : L[k]? = some a) (hb : ¬ a.brk < 0) (h : ¬ (x.high < hgt r x a.brk ∧ (rchTo r x L k).may = false)) : rchTo r x L (k + 1) = ⟨(rchTo r x L k).may, max (rchTo r x L k).height (hgt r x a.brk), (rchTo r x L k).frm⟩ := by simp [rchTo, ha, hb, h]
section
variable {VA IA WA CA HA : Option Addr} {nV nI nW nC nH cV cI cW cC cH : Nat} {l : Lak} {ws : List Wrk} {c : List Int} {r : Riv} {hs : List Hou} {w : World}
set_option maxRecDepth 100000 in
set_option maxHeartbeats 8000000 in
theorem Waves_v (hL : RdL w VA nV IA nI l) (hW : Rd encW 3 w WA nW ws) (hC : Rd enc1 1 w CA nC c) (hH : Rd encH 3 w HA nH hs) (hcV : nV ≤ cV) (hcI : nI ≤ cI) (hok : LOk l) (hwk : WOk ws) (hcho : choB ws.length c = true) (hhk : HOk r hs) :
    Calls Try.prog 43 #[.agg (lA VA nV cV IA nI cI l), .slice WA nW cW, .slice CA nC cC, .agg (rA r), .slice HA nH cH] w (WavesV w nH (hs.map fun x => rchOf r x (aftL l (netL l ws c)))) := by
  have h1 := hL.vols.len; have h2 := hL.infl.len; have h3 := hW.len; have h4 := hC.len; have h5 := hH.len
  have g1 := hok.n; have g2 := hok.h; have g3 := hwk.n; have g4 := cho_len hcho; have g5 := hhk.n
  have he : errA l ws c = 0 := errA_zero.2 ⟨hok, hwk, hcho⟩
  obtain ⟨W, hWW⟩ : ∃ W, W = ((w.alloc (.cells (lA VA nV cV IA nI cI l) 38)).alloc (.cells (rA r) 90)) := ⟨_, rfl⟩
  have hb : Below w.heap.size w W := by rw [hWW]; exact ((Below.refl _ _).alloc (Nat.le_refl _) _).alloc (by simp) _
  have hB1 := (Blk.new w 38 (lA VA nV cV IA nI cI l)).alloc (.cells (rA r) 90)
  have hB2 := Blk.new (w.alloc (.cells (lA VA nV cV IA nI cI l) 38)) 90 (rA r)
  simp only [World.size_alloc] at hB2
  rw [← hWW] at hB1 hB2
  have HWK := Lib.hid (fun (U : World) (hU : Below w.heap.size w U) => worked_c (cV := cV) (cI := cI) (cW := cW) (cC := cC) ((RdP.mk hL hW hC).below hU) hcV hcI (by unfold maxLen; omega) (by unfold maxLen; omega) (by unfold maxLen; omega) (by unfold maxLen; omega))
  rw [he] at HWK
  have HHR := Lib.hid (fun (U : World) (hU : Below w.heap.size w U) => hours_c (cV := cV) (cI := cI) (cW := cW) (cC := cC) ((RdP.mk hL hW hC).below hU) hok hwk hcho)
  have HAL := Lib.hid (fun (U : World) (hU : Below w.heap.size w U) => allHou_c (c := cH) (p := okH) U (hH.below hU) (by unfold maxLen; omega) (fun i x W' _ _ => house_c x W'))
  have HR2 := okRi_iff.1 hhk.r
  have HR := Lib.hid hhk.r
  have hall : allB okH hs = true := allB_iff.2 hhk.h
  rw [hall] at HAL
  have HBD := Lib.hid (fun (h : Nat) (a : Aft) (ha : (aftL l (netL l ws c))[h]? = some a) => aft_brk_bd hok hwk hcho ha)
  obtain ⟨L, hLL⟩ : ∃ L, L = aftL l (netL l ws c) := ⟨_, rfl⟩
  rw [← hLL] at HHR HBD ⊢
  have hLn : L.length = nI := by rw [hLL, aftL_len, netL_len]; exact h2
  have HWI := Lib.hid (within_c r.loss 0 1000000); have HUP := Lib.hid (upto_c r.pace 60)
  rw [show inB r.loss 0 1000000 = true from inB_iff.2 HR2.1] at HWI
  rw [show upB r.pace 60 = true from upB_iff.2 HR2.2] at HUP
  have HXL := Lib.hid (fun (U : World) (hU : Below W.heap.size W U) => hB1.below hU hB1.lt)
  have HXR := Lib.hid (fun (U : World) (hU : Below W.heap.size W U) => hB2.below hU hB2.lt)
  have HH := Lib.hid hH; have HHK := Lib.hid hhk; have HLN := Lib.hid hLn; have HHL := Lib.hid h5
  have HWW := Lib.hid hWW; have HB := Lib.hid hb; have HQ := Lib.hid (Below.refl W.heap.size W)
  have hI60 : nI ≤ 60 := by omega
  have hH20 : nH ≤ 20 := by omega
  have hH20' : ¬ (20 : Int) < (nH : Int) := by omega
  obtain ⟨i0, hi0, hz0, hz1, hz2⟩ := info_parts infoQ
  have HI := Lib.hid hi0; have HZ0 := Lib.hid hz0; have HZ1 := Lib.hid hz1; have HZ2 := Lib.hid hz2
  clear hi0 hz0 hz1 hz2 hL hW hC hH hcV hcI hok hwk hcho hhk h1 h2 h3 h4 h5 g1 g2 g3 g4 g5 he hb hB1 hB2 hWW hall hLL hLn
  go_enter Try.func43, Try.ntmps43
  go_upto_region 1 with fail
  rw [← HWW.out]
  have x0 := (HXL.out _ HQ.out).cell 0; have x1 := (HXL.out _ HQ.out).cell 1; have x2 := (HXL.out _ HQ.out).cell 2; have x3 := (HXL.out _ HQ.out).cell 3; have x4 := (HXL.out _ HQ.out).cell 4; have x5 := (HXL.out _ HQ.out).cell 5; have x6 := (HXL.out _ HQ.out).cell 6; have x7 := (HXL.out _ HQ.out).cell 7; have x8 := (HXL.out _ HQ.out).cell 8; have x9 := (HXL.out _ HQ.out).cell 9
  simp at x0 x1 x2 x3 x4 x5 x6 x7 x8 x9
  go_wp2_with fail
  go_at_call 57
  refine (HWK.out _ HB.out).mono ?_
  rintro e w1 ⟨rfl, hb9⟩
  have t0 := below_tr HB.out hb9; have t1 := below_tr HQ.out hb9
  clear HB HQ
  have HB := Lib.hid t0; have HQ := Lib.hid t1
  clear t0 t1
  clear hb9 
  clear x0 x1 x2 x3 x4 x5 x6 x7 x8 x9
  have y0 := (HXR.out _ HQ.out).cell 0; have y1 := (HXR.out _ HQ.out).cell 1; have y2 := (HXR.out _ HQ.out).cell 2
  simp at y0 y1 y2
  go_wp2_with fail
  go_at_call 78
  refine (HWI.out _).mono ?_
  rintro e w2 ⟨rfl, rfl⟩
  go_wp2_with fail
  go_at_call 79
  refine (HUP.out _).mono ?_
  rintro e w1 ⟨rfl, hb9⟩
  have t0 := below_tr HB.out hb9; have t1 := below_tr HQ.out hb9
  clear HB HQ
  have HB := Lib.hid t0; have HQ := Lib.hid t1
  clear t0 t1
  clear hb9 
  go_wp2_with fail
  go_at_call 80
  refine (HAL.out _ HB.out).mono ?_
  rintro e w1 ⟨rfl, hb9⟩
  have t0 := below_tr HB.out hb9; have t1 := below_tr HQ.out hb9
  clear HB HQ
  have HB := Lib.hid t0; have HQ := Lib.hid t1
  clear t0 t1
  clear hb9 
  clear y0 y1 y2
  have x0 := (HXL.out _ HQ.out).cell 0; have x1 := (HXL.out _ HQ.out).cell 1; have x2 := (HXL.out _ HQ.out).cell 2; have x3 := (HXL.out _ HQ.out).cell 3; have x4 := (HXL.out _ HQ.out).cell 4; have x5 := (HXL.out _ HQ.out).cell 5; have x6 := (HXL.out _ HQ.out).cell 6; have x7 := (HXL.out _ HQ.out).cell 7; have x8 := (HXL.out _ HQ.out).cell 8; have x9 := (HXL.out _ HQ.out).cell 9
  simp at x0 x1 x2 x3 x4 x5 x6 x7 x8 x9
  go_wp2_with fail
  go_at_call 64
  refine (HHR.out _ HB.out).mono ?_
  rintro e w1 ⟨LA, nL, cL, rfl, hnl, hll, hb9⟩
  have t0 := below_tr HB.out hb9; have t1 := below_tr HQ.out hb9
  clear HB HQ
  have HB := Lib.hid t0; have HQ := Lib.hid t1
  clear t0 t1
  have HLL := Lib.hid hll
  clear hb9 hll
  clear x0 x1 x2 x3 x4 x5 x6 x7 x8 x9
  obtain rfl : nI = nL := hnl.symm
  obtain ⟨W2, hW2⟩ : ∃ W2, W2 = w1 := ⟨_, rfl⟩
  rw [← hW2] at HB HQ HLL ⊢
  clear hW2 HWI HUP HAL HHR HWK
  go_wp2_with fail
  go_loopw [10, 54] (fun v i wr => ∃ k : Nat, k ≤ nH ∧ i = .int .i64 k ∧ wr.ownsRow W2.heap.size 100 3 v k (((hs.map fun x => rchOf r x L).take k).flatMap encQ) ∧ Below W2.heap.size W2 wr) (fun _ i _ => nH - (intOf i).toNat)
  case atStart => exact ⟨0, Nat.zero_le _, rfl, World.ownsRow_nil _ _ _ _, Below.refl _ _⟩
  case round =>
    obtain ⟨k, hk, rfl, hown, hbr⟩ := hrel
    obtain ⟨WQ, hWQ⟩ : ∃ WQ, WQ = wr := ⟨_, rfl⟩
    rw [← hWQ] at hown hbr ⊢
    clear hWQ
    obtain ⟨OA, oc, rfl, hoc⟩ := own_form hown
    have HO := Lib.hid hown; have HBR := Lib.hid hbr; have HOC := Lib.hid hoc
    have hszQ := hbr.size
    clear hoc
    by_cases hlt : k < nH
    · have hbw := HB.out.trans (hbr.mono HB.out.size)
      obtain ⟨b, o, x, rfl, hbl, hx, c0, c1, c2⟩ := (HH.out.below hbw).atH hlt
      have hxo := HHK.out.h k x hx
      have HX := Lib.hid hx; have HXO := Lib.hid hxo; have HLT := Lib.hid hlt
      have hkn : (k : Int) < (nH : Int) := by omega
      have hk0 : (0 : Int) ≤ (k : Int) := by omega
      obtain ⟨WB, hWB⟩ : ∃ WB, WB = ((WQ.alloc (.cells #[.int .i64 x.far, .int .i64 x.high, .int .i64 x.wide] 154)).alloc (.cells #[.bool false, .int .i64 0, .int .i64 0] 100)) := ⟨_, rfl⟩
      have hbb : Below WQ.heap.size WQ WB := by rw [hWB]; exact ((Below.refl _ _).alloc (Nat.le_refl _) _).alloc (by simp) _
      have hhb := (Blk.new WQ 154 #[.int .i64 x.far, .int .i64 x.high, .int .i64 x.wide]).alloc (.cells #[.bool false, .int .i64 0, .int .i64 0] 100)
      have hrb := Blk.new (WQ.alloc (.cells #[.int .i64 x.far, .int .i64 x.high, .int .i64 x.wide] 154)) 100 #[.bool false, .int .i64 0, .int .i64 0]
      simp only [World.size_alloc] at hrb
      rw [← hWB] at hhb hrb
      have HWB := Lib.hid hWB; have HBB := Lib.hid hbb; have HHB := Lib.hid hhb; have HRB := Lib.hid hrb
      clear hbr hown hx hxo hlt hbw hWB hbb hhb hrb
      go_upto_region 13 with fail
      rw [← HWB.out]
      clear c0 c1 c2
      go_wp2_with fail
      go_loopw [60] (fun i wr => ∃ j : Nat, j ≤ nI ∧ i = .int .i64 j ∧ Blk wr (WQ.heap.size + 1) 100 #[.bool (rchTo r x L j).may, .int .i64 (rchTo r x L j).height, .int .i64 (rchTo r x L j).frm] ∧ Blk wr WQ.heap.size 154 #[.int .i64 x.far, .int .i64 x.high, .int .i64 x.wide] ∧ Below WQ.heap.size WQ wr ∧ 0 ≤ (rchTo r x L j).height ∧ (rchTo r x L j).height ≤ 1000020000) (fun i _ => nI - (intOf i).toNat)
      case atStart => exact ⟨0, Nat.zero_le _, rfl, HRB.out, HHB.out, HBB.out, Int.le_refl _, by simp [rchTo]⟩
      case round =>
        obtain ⟨j, hj, rfl, hrb, hhb, hbr, hh0, hh1⟩ := hrel
        obtain ⟨W3, hW3⟩ : ∃ W3, W3 = wr := ⟨_, rfl⟩
        rw [← hW3] at hrb hhb hbr ⊢
        clear hW3
        have HRB := Lib.hid hrb; have HHB := Lib.hid hhb; have HB3 := Lib.hid hbr
        have hsz3 := hbr.size
        by_cases hlt : j < nI
        · have hb2 := HBR.out.trans (hbr.mono hszQ)
          obtain ⟨b2, o2, a, hLA, hbl2, ha, d0, d1, d2, d3, d4⟩ := (HLL.out.below hb2).atA hlt
          subst hLA
          have hbd := HBD.out j a ha
          have HA := Lib.hid ha; have HLT2 := Lib.hid hlt
          have hjn : (j : Int) < (nI : Int) := by omega
          have hj0 : (0 : Int) ≤ (j : Int) := by omega
          obtain ⟨Y, hY⟩ : ∃ Y, Y = rchTo r x L j := ⟨_, rfl⟩
          rw [← hY] at HRB hh0 hh1
          have HY := Lib.hid hY
          by_cases hneg : a.brk < 0
          · have hsk := rchTo_skip (r := r) (x := x) ha hneg
            rw [← hY] at hsk
            have HSK := Lib.hid hsk
            have HX4 := Lib.hid (HRB.out.alloc (.cells #[.int .i64 a.hard.1, .int .i64 a.hard.2, .int .i64 a.soft.1, .int .i64 a.soft.2, .int .i64 a.brk] 140))
            have HX5 := Lib.hid (HHB.out.alloc (.cells #[.int .i64 a.hard.1, .int .i64 a.hard.2, .int .i64 a.soft.1, .int .i64 a.soft.2, .int .i64 a.brk] 140))
            have HX6 := Lib.hid (hbr.alloc hsz3 (.cells #[.int .i64 a.hard.1, .int .i64 a.hard.2, .int .i64 a.soft.1, .int .i64 a.soft.2, .int .i64 a.brk] 140))
            clear hrb hhb hbr hb2 ha hlt hY hsk
            go_wp2_with fail
            go_roundw
            case rel => exact ⟨j + 1, by have := HLT2.out; omega, by go_num, by rw [HSK.out]; exact HX4.out, HX5.out, HX6.out, by rw [HSK.out]; exact hh0, by rw [HSK.out]; exact hh1⟩
            case measure => have := HLT2.out; simp [intOf] <;> omega
          · have hq3 := HQ.out.trans ((HBR.out.trans (hbr.mono hszQ)).mono HQ.out.size)
            have hri := HXR.out _ hq3
            obtain ⟨W4, hW4⟩ : ∃ W4, W4 = W3.alloc (.cells #[.int .i64 a.hard.1, .int .i64 a.hard.2, .int .i64 a.soft.1, .int .i64 a.soft.2, .int .i64 a.brk] 140) := ⟨_, rfl⟩
            have hb9 : Below W3.heap.size W3 W4 := by rw [hW4]; exact (Below.refl _ _).alloc (Nat.le_refl _) _
            have hab : Blk W4 W3.heap.size 140 #[.int .i64 a.hard.1, .int .i64 a.hard.2, .int .i64 a.soft.1, .int .i64 a.soft.2, .int .i64 a.brk] := by rw [hW4]; exact Blk.new _ _ _
            have HW4 := Lib.hid hW4; have HRI := Lib.hid hri
            have t0 := HRB.out.below hb9 HRB.out.lt; have t1 := HHB.out.below hb9 HHB.out.lt; have t2 := below_tr HB3.out hb9; have t3 := HRI.out.below hb9 HRI.out.lt
            clear HRB HHB HB3 HRI
            have HRB := Lib.hid t0; have HHB := Lib.hid t1; have HB3 := Lib.hid t2; have HRI := Lib.hid t3
            clear t0 t1 t2 t3
            have HAB := Lib.hid hab
            have hH0 := hgt_pos (r := r) (v := a.brk) (okH_iff.1 HXO.out).2.2.1
            have hHb := hgt_bd (r := r) (x := x) (v := a.brk) (okH_iff.1 HXO.out).2.2.1 (Int.mul_nonneg HR2.1.1 (okH_iff.1 HXO.out).1.1) (by omega)
            have hwide := (okH_iff.1 HXO.out).2.2
            have HHC := Lib.hid (fun U => height_c HR.out HXO.out (v := a.brk) ⟨by omega, hbd.2⟩ U)
            have hmy := rchTo_may (r := r) (x := x) ha hneg; have hnt := rchTo_not (r := r) (x := x) ha hneg
            obtain ⟨H, hH⟩ : ∃ H, H = hgt r x a.brk := ⟨_, rfl⟩
            rw [← hH] at hH0 hHb HHC hmy hnt
            rw [← hY] at hmy hnt
            have HMY := Lib.hid hmy; have HNT := Lib.hid hnt
            have hHb2 : H ≤ 1000020000 := by omega
            clear hb9 hab hW4 hri hq3 hrb hhb hbr hb2 ha hlt hY hH hmy hnt hHb hwide hbl2
            go_upto_region 16 with fail
            rw [← HW4.out]
            clear d0 d1 d2 d3 d4
            have e4 := HAB.out.cell 4
            have y0 := HRI.out.cell 0; have y1 := HRI.out.cell 1; have y2 := HRI.out.cell 2
            have c0 := HHB.out.cell 0; have c1 := HHB.out.cell 1; have c2 := HHB.out.cell 2
            simp at e4 y0 y1 y2 c0 c1 c2
            go_wp2_with fail
            go_at_call 82
            refine (HHC.out _).mono ?_
            rintro e w5 ⟨rfl, hb9⟩
            have t0 := HRB.out.below hb9 HRB.out.lt; have t1 := HHB.out.below hb9 HHB.out.lt; have t2 := below_tr HB3.out hb9; have t3 := HRI.out.below hb9 HRI.out.lt
            clear HRB HHB HB3 HRI
            have HRB := Lib.hid t0; have HHB := Lib.hid t1; have HB3 := Lib.hid t2; have HRI := Lib.hid t3
            clear t0 t1 t2 t3
            clear hb9 
            clear e4 y0 y1 y2 c0 c1 c2
            have r1 := HRB.out.cell 1; have f1 := HRB.out.frozen 1
            simp at r1
            have hn5 := HRB.out.lt
            go_wp2_with fail
            go_at_call 76
            refine (greatest_c (rd_two w5 _ _ rfl)).mono ?_
            rintro e w6 ⟨rfl, rfl⟩
            obtain ⟨W6, hW6⟩ : ∃ W6, W6 = w5.alloc (.cells #[.int .i64 Y.height, .int .i64 H] 3) := ⟨_, rfl⟩
            rw [← hW6]
            have hb9 : Below w5.heap.size w5 W6 := by rw [hW6]; exact (Below.refl _ _).alloc (Nat.le_refl _) _
            have t0 := HRB.out.below hb9 HRB.out.lt; have t1 := HHB.out.below hb9 HHB.out.lt; have t2 := below_tr HB3.out hb9; have t3 := HRI.out.below hb9 HRI.out.lt
            clear HRB HHB HB3 HRI
            have HRB := Lib.hid t0; have HHB := Lib.hid t1; have HB3 := Lib.hid t2; have HRI := Lib.hid t3
            clear t0 t1 t2 t3
            clear hb9 hW6 r1 f1
            have r1 := HRB.out.cell 1; have f1 := HRB.out.frozen 1
            simp at r1
            go_upto_region 19 with fail
            obtain ⟨W7, hW7⟩ : ∃ W7, W7 = W6.setCell ⟨WQ.heap.size + 1, 1, none⟩ (.int .i64 (max Y.height H)) := ⟨_, rfl⟩
            rw [← hW7]
            have hszW := HQ.out.size; have hsz2 := HBR.out.size; have hwl := (HXR.out _ (Below.refl _ _)).lt
            have k1 : Blk W7 (WQ.heap.size + 1) 100 #[.bool Y.may, .int .i64 (max Y.height H), .int .i64 Y.frm] := by
              rw [hW7]
              have := HRB.out.set_ 1 (.int .i64 (max Y.height H))
              simpa using this
            have k2 : Blk W7 WQ.heap.size 154 #[.int .i64 x.far, .int .i64 x.high, .int .i64 x.wide] := by rw [hW7]; exact HHB.out.far (p := ⟨WQ.heap.size + 1, 1, none⟩) (by simp) _
            have k3 : Blk W7 (w.heap.size + 1) 90 (rA r) := by rw [hW7]; exact HRI.out.far (p := ⟨WQ.heap.size + 1, 1, none⟩) (by simp; omega) _
            have k4 : Below WQ.heap.size WQ W7 := by rw [hW7]; exact HB3.out.setCell (p := ⟨WQ.heap.size + 1, 1, none⟩) (by simp) _
            clear HRB HHB HRI HB3 hW7 r1 f1 hn5
            have HRB := Lib.hid k1; have HHB := Lib.hid k2; have HRI := Lib.hid k3; have HB3 := Lib.hid k4
            clear k1 k2 k3 k4
            have r0 := HRB.out.cell 0; have c1 := HHB.out.cell 1
            simp at r0 c1
            by_cases hm : x.high < H ∧ Y.may = false
            · obtain ⟨hm1, hm2⟩ := hm
              have HM := Lib.hid (HMY.out ⟨hm1, hm2⟩)
              have HM2 := Lib.hid hm2
              rw [hm2] at r0
              clear hm2
              go_upto_region 20 with fail
              have c0 := HHB.out.cell 0; have y1 := HRI.out.cell 1
              simp at c0 y1
              have hfar := (okH_iff.1 HXO.out).1
              have hpr := HR2.2
              have hp0 : 0 ≤ x.far * r.pace.1 := Int.mul_nonneg hfar.1 hpr.1
              have hp1 : x.far * r.pace.1 ≤ 200 * 60 := Int.mul_le_mul hfar.2 (by omega) hpr.1 (by omega)
              have m1 : IntKind.i64.wrap (60 * (j : Int)) = 60 * (j : Int) := wi (by omega)
              have m2 : IntKind.i64.wrap (x.far * r.pace.1) = x.far * r.pace.1 := wi (by omega)
              have m3 : IntKind.i64.wrap (60 * (j : Int) + x.far * r.pace.1) = 60 * (j : Int) + x.far * r.pace.1 := wi (by omega)
              clear hfar hpr hp0 hp1 c1 r0
              refine wp_region_till [12] (fun U => U.cell? ⟨WQ.heap.size, 0, none⟩ = some (.int .i64 x.far) ∧ U.cell? ⟨w.heap.size + 1, 1, none⟩ = some (.int .i64 r.pace.1)) (by kernel_rfl) (by exact ⟨c0, y1⟩) (fun hHeld => ?_)
              have hb9 := (Below.refl W7.heap.size W7).drew
              have t0 := HRB.out.below hb9 HRB.out.lt; have t1 := HHB.out.below hb9 HHB.out.lt; have t2 := HRI.out.below hb9 HRI.out.lt; have t3 := below_tr HB3.out hb9
              clear HRB HHB HRI HB3
              have HRB := Lib.hid t0; have HHB := Lib.hid t1; have HRI := Lib.hid t2; have HB3 := Lib.hid t3
              clear t0 t1 t2 t3
              clear hb9
              revert hHeld HRB HHB HRI HB3
              generalize W7.drew = w0
              intro hHeld HRB HHB HRI HB3
              (refine wpAnyL_take (n := 0) (i := 0) (oi := ?ox1) (v := ?vx1) ?hix1 ?k1x1 ?k2x1 ?k3x1 ?k4x1 ?k5x1 ?k6x1 ?hQx1 ?hYx1 ?hSx1 ?restx1; (case hix1 => (simp only [List.getElem?_toArray, List.getElem?_cons_succ, List.getElem?_cons_zero]; exact rfl)); (case k1x1 => kernel_rfl); (case k2x1 => kernel_rfl); (case k3x1 => kernel_rfl); (case k4x1 => kernel_rfl); (case k5x1 => kernel_rfl); (case k6x1 => kernel_rfl); (case hSx1 => assumption); (case hYx1 => (refine Or.inl ⟨rfl, ?hyx1⟩; intro w hSw; (try dsimp only at hSw); go_simp; (try with_reducible rfl))); (case hQx1 => exact (fun _ _ _ h => h)); (try simp only [Act.put, List.setIfInBounds_toArray, List.set_cons_zero, List.set_cons_succ]))
              (refine wpAnyL_take (n := 0) (i := 1) (oi := ?ox2) (v := ?vx2) ?hix2 ?k1x2 ?k2x2 ?k3x2 ?k4x2 ?k5x2 ?k6x2 ?hQx2 ?hYx2 ?hSx2 ?restx2; (case hix2 => (simp only [List.getElem?_toArray, List.getElem?_cons_succ, List.getElem?_cons_zero]; exact rfl)); (case k1x2 => kernel_rfl); (case k2x2 => kernel_rfl); (case k3x2 => kernel_rfl); (case k4x2 => kernel_rfl); (case k5x2 => kernel_rfl); (case k6x2 => kernel_rfl); (case hSx2 => assumption); (case hYx2 => (refine Or.inl ⟨rfl, ?hyx2⟩; intro w hSw; (try dsimp only at hSw); go_simp; (try with_reducible rfl))); (case hQx2 => exact (fun _ _ _ h => h)); (try simp only [Act.put, List.setIfInBounds_toArray, List.set_cons_zero, List.set_cons_succ]))
              (refine wpAnyL_take (n := 0) (i := 2) (oi := ?ox3) (v := ?vx3) ?hix3 ?k1x3 ?k2x3 ?k3x3 ?k4x3 ?k5x3 ?k6x3 ?hQx3 ?hYx3 ?hSx3 ?restx3; (case hix3 => (simp only [List.getElem?_toArray, List.getElem?_cons_succ, List.getElem?_cons_zero]; exact rfl)); (case k1x3 => kernel_rfl); (case k2x3 => kernel_rfl); (case k3x3 => kernel_rfl); (case k4x3 => kernel_rfl); (case k5x3 => kernel_rfl); (case k6x3 => kernel_rfl); (case hSx3 => assumption); (case hYx3 => (refine Or.inl ⟨rfl, ?hyx3⟩; intro w hSw; (try dsimp only at hSw); go_simp; (try with_reducible rfl))); (case hQx3 => exact (fun _ _ _ h => h)); (try simp only [Act.put, List.setIfInBounds_toArray, List.set_cons_zero, List.set_cons_succ]))
              (refine wpAnyL_take (n := 0) (i := 3) (oi := ?ox4) (v := ?vx4) ?hix4 ?k1x4 ?k2x4 ?k3x4 ?k4x4 ?k5x4 ?k6x4 ?hQx4 ?hYx4 ?hSx4 ?restx4; (case hix4 => (simp only [List.getElem?_toArray, List.getElem?_cons_succ, List.getElem?_cons_zero]; exact rfl)); (case k1x4 => kernel_rfl); (case k2x4 => kernel_rfl); (case k3x4 => kernel_rfl); (case k4x4 => kernel_rfl); (case k5x4 => kernel_rfl); (case k6x4 => kernel_rfl); (case hSx4 => assumption); (case hYx4 => (refine Or.inl ⟨rfl, ?hyx4⟩; intro w hSw; (try dsimp only at hSw); go_simp; (try with_reducible rfl))); (case hQx4 => exact (fun _ _ _ h => h)); (try simp only [Act.put, List.setIfInBounds_toArray, List.set_cons_zero, List.set_cons_succ]))
              (refine wpAnyL_take (n := 0) (i := 4) (oi := ?ox5) (v := ?vx5) ?hix5 ?k1x5 ?k2x5 ?k3x5 ?k4x5 ?k5x5 ?k6x5 ?hQx5 ?hYx5 ?hSx5 ?restx5; (case hix5 => (simp only [List.getElem?_toArray, List.getElem?_cons_succ, List.getElem?_cons_zero]; exact rfl)); (case k1x5 => kernel_rfl); (case k2x5 => kernel_rfl); (case k3x5 => kernel_rfl); (case k4x5 => kernel_rfl); (case k5x5 => kernel_rfl); (case k6x5 => kernel_rfl); (case hSx5 => assumption); (case hYx5 => (refine Or.inl ⟨rfl, ?hyx5⟩; intro w hSw; (try dsimp only at hSw); go_simp; (try with_reducible rfl))); (case hQx5 => exact (fun _ _ _ h => h)); (try simp only [Act.put, List.setIfInBounds_toArray, List.set_cons_zero, List.set_cons_succ]))
              (refine wpAnyL_take (n := 0) (i := 5) (oi := ?ox6) (v := ?vx6) ?hix6 ?k1x6 ?k2x6 ?k3x6 ?k4x6 ?k5x6 ?k6x6 ?hQx6 ?hYx6 ?hSx6 ?restx6; (case hix6 => (simp only [List.getElem?_toArray, List.getElem?_cons_succ, List.getElem?_cons_zero]; exact rfl)); (case k1x6 => kernel_rfl); (case k2x6 => kernel_rfl); (case k3x6 => kernel_rfl); (case k4x6 => kernel_rfl); (case k5x6 => kernel_rfl); (case k6x6 => kernel_rfl); (case hSx6 => assumption); (case hYx6 => (refine Or.inl ⟨rfl, ?hyx6⟩; intro w hSw; (try dsimp only at hSw); go_simp; (try with_reducible rfl))); (case hQx6 => exact (fun _ _ _ h => h)); (try simp only [Act.put, List.setIfInBounds_toArray, List.set_cons_zero, List.set_cons_succ]))
              (refine wpAnyL_take (n := 0) (i := 6) (oi := ?ox7) (v := ?vx7) ?hix7 ?k1x7 ?k2x7 ?k3x7 ?k4x7 ?k5x7 ?k6x7 ?hQx7 ?hYx7 ?hSx7 ?restx7; (case hix7 => (simp only [List.getElem?_toArray, List.getElem?_cons_succ, List.getElem?_cons_zero]; exact rfl)); (case k1x7 => kernel_rfl); (case k2x7 => kernel_rfl); (case k3x7 => kernel_rfl); (case k4x7 => kernel_rfl); (case k5x7 => kernel_rfl); (case k6x7 => kernel_rfl); (case hSx7 => assumption); (case hYx7 => (refine Or.inl ⟨rfl, ?hyx7⟩; intro w hSw; (try dsimp only at hSw); go_simp; (try with_reducible rfl))); (case hQx7 => exact (fun _ _ _ h => h)); (try simp only [Act.put, List.setIfInBounds_toArray, List.set_cons_zero, List.set_cons_succ]))
              (refine wpAnyL_take (n := 0) (i := 7) (oi := ?ox8) (v := ?vx8) ?hix8 ?k1x8 ?k2x8 ?k3x8 ?k4x8 ?k5x8 ?k6x8 ?hQx8 ?hYx8 ?hSx8 ?restx8; (case hix8 => (simp only [List.getElem?_toArray, List.getElem?_cons_succ, List.getElem?_cons_zero]; exact rfl)); (case k1x8 => kernel_rfl); (case k2x8 => kernel_rfl); (case k3x8 => kernel_rfl); (case k4x8 => kernel_rfl); (case k5x8 => kernel_rfl); (case k6x8 => kernel_rfl); (case hSx8 => assumption); (case hYx8 => (refine Or.inl ⟨rfl, ?hyx8⟩; intro w hSw; (try dsimp only at hSw); go_simp; (try with_reducible rfl))); (case hQx8 => exact (fun _ _ _ h => h)); (try simp only [Act.put, List.setIfInBounds_toArray, List.set_cons_zero, List.set_cons_succ]))
              (refine wpAnyL_take (n := 0) (i := 8) (oi := ?ox9) (v := ?vx9) ?hix9 ?k1x9 ?k2x9 ?k3x9 ?k4x9 ?k5x9 ?k6x9 ?hQx9 ?hYx9 ?hSx9 ?restx9; (case hix9 => (simp only [List.getElem?_toArray, List.getElem?_cons_succ, List.getElem?_cons_zero]; exact rfl)); (case k1x9 => kernel_rfl); (case k2x9 => kernel_rfl); (case k3x9 => kernel_rfl); (case k4x9 => kernel_rfl); (case k5x9 => kernel_rfl); (case k6x9 => kernel_rfl); (case hSx9 => assumption); (case hYx9 => (refine Or.inl ⟨rfl, ?hyx9⟩; intro w hSw; (try dsimp only at hSw); go_simp; (try with_reducible rfl))); (case hQx9 => exact (fun _ _ _ h => h)); (try simp only [Act.put, List.setIfInBounds_toArray, List.set_cons_zero, List.set_cons_succ]))
              (refine wpAnyL_take (n := 0) (i := 9) (oi := ?ox10) (v := ?vx10) ?hix10 ?k1x10 ?k2x10 ?k3x10 ?k4x10 ?k5x10 ?k6x10 ?hQx10 ?hYx10 ?hSx10 ?restx10; (case hix10 => (simp only [List.getElem?_toArray, List.getElem?_cons_succ, List.getElem?_cons_zero]; exact rfl)); (case k1x10 => kernel_rfl); (case k2x10 => kernel_rfl); (case k3x10 => kernel_rfl); (case k4x10 => kernel_rfl); (case k5x10 => kernel_rfl); (case k6x10 => kernel_rfl); (case hSx10 => assumption); (case hYx10 => (refine Or.inl ⟨rfl, ?hyx10⟩; intro w hSw; (try dsimp only at hSw); go_simp; (try with_reducible rfl))); (case hQx10 => exact (fun _ _ _ h => h)); (try simp only [Act.put, List.setIfInBounds_toArray, List.set_cons_zero, List.set_cons_succ]))
              refine wpAnyL_ready (rs := [10]) (by kernel_rfl) (by simp) ?_
              refine AllReadyL.cons (o := ?o10x11) ?hi10x11 (fun K hK => ?_) AllReadyL.nil
              (case hi10x11 => (simp only [List.getElem?_toArray, List.getElem?_cons_succ, List.getElem?_cons_zero]; exact rfl))
              have r0 := HRB.out.cell 0; have q0 := HRB.out.frozen 0
              simp at r0
              go_simp
              (try clear hHeld)
              refine hK.out _ _ (by (try dsimp only); exact ⟨(HHB.out.far (p := ⟨WQ.heap.size + 1, 0, none⟩) (by simp) _).cell 0, (HRI.out.far (p := ⟨WQ.heap.size + 1, 0, none⟩) (by simp; omega) _).cell 1⟩) (fun hHeld => ?_)
              clear hK K
              (try simp only [Act.put, List.setIfInBounds_toArray, List.set_cons_zero, List.set_cons_succ])
              have k1 := HRB.out.set_ 0 (.bool true)
              have k2 := HHB.out.far (p := ⟨WQ.heap.size + 1, 0, none⟩) (by simp) (.bool true)
              have k3 := HRI.out.far (p := ⟨WQ.heap.size + 1, 0, none⟩) (by simp; omega) (.bool true)
              have k4 := HB3.out.setCell (p := ⟨WQ.heap.size + 1, 0, none⟩) (by simp) (.bool true)
              simp at k1
              clear HRB HHB HRI HB3 r0 q0
              have HRB := Lib.hid k1; have HHB := Lib.hid k2; have HRI := Lib.hid k3; have HB3 := Lib.hid k4
              clear k1 k2 k3 k4
              (refine wpAnyL_take (n := 0) (i := 11) (oi := ?ox12) (v := ?vx12) ?hix12 ?k1x12 ?k2x12 ?k3x12 ?k4x12 ?k5x12 ?k6x12 ?hQx12 ?hYx12 ?hSx12 ?restx12; (case hix12 => (simp only [List.getElem?_toArray, List.getElem?_cons_succ, List.getElem?_cons_zero]; exact rfl)); (case k1x12 => kernel_rfl); (case k2x12 => kernel_rfl); (case k3x12 => kernel_rfl); (case k4x12 => kernel_rfl); (case k5x12 => kernel_rfl); (case k6x12 => kernel_rfl); (case hSx12 => assumption); (case hYx12 => (refine Or.inl ⟨rfl, ?hyx12⟩; intro w hSw; (try dsimp only at hSw); go_simp; (try with_reducible rfl))); (case hQx12 => exact (fun _ _ _ h => h)); (try simp only [Act.put, List.setIfInBounds_toArray, List.set_cons_zero, List.set_cons_succ]))
              refine wpAnyL_ready (rs := [12]) (by kernel_rfl) (by simp) ?_
              refine AllReadyL.last (o := ?o12x13) ?hi12x13 ?he12x13 (fun K hK => ?_) AllReadyL.nil
              (case hi12x13 => (simp only [List.getElem?_toArray, List.getElem?_cons_succ, List.getElem?_cons_zero]; exact rfl))
              (case he12x13 => kernel_rfl)
              have r2 := HRB.out.cell 2; have q2 := HRB.out.frozen 2
              simp at r2
              go_simp
              (try clear hHeld)
              refine hK.out _ _ ?_
              clear hK K
              (try simp only [Act.put, List.setIfInBounds_toArray, List.set_cons_zero, List.set_cons_succ])
              (refine wpAnyL_done (by kernel_rfl) ?_ _)
              clear m1 m2 m3 r2 q2
              have k1 := HRB.out.set_ 2 (.int .i64 (60 * (j : Int) + x.far * r.pace.1))
              have k2 := HHB.out.far (p := ⟨WQ.heap.size + 1, 2, none⟩) (by simp) (.int .i64 (60 * (j : Int) + x.far * r.pace.1))
              have k4 := HB3.out.setCell (p := ⟨WQ.heap.size + 1, 2, none⟩) (by simp) (.int .i64 (60 * (j : Int) + x.far * r.pace.1))
              simp at k1
              have HK1 := Lib.hid k1; have HK2 := Lib.hid k2; have HK4 := Lib.hid k4
              clear k1 k2 k4
              go_wp2_with fail
              go_roundw
              case rel => exact ⟨j + 1, by have := HLT2.out; omega, by go_num, by rw [HM.out]; exact HK1.out, HK2.out, HK4.out, by rw [HM.out]; simp only; omega, by rw [HM.out]; simp only; omega⟩
              case measure => have := HLT2.out; simp [intOf] <;> omega
            · have HM := Lib.hid (HNT.out hm)
              by_cases hh : x.high < H
              · have hym : Y.may = true := by
                  cases hq : Y.may
                  · exact absurd ⟨hh, hq⟩ hm
                  · rfl
                rw [hym] at r0
                clear hm hym
                go_wp2_with fail
                go_roundw
                case rel => exact ⟨j + 1, by have := HLT2.out; omega, by go_num, by rw [HM.out]; exact HRB.out, HHB.out, HB3.out, by rw [HM.out]; simp only; omega, by rw [HM.out]; simp only; omega⟩
                case measure => have := HLT2.out; simp [intOf] <;> omega
              · clear hm
                go_wp2_with fail
                go_roundw
                case rel => exact ⟨j + 1, by have := HLT2.out; omega, by go_num, by rw [HM.out]; exact HRB.out, HHB.out, HB3.out, by rw [HM.out]; simp only; omega, by rw [HM.out]; simp only; omega⟩
                case measure => have := HLT2.out; simp [intOf] <;> omega
        · obtain rfl : nI = j := by omega
          have hB9 := HBR.out.trans (hbr.mono hszQ)
          have HBE := Lib.hid hB9
          have HOE := Lib.hid (own_mono HO.out hbr)
          have hrc : rchTo r x L nI = rchOf r x L := by unfold rchOf; rw [HLN.out]
          have HRC := Lib.hid hrc
          have r0 := hrb.cell 0; have r1 := hrb.cell 1; have r2 := hrb.cell 2
          simp at r0 r1 r2
          obtain ⟨Y, hY⟩ : ∃ Y, Y = rchTo r x L nI := ⟨_, rfl⟩
          rw [← hY] at r0 r1 r2
          have HY := Lib.hid (hY.trans hrc)
          have hszE := hB9.size
          clear hrb hhb hbr hB9 hrc hY hlt
          go_wp2_with (at_builtin; go_must (refine wpList_append_own_at _ rfl _ _ 86 rfl W2.heap.size 100 i0 _ 3 24 Try.underlying86 HI.out HZ0.out HZ1.out HZ2.out rfl (by decide) _ _ _ rfl (HOE.out.alloc _) ⟨W3.heap.size, 0, none⟩ 1 1 [.bool Y.may, .int .i64 Y.height, .int .i64 Y.frm] rfl rfl (fun j u hj => World.news_of_block (cs := #[.bool Y.may, .int .i64 Y.height, .int .i64 Y.frm]) (t := 100) (fr := (0, 0)) (heap_alloc_new W3 _) j u hj) (by simp [Value.oneCell']) (by unfold maxLen; omega) (by omega) (by simp; omega) ?_; intro v' w8 hown' hgrow _ _))
          have hb8 : Below W2.heap.size W2 w8 := (HBE.out.alloc hszE _).grown hgrow (by simp; omega) (fun g hg => (HOE.out.lt g hg).1)
          have hown2 : w8.ownsRow W2.heap.size 100 3 v' (k + 1) (((hs.map fun x => rchOf r x L).take (k + 1)).flatMap encQ) := by
            have e : (hs.map fun x => rchOf r x L).take (k + 1) = (hs.map fun x => rchOf r x L).take k ++ [Y] := by
              rw [List.take_add_one, List.getElem?_map, HX.out, HY.out]; rfl
            rw [e, List.flatMap_append]; simpa [encQ] using hown'
          have HO8 := Lib.hid hown2; have HB8 := Lib.hid hb8
          clear hown' hgrow hown2 hb8 r0 r1 r2
          go_roundw
          case rel => exact ⟨k + 1, by have := HLT.out; omega, by go_num, HO8.out, HB8.out⟩
          case measure => have := HLT.out; simp [intOf] <;> omega
    · obtain rfl : nH = k := by omega
      clear hown hbr hlt
      go_wp2_with fail
      go_ret2
      refine ⟨OA, oc, rfl, HOC.out, ?_, HB.out.trans (HBR.out.mono HB.out.size)⟩
      have hl : (hs.map fun x => rchOf r x L).length = nH := by rw [List.length_map]; exact HHL.out
      have := HO.out
      rw [List.take_of_length_le (by omega)] at this
      exact Rd.of_own encQ_len this hl
end
end Go.Proofs.Ytpijmfbpdglchaa
