/- CONTRACT of the reference's Wave. -/
import Derived.Test.YtpijmfbpdglchaaKHrd
import Derived.Test.YtpijmfbpdglchaaKHBreak
set_option linter.unusedVariables false
set_option linter.unusedSimpArgs false
namespace Go.Proofs.Ytpijmfbpdglchaa
open Go.RowKit Go.Proofs
attribute [local go_sem ↓] Go.wp_at_zero Go.wp_at_succ
abbrev hoA (x : Hou) : Array Value := #[.int .i64 x.far, .int .i64 x.high, .int .i64 x.wide]
abbrev reA (b : Bool) (h f : Int) : Array Value := #[.bool b, .int .i64 h, .int .i64 f]
section
variable {O : Option Addr} {n c : Nat} {l : Lak} {w : World} {L : List Aft} {m : Nat} {Hd Bk : Nat → Nat → Bool} {r : Riv} {x : Hou}
set_option linter.unusedSimpArgs false in
set_option maxRecDepth 100000 in
set_option maxHeartbeats 2000000 in
theorem rWave_c (hr : RdHr w O n m Hd Bk) (H : HrOk l L m Hd Bk) (hn : n = L.length) (hn60 : n ≤ 60) (hri : okRi r = true) (hxo : okH x = true) (hbd : ∀ (h : Nat) (a : Aft), L[h]? = some a → a.brk ≤ 1000000000) :
    Calls Try.prog 47 #[.agg (rA r), .agg (hoA x), .slice O n c] w fun e w' => e = .returned (.agg (reA (rchOf r x L).may (rchOf r x L).height (rchOf r x L).frm)) ∧ Below w.heap.size w w' := by
  obtain ⟨W, hW⟩ : ∃ W, W = ((((w.alloc (.cells (rA r) 84)).alloc (.cells (hoA x) 99)).alloc (.cells (reA false 0 0) 96)).alloc (.cells (reA false 0 0) 96)) := ⟨_, rfl⟩
  have hb : Below w.heap.size w W := by rw [hW]; exact ((((Below.refl _ _).alloc (Nat.le_refl _) _).alloc (by simp) _).alloc (by simp; omega) _).alloc (by simp; omega) _
  have h0 := (((Blk.new w 84 (rA r)).alloc (.cells (hoA x) 99)).alloc (.cells (reA false 0 0) 96)).alloc (.cells (reA false 0 0) 96)
  have h1 := ((Blk.new (w.alloc (.cells (rA r) 84)) 99 (hoA x)).alloc (.cells (reA false 0 0) 96)).alloc (.cells (reA false 0 0) 96)
  have h2 := (Blk.new ((w.alloc (.cells (rA r) 84)).alloc (.cells (hoA x) 99)) 96 (reA false 0 0)).alloc (.cells (reA false 0 0) 96)
  have h3 := Blk.new (((w.alloc (.cells (rA r) 84)).alloc (.cells (hoA x) 99)).alloc (.cells (reA false 0 0) 96)) 96 (reA false 0 0)
  simp only [World.size_alloc] at h1 h2 h3
  rw [← hW] at h0 h1 h2 h3
  have hWs : W.heap.size = w.heap.size + 4 := by rw [hW]; simp
  have HWS := Lib.hid hWs
  have hri2 := okRi_iff.1 hri; have hxo2 := okH_iff.1 hxo
  have HW := Lib.hid hW; have HB := Lib.hid hb; have H0 := Lib.hid h0; have H1 := Lib.hid h1; have H2 := Lib.hid h2; have H3 := Lib.hid h3
  have HRR := Lib.hid hr; have HH := Lib.hid H; have HN := Lib.hid hn; have HBD := Lib.hid hbd
  have HHE := Lib.hid (fun (v : Int) (hv : 0 ≤ v ∧ v ≤ 1000000000) (U : World) => rHeight_c hri hxo hv U)
  have HST := Lib.hid (show RcR r x L n ⟨false, 0, 0⟩ from by rw [hn]; exact RcR.start r x L hxo2.2.1.1)
  have hm := H.ml
  obtain ⟨Y, hY⟩ : ∃ Y, Y = rchOf r x L := ⟨_, rfl⟩
  have HRA := Lib.hid (show ∀ y, RcR r x L 0 y → y = Y from fun y hy => by rw [hY]; exact hy.all hxo2.2.1.1)
  rw [← hY]
  clear hY
  clear hW hb h0 h1 h2 h3 hr H hn hbd hWs hri hxo
  go_enter Try.func47, Try.ntmps47
  go_upto_region 2 with fail
  rw [← HW.out]
  go_wp2_with fail
  go_loopw [8] (fun iv wr => ∃ (k : Nat) (y : Rea), k ≤ n ∧ iv = .int .i64 ((k : Int) - 1) ∧ RcR r x L k y ∧ Blk wr (w.heap.size + 1 + 1 + 1) 96 (reA y.may y.height y.frm) ∧ Blk wr w.heap.size 84 (rA r) ∧ Blk wr (w.heap.size + 1) 99 (hoA x) ∧ Blk wr (w.heap.size + 1 + 1) 96 (reA false 0 0) ∧ Below w.heap.size w wr) (fun iv _ => (intOf iv + 1).toNat)
  case atStart => exact ⟨n, _, Nat.le_refl _, rfl, HST.out, H3.out, H0.out, H1.out, H2.out, HB.out⟩
  case round =>
    obtain ⟨k, y, hk, rfl, hrc, hbx, hx0, hx1, hx2, hbr⟩ := hrel
    have HB1 := Lib.hid hbr; have HRC := Lib.hid hrc; have HBX := Lib.hid hbx; have HX0 := Lib.hid hx0; have HX1 := Lib.hid hx1; have HX2 := Lib.hid hx2
    clear hrc hx0 hx1 hx2
    rcases Nat.eq_zero_or_pos k with h0 | h0
    · subst h0
      rw [show (((0 : Nat) : Int) - 1) = -1 from rfl]
      obtain rfl := HRA.out _ HRC.out
      have s0 := hbx.cell 0; have s1 := hbx.cell 1; have s2 := hbx.cell 2
      have r0 := HX2.out.cell 0; have r1 := HX2.out.cell 1; have r2 := HX2.out.cell 2
      simp at s0 s1 s2 r0 r1 r2
      have q0 := HX2.out.frozen 0; have q1 := HX2.out.frozen 1; have q2 := HX2.out.frozen 2
      clear hbx hbr HBX HRC
      go_wp2_with fail
      · skip
        have gB := below_setCells (B := w.heap.size) (g := w.heap.size + 1 + 1) (w0 := w) (by omega) (reA y.may y.height y.frm).toList 0 wr HB1.out
        have hBF := blk_setCells (reA y.may y.height y.frm).toList 0 wr [] _ (by simpa using HX2.out) rfl (by simp)
        simp only [World.setCells, List.nil_append, Nat.reduceAdd] at hBF gB
        revert hBF gB
        generalize (World.setCell _ ⟨w.heap.size + 1 + 1, 2, none⟩ (Value.int IntKind.i64 y.frm)) = WF
        intro gB hBF
        have HG := Lib.hid gB
        clear gB
        exact bodyPost_ret (v := .agg (reA y.may y.height y.frm)) (results_cell_row (g := w.heap.size + 1 + 1) Try.results47 _ _ _ _ _ _ rfl hBF Try.underlying96 rfl (by kernel_rfl)) rfl ⟨rfl, HG.out⟩
    · obtain ⟨i, rfl⟩ : ∃ i, k = i + 1 := ⟨k - 1, by omega⟩
      have e1 : ((i + 1 : Nat) : Int) - 1 = (i : Int) := by omega
      rw [e1]
      clear e1
      obtain ⟨bo, oo, p, hO, c0, c1, hbh, hbb⟩ := (HRR.out.below HB1.out).atR (show i < n by omega)
      subst hO
      obtain ⟨a, ha⟩ : ∃ a, L[i]? = some a := ⟨_, List.getElem?_eq_getElem (by have := HN.out; omega)⟩
      have HMO := Lib.hid (rmost_c hm hbb)
      rw [HH.out.brk i a ha] at HMO
      have hin : (i : Int) < (n : Int) := by omega
      have hi0 : (0 : Int) ≤ (i : Int) := by omega
      have HA := Lib.hid ha
      have hbk := HBD.out i a ha
      clear hbr hbx hbh hbb ha
      go_wp2_with fail
      go_at_call 74
      refine (HMO.out).mono ?_
      rintro e w1 ⟨rfl, hb9⟩
      have t0 := below_tr HB1.out hb9; have t1 := HX0.out.below hb9 HX0.out.lt; have t2 := HX1.out.below hb9 HX1.out.lt; have t3 := HX2.out.below hb9 HX2.out.lt; have t4 := HBX.out.below hb9 HBX.out.lt
      clear HB1 HX0 HX1 HX2 HBX
      have HB1 := Lib.hid t0; have HX0 := Lib.hid t1; have HX1 := Lib.hid t2; have HX2 := Lib.hid t3; have HBX := Lib.hid t4
      clear t0 t1 t2 t3 t4
      clear hb9 
      clear c0 c1
      by_cases hlt : a.brk < 0
      · have HSK := Lib.hid (HRC.out.skip HA.out hlt)
        go_wp2_with fail
        go_roundw
        case rel => exact ⟨i, y, by omega, rfl, HSK.out, HBX.out, HX0.out, HX1.out, HX2.out, HB1.out⟩
        case measure => simp [intOf] <;> omega
      · have HSP := Lib.hid (HRC.out.step HA.out (by omega))
        have HHV := Lib.hid (HHE.out a.brk ⟨by omega, hbk⟩)
        obtain ⟨Hh, hHh⟩ : ∃ Hh, Hh = hgt r x a.brk := ⟨_, rfl⟩
        rw [← hHh] at HSP HHV
        clear hHh HRC
        have r0 := HX0.out.cell 0; have r1 := HX0.out.cell 1; have r2 := HX0.out.cell 2
        have z0 := HX1.out.cell 0; have z1 := HX1.out.cell 1; have z2 := HX1.out.cell 2
        simp at r0 r1 r2 z0 z1 z2
        go_wp2_with fail
        go_at_call 51
        refine (HHV.out _).mono ?_
        rintro e w1 ⟨rfl, hb9⟩
        have t0 := below_tr HB1.out hb9; have t1 := HX0.out.below hb9 HX0.out.lt; have t2 := HX1.out.below hb9 HX1.out.lt; have t3 := HX2.out.below hb9 HX2.out.lt; have t4 := HBX.out.below hb9 HBX.out.lt
        clear HB1 HX0 HX1 HX2 HBX
        have HB1 := Lib.hid t0; have HX0 := Lib.hid t1; have HX1 := Lib.hid t2; have HX2 := Lib.hid t3; have HBX := Lib.hid t4
        clear t0 t1 t2 t3 t4
        clear hb9 
        clear r0 r1 r2 z0 z1 z2
        have z0 := HX1.out.cell 0; have z1 := HX1.out.cell 1
        have s1 := HBX.out.cell 1; have f1 := HBX.out.frozen 1
        simp at z0 z1 s1
        by_cases hh : x.high < Hh
        · rw [if_pos hh] at HSP
          go_upto_region 10 with fail
          clear z0 z1 s1 f1
          have hbx6 := HBX.out.set_ 1 (.int .i64 (max y.height Hh))
          have hx0 := HX0.out.far (p := ⟨w.heap.size + 1 + 1 + 1, 1, none⟩) (by simp <;> omega) (.int .i64 (max y.height Hh))
          have hx1 := HX1.out.far (p := ⟨w.heap.size + 1 + 1 + 1, 1, none⟩) (by simp <;> omega) (.int .i64 (max y.height Hh))
          have hx2 := HX2.out.far (p := ⟨w.heap.size + 1 + 1 + 1, 1, none⟩) (by simp <;> omega) (.int .i64 (max y.height Hh))
          have hb6 := HB1.out.setCell (p := ⟨w.heap.size + 1 + 1 + 1, 1, none⟩) (by simp <;> omega) (.int .i64 (max y.height Hh))
          clear HBX HX0 HX1 HX2 HB1
          revert hbx6 hx0 hx1 hx2 hb6
          generalize (World.setCell w1 ⟨w.heap.size + 1 + 1 + 1, 1, none⟩ (.int .i64 (max y.height Hh))) = W6
          intro hbx6 hx0 hx1 hx2 hb6
          simp at hbx6
          have HBX := Lib.hid hbx6; have HX0 := Lib.hid hx0; have HX1 := Lib.hid hx1; have HX2 := Lib.hid hx2; have HB1 := Lib.hid hb6
          clear hbx6 hx0 hx1 hx2 hb6
          have k0 : 0 ≤ x.far * r.pace.1 := Int.mul_nonneg hxo2.1.1 hri2.2.1
          have k1 : x.far * r.pace.1 ≤ 200 * 60 := Int.mul_le_mul hxo2.1.2 (by omega) hri2.2.1 (by omega)
          have m1 : IntKind.i64.wrap (60 * (i : Int)) = 60 * (i : Int) := wi (by omega)
          have m2 : IntKind.i64.wrap (x.far * r.pace.1) = x.far * r.pace.1 := wi (by omega)
          have m3 : IntKind.i64.wrap (60 * (i : Int) + x.far * r.pace.1) = 60 * (i : Int) + x.far * r.pace.1 := wi (by omega)
          refine wp_region_till [12] (fun U => U.cell? ⟨w.heap.size + 1, 0, none⟩ = some (.int .i64 x.far) ∧ U.cell? ⟨w.heap.size, 1, none⟩ = some (.int .i64 r.pace.1)) (by kernel_rfl) (by exact ⟨(show Blk W6.drew _ _ _ from HX1.out).cell 0, (show Blk W6.drew _ _ _ from HX0.out).cell 1⟩) (fun hHeld => ?_)
          have hb9 := (Below.refl W6.heap.size W6).drew
          have t0 := below_tr HB1.out hb9; have t1 := HX0.out.below hb9 HX0.out.lt; have t2 := HX1.out.below hb9 HX1.out.lt; have t3 := HX2.out.below hb9 HX2.out.lt; have t4 := HBX.out.below hb9 HBX.out.lt
          clear HB1 HX0 HX1 HX2 HBX
          have HB1 := Lib.hid t0; have HX0 := Lib.hid t1; have HX1 := Lib.hid t2; have HX2 := Lib.hid t3; have HBX := Lib.hid t4
          clear t0 t1 t2 t3 t4
          clear hb9
          revert hHeld HB1 HX0 HX1 HX2 HBX
          generalize W6.drew = w0
          intro hHeld HB1 HX0 HX1 HX2 HBX
          (refine wpAnyL_take (n := 0) (i := 0) (oi := ?ox1) (v := ?vx1) ?hix1 ?k1x1 ?k2x1 ?k3x1 ?k4x1 ?k5x1 ?k6x1 ?hQx1 ?hYx1 ?hSx1 ?restx1; (case hix1 => (simp only [List.getElem?_toArray, List.getElem?_cons_succ, List.getElem?_cons_zero]; exact rfl)); (case k1x1 => kernel_rfl); (case k2x1 => kernel_rfl); (case k3x1 => kernel_rfl); (case k4x1 => kernel_rfl); (case k5x1 => kernel_rfl); (case k6x1 => kernel_rfl); (case hSx1 => assumption); (case hYx1 => (refine Or.inl ⟨rfl, ?hyx1⟩; intro w hSw; (try dsimp only at hSw); go_simp; (try with_reducible rfl))); (case hQx1 => exact (fun _ _ _ h => h)); (try simp only [Act.put, List.setIfInBounds_toArray, List.set_cons_zero, List.set_cons_succ]))
          (refine wpAnyL_take (n := 0) (i := 1) (oi := ?ox2) (v := ?vx2) ?hix2 ?k1x2 ?k2x2 ?k3x2 ?k4x2 ?k5x2 ?k6x2 ?hQx2 ?hYx2 ?hSx2 ?restx2; (case hix2 => (simp only [List.getElem?_toArray, List.getElem?_cons_succ, List.getElem?_cons_zero]; exact rfl)); (case k1x2 => kernel_rfl); (case k2x2 => kernel_rfl); (case k3x2 => kernel_rfl); (case k4x2 => kernel_rfl); (case k5x2 => kernel_rfl); (case k6x2 => kernel_rfl); (case hSx2 => assumption); (case hYx2 => (refine Or.inl ⟨rfl, ?hyx2⟩; intro w hSw; (try dsimp only at hSw); go_simp; (try with_reducible rfl))); (case hQx2 => exact (fun _ _ _ h => h)); (try simp only [Act.put, List.setIfInBounds_toArray, List.set_cons_zero, List.set_cons_succ]))
          (refine wpAnyL_take (n := 0) (i := 2) (oi := ?ox3) (v := ?vx3) ?hix3 ?k1x3 ?k2x3 ?k3x3 ?k4x3 ?k5x3 ?k6x3 ?hQx3 ?hYx3 ?hSx3 ?restx3; (case hix3 => (simp only [List.getElem?_toArray, List.getElem?_cons_succ, List.getElem?_cons_zero]; exact rfl)); (case k1x3 => kernel_rfl); (case k2x3 => kernel_rfl); (case k3x3 => kernel_rfl); (case k4x3 => kernel_rfl); (case k5x3 => kernel_rfl); (case k6x3 => kernel_rfl); (case hSx3 => assumption); (case hYx3 => (refine Or.inl ⟨rfl, ?hyx3⟩; intro w hSw; (try dsimp only at hSw); go_simp; (try with_reducible rfl))); (case hQx3 => exact (fun _ _ _ h => h)); (try simp only [Act.put, List.setIfInBounds_toArray, List.set_cons_zero, List.set_cons_succ]))
          (refine wpAnyL_take (n := 0) (i := 3) (oi := ?ox4) (v := ?vx4) ?hix4 ?k1x4 ?k2x4 ?k3x4 ?k4x4 ?k5x4 ?k6x4 ?hQx4 ?hYx4 ?hSx4 ?restx4; (case hix4 => (simp only [List.getElem?_toArray, List.getElem?_cons_succ, List.getElem?_cons_zero]; exact rfl)); (case k1x4 => kernel_rfl); (case k2x4 => kernel_rfl); (case k3x4 => kernel_rfl); (case k4x4 => kernel_rfl); (case k5x4 => kernel_rfl); (case k6x4 => kernel_rfl); (case hSx4 => assumption); (case hYx4 => (refine Or.inl ⟨rfl, ?hyx4⟩; intro w hSw; (try dsimp only at hSw); go_simp; (try with_reducible rfl))); (case hQx4 => exact (fun _ _ _ h => h)); (try simp only [Act.put, List.setIfInBounds_toArray, List.set_cons_zero, List.set_cons_succ]))
          (refine wpAnyL_take (n := 0) (i := 4) (oi := ?ox5) (v := ?vx5) ?hix5 ?k1x5 ?k2x5 ?k3x5 ?k4x5 ?k5x5 ?k6x5 ?hQx5 ?hYx5 ?hSx5 ?restx5; (case hix5 => (simp only [List.getElem?_toArray, List.getElem?_cons_succ, List.getElem?_cons_zero]; exact rfl)); (case k1x5 => kernel_rfl); (case k2x5 => kernel_rfl); (case k3x5 => kernel_rfl); (case k4x5 => kernel_rfl); (case k5x5 => kernel_rfl); (case k6x5 => kernel_rfl); (case hSx5 => assumption); (case hYx5 => (refine Or.inl ⟨rfl, ?hyx5⟩; intro w hSw; (try dsimp only at hSw); go_simp; (try with_reducible rfl))); (case hQx5 => exact (fun _ _ _ h => h)); (try simp only [Act.put, List.setIfInBounds_toArray, List.set_cons_zero, List.set_cons_succ]))
          (refine wpAnyL_take (n := 0) (i := 5) (oi := ?ox6) (v := ?vx6) ?hix6 ?k1x6 ?k2x6 ?k3x6 ?k4x6 ?k5x6 ?k6x6 ?hQx6 ?hYx6 ?hSx6 ?restx6; (case hix6 => (simp only [List.getElem?_toArray, List.getElem?_cons_succ, List.getElem?_cons_zero]; exact rfl)); (case k1x6 => kernel_rfl); (case k2x6 => kernel_rfl); (case k3x6 => kernel_rfl); (case k4x6 => kernel_rfl); (case k5x6 => kernel_rfl); (case k6x6 => kernel_rfl); (case hSx6 => assumption); (case hYx6 => (refine Or.inl ⟨rfl, ?hyx6⟩; intro w hSw; (try dsimp only at hSw); go_simp; (try with_reducible rfl))); (case hQx6 => exact (fun _ _ _ h => h)); (try simp only [Act.put, List.setIfInBounds_toArray, List.set_cons_zero, List.set_cons_succ]))
          (refine wpAnyL_take (n := 0) (i := 6) (oi := ?ox7) (v := ?vx7) ?hix7 ?k1x7 ?k2x7 ?k3x7 ?k4x7 ?k5x7 ?k6x7 ?hQx7 ?hYx7 ?hSx7 ?restx7; (case hix7 => (simp only [List.getElem?_toArray, List.getElem?_cons_succ, List.getElem?_cons_zero]; exact rfl)); (case k1x7 => kernel_rfl); (case k2x7 => kernel_rfl); (case k3x7 => kernel_rfl); (case k4x7 => kernel_rfl); (case k5x7 => kernel_rfl); (case k6x7 => kernel_rfl); (case hSx7 => assumption); (case hYx7 => (refine Or.inl ⟨rfl, ?hyx7⟩; intro w hSw; (try dsimp only at hSw); go_simp; (try with_reducible rfl))); (case hQx7 => exact (fun _ _ _ h => h)); (try simp only [Act.put, List.setIfInBounds_toArray, List.set_cons_zero, List.set_cons_succ]))
          (refine wpAnyL_take (n := 0) (i := 7) (oi := ?ox8) (v := ?vx8) ?hix8 ?k1x8 ?k2x8 ?k3x8 ?k4x8 ?k5x8 ?k6x8 ?hQx8 ?hYx8 ?hSx8 ?restx8; (case hix8 => (simp only [List.getElem?_toArray, List.getElem?_cons_succ, List.getElem?_cons_zero]; exact rfl)); (case k1x8 => kernel_rfl); (case k2x8 => kernel_rfl); (case k3x8 => kernel_rfl); (case k4x8 => kernel_rfl); (case k5x8 => kernel_rfl); (case k6x8 => kernel_rfl); (case hSx8 => assumption); (case hYx8 => (refine Or.inl ⟨rfl, ?hyx8⟩; intro w hSw; (try dsimp only at hSw); go_simp; (try with_reducible rfl))); (case hQx8 => exact (fun _ _ _ h => h)); (try simp only [Act.put, List.setIfInBounds_toArray, List.set_cons_zero, List.set_cons_succ]))
          (refine wpAnyL_take (n := 0) (i := 8) (oi := ?ox9) (v := ?vx9) ?hix9 ?k1x9 ?k2x9 ?k3x9 ?k4x9 ?k5x9 ?k6x9 ?hQx9 ?hYx9 ?hSx9 ?restx9; (case hix9 => (simp only [List.getElem?_toArray, List.getElem?_cons_succ, List.getElem?_cons_zero]; exact rfl)); (case k1x9 => kernel_rfl); (case k2x9 => kernel_rfl); (case k3x9 => kernel_rfl); (case k4x9 => kernel_rfl); (case k5x9 => kernel_rfl); (case k6x9 => kernel_rfl); (case hSx9 => assumption); (case hYx9 => (refine Or.inl ⟨rfl, ?hyx9⟩; intro w hSw; (try dsimp only at hSw); go_simp; (try with_reducible rfl))); (case hQx9 => exact (fun _ _ _ h => h)); (try simp only [Act.put, List.setIfInBounds_toArray, List.set_cons_zero, List.set_cons_succ]))
          (refine wpAnyL_take (n := 0) (i := 9) (oi := ?ox10) (v := ?vx10) ?hix10 ?k1x10 ?k2x10 ?k3x10 ?k4x10 ?k5x10 ?k6x10 ?hQx10 ?hYx10 ?hSx10 ?restx10; (case hix10 => (simp only [List.getElem?_toArray, List.getElem?_cons_succ, List.getElem?_cons_zero]; exact rfl)); (case k1x10 => kernel_rfl); (case k2x10 => kernel_rfl); (case k3x10 => kernel_rfl); (case k4x10 => kernel_rfl); (case k5x10 => kernel_rfl); (case k6x10 => kernel_rfl); (case hSx10 => assumption); (case hYx10 => (refine Or.inl ⟨rfl, ?hyx10⟩; intro w hSw; (try dsimp only at hSw); go_simp; (try with_reducible rfl))); (case hQx10 => exact (fun _ _ _ h => h)); (try simp only [Act.put, List.setIfInBounds_toArray, List.set_cons_zero, List.set_cons_succ]))
          refine wpAnyL_ready (rs := [10]) (by kernel_rfl) (by simp) ?_
          refine AllReadyL.cons (o := ?o10x11) ?hi10x11 (fun K hK => ?_) AllReadyL.nil
          (case hi10x11 => (simp only [List.getElem?_toArray, List.getElem?_cons_succ, List.getElem?_cons_zero]; exact rfl))
          have s0 := HBX.out.cell 0; have f0 := HBX.out.frozen 0
          simp at s0
          go_simp
          clear s0 f0
          have hbx7 := HBX.out.set_ 0 (.bool true)
          have hx0 := HX0.out.far (p := ⟨w.heap.size + 1 + 1 + 1, 0, none⟩) (by simp <;> omega) (.bool true)
          have hx1 := HX1.out.far (p := ⟨w.heap.size + 1 + 1 + 1, 0, none⟩) (by simp <;> omega) (.bool true)
          have hx2 := HX2.out.far (p := ⟨w.heap.size + 1 + 1 + 1, 0, none⟩) (by simp <;> omega) (.bool true)
          have hb7 := HB1.out.setCell (p := ⟨w.heap.size + 1 + 1 + 1, 0, none⟩) (by simp <;> omega) (.bool true)
          simp at hbx7
          clear HBX HX0 HX1 HX2 HB1
          have HBX := Lib.hid hbx7; have HX0 := Lib.hid hx0; have HX1 := Lib.hid hx1; have HX2 := Lib.hid hx2; have HB1 := Lib.hid hb7
          clear hbx7 hx0 hx1 hx2 hb7
          (try clear hHeld)
          refine hK.out _ _ (by (try dsimp only); exact ⟨HX1.out.cell 0, HX0.out.cell 1⟩) (fun hHeld => ?_)
          clear hK K
          (try simp only [Act.put, List.setIfInBounds_toArray, List.set_cons_zero, List.set_cons_succ])
          revert hHeld HBX HX0 HX1 HX2 HB1
          generalize (World.setCell w0 ⟨w.heap.size + 1 + 1 + 1, 0, none⟩ (.bool true)) = W7
          intro HBX HX0 HX1 HX2 HB1 hHeld
          (refine wpAnyL_take (n := 0) (i := 11) (oi := ?ox12) (v := ?vx12) ?hix12 ?k1x12 ?k2x12 ?k3x12 ?k4x12 ?k5x12 ?k6x12 ?hQx12 ?hYx12 ?hSx12 ?restx12; (case hix12 => (simp only [List.getElem?_toArray, List.getElem?_cons_succ, List.getElem?_cons_zero]; exact rfl)); (case k1x12 => kernel_rfl); (case k2x12 => kernel_rfl); (case k3x12 => kernel_rfl); (case k4x12 => kernel_rfl); (case k5x12 => kernel_rfl); (case k6x12 => kernel_rfl); (case hSx12 => assumption); (case hYx12 => (refine Or.inl ⟨rfl, ?hyx12⟩; intro w hSw; (try dsimp only at hSw); go_simp; (try with_reducible rfl))); (case hQx12 => exact (fun _ _ _ h => h)); (try simp only [Act.put, List.setIfInBounds_toArray, List.set_cons_zero, List.set_cons_succ]))
          refine wpAnyL_ready (rs := [12]) (by kernel_rfl) (by simp) ?_
          refine AllReadyL.last (o := ?o12x13) ?hi12x13 ?he12x13 (fun K hK => ?_) AllReadyL.nil
          (case hi12x13 => (simp only [List.getElem?_toArray, List.getElem?_cons_succ, List.getElem?_cons_zero]; exact rfl))
          (case he12x13 => kernel_rfl)
          have s2 := HBX.out.cell 2; have f2 := HBX.out.frozen 2
          simp at s2
          go_simp
          (try clear hHeld)
          refine hK.out _ _ ?_
          clear hK K
          (try simp only [Act.put, List.setIfInBounds_toArray, List.set_cons_zero, List.set_cons_succ])
          (refine wpAnyL_done (by kernel_rfl) ?_ _)
          clear m1 m2 m3 k0 k1 s2 f2
          have hbx7 := HBX.out.set_ 2 (.int .i64 (60 * (i : Int) + x.far * r.pace.1))
          have hx0 := HX0.out.far (p := ⟨w.heap.size + 1 + 1 + 1, 2, none⟩) (by simp <;> omega) (.int .i64 (60 * (i : Int) + x.far * r.pace.1))
          have hx1 := HX1.out.far (p := ⟨w.heap.size + 1 + 1 + 1, 2, none⟩) (by simp <;> omega) (.int .i64 (60 * (i : Int) + x.far * r.pace.1))
          have hx2 := HX2.out.far (p := ⟨w.heap.size + 1 + 1 + 1, 2, none⟩) (by simp <;> omega) (.int .i64 (60 * (i : Int) + x.far * r.pace.1))
          have hb7 := HB1.out.setCell (p := ⟨w.heap.size + 1 + 1 + 1, 2, none⟩) (by simp <;> omega) (.int .i64 (60 * (i : Int) + x.far * r.pace.1))
          simp at hbx7
          have HK7 := Lib.hid (And.intro hbx7 (And.intro hx0 (And.intro hx1 (And.intro hx2 hb7))))
          clear hbx7 hx0 hx1 hx2 hb7
          go_wp2_with fail
          go_roundw
          case rel => exact ⟨i, ⟨true, max y.height Hh, 60 * (i : Int) + x.far * r.pace.1⟩, by omega, rfl, HSP.out, HK7.out.1, HK7.out.2.1, HK7.out.2.2.1, HK7.out.2.2.2.1, HK7.out.2.2.2.2⟩
          case measure => simp [intOf] <;> omega
        · rw [if_neg hh] at HSP
          have hbx6 := HBX.out.set_ 1 (.int .i64 (max y.height Hh))
          have hx0 := HX0.out.far (p := ⟨w.heap.size + 1 + 1 + 1, 1, none⟩) (by simp <;> omega) (.int .i64 (max y.height Hh))
          have hx1 := HX1.out.far (p := ⟨w.heap.size + 1 + 1 + 1, 1, none⟩) (by simp <;> omega) (.int .i64 (max y.height Hh))
          have hx2 := HX2.out.far (p := ⟨w.heap.size + 1 + 1 + 1, 1, none⟩) (by simp <;> omega) (.int .i64 (max y.height Hh))
          have hb6 := HB1.out.setCell (p := ⟨w.heap.size + 1 + 1 + 1, 1, none⟩) (by simp <;> omega) (.int .i64 (max y.height Hh))
          simp at hbx6
          have HK7 := Lib.hid (And.intro hbx6 (And.intro hx0 (And.intro hx1 (And.intro hx2 hb6))))
          clear hbx6 hx0 hx1 hx2 hb6
          go_wp2_with fail
          go_roundw
          case rel => exact ⟨i, ⟨y.may, max y.height Hh, y.frm⟩, by omega, rfl, HSP.out, HK7.out.1, HK7.out.2.1, HK7.out.2.2.1, HK7.out.2.2.2.1, HK7.out.2.2.2.2⟩
          case measure => simp [intOf] <;> omega
end
end Go.Proofs.Ytpijmfbpdglchaa
