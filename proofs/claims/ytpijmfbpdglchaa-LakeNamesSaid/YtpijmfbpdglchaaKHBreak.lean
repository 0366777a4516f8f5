/- CONTRACT of the reference's Break. -/
import Derived.Test.YtpijmfbpdglchaaKHAt
set_option linter.unusedVariables false
set_option linter.unusedSimpArgs false
namespace Go.Proofs.Ytpijmfbpdglchaa
open Go.RowKit Go.Proofs
attribute [local go_sem ↓] Go.wp_at_zero Go.wp_at_succ
/-- rows tell of the hours of a lake -/
structure HrOk (l : Lak) (L : List Aft) (m : Nat) (Hd Bk : Nat → Nat → Bool) : Prop where
  ml : m ≤ 100000000
  st : ∀ (h : Nat) (x : Aft), L[h]? = some x → stRow (rowOf m (Hd h)) m = ((sttOf l.vols x).holds, (sttOf l.vols x).lo, (sttOf l.vols x).hi)
  lev : ∀ (h : Nat) (x : Aft), L[h]? = some x → (sttOf l.vols x).lev = if (sttOf l.vols x).holds then levOf l.vols (sttOf l.vols x).hi else 0
  hi : ∀ (h : Nat) (x : Aft), L[h]? = some x → 0 ≤ (sttOf l.vols x).hi
  brk : ∀ (h : Nat) (x : Aft), L[h]? = some x → lastTo (rowOf m (Bk h)) m = x.brk
  no : ∀ (h : Nat) (x : Aft), L[h]? = some x → (!(sttOf l.vols x).holds) = (decide (x.hard = noneR) && decide (x.soft = noneR))
def pL {α : Type} (p : α → Bool) (L : List α) (h : Nat) : Bool := match L[h]? with | some x => p x | none => false
theorem pL_at {α : Type} {p : α → Bool} {L : List α} {h : Nat} {x : α} (hx : L[h]? = some x) : pL p L h = p x := by simp [pL, hx]
theorem firstL_pL {α : Type} (p : α → Bool) (L : List α) : firstL p L = firstN (pL p L) L.length := rfl
section
variable {VA IA O : Option Addr} {nV nI cV cI n c : Nat} {l : Lak} {w : World} {L : List Aft} {m : Nat} {Hd Bk : Nat → Nat → Bool}
set_option maxRecDepth 100000 in
set_option maxHeartbeats 2000000 in
theorem rBreak_c (h : RdL w VA nV IA nI l) (hok : LOk l) (hr : RdHr w O n m Hd Bk) (H : HrOk l L m Hd Bk) (hn : n = L.length) (hn60 : n ≤ 60) :
    Calls Try.prog 37 #[.agg (lA VA nV cV IA nI cI l), .slice O n c] w fun e w' => e = .returned (.tuple #[.int .i64 (brkF L), .int .i64 (brkE L)]) ∧ Below w.heap.size w w' := by
  obtain ⟨W, hW⟩ : ∃ W, W = w.alloc (.cells (lA VA nV cV IA nI cI l) 27) := ⟨_, rfl⟩
  have hb : Below w.heap.size w W := by rw [hW]; exact (Below.refl _ _).alloc (Nat.le_refl _) _
  have h0 := Blk.new w 27 (lA VA nV cV IA nI cI l)
  rw [← hW] at h0
  have HW := Lib.hid hW; have HB := Lib.hid hb; have HRR := Lib.hid (hr.below hb); have HH := Lib.hid H; have HN := Lib.hid hn
  have HXL := Lib.hid (fun (U : World) (hU : Below W.heap.size W U) => blk_lA (h0.below hU h0.lt))
  have HAT := Lib.hid (fun (U : World) (hU : Below w.heap.size w U) (x : Nat × Nat) (P : Nat → Bool) (hm : m ≤ 100000000) => rAt_c (b := x) (m := m) (P := P) (cV := cV) (cI := cI) (h.below hU) hok hm)
  obtain ⟨F, hF⟩ : ∃ F : Nat → Bool, F = pL (fun x : Aft => decide (0 ≤ x.brk)) L := ⟨_, rfl⟩
  obtain ⟨E, hE⟩ : ∃ E : Nat → Bool, E = pL (fun x : Aft => decide (x.hard = noneR) && decide (x.soft = noneR)) L := ⟨_, rfl⟩
  have HF := Lib.hid (show ∀ i x, L[i]? = some x → F i = decide (0 ≤ x.brk) from fun i x hx => by rw [hF]; exact pL_at hx)
  have HE := Lib.hid (show ∀ i x, L[i]? = some x → E i = (decide (x.hard = noneR) && decide (x.soft = noneR)) from fun i x hx => by rw [hE]; exact pL_at hx)
  have HF2 := Lib.hid (show firstN F n = brkF L by rw [hF, hn]; rfl)
  have HE2 := Lib.hid (show firstN E n = brkE L by rw [hE, hn]; rfl)
  have HQ := Lib.hid (Below.refl W.heap.size W)
  have hm := H.ml
  clear hW hb h0 h hok hr H hn hF hE
  go_enter Try.func37, Try.ntmps37
  go_upto_region 1 with fail
  rw [← HW.out]
  go_wp2_with fail
  go_loopw [6, 7, 8] (fun fv ev iv wr => ∃ (k : Nat) (f e : Int), k ≤ n ∧ iv = .int .i64 ((k : Int) - 1) ∧ fv = .int .i64 f ∧ ev = .int .i64 e ∧ downN F n k f ∧ downN E n k e ∧ Below W.heap.size W wr) (fun _ _ iv _ => (intOf iv + 1).toNat)
  case atStart => exact ⟨n, -1, -1, Nat.le_refl _, rfl, rfl, rfl, downN_start _ _, downN_start _ _, HQ.out⟩
  case round =>
    obtain ⟨k, f, e, hk, rfl, rfl, rfl, hf, he, hbr⟩ := hrel
    have HDF := Lib.hid hf; have HDE := Lib.hid he
    clear hf he
    rcases Nat.eq_zero_or_pos k with h0 | h0
    · subst h0
      rw [show (((0 : Nat) : Int) - 1) = -1 from rfl]
      have hb1 := HB.out.trans (hbr.mono HB.out.size)
      have HB1 := Lib.hid hb1
      clear hb1 hbr
      go_wp2_with fail
      go_ret2
      exact ⟨by rw [← HF2.out, ← HE2.out, downN_all HDF.out, downN_all HDE.out] <;> rfl, HB1.out⟩
    · obtain ⟨i, rfl⟩ : ∃ i, k = i + 1 := ⟨k - 1, by omega⟩
      have e1 : ((i + 1 : Nat) : Int) - 1 = (i : Int) := by omega
      rw [e1]
      clear e1
      obtain ⟨W5, hW5⟩ : ∃ W5, W5 = wr := ⟨_, rfl⟩
      rw [← hW5] at hbr ⊢
      clear hW5
      obtain ⟨bo, oo, x, hO, c0, c1, hbh, hbb⟩ := (HRR.out.below hbr).atR (show i < n by omega)
      subst hO
      obtain ⟨a, ha⟩ : ∃ a, L[i]? = some a := ⟨_, List.getElem?_eq_getElem (by have := HN.out; omega)⟩
      have hbk := HH.out.brk i a ha
      have HMO := Lib.hid (rmost_c hm hbb)
      rw [hbk] at HMO
      have HA := Lib.hid ha
      have HAT2 := Lib.hid (fun (U : World) (hU : Below w.heap.size w U) (hP : Blk U x.1 4 (boolA m (Hd i))) => HAT.out U hU x (Hd i) hm hP (HH.out.st i a ha) (HH.out.lev i a ha) (HH.out.hi i a ha))
      have HNO := Lib.hid (HH.out.no i a ha)
      obtain ⟨S, hS⟩ : ∃ S, S = sttOf l.vols a := ⟨_, rfl⟩
      rw [← hS] at HAT2 HNO
      have HFI := Lib.hid (HF.out i a ha); have HEI := Lib.hid (HE.out i a ha)
      have hin : (i : Int) < (n : Int) := by omega
      have hi0 : (0 : Int) ≤ (i : Int) := by omega
      have HBR := Lib.hid hbr; have HBH := Lib.hid hbh; have HB1 := Lib.hid (HB.out.trans (hbr.mono HB.out.size)); have HB5 := Lib.hid (Below.refl W5.heap.size W5)
      have HC := Lib.hid (fun (U : World) (hU : Below W5.heap.size W5 U) => show U.cell? ⟨bo, oo + i * 2, none⟩ = some (.slice (some ⟨x.1, 0, none⟩) m m) ∧ U.cell? ⟨bo, oo + i * 2 + 1, none⟩ = some (.slice (some ⟨x.2, 0, none⟩) m m) from ⟨bel_keep hU c0, bel_keep hU c1⟩)
      clear hbr hbh hbb hbk ha hS
      go_wp2_with fail
      go_at_call 74
      refine (HMO.out).mono ?_
      rintro e w1 ⟨rfl, hb9⟩
      have t0 := below_tr HBR.out hb9; have t1 := below_tr HB1.out hb9; have t2 := below_tr HB5.out hb9; have t3 := HBH.out.below hb9 HBH.out.lt
      clear HBR HB1 HB5 HBH
      have HBR := Lib.hid t0; have HB1 := Lib.hid t1; have HB5 := Lib.hid t2; have HBH := Lib.hid t3
      clear t0 t1 t2 t3
      clear hb9 
      clear c0 c1
      go_upto_if 21 with (fail)
      go_cut [6] (fun v wx => v = .int .i64 (if F i = true then (i : Int) else f) ∧ wx = w1)
      case first =>
        by_cases hge : 0 ≤ a.brk
        · have HX := Lib.hid (show F i = true by rw [HFI.out]; exact decide_eq_true hge)
          go_wp2_with fail
          go_meet
          exact ⟨by rw [HX.out]; rfl, rfl⟩
        · have HX := Lib.hid (show F i = false by rw [HFI.out]; exact decide_eq_false hge)
          go_wp2_with fail
          go_meet
          exact ⟨by rw [HX.out]; rfl, rfl⟩
      case rest =>
        obtain ⟨rfl, rfl⟩ := hcut
        have HD1 := Lib.hid (downN_step HDF.out (by omega)); have HD2 := Lib.hid (downN_step HDE.out (by omega))
        obtain ⟨f', hf'⟩ : ∃ f', f' = (if F i = true then (i : Int) else f) := ⟨_, rfl⟩
        rw [← hf'] at HD1 ⊢
        clear hf'
        go_wp2_with fail
        have hfl : ∀ w : World, (Instr.field 61 (.agg (stA S.holds S.lo S.hi S.lev)) 0).run Try.prog w = .ok (.bool S.holds) w := fun _ => by kernel_rfl
        refine wp_region_till [] (fun U => U.cell? ⟨w.heap.size, 0, none⟩ = some (.slice VA nV cV) ∧ U.cell? ⟨w.heap.size, 1, none⟩ = some (.int .i64 l.crest) ∧ U.cell? ⟨w.heap.size, 2, none⟩ = some (.int .i64 l.weak) ∧ U.cell? ⟨w.heap.size, 3, none⟩ = some (.int .i64 l.soft.1) ∧ U.cell? ⟨w.heap.size, 4, none⟩ = some (.int .i64 l.soft.2) ∧ U.cell? ⟨w.heap.size, 5, none⟩ = some (.int .i64 l.start.1) ∧ U.cell? ⟨w.heap.size, 6, none⟩ = some (.int .i64 l.start.2) ∧ U.cell? ⟨w.heap.size, 7, none⟩ = some (.int .i64 l.seep.1) ∧ U.cell? ⟨w.heap.size, 8, none⟩ = some (.int .i64 l.seep.2) ∧ U.cell? ⟨w.heap.size, 9, none⟩ = some (.slice IA nI cI) ∧ U.cell? ⟨bo, oo + i * 2, none⟩ = some (.slice (some ⟨x.1, 0, none⟩) m m) ∧ U.cell? ⟨bo, oo + i * 2 + 1, none⟩ = some (.slice (some ⟨x.2, 0, none⟩) m m)) (by kernel_rfl) (by exact and10 (HXL.out _ HBR.out.drew) (HC.out _ HB5.out.drew)) (fun hHeld => ?_)
        have hb9 := (Below.refl wc.heap.size wc).drew
        have t0 := below_tr HBR.out hb9; have t1 := below_tr HB1.out hb9; have t2 := below_tr HB5.out hb9; have t3 := HBH.out.below hb9 HBH.out.lt
        clear HBR HB1 HB5 HBH
        have HBR := Lib.hid t0; have HB1 := Lib.hid t1; have HB5 := Lib.hid t2; have HBH := Lib.hid t3
        clear t0 t1 t2 t3
        clear hb9
        revert hHeld HBR HB1 HB5 HBH
        generalize wc.drew = w0
        intro hHeld HBR HB1 HB5 HBH
        (refine wpAnyL_take (n := 0) (i := 0) (oi := ?ox1) (v := ?vx1) ?hix1 ?k1x1 ?k2x1 ?k3x1 ?k4x1 ?k5x1 ?k6x1 ?hQx1 ?hYx1 ?hSx1 ?restx1; (case hix1 => (simp only [List.getElem?_toArray, List.getElem?_cons_succ, List.getElem?_cons_zero]; exact rfl)); (case k1x1 => kernel_rfl); (case k2x1 => kernel_rfl); (case k3x1 => kernel_rfl); (case k4x1 => kernel_rfl); (case k5x1 => kernel_rfl); (case k6x1 => kernel_rfl); (case hSx1 => assumption); (case hYx1 => (refine Or.inl ⟨rfl, ?hyx1⟩; intro w hSw; (try dsimp only at hSw); go_simp; (try with_reducible rfl))); (case hQx1 => exact (fun _ _ _ h => h)); (try simp only [Act.put, List.setIfInBounds_toArray, List.set_cons_zero, List.set_cons_succ]))
        (refine wpAnyL_take (n := 0) (i := 1) (oi := ?ox2) (v := ?vx2) ?hix2 ?k1x2 ?k2x2 ?k3x2 ?k4x2 ?k5x2 ?k6x2 ?hQx2 ?hYx2 ?hSx2 ?restx2; (case hix2 => (simp only [List.getElem?_toArray, List.getElem?_cons_succ, List.getElem?_cons_zero]; exact rfl)); (case k1x2 => kernel_rfl); (case k2x2 => kernel_rfl); (case k3x2 => kernel_rfl); (case k4x2 => kernel_rfl); (case k5x2 => kernel_rfl); (case k6x2 => kernel_rfl); (case hSx2 => assumption); (case hYx2 => (refine Or.inl ⟨rfl, ?hyx2⟩; intro w hSw; (try dsimp only at hSw); go_simp; (try with_reducible rfl))); (case hQx2 => exact (fun _ _ _ h => h)); (try simp only [Act.put, List.setIfInBounds_toArray, List.set_cons_zero, List.set_cons_succ]))
        (refine wpAnyL_take (n := 0) (i := 2) (oi := ?ox3) (v := ?vx3) ?hix3 ?k1x3 ?k2x3 ?k3x3 ?k4x3 ?k5x3 ?k6x3 ?hQx3 ?hYx3 ?hSx3 ?restx3; (case hix3 => (simp only [List.getElem?_toArray, List.getElem?_cons_succ, List.getElem?_cons_zero]; exact rfl)); (case k1x3 => kernel_rfl); (case k2x3 => kernel_rfl); (case k3x3 => kernel_rfl); (case k4x3 => kernel_rfl); (case k5x3 => kernel_rfl); (case k6x3 => kernel_rfl); (case hSx3 => assumption); (case hYx3 => (refine Or.inl ⟨rfl, ?hyx3⟩; intro w hSw; (try dsimp only at hSw); go_simp; (try with_reducible rfl))); (case hQx3 => exact (fun _ _ _ h => h)); (try simp only [Act.put, List.setIfInBounds_toArray, List.set_cons_zero, List.set_cons_succ]))
        (refine wpAnyL_take (n := 0) (i := 3) (oi := ?ox4) (v := ?vx4) ?hix4 ?k1x4 ?k2x4 ?k3x4 ?k4x4 ?k5x4 ?k6x4 ?hQx4 ?hYx4 ?hSx4 ?restx4; (case hix4 => (simp only [List.getElem?_toArray, List.getElem?_cons_succ, List.getElem?_cons_zero]; exact rfl)); (case k1x4 => kernel_rfl); (case k2x4 => kernel_rfl); (case k3x4 => kernel_rfl); (case k4x4 => kernel_rfl); (case k5x4 => kernel_rfl); (case k6x4 => kernel_rfl); (case hSx4 => assumption); (case hYx4 => (refine Or.inl ⟨rfl, ?hyx4⟩; intro w hSw; (try dsimp only at hSw); go_simp; (try with_reducible rfl))); (case hQx4 => exact (fun _ _ _ h => h)); (try simp only [Act.put, List.setIfInBounds_toArray, List.set_cons_zero, List.set_cons_succ]))
        (refine wpAnyL_take (n := 0) (i := 4) (oi := ?ox5) (v := ?vx5) ?hix5 ?k1x5 ?k2x5 ?k3x5 ?k4x5 ?k5x5 ?k6x5 ?hQx5 ?hYx5 ?hSx5 ?restx5; (case hix5 => (simp only [List.getElem?_toArray, List.getElem?_cons_succ, List.getElem?_cons_zero]; exact rfl)); (case k1x5 => kernel_rfl); (case k2x5 => kernel_rfl); (case k3x5 => kernel_rfl); (case k4x5 => kernel_rfl); (case k5x5 => kernel_rfl); (case k6x5 => kernel_rfl); (case hSx5 => assumption); (case hYx5 => (refine Or.inl ⟨rfl, ?hyx5⟩; intro w hSw; (try dsimp only at hSw); go_simp; (try with_reducible rfl))); (case hQx5 => exact (fun _ _ _ h => h)); (try simp only [Act.put, List.setIfInBounds_toArray, List.set_cons_zero, List.set_cons_succ]))
        refine wpAnyL_ready (rs := [5]) (by kernel_rfl) (by simp) ?_
        refine AllReadyL.cons (o := ?o5x6) ?hi5x6 (fun K hK => ?_) AllReadyL.nil
        (case hi5x6 => (simp only [List.getElem?_toArray, List.getElem?_cons_succ, List.getElem?_cons_zero]; exact rfl))
        go_simp
        go_at_call 36
        refine (HAT2.out _ HB1.out HBH.out).mono ?_
        rintro e w1 ⟨rfl, hb9⟩
        have t0 := below_tr HBR.out hb9; have t1 := below_tr HB1.out hb9; have t2 := below_tr HB5.out hb9; have t3 := HBH.out.below hb9 HBH.out.lt
        clear HBR HB1 HB5 HBH
        have HBR := Lib.hid t0; have HB1 := Lib.hid t1; have HB5 := Lib.hid t2; have HBH := Lib.hid t3
        clear t0 t1 t2 t3
        clear hb9 
        (try go_wp2_with fail)
        (try clear hHeld)
        refine hK.out _ _ (by (try dsimp only); exact and10 (HXL.out _ HBR.out) (HC.out _ HB5.out)) (fun hHeld => ?_)
        clear hK K
        (try simp only [Act.put, List.setIfInBounds_toArray, List.set_cons_zero, List.set_cons_succ])
        (refine wpAnyL_take (n := 0) (i := 6) (oi := ?ox7) (v := ?vx7) ?hix7 ?k1x7 ?k2x7 ?k3x7 ?k4x7 ?k5x7 ?k6x7 ?hQx7 ?hYx7 ?hSx7 ?restx7; (case hix7 => (simp only [List.getElem?_toArray, List.getElem?_cons_succ, List.getElem?_cons_zero]; exact rfl)); (case k1x7 => kernel_rfl); (case k2x7 => kernel_rfl); (case k3x7 => kernel_rfl); (case k4x7 => kernel_rfl); (case k5x7 => kernel_rfl); (case k6x7 => kernel_rfl); (case hSx7 => assumption); (case hYx7 => (refine Or.inl ⟨rfl, ?hyx7⟩; intro w hSw; (try dsimp only at hSw); go_simp; (try with_reducible rfl))); (case hQx7 => exact (fun _ _ _ h => h)); (try simp only [Act.put, List.setIfInBounds_toArray, List.set_cons_zero, List.set_cons_succ]))
        (refine wpAnyL_take (n := 0) (i := 7) (oi := ?ox8) (v := ?vx8) ?hix8 ?k1x8 ?k2x8 ?k3x8 ?k4x8 ?k5x8 ?k6x8 ?hQx8 ?hYx8 ?hSx8 ?restx8; (case hix8 => (simp only [List.getElem?_toArray, List.getElem?_cons_succ, List.getElem?_cons_zero]; exact rfl)); (case k1x8 => kernel_rfl); (case k2x8 => kernel_rfl); (case k3x8 => kernel_rfl); (case k4x8 => kernel_rfl); (case k5x8 => kernel_rfl); (case k6x8 => kernel_rfl); (case hSx8 => assumption); (case hYx8 => (refine Or.inl ⟨rfl, ?hyx8⟩; intro w hSw; (try dsimp only at hSw); go_simp; (try with_reducible rfl))); (case hQx8 => exact (fun _ _ _ h => h)); (try simp only [Act.put, List.setIfInBounds_toArray, List.set_cons_zero, List.set_cons_succ]))
        (refine wpAnyL_done (by kernel_rfl) ?_ _)
        clear hfl
        cases hsh : S.holds
        · have HX := Lib.hid (show E i = true by rw [HEI.out, ← HNO.out, hsh]; rfl)
          have HD3 := HD2.out
          rw [HX.out] at HD3
          simp only [if_true] at HD3
          have HD4 := Lib.hid HD3
          clear HD3 hsh
          go_wp2_with fail
          go_roundw
          case rel => exact ⟨i, f', _, by omega, rfl, rfl, rfl, HD1.out, HD4.out, HBR.out⟩
          case measure => simp [intOf] <;> omega
        · have HX := Lib.hid (show E i = false by rw [HEI.out, ← HNO.out, hsh]; rfl)
          have HD3 := HD2.out
          rw [HX.out] at HD3
          simp only [Bool.false_eq_true, if_false] at HD3
          have HD4 := Lib.hid HD3
          clear HD3 hsh
          go_wp2_with fail
          go_roundw
          case rel => exact ⟨i, f', _, by omega, rfl, rfl, rfl, HD1.out, HD4.out, HBR.out⟩
          case measure => simp [intOf] <;> omega
end
end Go.Proofs.Ytpijmfbpdglchaa
