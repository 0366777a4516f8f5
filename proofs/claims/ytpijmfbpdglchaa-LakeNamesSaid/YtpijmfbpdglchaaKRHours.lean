/- CONTRACT of the reference's Hours. -/
import Derived.Test.YtpijmfbpdglchaaKHTab
import Derived.Test.YtpijmfbpdglchaaKRef5
import Derived.Deep.AppendLies
set_option linter.unusedVariables false
set_option linter.unusedSimpArgs false
namespace Go.Proofs.Ytpijmfbpdglchaa
open Go.RowKit Go.Proofs
attribute [local go_sem ↓] Go.wp_at_zero Go.wp_at_succ
def HoursP (w : World) (n : Nat) (l : Lak) (L : List Aft) (e : Ending) (w' : World) : Prop :=
  ∃ O cp m Hd Bk, e = .returned (.slice O n cp) ∧ RdHr w' O n m Hd Bk ∧ HrOk l L m Hd Bk ∧ Below w.heap.size w w'
theorem mostTo_b2 {l : Lak} (hok : LOk l) : ∀ k : Nat, mostTo l k ≤ 1000001 + 1000000 * (k : Int)
  | 0 => by have h0 : mostTo l 0 = l.start.2 + 1 := rfl
            have := hok.start; have := hok.weakV; omega
  | k + 1 => by
    have ih := mostTo_b2 hok k
    simp only [mostTo]
    split
    · rename_i r hr; have := hok.inflow k r hr; push_cast; omega
    · push_cast; omega
/-- the ends of the walk: what the tables tell -/
theorem hrOk_of {l : Lak} {ws : List Wrk} {c : List Int} {m : Nat} {Hd Bk : Nat → Nat → Bool} (hok : LOk l) (hwk : WOk ws) (hcho : choB ws.length c = true) (hm : (m : Int) = mostTo l l.inflow.length) (hml : m ≤ 100000000)
    (H : HInv l (netL l ws c) l.inflow.length (l.soft.2 + 1) 0 (fun _ => False) Hd Bk) : HrOk l (aftL l (netL l ws c)) m Hd Bk := by
  have hn := netOk hok ws c
  have lt : ∀ {h : Nat} {x : Aft}, (aftL l (netL l ws c))[h]? = some x → h < l.inflow.length := fun hx => by have := lt_of_get hx; rwa [aftL_len, netL_len] at this
  refine ⟨hml, fun h x hx => ?_, fun h x hx => ?_, fun h x hx => ?_, fun h x hx => ?_, fun h x hx => stt_holds hok hn hx⟩
  · exact (held_row hok hn hx (H.tells hok hwk hcho hm (lt hx)).1).1
  · exact (held_row hok hn hx (H.tells hok hwk hcho hm (lt hx)).1).2
  · have hg := (all_in hok hn hx).1
    unfold sttOf
    split
    · exact Int.le_refl _
    · rename_i e
      have := hg.bd e
      simp only; omega
  · exact brok_row hok hn hx (H.tells hok hwk hcho hm (lt hx)).2
section
variable {VA IA WA CA : Option Addr} {nV cV nI cI nW cW nC cC : Nat} {l : Lak} {ws : List Wrk} {c : List Int} {w : World}
set_option linter.unusedSimpArgs false in
set_option maxRecDepth 100000 in
set_option maxHeartbeats 8000000 in
theorem rHours_c (h : RdL w VA nV IA nI l) (hw : Rd encW 3 w WA nW ws) (hc : Rd enc1 1 w CA nC c) (hok : LOk l) (hwk : WOk ws) (hcho : choB ws.length c = true) :
    Calls Try.prog 35 #[.agg (lA VA nV cV IA nI cI l), .slice WA nW cW, .slice CA nC cC] w (HoursP w nI l (aftL l (netL l ws c))) := by
  obtain ⟨W, hW⟩ : ∃ W, W = w.alloc (.cells (lA VA nV cV IA nI cI l) 27) := ⟨_, rfl⟩
  have hb : Below w.heap.size w W := by rw [hW]; exact (Below.refl _ _).alloc (Nat.le_refl _) _
  have hX := Blk.new w 27 (lA VA nV cV IA nI cI l)
  rw [← hW] at hX
  have hst := hok.start; have hso := hok.soft; have hse := hok.seep; have hwv := hok.weakV; have h60 := hok.h; have hil := h.infl.len
  have hnI : nI ≤ 60 := by omega
  have HB := Lib.hid hb; have HW := Lib.hid hW; have HIL := Lib.hid hil
  have HPU := Lib.hid (fun (U : World) (hU : Below W.heap.size W U) (j : Int) => rPumped_c (cW := cW) (cC := cC) (hw.below (hb.trans (hU.mono hb.size))) (hc.below (hb.trans (hU.mono hb.size))) hwk hcho j)
  have HBO := Lib.hid (fun (U : World) (hU : Below W.heap.size W U) (k s : Int) => rBound_c (cV := cV) (cI := cI) (h.below (hb.trans (hU.mono hb.size))) hok k s)
  have HXL := Lib.hid (fun (U : World) (hU : Below W.heap.size W U) => blk_lA (hX.below hU hX.lt))
  have HH := Lib.hid (h.infl.below hb); have HOK := Lib.hid hok; have HWO := Lib.hid hwk; have HCO := Lib.hid hcho; have HNK := Lib.hid (netOk hok ws c)
  have HQ := Lib.hid (Below.refl W.heap.size W)
  have HMB := Lib.hid (mostTo_b2 hok); have HMP := Lib.hid (mostTo_pos hok)
  obtain ⟨i0, hi0, hz0, hz1, hz2⟩ := info_parts infoHour
  have HI := Lib.hid hi0; have HZ0 := Lib.hid hz0; have HZ1 := Lib.hid hz1; have HZ2 := Lib.hid hz2
  clear hb hW hX h hw hc hok hil hwk hcho hi0 hz0 hz1 hz2
  go_enter Try.func35, Try.ntmps35
  go_upto_region 1 with fail
  rw [← HW.out]
  obtain ⟨x0, x1, x2, x3, x4, x5, x6, x7, x8, x9⟩ := HXL.out _ HQ.out
  go_wp2_with fail
  go_loopw [7, 8] (fun mv iv wr => ∃ k : Nat, k ≤ nI ∧ iv = .int .i64 k ∧ mv = .int .i64 (mostTo l k) ∧ W = wr) (fun _ iv _ => nI - (intOf iv).toNat)
  case atStart => exact ⟨0, Nat.zero_le _, rfl, rfl, by first | rfl | trivial⟩
  case round =>
    obtain ⟨k, hk, rfl, rfl, rfl⟩ := hrel
    by_cases hlt : k < nI
    · obtain ⟨b, o, r, hA, hbl, hr, e0, e1⟩ := HH.out.at2 hlt
      subst hA
      have hm1 : mostTo l (k + 1) = mostTo l k + r.2 := by simp only [mostTo, hr]
      have hrb := HOK.out.inflow k r hr
      have hmb := HMB.out k
      have HM := Lib.hid hm1
      have hkn : (k : Int) < (nI : Int) := by omega
      have hk0 : (0 : Int) ≤ (k : Int) := by omega
      have hmp := HMP.out k
      clear hm1 hr
      go_wp2_with fail
      go_roundw
      case rel => exact ⟨k + 1, by omega, by go_num, by rw [HM.out], by first | rfl | trivial⟩
      case measure => simp [intOf] <;> omega
    · obtain rfl : nI = k := by omega
      obtain ⟨m, hm⟩ : ∃ m : Nat, (m : Int) = mostTo l nI := ⟨(mostTo l nI).toNat, by have := HMP.out nI; omega⟩
      have hml : m ≤ 100000000 := by have := HMB.out nI; omega
      rw [← hm]
      have HM := Lib.hid hm
      clear hm hk
      obtain ⟨nX, hnX⟩ : ∃ nX, nX = nI := ⟨_, rfl⟩
      go_upto_region 6 with fail
      go_wp2_with fail
      have HMK := Lib.hid (mk_bools m hml)
      go_loopw [9, 10] (fun ov iv wr => ∃ (k : Nat) (bs : List (Nat × Nat)), k ≤ nI ∧ bs.length = k ∧ iv = .int .i64 k ∧ wr.ownsRow W.heap.size 65 2 ov k (bs.flatMap (encHr m)) ∧ LaidB wr W.heap.size m bs ∧ Below W.heap.size W wr) (fun _ iv _ => nI - (intOf iv).toNat)
      case atStart => exact ⟨0, [], Nat.zero_le _, rfl, rfl, World.ownsRow_nil _ _ _ _, LaidB.nil _ _ _, HQ.out⟩
      case round =>
        obtain ⟨k, bs, hk, hbl, rfl, hown, hlb, hbr⟩ := hrel
        obtain ⟨OA, oc, rfl, hoc⟩ := own_form hown
        clear x0 x1 x2 x3 x4 x5 x6 x7 x8 x9
        obtain ⟨x0, x1, x2, x3, x4, x5, x6, x7, x8, x9⟩ := HXL.out _ hbr
        by_cases hlt : k < nI
        · have HBL := Lib.hid hbl
          have HOW := Lib.hid hown; have HLB := Lib.hid hlb; have HBR := Lib.hid hbr
          have hkn : (k : Int) < (nI : Int) := by omega
          have hk0 : (0 : Int) ≤ (k : Int) := by omega
          clear hown hlb hbr hbl
          go_upto_region 10 with fail
          clear x0 x1 x2 x3 x4 x5 x6 x7 x8 x9
          have hmk := HMK.out
          refine wp_region_till [] (fun _ => True) (by kernel_rfl) (by (try trivial)) (fun hHeld => ?_)
          have hb9 := (Below.refl wr.heap.size wr).drew
          have t0 := below_tr HBR.out hb9; have t1 := HLB.out.below hb9; have t2 := own_mono HOW.out hb9
          clear HBR HLB HOW
          have HBR := Lib.hid t0; have HLB := Lib.hid t1; have HOW := Lib.hid t2
          clear t0 t1 t2
          clear hb9
          revert hHeld HBR HLB HOW
          generalize wr.drew = w0
          intro hHeld HBR HLB HOW
          (refine wpAnyL_take (n := 0) (i := 0) (oi := ?ox1) (v := ?vx1) ?hix1 ?k1x1 ?k2x1 ?k3x1 ?k4x1 ?k5x1 ?k6x1 ?hQx1 ?hYx1 ?hSx1 ?restx1; (case hix1 => (simp only [List.getElem?_toArray, List.getElem?_cons_succ, List.getElem?_cons_zero]; exact rfl)); (case k1x1 => kernel_rfl); (case k2x1 => kernel_rfl); (case k3x1 => kernel_rfl); (case k4x1 => kernel_rfl); (case k5x1 => kernel_rfl); (case k6x1 => kernel_rfl); (case hSx1 => assumption); (case hYx1 => (refine Or.inl ⟨rfl, ?hyx1⟩; intro w hSw; (try dsimp only at hSw); go_simp; (try with_reducible rfl))); (case hQx1 => exact (fun _ _ _ h => h)); (try simp only [Act.put, List.setIfInBounds_toArray, List.set_cons_zero, List.set_cons_succ]))
          (refine wpAnyL_take (n := 0) (i := 1) (oi := ?ox2) (v := ?vx2) ?hix2 ?k1x2 ?k2x2 ?k3x2 ?k4x2 ?k5x2 ?k6x2 ?hQx2 ?hYx2 ?hSx2 ?restx2; (case hix2 => (simp only [List.getElem?_toArray, List.getElem?_cons_succ, List.getElem?_cons_zero]; exact rfl)); (case k1x2 => kernel_rfl); (case k2x2 => kernel_rfl); (case k3x2 => kernel_rfl); (case k4x2 => kernel_rfl); (case k5x2 => kernel_rfl); (case k6x2 => kernel_rfl); (case hSx2 => assumption); (case hYx2 => (refine Or.inl ⟨rfl, ?hyx2⟩; intro w hSw; (try dsimp only at hSw); go_simp; (try with_reducible rfl))); (case hQx2 => exact (fun _ _ _ h => h)); (try simp only [Act.put, List.setIfInBounds_toArray, List.set_cons_zero, List.set_cons_succ]))
          (refine wpAnyL_take (n := 0) (i := 3) (oi := ?ox3) (v := ?vx3) ?hix3 ?k1x3 ?k2x3 ?k3x3 ?k4x3 ?k5x3 ?k6x3 ?hQx3 ?hYx3 ?hSx3 ?restx3; (case hix3 => (simp only [List.getElem?_toArray, List.getElem?_cons_succ, List.getElem?_cons_zero]; exact rfl)); (case k1x3 => kernel_rfl); (case k2x3 => kernel_rfl); (case k3x3 => kernel_rfl); (case k4x3 => kernel_rfl); (case k5x3 => kernel_rfl); (case k6x3 => kernel_rfl); (case hSx3 => assumption); (case hYx3 => (refine Or.inl ⟨rfl, ?hyx3⟩; intro w hSw; (try dsimp only at hSw); go_simp; (try with_reducible rfl))); (case hQx3 => exact (fun _ _ _ h => h)); (try simp only [Act.put, List.setIfInBounds_toArray, List.set_cons_zero, List.set_cons_succ]))
          refine wpAnyL_ready (rs := [2, 4]) (by kernel_rfl) (by simp) ?_
          refine AllReadyL.cons (o := ?o2x4) ?hi2x4 (fun K hK => ?_) (AllReadyL.cons (o := ?o4x4) ?hi4x4 (fun K hK => ?_) AllReadyL.nil)
          (case hi2x4 => (simp only [List.getElem?_toArray, List.getElem?_cons_succ, List.getElem?_cons_zero]; exact rfl))
          (case hi4x4 => (simp only [List.getElem?_toArray, List.getElem?_cons_succ, List.getElem?_cons_zero]; exact rfl))
          · skip
            go_simp
            have hal := (Below.refl w0.heap.size w0).alloc (Nat.le_refl _) (.cells (boolA m fun _ => false) 4)
            have hn := Blk.new w0 4 (boolA m fun _ => false)
            have hlt2 := fun (h : Nat) (d : Nat × Nat) (hd : bs[h]? = some d) => And.intro (Nat.ne_of_lt (HLB.out.blk h d hd).1.lt) (Nat.ne_of_lt (HLB.out.blk h d hd).2.lt)
            have hge := HBR.out.size
            (first | (have hg9 := Nat.ne_of_lt HG4.out.lt) | skip)
            have t0 := below_tr HBR.out hal; have t1 := HLB.out.below hal; have t2 := own_mono HOW.out hal
            clear HBR HLB HOW
            have HBR := Lib.hid t0; have HLB := Lib.hid t1; have HOW := Lib.hid t2
            clear t0 t1 t2
            have HG2 := Lib.hid hn
            clear hal hn
            (try clear hHeld)
            refine hK.out _ _ (by (try dsimp only); (try trivial)) (fun hHeld => ?_)
            clear hK K
            (try simp only [Act.put, List.setIfInBounds_toArray, List.set_cons_zero, List.set_cons_succ])
            revert hHeld HBR HLB HOW HG2
            generalize hgA : w0.heap.size = gA
            generalize (World.alloc w0 (.cells (boolA m fun _ => false) 4)) = w0
            intro HBR HLB HOW HG2 hHeld
            have HL2 := Lib.hid (show ∀ (h : Nat) (d : Nat × Nat), bs[h]? = some d → d.1 ≠ gA ∧ d.2 ≠ gA from fun h d hd => hgA ▸ hlt2 h d hd)
            have HE2 := Lib.hid (show W.heap.size ≤ gA from hgA ▸ hge)
            (first | (have HNE := Lib.hid (show gB ≠ gA from hgA ▸ hg9); clear hg9) | skip)
            clear hgA hlt2 hge
            refine wpAnyL_ready (rs := [4]) (by kernel_rfl) (by simp) ?_
            refine AllReadyL.cons (o := ?o4x5) ?hi4x5 (fun K hK => ?_) AllReadyL.nil
            (case hi4x5 => (simp only [List.getElem?_toArray, List.getElem?_cons_succ, List.getElem?_cons_zero]; exact rfl))
            go_simp
            have hal := (Below.refl w0.heap.size w0).alloc (Nat.le_refl _) (.cells (boolA m fun _ => false) 4)
            have hn := Blk.new w0 4 (boolA m fun _ => false)
            have hlt2 := fun (h : Nat) (d : Nat × Nat) (hd : bs[h]? = some d) => And.intro (Nat.ne_of_lt (HLB.out.blk h d hd).1.lt) (Nat.ne_of_lt (HLB.out.blk h d hd).2.lt)
            have hge := HBR.out.size
            (first | (have hg9 := Nat.ne_of_lt HG2.out.lt) | skip)
            have t0 := below_tr HBR.out hal; have t1 := HLB.out.below hal; have t2 := own_mono HOW.out hal; have t3 := HG2.out.below hal HG2.out.lt
            clear HBR HLB HOW HG2
            have HBR := Lib.hid t0; have HLB := Lib.hid t1; have HOW := Lib.hid t2; have HG2 := Lib.hid t3
            clear t0 t1 t2 t3
            have HG4 := Lib.hid hn
            clear hal hn
            (try clear hHeld)
            refine hK.out _ _ (by (try dsimp only); (try trivial)) (fun hHeld => ?_)
            clear hK K
            (try simp only [Act.put, List.setIfInBounds_toArray, List.set_cons_zero, List.set_cons_succ])
            revert hHeld HBR HLB HOW HG2 HG4
            generalize hgA : w0.heap.size = gB
            generalize (World.alloc w0 (.cells (boolA m fun _ => false) 4)) = w0
            intro HBR HLB HOW HG2 HG4 hHeld
            have HL4 := Lib.hid (show ∀ (h : Nat) (d : Nat × Nat), bs[h]? = some d → d.1 ≠ gB ∧ d.2 ≠ gB from fun h d hd => hgA ▸ hlt2 h d hd)
            have HE4 := Lib.hid (show W.heap.size ≤ gB from hgA ▸ hge)
            (first | (have HNE := Lib.hid (show gA ≠ gB from hgA ▸ hg9); clear hg9) | skip)
            clear hgA hlt2 hge
            (refine wpAnyL_take (n := 0) (i := 5) (oi := ?ox6) (v := ?vx6) ?hix6 ?k1x6 ?k2x6 ?k3x6 ?k4x6 ?k5x6 ?k6x6 ?hQx6 ?hYx6 ?hSx6 ?restx6; (case hix6 => (simp only [List.getElem?_toArray, List.getElem?_cons_succ, List.getElem?_cons_zero]; exact rfl)); (case k1x6 => kernel_rfl); (case k2x6 => kernel_rfl); (case k3x6 => kernel_rfl); (case k4x6 => kernel_rfl); (case k5x6 => kernel_rfl); (case k6x6 => kernel_rfl); (case hSx6 => assumption); (case hYx6 => (refine Or.inl ⟨rfl, ?hyx6⟩; intro w hSw; (try dsimp only at hSw); go_simp; (try with_reducible rfl))); (case hQx6 => exact (fun _ _ _ h => h)); (try simp only [Act.put, List.setIfInBounds_toArray, List.set_cons_zero, List.set_cons_succ]))
            refine wpAnyL_ready (rs := [6]) (by kernel_rfl) (by simp) ?_
            refine AllReadyL.cons (o := ?o6x7) ?hi6x7 (fun K hK => ?_) AllReadyL.nil
            (case hi6x7 => (simp only [List.getElem?_toArray, List.getElem?_cons_succ, List.getElem?_cons_zero]; exact rfl))
            go_simp
            have hal := (Below.refl w0.heap.size w0).alloc (Nat.le_refl _) (.cells (hrA m (gA, gB)) 65)
            have hn := Blk.new w0 65 (hrA m (gA, gB))
            have t0 := below_tr HBR.out hal; have t1 := HLB.out.below hal; have t2 := own_mono HOW.out hal; have t3 := HG2.out.below hal HG2.out.lt; have t4 := HG4.out.below hal HG4.out.lt
            clear HBR HLB HOW HG2 HG4
            have HBR := Lib.hid t0; have HLB := Lib.hid t1; have HOW := Lib.hid t2; have HG2 := Lib.hid t3; have HG4 := Lib.hid t4
            clear t0 t1 t2 t3 t4
            have HG6 := Lib.hid hn
            clear hal hn
            (try clear hHeld)
            refine hK.out _ _ (by (try dsimp only); (try trivial)) (fun hHeld => ?_)
            clear hK K
            (try simp only [Act.put, List.setIfInBounds_toArray, List.set_cons_zero, List.set_cons_succ])
            revert hHeld HBR HLB HOW HG2 HG4 HG6
            generalize hgC : w0.heap.size = gC
            generalize (World.alloc w0 (.cells (hrA m (gA, gB)) 65)) = w0
            intro HBR HLB HOW HG2 HG4 HG6 hHeld
            clear hgC
            refine wpAnyL_ready (rs := [7]) (by kernel_rfl) (by simp) ?_
            refine AllReadyL.cons (o := ?o7x8) ?hi7x8 (fun K hK => ?_) AllReadyL.nil
            (case hi7x8 => (simp only [List.getElem?_toArray, List.getElem?_cons_succ, List.getElem?_cons_zero]; exact rfl))
            refine step_append_lies _ (by rfl) _ _ _ (by rfl) W.heap.size 65 i0 _ 2 48 Try.underlying58 HI.out HZ0.out HZ1.out HZ2.out (by rfl) (by omega) _ k (bs.flatMap (encHr m)) (by rfl) HOW.out ⟨gC, 0, none⟩ 1 1 [.slice (some ⟨gA, 0, none⟩) m m, .slice (some ⟨gB, 0, none⟩) m m] (by rfl) (by rfl) (World.news_of_block (cs := hrA m (gA, gB)) (t := 65) (fr := (0, 0)) HG6.out) (by simp [Value.oneCell']) (by omega) (by unfold maxLen; omega) (by omega) HBR.out.size _ rfl ?_
            intro g cap w3 hown3 hgrow hat hlt3
            have hlb3 := HLB.out.grown hgrow (fun g' e cs hb => own_blk_ne HOW.out hb (by decide) e)
            have hg2 := HG2.out.grown hgrow (fun e => own_blk_ne HOW.out HG2.out (by decide) e.symm)
            have hg4 := HG4.out.grown hgrow (fun e => own_blk_ne HOW.out HG4.out (by decide) e.symm)
            have hb3 := HBR.out.grown hgrow HBR.out.size (fun z hz => (HOW.out.lt z hz).1)
            have ho3 : w3.ownsRow W.heap.size 65 2 (.slice (some ⟨g, 0, none⟩) (k + 1) cap) (k + 1) ((bs ++ [(gA, gB)]).flatMap (encHr m)) := by
              rw [List.flatMap_append]; simpa [encHr] using hown3
            (first | (have hne := HNE.out) | skip)
            have hsn := hlb3.snoc (b := (gA, gB)) hg2 hg4 ⟨HE2.out, HE4.out⟩ (by first | exact hne | exact Ne.symm hne) (fun h d hd => ⟨⟨(HL2.out h d hd).1, (HL4.out h d hd).1⟩, ⟨(HL2.out h d hd).2, (HL4.out h d hd).2⟩⟩)
            have HSN := Lib.hid hsn; have HO3 := Lib.hid ho3; have HB3 := Lib.hid hb3
            clear hlb3 hg2 hg4 hb3 ho3 hne hsn hown3 hgrow hat hlt3
            clear HG2 HG4 HG6 HBR HLB HOW
            (try clear hHeld)
            refine hK.out _ _ (by (try dsimp only); (try trivial)) (fun hHeld => ?_)
            clear hK K
            (try simp only [Act.put, List.setIfInBounds_toArray, List.set_cons_zero, List.set_cons_succ])
            (refine wpAnyL_take (n := 0) (i := 8) (oi := ?ox9) (v := ?vx9) ?hix9 ?k1x9 ?k2x9 ?k3x9 ?k4x9 ?k5x9 ?k6x9 ?hQx9 ?hYx9 ?hSx9 ?restx9; (case hix9 => (simp only [List.getElem?_toArray, List.getElem?_cons_succ, List.getElem?_cons_zero]; exact rfl)); (case k1x9 => kernel_rfl); (case k2x9 => kernel_rfl); (case k3x9 => kernel_rfl); (case k4x9 => kernel_rfl); (case k5x9 => kernel_rfl); (case k6x9 => kernel_rfl); (case hSx9 => assumption); (case hYx9 => (refine Or.inl ⟨rfl, ?hyx9⟩; intro w hSw; (try dsimp only at hSw); go_simp; (try with_reducible rfl))); (case hQx9 => exact (fun _ _ _ h => h)); (try simp only [Act.put, List.setIfInBounds_toArray, List.set_cons_zero, List.set_cons_succ]))
            (refine wpAnyL_done (by kernel_rfl) ?_ _)
            clear hmk
            go_wp2_with fail
            go_roundw
            case rel => exact ⟨k + 1, bs ++ [(gA, gB)], by omega, by simp; exact HBL.out, by go_num, HO3.out, HSN.out, HB3.out⟩
            case measure => simp [intOf] <;> omega
          · skip
            go_simp
            have hal := (Below.refl w0.heap.size w0).alloc (Nat.le_refl _) (.cells (boolA m fun _ => false) 4)
            have hn := Blk.new w0 4 (boolA m fun _ => false)
            have hlt2 := fun (h : Nat) (d : Nat × Nat) (hd : bs[h]? = some d) => And.intro (Nat.ne_of_lt (HLB.out.blk h d hd).1.lt) (Nat.ne_of_lt (HLB.out.blk h d hd).2.lt)
            have hge := HBR.out.size
            (first | (have hg9 := Nat.ne_of_lt HG2.out.lt) | skip)
            have t0 := below_tr HBR.out hal; have t1 := HLB.out.below hal; have t2 := own_mono HOW.out hal
            clear HBR HLB HOW
            have HBR := Lib.hid t0; have HLB := Lib.hid t1; have HOW := Lib.hid t2
            clear t0 t1 t2
            have HG4 := Lib.hid hn
            clear hal hn
            (try clear hHeld)
            refine hK.out _ _ (by (try dsimp only); (try trivial)) (fun hHeld => ?_)
            clear hK K
            (try simp only [Act.put, List.setIfInBounds_toArray, List.set_cons_zero, List.set_cons_succ])
            revert hHeld HBR HLB HOW HG4
            generalize hgA : w0.heap.size = gB
            generalize (World.alloc w0 (.cells (boolA m fun _ => false) 4)) = w0
            intro HBR HLB HOW HG4 hHeld
            have HL4 := Lib.hid (show ∀ (h : Nat) (d : Nat × Nat), bs[h]? = some d → d.1 ≠ gB ∧ d.2 ≠ gB from fun h d hd => hgA ▸ hlt2 h d hd)
            have HE4 := Lib.hid (show W.heap.size ≤ gB from hgA ▸ hge)
            (first | (have HNE := Lib.hid (show gA ≠ gB from hgA ▸ hg9); clear hg9) | skip)
            clear hgA hlt2 hge
            refine wpAnyL_ready (rs := [2]) (by kernel_rfl) (by simp) ?_
            refine AllReadyL.cons (o := ?o2x10) ?hi2x10 (fun K hK => ?_) AllReadyL.nil
            (case hi2x10 => (simp only [List.getElem?_toArray, List.getElem?_cons_succ, List.getElem?_cons_zero]; exact rfl))
            go_simp
            have hal := (Below.refl w0.heap.size w0).alloc (Nat.le_refl _) (.cells (boolA m fun _ => false) 4)
            have hn := Blk.new w0 4 (boolA m fun _ => false)
            have hlt2 := fun (h : Nat) (d : Nat × Nat) (hd : bs[h]? = some d) => And.intro (Nat.ne_of_lt (HLB.out.blk h d hd).1.lt) (Nat.ne_of_lt (HLB.out.blk h d hd).2.lt)
            have hge := HBR.out.size
            (first | (have hg9 := Nat.ne_of_lt HG4.out.lt) | skip)
            have t0 := below_tr HBR.out hal; have t1 := HLB.out.below hal; have t2 := own_mono HOW.out hal; have t3 := HG4.out.below hal HG4.out.lt
            clear HBR HLB HOW HG4
            have HBR := Lib.hid t0; have HLB := Lib.hid t1; have HOW := Lib.hid t2; have HG4 := Lib.hid t3
            clear t0 t1 t2 t3
            have HG2 := Lib.hid hn
            clear hal hn
            (try clear hHeld)
            refine hK.out _ _ (by (try dsimp only); (try trivial)) (fun hHeld => ?_)
            clear hK K
            (try simp only [Act.put, List.setIfInBounds_toArray, List.set_cons_zero, List.set_cons_succ])
            revert hHeld HBR HLB HOW HG4 HG2
            generalize hgA : w0.heap.size = gA
            generalize (World.alloc w0 (.cells (boolA m fun _ => false) 4)) = w0
            intro HBR HLB HOW HG4 HG2 hHeld
            have HL2 := Lib.hid (show ∀ (h : Nat) (d : Nat × Nat), bs[h]? = some d → d.1 ≠ gA ∧ d.2 ≠ gA from fun h d hd => hgA ▸ hlt2 h d hd)
            have HE2 := Lib.hid (show W.heap.size ≤ gA from hgA ▸ hge)
            (first | (have HNE := Lib.hid (show gB ≠ gA from hgA ▸ hg9); clear hg9) | skip)
            clear hgA hlt2 hge
            (refine wpAnyL_take (n := 0) (i := 5) (oi := ?ox11) (v := ?vx11) ?hix11 ?k1x11 ?k2x11 ?k3x11 ?k4x11 ?k5x11 ?k6x11 ?hQx11 ?hYx11 ?hSx11 ?restx11; (case hix11 => (simp only [List.getElem?_toArray, List.getElem?_cons_succ, List.getElem?_cons_zero]; exact rfl)); (case k1x11 => kernel_rfl); (case k2x11 => kernel_rfl); (case k3x11 => kernel_rfl); (case k4x11 => kernel_rfl); (case k5x11 => kernel_rfl); (case k6x11 => kernel_rfl); (case hSx11 => assumption); (case hYx11 => (refine Or.inl ⟨rfl, ?hyx11⟩; intro w hSw; (try dsimp only at hSw); go_simp; (try with_reducible rfl))); (case hQx11 => exact (fun _ _ _ h => h)); (try simp only [Act.put, List.setIfInBounds_toArray, List.set_cons_zero, List.set_cons_succ]))
            refine wpAnyL_ready (rs := [6]) (by kernel_rfl) (by simp) ?_
            refine AllReadyL.cons (o := ?o6x12) ?hi6x12 (fun K hK => ?_) AllReadyL.nil
            (case hi6x12 => (simp only [List.getElem?_toArray, List.getElem?_cons_succ, List.getElem?_cons_zero]; exact rfl))
            go_simp
            have hal := (Below.refl w0.heap.size w0).alloc (Nat.le_refl _) (.cells (hrA m (gA, gB)) 65)
            have hn := Blk.new w0 65 (hrA m (gA, gB))
            have t0 := below_tr HBR.out hal; have t1 := HLB.out.below hal; have t2 := own_mono HOW.out hal; have t3 := HG4.out.below hal HG4.out.lt; have t4 := HG2.out.below hal HG2.out.lt
            clear HBR HLB HOW HG4 HG2
            have HBR := Lib.hid t0; have HLB := Lib.hid t1; have HOW := Lib.hid t2; have HG4 := Lib.hid t3; have HG2 := Lib.hid t4
            clear t0 t1 t2 t3 t4
            have HG6 := Lib.hid hn
            clear hal hn
            (try clear hHeld)
            refine hK.out _ _ (by (try dsimp only); (try trivial)) (fun hHeld => ?_)
            clear hK K
            (try simp only [Act.put, List.setIfInBounds_toArray, List.set_cons_zero, List.set_cons_succ])
            revert hHeld HBR HLB HOW HG4 HG2 HG6
            generalize hgC : w0.heap.size = gC
            generalize (World.alloc w0 (.cells (hrA m (gA, gB)) 65)) = w0
            intro HBR HLB HOW HG4 HG2 HG6 hHeld
            clear hgC
            refine wpAnyL_ready (rs := [7]) (by kernel_rfl) (by simp) ?_
            refine AllReadyL.cons (o := ?o7x13) ?hi7x13 (fun K hK => ?_) AllReadyL.nil
            (case hi7x13 => (simp only [List.getElem?_toArray, List.getElem?_cons_succ, List.getElem?_cons_zero]; exact rfl))
            refine step_append_lies _ (by rfl) _ _ _ (by rfl) W.heap.size 65 i0 _ 2 48 Try.underlying58 HI.out HZ0.out HZ1.out HZ2.out (by rfl) (by omega) _ k (bs.flatMap (encHr m)) (by rfl) HOW.out ⟨gC, 0, none⟩ 1 1 [.slice (some ⟨gA, 0, none⟩) m m, .slice (some ⟨gB, 0, none⟩) m m] (by rfl) (by rfl) (World.news_of_block (cs := hrA m (gA, gB)) (t := 65) (fr := (0, 0)) HG6.out) (by simp [Value.oneCell']) (by omega) (by unfold maxLen; omega) (by omega) HBR.out.size _ rfl ?_
            intro g cap w3 hown3 hgrow hat hlt3
            have hlb3 := HLB.out.grown hgrow (fun g' e cs hb => own_blk_ne HOW.out hb (by decide) e)
            have hg2 := HG2.out.grown hgrow (fun e => own_blk_ne HOW.out HG2.out (by decide) e.symm)
            have hg4 := HG4.out.grown hgrow (fun e => own_blk_ne HOW.out HG4.out (by decide) e.symm)
            have hb3 := HBR.out.grown hgrow HBR.out.size (fun z hz => (HOW.out.lt z hz).1)
            have ho3 : w3.ownsRow W.heap.size 65 2 (.slice (some ⟨g, 0, none⟩) (k + 1) cap) (k + 1) ((bs ++ [(gA, gB)]).flatMap (encHr m)) := by
              rw [List.flatMap_append]; simpa [encHr] using hown3
            (first | (have hne := HNE.out) | skip)
            have hsn := hlb3.snoc (b := (gA, gB)) hg2 hg4 ⟨HE2.out, HE4.out⟩ (by first | exact hne | exact Ne.symm hne) (fun h d hd => ⟨⟨(HL2.out h d hd).1, (HL4.out h d hd).1⟩, ⟨(HL2.out h d hd).2, (HL4.out h d hd).2⟩⟩)
            have HSN := Lib.hid hsn; have HO3 := Lib.hid ho3; have HB3 := Lib.hid hb3
            clear hlb3 hg2 hg4 hb3 ho3 hne hsn hown3 hgrow hat hlt3
            clear HG2 HG4 HG6 HBR HLB HOW
            (try clear hHeld)
            refine hK.out _ _ (by (try dsimp only); (try trivial)) (fun hHeld => ?_)
            clear hK K
            (try simp only [Act.put, List.setIfInBounds_toArray, List.set_cons_zero, List.set_cons_succ])
            (refine wpAnyL_take (n := 0) (i := 8) (oi := ?ox14) (v := ?vx14) ?hix14 ?k1x14 ?k2x14 ?k3x14 ?k4x14 ?k5x14 ?k6x14 ?hQx14 ?hYx14 ?hSx14 ?restx14; (case hix14 => (simp only [List.getElem?_toArray, List.getElem?_cons_succ, List.getElem?_cons_zero]; exact rfl)); (case k1x14 => kernel_rfl); (case k2x14 => kernel_rfl); (case k3x14 => kernel_rfl); (case k4x14 => kernel_rfl); (case k5x14 => kernel_rfl); (case k6x14 => kernel_rfl); (case hSx14 => assumption); (case hYx14 => (refine Or.inl ⟨rfl, ?hyx14⟩; intro w hSw; (try dsimp only at hSw); go_simp; (try with_reducible rfl))); (case hQx14 => exact (fun _ _ _ h => h)); (try simp only [Act.put, List.setIfInBounds_toArray, List.set_cons_zero, List.set_cons_succ]))
            (refine wpAnyL_done (by kernel_rfl) ?_ _)
            clear hmk
            go_wp2_with fail
            go_roundw
            case rel => exact ⟨k + 1, bs ++ [(gA, gB)], by omega, by simp; exact HBL.out, by go_num, HO3.out, HSN.out, HB3.out⟩
            case measure => simp [intOf] <;> omega
        · skip
          obtain rfl : nI = k := by omega
          have htab := hlb.tab hown hbl
          obtain ⟨C, hC⟩ : ∃ C, C = wr.heap.size := ⟨_, rfl⟩
          have hCW : W.heap.size ≤ C := by rw [hC]; exact hbr.size
          have hcs : C ≤ wr.heap.size := Nat.le_of_eq hC
          rw [← hC] at htab
          have HT := Lib.hid htab; have HBR := Lib.hid hbr; have HOC := Lib.hid hoc
          have HSM := Lib.hid (show l.start.2 < (m : Int) from by
            have h1 := mostTo_le HOK.out (Nat.zero_le nI)
            have h2 : mostTo l 0 = l.start.2 + 1 := rfl
            have := HM.out; omega)
          have HRB := Lib.hid (show ∀ (s : Int) (k : Nat) (v : Int), k ≤ nI → Rch l (netL l ws c) s k v → 0 ≤ v ∧ v < mostTo l k ∧ v < (m : Int) from fun s k v hk hr => by
            have h1 := reach_bd HOK.out HWO.out HCO.out hr
            have h2 := mostTo_le HOK.out hk
            have := HM.out; omega)
          clear hlb hown hlt hk hbl hC htab hbr hoc
          have hbl : True := trivial
          go_wp2_with fail
          go_loopw [11] (fun sv wr => ∃ (s : Int) (Hd Bk : Nat → Nat → Bool), sv = .int .i64 s ∧ l.soft.1 ≤ s ∧ s ≤ l.soft.2 + 1 ∧ TabW wr W.heap.size C OA nI m bs Hd Bk ∧ HInv l (netL l ws c) nI s 0 (fun _ => False) Hd Bk ∧ C ≤ wr.heap.size ∧ Below W.heap.size W wr) (fun sv _ => (l.soft.2 + 1 - intOf sv).toNat)
          case atStart => exact ⟨l.soft.1, _, _, rfl, by omega, by omega, HT.out, HInv.start _ _ _, hcs, HBR.out⟩
          case round =>
            clear x0 x1 x2 x3 x4 x5 x6 x7 x8 x9
            obtain ⟨s, Hd, Bk, rfl, hs1, hs2, htb, hinv, hcs2, hbr⟩ := hrel
            obtain ⟨x0, x1, x2, x3, x4, x5, x6, x7, x8, x9⟩ := HXL.out _ hbr
            clear HT HBR hcs
            have HIV := Lib.hid hinv; have HBR := Lib.hid hbr; have HT := Lib.hid htb
            clear hinv hbr htb
            by_cases hlt : s ≤ l.soft.2
            · have hmk := HMK.out
              go_upto_region 15 with fail
              clear hmk
              clear x0 x1 x2 x3 x4 x5 x6 x7 x8 x9
              have hn := Blk.new wr 4 (boolA m fun _ => false)
              have hal := (Below.refl wr.heap.size wr).alloc (Nat.le_refl _) (.cells (boolA m fun _ => false) 4)
              have t0 := below_tr HBR.out hal; have t1 := HT.out.below hal
              clear HBR HT
              have HBR := Lib.hid t0; have HT := Lib.hid t1
              clear t0 t1
              have HGN := Lib.hid hn
              have hsz : C ≤ (World.alloc wr (.cells (boolA m fun _ => false) 4)).heap.size := by simp; omega
              clear hn hal
              revert HBR HT HGN hsz
              generalize hG : wr.heap.size = gn
              generalize (World.alloc wr (.cells (boolA m fun _ => false) 4)) = w3
              intro HBR HT HGN hsz
              have hCg : C ≤ gn := hG ▸ hcs2
              clear hG hcs2
              obtain ⟨x0, x1, x2, x3, x4, x5, x6, x7, x8, x9⟩ := HXL.out _ HBR.out
              go_wp2_with fail
              go_loopw [13] (fun vv wx => ∃ (cur : Nat) (nw : Nat → Bool), vv = .int .i64 cur ∧ l.start.1 ≤ (cur : Int) ∧ (cur : Int) ≤ l.start.2 + 1 ∧ Blk wx gn 4 (boolA m nw) ∧ (∀ u : Nat, nw u = true ↔ l.start.1 ≤ (u : Int) ∧ u < cur) ∧ TabW wx W.heap.size C OA nI m bs Hd Bk ∧ C ≤ wx.heap.size ∧ Below W.heap.size W wx) (fun vv _ => (l.start.2 + 1 - intOf vv).toNat)
              case atStart =>
                refine ⟨l.start.1.toNat, _, by rw [Int.toNat_of_nonneg hst.1], by omega, by omega, HGN.out, fun u => ?_, HT.out, hsz, HBR.out⟩
                simp only [Bool.false_eq_true, false_iff]
                omega
              case round =>
                clear x0 x1 x2 x3 x4 x5 x6 x7 x8 x9
                obtain ⟨cur, nw, rfl, hc1, hc2, hgn, hnw, htb, hsz2, hbr⟩ := hrel
                obtain ⟨x0, x1, x2, x3, x4, x5, x6, x7, x8, x9⟩ := HXL.out _ hbr
                have hsm := HSM.out
                by_cases hlc : (cur : Int) ≤ l.start.2
                · have cc := boolA_cell hgn (show cur < m by omega)
                  have cf := hgn.frozen cur
                  have hcm : (cur : Int) < (m : Int) := by omega
                  have hc0 : (0 : Int) ≤ (cur : Int) := by omega
                  have HG := Lib.hid hgn; have HNW := Lib.hid hnw; have HTB := Lib.hid htb; have HBX := Lib.hid hbr
                  clear hgn hnw htb hbr
                  go_wp2_with fail
                  go_roundw
                  case rel =>
                    refine ⟨cur + 1, updB nw cur, by go_num, by omega, by omega, by rw [← boolA_set]; exact HG.out.set_ cur _, fun u => ?_, HTB.out.far (p := ⟨gn, cur, none⟩) hCg _, by simpa using hsz2, HBX.out.setCell (p := ⟨gn, cur, none⟩) (Nat.le_trans hCW hCg) _⟩
                    rw [updB_iff, HNW.out]; omega
                  case measure => simp [intOf] <;> omega
                · have HG := Lib.hid hgn; have HTB := Lib.hid htb; have HBX := Lib.hid hbr
                  have HNW := Lib.hid (show ∀ u : Nat, nw u = true ↔ Rch l (netL l ws c) s 0 (u : Int) from fun u => by
                    rw [hnw]
                    show _ ↔ l.start.1 ≤ (u : Int) ∧ (u : Int) ≤ l.start.2
                    omega)
                  clear hgn hnw htb hbr HT HBR HGN
                  go_wp2_with fail
                  go_loopw [12, 14] (fun nv hv wx => ∃ (k gn : Nat) (nw : Nat → Bool) (Hd Bk : Nat → Nat → Bool), k ≤ nI ∧ nv = .slice (some ⟨gn, 0, none⟩) m m ∧ hv = .int .i64 k ∧ C ≤ gn ∧ Blk wx gn 4 (boolA m nw) ∧ (∀ u : Nat, nw u = true ↔ Rch l (netL l ws c) s k (u : Int)) ∧ TabW wx W.heap.size C OA nI m bs Hd Bk ∧ HInv l (netL l ws c) nI s k (fun _ => False) Hd Bk ∧ C ≤ wx.heap.size ∧ Below W.heap.size W wx) (fun _ hv _ => nI - (intOf hv).toNat)
                  case atStart => exact ⟨0, gn, nw, Hd, Bk, Nat.zero_le _, rfl, rfl, hCg, HG.out, HNW.out, HTB.out, HIV.out, hsz2, HBX.out⟩
                  case round =>
                    clear x0 x1 x2 x3 x4 x5 x6 x7 x8 x9 HG HNW HTB HBX HIV hsz hsz2 hCg
                    obtain ⟨k, gn, nw, Hd, Bk, hk, rfl, rfl, hCg, hgn, hnw, htb, hinv, hsz, hbr⟩ := hrel
                    obtain ⟨x0, x1, x2, x3, x4, x5, x6, x7, x8, x9⟩ := HXL.out _ hbr
                    have HG := Lib.hid hgn; have HNW := Lib.hid hnw; have HTB := Lib.hid htb; have HBX := Lib.hid hbr; have HIV := Lib.hid hinv
                    clear hgn hnw htb hbr hinv
                    by_cases hkl : k < nI
                    · skip
                      -- [B
                      obtain ⟨b0, o0, r0, hIA, hbl0, hr0, e0, e1⟩ := HH.out.at2 hkl
                      have hr0b := HOK.out.inflow k r0 hr0
                      obtain ⟨O, hO⟩ : ∃ O, O = outAt ws c (k : Int) := ⟨_, rfl⟩
                      have hob := outAt_bd HWO.out HCO.out (k : Int)
                      have hnr := netL_get (ws := ws) (c := c) hr0
                      rw [← hO] at hnr hob
                      have hml1 : mostTo l (k + 1) = mostTo l k + r0.2 := by simp only [mostTo, hr0]
                      have hml2 : mostTo l (k + 1) ≤ (m : Int) := by have := mostTo_le HOK.out (i := k + 1) (j := nI) hkl; have := HM.out; omega
                      obtain ⟨R, hR⟩ : ∃ R : Rng, R = (r0.1 - l.seep.2 - O, r0.2 - l.seep.1 - O) := ⟨_, rfl⟩
                      have hR1 : R.1 = r0.1 - l.seep.2 - O := by rw [hR]
                      have hR2 : R.2 = r0.2 - l.seep.1 - O := by rw [hR]
                      rw [← hR] at hnr
                      obtain ⟨D, hD⟩ : ∃ D, D = bdK l (decide (s ≤ (k : Int))) := ⟨_, rfl⟩
                      have HPK := Lib.hid (fun (U : World) (hU : Below W.heap.size W U) => HPU.out U hU (k : Int))
                      have HBK := Lib.hid (fun (U : World) (hU : Below W.heap.size W U) => HBO.out U hU (k : Int) s)
                      rw [← hO] at HPK
                      rw [← hD] at HBK
                      have HRK := Lib.hid (HRB.out s k · (by omega))
                      have HNR := Lib.hid hnr; have HDD := Lib.hid hD
                      have HIA := Lib.hid hIA
                      have HD1 := Lib.hid (And.intro hR1 hR2); have HM1 := Lib.hid (And.intro hml1 hml2)
                      have hRb : R.1 ≤ R.2 := by omega
                      have hRl : -20000000 ≤ R.1 ∧ R.2 ≤ 2000000 := by omega
                      have HC0 := Lib.hid (fun (U : World) (hU : Below W.heap.size W U) => show U.cell? ⟨b0, o0 + k * 2, none⟩ = some (.int .i64 r0.1) ∧ U.cell? ⟨b0, o0 + k * 2 + 1, none⟩ = some (.int .i64 r0.2) from ⟨bel_keep hU e0, bel_keep hU e1⟩)
                      have HS28 := Lib.hid (fun (U : World) (hU : Below W.heap.size W U) => show U.cell? ⟨w.heap.size, 7, none⟩ = some (.int .i64 l.seep.1) ∧ U.cell? ⟨w.heap.size, 8, none⟩ = some (.int .i64 l.seep.2) ∧ U.cell? ⟨w.heap.size, 9, none⟩ = some (.slice (some ⟨b0, o0, none⟩) nI cI) ∧ U.cell? ⟨b0, o0 + k * 2, none⟩ = some (.int .i64 r0.1) ∧ U.cell? ⟨b0, o0 + k * 2 + 1, none⟩ = some (.int .i64 r0.2) from
                        have q := HXL.out U hU; have p := HC0.out U hU
                        ⟨q.2.2.2.2.2.2.2.1, q.2.2.2.2.2.2.2.2.1, by rw [← HIA.out]; exact q.2.2.2.2.2.2.2.2.2, p.1, p.2⟩)
                      have hmk := HMK.out
                      have hkI : (k : Int) < (nI : Int) := by omega
                      have hk0 : (0 : Int) ≤ (k : Int) := by omega
                      clear hIA hr0 hO hnr hR hD hR1 hR2 hml1 hml2 e0 e1
                      go_upto_region 23 with fail
                      clear hmk
                      clear x0 x1 x2 x3 x4 x5 x6 x7 x8 x9
                      have hn := Blk.new wr 4 (boolA m fun _ => false)
                      have hal := (Below.refl wr.heap.size wr).alloc (Nat.le_refl _) (.cells (boolA m fun _ => false) 4)
                      have hgl := HG.out.lt
                      have t0 := below_tr HBX.out hal; have t1 := HTB.out.below hal; have t2 := HG.out.below hal HG.out.lt
                      clear HBX HTB HG
                      have HBX := Lib.hid t0; have HTB := Lib.hid t1; have HG := Lib.hid t2
                      clear t0 t1 t2
                      have HGX := Lib.hid hn
                      have hszx : C ≤ (World.alloc wr (.cells (boolA m fun _ => false) 4)).heap.size := by simp; omega
                      clear hn hal
                      revert HBX HTB HG HGX hszx
                      generalize hGE : wr.heap.size = gx
                      generalize (World.alloc wr (.cells (boolA m fun _ => false) 4)) = w3
                      intro HBX HTB HG HGX hszx
                      have hCx : C ≤ gx := hGE ▸ hsz
                      have hgx : gn < gx := hGE ▸ hgl
                      clear hGE hsz hgl
                      go_wp2_with fail
                      go_at_call 72
                      refine (HPK.out _ HBX.out).mono ?_
                      rintro e w1 ⟨rfl, hb9⟩
                      have hsz1 := Nat.le_trans hszx hb9.size
                      clear hszx
                      have t0 := below_tr HBX.out hb9; have t1 := HTB.out.below hb9; have t2 := HG.out.below hb9 HG.out.lt; have t3 := HGX.out.below hb9 HGX.out.lt
                      clear HBX HTB HG HGX
                      have HBX := Lib.hid t0; have HTB := Lib.hid t1; have HG := Lib.hid t2; have HGX := Lib.hid t3
                      clear t0 t1 t2 t3
                      clear hb9 
                      have HNX := Lib.hid (show ∀ u : Nat, (fun _ : Nat => false) u = true ↔ FromT l (netL l ws c) s k R 0 (u : Int) ∧ (u : Int) < D from fun u => by
                        simp only [Bool.false_eq_true, false_iff]
                        exact fun h => fromT_zero (fun v hv => (HRK.out v hv).1) _ h.1)
                      have HIV2 := Lib.hid (HIV.out.congr (Q' := FromT l (netL l ws c) s k R 0) fun u => ⟨fun h => h.elim, fun h => (fromT_zero (fun v hv => (HRK.out v hv).1) _ h).elim⟩)
                      go_wp2_with fail
                      go_loopw [17] (fun vv wx => ∃ (j : Nat) (nx : Nat → Bool) (Hd Bk : Nat → Nat → Bool), j ≤ m ∧ vv = .int .i64 j ∧ Blk wx gn 4 (boolA m nw) ∧ Blk wx gx 4 (boolA m nx) ∧ (∀ u : Nat, nx u = true ↔ FromT l (netL l ws c) s k R j (u : Int) ∧ (u : Int) < D) ∧ TabW wx W.heap.size C OA nI m bs Hd Bk ∧ HInv l (netL l ws c) nI s k (FromT l (netL l ws c) s k R j) Hd Bk ∧ C ≤ wx.heap.size ∧ Below W.heap.size W wx) (fun vv _ => m - (intOf vv).toNat)
                      case atStart => exact ⟨0, _, Hd, Bk, Nat.zero_le _, rfl, HG.out, HGX.out, HNX.out, HTB.out, HIV2.out, hsz1, HBX.out⟩
                      case round =>
                        clear HG HGX HNX HTB HIV HIV2 HBX hsz1
                        obtain ⟨j, nx, Hd, Bk, hj, rfl, hgn, hgxb, hnx, htb, hinv, hsz, hbr⟩ := hrel
                        obtain ⟨x0, x1, x2, x3, x4, x5, x6, x7, x8, x9⟩ := HXL.out _ hbr
                        have HG := Lib.hid hgn; have HGX := Lib.hid hgxb; have HNX := Lib.hid hnx; have HTB := Lib.hid htb; have HBX := Lib.hid hbr; have HIV := Lib.hid hinv
                        clear hgn hgxb hnx htb hbr hinv
                        by_cases hjm : j < m
                        · have cc := boolA_cell HG.out hjm
                          have hjI : (j : Int) < (m : Int) := by omega
                          have hj0 : (0 : Int) ≤ (j : Int) := by omega
                          cases hp : nw j
                          · rw [hp] at cc
                            have HSK := Lib.hid (fromT_skip (l := l) (ns := netL l ws c) (s := s) (h := k) (r := R) (j := j) fun hr => by rw [(HNW.out j).2 hr] at hp; cases hp)
                            clear hp
                            go_wp2_with fail
                            go_roundw
                            case rel => exact ⟨j + 1, nx, Hd, Bk, by omega, by go_num, HG.out, HGX.out, fun u => by rw [HNX.out, HSK.out], HTB.out, HIV.out.congr HSK.out, hsz, HBX.out⟩
                            case measure => simp [intOf] <;> omega
                          · rw [hp] at cc
                            have HRJ := Lib.hid ((HNW.out j).1 hp)
                            clear hp
                            go_upto_region 28 with fail
                            clear cc
                            clear x0 x1 x2 x3 x4 x5 x6 x7 x8 x9
                            have HSZ := Lib.hid hsz
                            clear hsz
                            have m1 : IntKind.i64.wrap (r0.1 - l.seep.2) = r0.1 - l.seep.2 := wi (by omega)
                            refine wp_region_till [] (fun U => U.cell? ⟨w.heap.size, 7, none⟩ = some (.int .i64 l.seep.1) ∧ U.cell? ⟨w.heap.size, 8, none⟩ = some (.int .i64 l.seep.2) ∧ U.cell? ⟨w.heap.size, 9, none⟩ = some (.slice (some ⟨b0, o0, none⟩) nI cI) ∧ U.cell? ⟨b0, o0 + k * 2, none⟩ = some (.int .i64 r0.1) ∧ U.cell? ⟨b0, o0 + k * 2 + 1, none⟩ = some (.int .i64 r0.2)) (by kernel_rfl) (by exact HS28.out _ HBX.out.drew) (fun hHeld => ?_)
                            have hb9 := (Below.refl wr.heap.size wr).drew
                            have t0 := below_tr HBX.out hb9; have t1 := HTB.out.below hb9; have t2 := HG.out.below hb9 HG.out.lt; have t3 := HGX.out.below hb9 HGX.out.lt; have t4 := Nat.le_trans HSZ.out (Below.size hb9)
                            clear HBX HTB HG HGX HSZ
                            have HBX := Lib.hid t0; have HTB := Lib.hid t1; have HG := Lib.hid t2; have HGX := Lib.hid t3; have HSZ := Lib.hid t4
                            clear t0 t1 t2 t3 t4
                            clear hb9
                            revert hHeld HBX HTB HG HGX HSZ
                            generalize wr.drew = w0
                            intro hHeld HBX HTB HG HGX HSZ
                            (refine wpAnyL_take (n := 0) (i := 0) (oi := ?ox15) (v := ?vx15) ?hix15 ?k1x15 ?k2x15 ?k3x15 ?k4x15 ?k5x15 ?k6x15 ?hQx15 ?hYx15 ?hSx15 ?restx15; (case hix15 => (simp only [List.getElem?_toArray, List.getElem?_cons_succ, List.getElem?_cons_zero]; exact rfl)); (case k1x15 => kernel_rfl); (case k2x15 => kernel_rfl); (case k3x15 => kernel_rfl); (case k4x15 => kernel_rfl); (case k5x15 => kernel_rfl); (case k6x15 => kernel_rfl); (case hSx15 => assumption); (case hYx15 => (refine Or.inl ⟨rfl, ?hyx15⟩; intro w hSw; (try dsimp only at hSw); go_simp; (try with_reducible rfl))); (case hQx15 => exact (fun _ _ _ h => h)); (try simp only [Act.put, List.setIfInBounds_toArray, List.set_cons_zero, List.set_cons_succ]))
                            (refine wpAnyL_take (n := 0) (i := 1) (oi := ?ox16) (v := ?vx16) ?hix16 ?k1x16 ?k2x16 ?k3x16 ?k4x16 ?k5x16 ?k6x16 ?hQx16 ?hYx16 ?hSx16 ?restx16; (case hix16 => (simp only [List.getElem?_toArray, List.getElem?_cons_succ, List.getElem?_cons_zero]; exact rfl)); (case k1x16 => kernel_rfl); (case k2x16 => kernel_rfl); (case k3x16 => kernel_rfl); (case k4x16 => kernel_rfl); (case k5x16 => kernel_rfl); (case k6x16 => kernel_rfl); (case hSx16 => assumption); (case hYx16 => (refine Or.inl ⟨rfl, ?hyx16⟩; intro w hSw; (try dsimp only at hSw); go_simp; (try with_reducible rfl))); (case hQx16 => exact (fun _ _ _ h => h)); (try simp only [Act.put, List.setIfInBounds_toArray, List.set_cons_zero, List.set_cons_succ]))
                            (refine wpAnyL_take (n := 0) (i := 2) (oi := ?ox17) (v := ?vx17) ?hix17 ?k1x17 ?k2x17 ?k3x17 ?k4x17 ?k5x17 ?k6x17 ?hQx17 ?hYx17 ?hSx17 ?restx17; (case hix17 => (simp only [List.getElem?_toArray, List.getElem?_cons_succ, List.getElem?_cons_zero]; exact rfl)); (case k1x17 => kernel_rfl); (case k2x17 => kernel_rfl); (case k3x17 => kernel_rfl); (case k4x17 => kernel_rfl); (case k5x17 => kernel_rfl); (case k6x17 => kernel_rfl); (case hSx17 => assumption); (case hYx17 => (refine Or.inl ⟨rfl, ?hyx17⟩; intro w hSw; (try dsimp only at hSw); go_simp; (try with_reducible rfl))); (case hQx17 => exact (fun _ _ _ h => h)); (try simp only [Act.put, List.setIfInBounds_toArray, List.set_cons_zero, List.set_cons_succ]))
                            (refine wpAnyL_take (n := 0) (i := 3) (oi := ?ox18) (v := ?vx18) ?hix18 ?k1x18 ?k2x18 ?k3x18 ?k4x18 ?k5x18 ?k6x18 ?hQx18 ?hYx18 ?hSx18 ?restx18; (case hix18 => (simp only [List.getElem?_toArray, List.getElem?_cons_succ, List.getElem?_cons_zero]; exact rfl)); (case k1x18 => kernel_rfl); (case k2x18 => kernel_rfl); (case k3x18 => kernel_rfl); (case k4x18 => kernel_rfl); (case k5x18 => kernel_rfl); (case k6x18 => kernel_rfl); (case hSx18 => assumption); (case hYx18 => (refine Or.inl ⟨rfl, ?hyx18⟩; intro w hSw; (try dsimp only at hSw); go_simp; (try with_reducible rfl))); (case hQx18 => exact (fun _ _ _ h => h)); (try simp only [Act.put, List.setIfInBounds_toArray, List.set_cons_zero, List.set_cons_succ]))
                            (refine wpAnyL_take (n := 0) (i := 4) (oi := ?ox19) (v := ?vx19) ?hix19 ?k1x19 ?k2x19 ?k3x19 ?k4x19 ?k5x19 ?k6x19 ?hQx19 ?hYx19 ?hSx19 ?restx19; (case hix19 => (simp only [List.getElem?_toArray, List.getElem?_cons_succ, List.getElem?_cons_zero]; exact rfl)); (case k1x19 => kernel_rfl); (case k2x19 => kernel_rfl); (case k3x19 => kernel_rfl); (case k4x19 => kernel_rfl); (case k5x19 => kernel_rfl); (case k6x19 => kernel_rfl); (case hSx19 => assumption); (case hYx19 => (refine Or.inl ⟨rfl, ?hyx19⟩; intro w hSw; (try dsimp only at hSw); go_simp; (try with_reducible rfl))); (case hQx19 => exact (fun _ _ _ h => h)); (try simp only [Act.put, List.setIfInBounds_toArray, List.set_cons_zero, List.set_cons_succ]))
                            (refine wpAnyL_take (n := 0) (i := 5) (oi := ?ox20) (v := ?vx20) ?hix20 ?k1x20 ?k2x20 ?k3x20 ?k4x20 ?k5x20 ?k6x20 ?hQx20 ?hYx20 ?hSx20 ?restx20; (case hix20 => (simp only [List.getElem?_toArray, List.getElem?_cons_succ, List.getElem?_cons_zero]; exact rfl)); (case k1x20 => kernel_rfl); (case k2x20 => kernel_rfl); (case k3x20 => kernel_rfl); (case k4x20 => kernel_rfl); (case k5x20 => kernel_rfl); (case k6x20 => kernel_rfl); (case hSx20 => assumption); (case hYx20 => (refine Or.inl ⟨rfl, ?hyx20⟩; intro w hSw; (try dsimp only at hSw); go_simp; (try with_reducible rfl))); (case hQx20 => exact (fun _ _ _ h => h)); (try simp only [Act.put, List.setIfInBounds_toArray, List.set_cons_zero, List.set_cons_succ]))
                            (refine wpAnyL_take (n := 0) (i := 6) (oi := ?ox21) (v := ?vx21) ?hix21 ?k1x21 ?k2x21 ?k3x21 ?k4x21 ?k5x21 ?k6x21 ?hQx21 ?hYx21 ?hSx21 ?restx21; (case hix21 => (simp only [List.getElem?_toArray, List.getElem?_cons_succ, List.getElem?_cons_zero]; exact rfl)); (case k1x21 => kernel_rfl); (case k2x21 => kernel_rfl); (case k3x21 => kernel_rfl); (case k4x21 => kernel_rfl); (case k5x21 => kernel_rfl); (case k6x21 => kernel_rfl); (case hSx21 => assumption); (case hYx21 => (refine Or.inl ⟨rfl, ?hyx21⟩; intro w hSw; (try dsimp only at hSw); go_simp; (try with_reducible rfl))); (case hQx21 => exact (fun _ _ _ h => h)); (try simp only [Act.put, List.setIfInBounds_toArray, List.set_cons_zero, List.set_cons_succ]))
                            (refine wpAnyL_take (n := 0) (i := 7) (oi := ?ox22) (v := ?vx22) ?hix22 ?k1x22 ?k2x22 ?k3x22 ?k4x22 ?k5x22 ?k6x22 ?hQx22 ?hYx22 ?hSx22 ?restx22; (case hix22 => (simp only [List.getElem?_toArray, List.getElem?_cons_succ, List.getElem?_cons_zero]; exact rfl)); (case k1x22 => kernel_rfl); (case k2x22 => kernel_rfl); (case k3x22 => kernel_rfl); (case k4x22 => kernel_rfl); (case k5x22 => kernel_rfl); (case k6x22 => kernel_rfl); (case hSx22 => assumption); (case hYx22 => (refine Or.inl ⟨rfl, ?hyx22⟩; intro w hSw; (try dsimp only at hSw); go_simp; (try with_reducible rfl))); (case hQx22 => exact (fun _ _ _ h => h)); (try simp only [Act.put, List.setIfInBounds_toArray, List.set_cons_zero, List.set_cons_succ]))
                            (refine wpAnyL_take (n := 0) (i := 8) (oi := ?ox23) (v := ?vx23) ?hix23 ?k1x23 ?k2x23 ?k3x23 ?k4x23 ?k5x23 ?k6x23 ?hQx23 ?hYx23 ?hSx23 ?restx23; (case hix23 => (simp only [List.getElem?_toArray, List.getElem?_cons_succ, List.getElem?_cons_zero]; exact rfl)); (case k1x23 => kernel_rfl); (case k2x23 => kernel_rfl); (case k3x23 => kernel_rfl); (case k4x23 => kernel_rfl); (case k5x23 => kernel_rfl); (case k6x23 => kernel_rfl); (case hSx23 => assumption); (case hYx23 => (refine Or.inl ⟨rfl, ?hyx23⟩; intro w hSw; (try dsimp only at hSw); go_simp; (try with_reducible rfl))); (case hQx23 => exact (fun _ _ _ h => h)); (try simp only [Act.put, List.setIfInBounds_toArray, List.set_cons_zero, List.set_cons_succ]))
                            (refine wpAnyL_take (n := 0) (i := 9) (oi := ?ox24) (v := ?vx24) ?hix24 ?k1x24 ?k2x24 ?k3x24 ?k4x24 ?k5x24 ?k6x24 ?hQx24 ?hYx24 ?hSx24 ?restx24; (case hix24 => (simp only [List.getElem?_toArray, List.getElem?_cons_succ, List.getElem?_cons_zero]; exact rfl)); (case k1x24 => kernel_rfl); (case k2x24 => kernel_rfl); (case k3x24 => kernel_rfl); (case k4x24 => kernel_rfl); (case k5x24 => kernel_rfl); (case k6x24 => kernel_rfl); (case hSx24 => assumption); (case hYx24 => (refine Or.inl ⟨rfl, ?hyx24⟩; intro w hSw; (try dsimp only at hSw); go_simp; (try with_reducible rfl))); (case hQx24 => exact (fun _ _ _ h => h)); (try simp only [Act.put, List.setIfInBounds_toArray, List.set_cons_zero, List.set_cons_succ]))
                            (refine wpAnyL_take (n := 0) (i := 10) (oi := ?ox25) (v := ?vx25) ?hix25 ?k1x25 ?k2x25 ?k3x25 ?k4x25 ?k5x25 ?k6x25 ?hQx25 ?hYx25 ?hSx25 ?restx25; (case hix25 => (simp only [List.getElem?_toArray, List.getElem?_cons_succ, List.getElem?_cons_zero]; exact rfl)); (case k1x25 => kernel_rfl); (case k2x25 => kernel_rfl); (case k3x25 => kernel_rfl); (case k4x25 => kernel_rfl); (case k5x25 => kernel_rfl); (case k6x25 => kernel_rfl); (case hSx25 => assumption); (case hYx25 => (refine Or.inl ⟨rfl, ?hyx25⟩; intro w hSw; (try dsimp only at hSw); go_simp; (try with_reducible rfl))); (case hQx25 => exact (fun _ _ _ h => h)); (try simp only [Act.put, List.setIfInBounds_toArray, List.set_cons_zero, List.set_cons_succ]))
                            (refine wpAnyL_done (by kernel_rfl) ?_ _)
                            clear m1 hHeld
                            have HJP := Lib.hid (fromP_start (l := l) (ns := netL l ws c) (s := s) (h := k) (r := R) (j := j))
                            have HIV2 := Lib.hid (HIV.out.congr (Q' := FromP l (netL l ws c) s k R j R.1) fun u => (HJP.out u).symm)
                            have HNX2 := Lib.hid (show ∀ u : Nat, nx u = true ↔ FromP l (netL l ws c) s k R j R.1 (u : Int) ∧ (u : Int) < D from fun u => by rw [HNX.out, HJP.out])
                            have HJB := Lib.hid (HRK.out (j : Int) HRJ.out)
                            clear HIV HNX HJP
                            go_wp2_with fail
                            go_loopw [18] (fun nv wx => ∃ (cur : Int) (nx : Nat → Bool) (Hd Bk : Nat → Nat → Bool), nv = .int .i64 (cur + O) ∧ R.1 ≤ cur ∧ cur ≤ R.2 + 1 ∧ Blk wx gn 4 (boolA m nw) ∧ Blk wx gx 4 (boolA m nx) ∧ (∀ u : Nat, nx u = true ↔ FromP l (netL l ws c) s k R j cur (u : Int) ∧ (u : Int) < D) ∧ TabW wx W.heap.size C OA nI m bs Hd Bk ∧ HInv l (netL l ws c) nI s k (FromP l (netL l ws c) s k R j cur) Hd Bk ∧ C ≤ wx.heap.size ∧ Below W.heap.size W wx) (fun nv _ => (R.2 + 1 + O - intOf nv).toNat)
                            case atStart => exact ⟨R.1, nx, Hd, Bk, by rw [HD1.out.1]; congr 1; omega, Int.le_refl _, by omega, HG.out, HGX.out, HNX2.out, HTB.out, HIV2.out, HSZ.out, HBX.out⟩
                            case round =>
                              clear HG HGX HNX2 HTB HIV2 HBX HSZ
                              obtain ⟨cur, nx, Hd, Bk, rfl, hq1, hq2, hgn, hgxb, hnx, htb, hinv, hsz, hbr⟩ := hrel
                              have HG := Lib.hid hgn; have HGX := Lib.hid hgxb; have HNX := Lib.hid hnx; have HTB := Lib.hid htb; have HBX := Lib.hid hbr; have HIV := Lib.hid hinv; have HSZ := Lib.hid hsz
                              clear hgn hgxb hnx htb hbr hinv hsz
                              have m1 : IntKind.i64.wrap (r0.2 - l.seep.1) = r0.2 - l.seep.1 := wi (by omega)
                              go_upto_region 29 with fail
                              refine wp_region_till [] (fun U => U.cell? ⟨w.heap.size, 7, none⟩ = some (.int .i64 l.seep.1) ∧ U.cell? ⟨w.heap.size, 8, none⟩ = some (.int .i64 l.seep.2) ∧ U.cell? ⟨w.heap.size, 9, none⟩ = some (.slice (some ⟨b0, o0, none⟩) nI cI) ∧ U.cell? ⟨b0, o0 + k * 2, none⟩ = some (.int .i64 r0.1) ∧ U.cell? ⟨b0, o0 + k * 2 + 1, none⟩ = some (.int .i64 r0.2)) (by kernel_rfl) (by exact HS28.out _ HBX.out.drew) (fun hHeld => ?_)
                              have hb9 := (Below.refl wr.heap.size wr).drew
                              have t0 := below_tr HBX.out hb9; have t1 := HTB.out.below hb9; have t2 := HG.out.below hb9 HG.out.lt; have t3 := HGX.out.below hb9 HGX.out.lt; have t4 := Nat.le_trans HSZ.out (Below.size hb9)
                              clear HBX HTB HG HGX HSZ
                              have HBX := Lib.hid t0; have HTB := Lib.hid t1; have HG := Lib.hid t2; have HGX := Lib.hid t3; have HSZ := Lib.hid t4
                              clear t0 t1 t2 t3 t4
                              clear hb9
                              revert hHeld HBX HTB HG HGX HSZ
                              generalize wr.drew = w0
                              intro hHeld HBX HTB HG HGX HSZ
                              (refine wpAnyL_take (n := 0) (i := 0) (oi := ?ox26) (v := ?vx26) ?hix26 ?k1x26 ?k2x26 ?k3x26 ?k4x26 ?k5x26 ?k6x26 ?hQx26 ?hYx26 ?hSx26 ?restx26; (case hix26 => (simp only [List.getElem?_toArray, List.getElem?_cons_succ, List.getElem?_cons_zero]; exact rfl)); (case k1x26 => kernel_rfl); (case k2x26 => kernel_rfl); (case k3x26 => kernel_rfl); (case k4x26 => kernel_rfl); (case k5x26 => kernel_rfl); (case k6x26 => kernel_rfl); (case hSx26 => assumption); (case hYx26 => (refine Or.inl ⟨rfl, ?hyx26⟩; intro w hSw; (try dsimp only at hSw); go_simp; (try with_reducible rfl))); (case hQx26 => exact (fun _ _ _ h => h)); (try simp only [Act.put, List.setIfInBounds_toArray, List.set_cons_zero, List.set_cons_succ]))
                              (refine wpAnyL_take (n := 0) (i := 1) (oi := ?ox27) (v := ?vx27) ?hix27 ?k1x27 ?k2x27 ?k3x27 ?k4x27 ?k5x27 ?k6x27 ?hQx27 ?hYx27 ?hSx27 ?restx27; (case hix27 => (simp only [List.getElem?_toArray, List.getElem?_cons_succ, List.getElem?_cons_zero]; exact rfl)); (case k1x27 => kernel_rfl); (case k2x27 => kernel_rfl); (case k3x27 => kernel_rfl); (case k4x27 => kernel_rfl); (case k5x27 => kernel_rfl); (case k6x27 => kernel_rfl); (case hSx27 => assumption); (case hYx27 => (refine Or.inl ⟨rfl, ?hyx27⟩; intro w hSw; (try dsimp only at hSw); go_simp; (try with_reducible rfl))); (case hQx27 => exact (fun _ _ _ h => h)); (try simp only [Act.put, List.setIfInBounds_toArray, List.set_cons_zero, List.set_cons_succ]))
                              (refine wpAnyL_take (n := 0) (i := 2) (oi := ?ox28) (v := ?vx28) ?hix28 ?k1x28 ?k2x28 ?k3x28 ?k4x28 ?k5x28 ?k6x28 ?hQx28 ?hYx28 ?hSx28 ?restx28; (case hix28 => (simp only [List.getElem?_toArray, List.getElem?_cons_succ, List.getElem?_cons_zero]; exact rfl)); (case k1x28 => kernel_rfl); (case k2x28 => kernel_rfl); (case k3x28 => kernel_rfl); (case k4x28 => kernel_rfl); (case k5x28 => kernel_rfl); (case k6x28 => kernel_rfl); (case hSx28 => assumption); (case hYx28 => (refine Or.inl ⟨rfl, ?hyx28⟩; intro w hSw; (try dsimp only at hSw); go_simp; (try with_reducible rfl))); (case hQx28 => exact (fun _ _ _ h => h)); (try simp only [Act.put, List.setIfInBounds_toArray, List.set_cons_zero, List.set_cons_succ]))
                              (refine wpAnyL_take (n := 0) (i := 3) (oi := ?ox29) (v := ?vx29) ?hix29 ?k1x29 ?k2x29 ?k3x29 ?k4x29 ?k5x29 ?k6x29 ?hQx29 ?hYx29 ?hSx29 ?restx29; (case hix29 => (simp only [List.getElem?_toArray, List.getElem?_cons_succ, List.getElem?_cons_zero]; exact rfl)); (case k1x29 => kernel_rfl); (case k2x29 => kernel_rfl); (case k3x29 => kernel_rfl); (case k4x29 => kernel_rfl); (case k5x29 => kernel_rfl); (case k6x29 => kernel_rfl); (case hSx29 => assumption); (case hYx29 => (refine Or.inl ⟨rfl, ?hyx29⟩; intro w hSw; (try dsimp only at hSw); go_simp; (try with_reducible rfl))); (case hQx29 => exact (fun _ _ _ h => h)); (try simp only [Act.put, List.setIfInBounds_toArray, List.set_cons_zero, List.set_cons_succ]))
                              (refine wpAnyL_take (n := 0) (i := 4) (oi := ?ox30) (v := ?vx30) ?hix30 ?k1x30 ?k2x30 ?k3x30 ?k4x30 ?k5x30 ?k6x30 ?hQx30 ?hYx30 ?hSx30 ?restx30; (case hix30 => (simp only [List.getElem?_toArray, List.getElem?_cons_succ, List.getElem?_cons_zero]; exact rfl)); (case k1x30 => kernel_rfl); (case k2x30 => kernel_rfl); (case k3x30 => kernel_rfl); (case k4x30 => kernel_rfl); (case k5x30 => kernel_rfl); (case k6x30 => kernel_rfl); (case hSx30 => assumption); (case hYx30 => (refine Or.inl ⟨rfl, ?hyx30⟩; intro w hSw; (try dsimp only at hSw); go_simp; (try with_reducible rfl))); (case hQx30 => exact (fun _ _ _ h => h)); (try simp only [Act.put, List.setIfInBounds_toArray, List.set_cons_zero, List.set_cons_succ]))
                              (refine wpAnyL_take (n := 0) (i := 5) (oi := ?ox31) (v := ?vx31) ?hix31 ?k1x31 ?k2x31 ?k3x31 ?k4x31 ?k5x31 ?k6x31 ?hQx31 ?hYx31 ?hSx31 ?restx31; (case hix31 => (simp only [List.getElem?_toArray, List.getElem?_cons_succ, List.getElem?_cons_zero]; exact rfl)); (case k1x31 => kernel_rfl); (case k2x31 => kernel_rfl); (case k3x31 => kernel_rfl); (case k4x31 => kernel_rfl); (case k5x31 => kernel_rfl); (case k6x31 => kernel_rfl); (case hSx31 => assumption); (case hYx31 => (refine Or.inl ⟨rfl, ?hyx31⟩; intro w hSw; (try dsimp only at hSw); go_simp; (try with_reducible rfl))); (case hQx31 => exact (fun _ _ _ h => h)); (try simp only [Act.put, List.setIfInBounds_toArray, List.set_cons_zero, List.set_cons_succ]))
                              (refine wpAnyL_take (n := 0) (i := 6) (oi := ?ox32) (v := ?vx32) ?hix32 ?k1x32 ?k2x32 ?k3x32 ?k4x32 ?k5x32 ?k6x32 ?hQx32 ?hYx32 ?hSx32 ?restx32; (case hix32 => (simp only [List.getElem?_toArray, List.getElem?_cons_succ, List.getElem?_cons_zero]; exact rfl)); (case k1x32 => kernel_rfl); (case k2x32 => kernel_rfl); (case k3x32 => kernel_rfl); (case k4x32 => kernel_rfl); (case k5x32 => kernel_rfl); (case k6x32 => kernel_rfl); (case hSx32 => assumption); (case hYx32 => (refine Or.inl ⟨rfl, ?hyx32⟩; intro w hSw; (try dsimp only at hSw); go_simp; (try with_reducible rfl))); (case hQx32 => exact (fun _ _ _ h => h)); (try simp only [Act.put, List.setIfInBounds_toArray, List.set_cons_zero, List.set_cons_succ]))
                              (refine wpAnyL_take (n := 0) (i := 7) (oi := ?ox33) (v := ?vx33) ?hix33 ?k1x33 ?k2x33 ?k3x33 ?k4x33 ?k5x33 ?k6x33 ?hQx33 ?hYx33 ?hSx33 ?restx33; (case hix33 => (simp only [List.getElem?_toArray, List.getElem?_cons_succ, List.getElem?_cons_zero]; exact rfl)); (case k1x33 => kernel_rfl); (case k2x33 => kernel_rfl); (case k3x33 => kernel_rfl); (case k4x33 => kernel_rfl); (case k5x33 => kernel_rfl); (case k6x33 => kernel_rfl); (case hSx33 => assumption); (case hYx33 => (refine Or.inl ⟨rfl, ?hyx33⟩; intro w hSw; (try dsimp only at hSw); go_simp; (try with_reducible rfl))); (case hQx33 => exact (fun _ _ _ h => h)); (try simp only [Act.put, List.setIfInBounds_toArray, List.set_cons_zero, List.set_cons_succ]))
                              (refine wpAnyL_take (n := 0) (i := 8) (oi := ?ox34) (v := ?vx34) ?hix34 ?k1x34 ?k2x34 ?k3x34 ?k4x34 ?k5x34 ?k6x34 ?hQx34 ?hYx34 ?hSx34 ?restx34; (case hix34 => (simp only [List.getElem?_toArray, List.getElem?_cons_succ, List.getElem?_cons_zero]; exact rfl)); (case k1x34 => kernel_rfl); (case k2x34 => kernel_rfl); (case k3x34 => kernel_rfl); (case k4x34 => kernel_rfl); (case k5x34 => kernel_rfl); (case k6x34 => kernel_rfl); (case hSx34 => assumption); (case hYx34 => (refine Or.inl ⟨rfl, ?hyx34⟩; intro w hSw; (try dsimp only at hSw); go_simp; (try with_reducible rfl))); (case hQx34 => exact (fun _ _ _ h => h)); (try simp only [Act.put, List.setIfInBounds_toArray, List.set_cons_zero, List.set_cons_succ]))
                              (refine wpAnyL_take (n := 0) (i := 9) (oi := ?ox35) (v := ?vx35) ?hix35 ?k1x35 ?k2x35 ?k3x35 ?k4x35 ?k5x35 ?k6x35 ?hQx35 ?hYx35 ?hSx35 ?restx35; (case hix35 => (simp only [List.getElem?_toArray, List.getElem?_cons_succ, List.getElem?_cons_zero]; exact rfl)); (case k1x35 => kernel_rfl); (case k2x35 => kernel_rfl); (case k3x35 => kernel_rfl); (case k4x35 => kernel_rfl); (case k5x35 => kernel_rfl); (case k6x35 => kernel_rfl); (case hSx35 => assumption); (case hYx35 => (refine Or.inl ⟨rfl, ?hyx35⟩; intro w hSw; (try dsimp only at hSw); go_simp; (try with_reducible rfl))); (case hQx35 => exact (fun _ _ _ h => h)); (try simp only [Act.put, List.setIfInBounds_toArray, List.set_cons_zero, List.set_cons_succ]))
                              (refine wpAnyL_take (n := 0) (i := 10) (oi := ?ox36) (v := ?vx36) ?hix36 ?k1x36 ?k2x36 ?k3x36 ?k4x36 ?k5x36 ?k6x36 ?hQx36 ?hYx36 ?hSx36 ?restx36; (case hix36 => (simp only [List.getElem?_toArray, List.getElem?_cons_succ, List.getElem?_cons_zero]; exact rfl)); (case k1x36 => kernel_rfl); (case k2x36 => kernel_rfl); (case k3x36 => kernel_rfl); (case k4x36 => kernel_rfl); (case k5x36 => kernel_rfl); (case k6x36 => kernel_rfl); (case hSx36 => assumption); (case hYx36 => (refine Or.inl ⟨rfl, ?hyx36⟩; intro w hSw; (try dsimp only at hSw); go_simp; (try with_reducible rfl))); (case hQx36 => exact (fun _ _ _ h => h)); (try simp only [Act.put, List.setIfInBounds_toArray, List.set_cons_zero, List.set_cons_succ]))
                              (refine wpAnyL_take (n := 0) (i := 11) (oi := ?ox37) (v := ?vx37) ?hix37 ?k1x37 ?k2x37 ?k3x37 ?k4x37 ?k5x37 ?k6x37 ?hQx37 ?hYx37 ?hSx37 ?restx37; (case hix37 => (simp only [List.getElem?_toArray, List.getElem?_cons_succ, List.getElem?_cons_zero]; exact rfl)); (case k1x37 => kernel_rfl); (case k2x37 => kernel_rfl); (case k3x37 => kernel_rfl); (case k4x37 => kernel_rfl); (case k5x37 => kernel_rfl); (case k6x37 => kernel_rfl); (case hSx37 => assumption); (case hYx37 => (refine Or.inl ⟨rfl, ?hyx37⟩; intro w hSw; (try dsimp only at hSw); go_simp; (try with_reducible rfl))); (case hQx37 => exact (fun _ _ _ h => h)); (try simp only [Act.put, List.setIfInBounds_toArray, List.set_cons_zero, List.set_cons_succ]))
                              (refine wpAnyL_done (by kernel_rfl) ?_ _)
                              clear m1 hHeld
                              have hd1 := HD1.out
                              by_cases hle : cur ≤ R.2
                              · have hle2 : cur + O ≤ r0.2 - l.seep.1 := by omega
                                obtain ⟨t, ht⟩ : ∃ t : Nat, (t : Int) = max 0 ((j : Int) + cur) := ⟨(max 0 ((j : Int) + cur)).toNat, by omega⟩
                                have htm : t < m := by have := HJB.out; have := HM1.out; omega
                                have hjc : 0 ≤ (j : Int) + 30000000 := by omega
                                have HQS := Lib.hid (fromP_step (l := l) (ns := netL l ws c) (s := s) (h := k) (r := R) (j := j) hq1)
                                rw [← ht] at HQS
                                have HTT := Lib.hid ht
                                clear ht hd1
                                go_upto_region 32 with fail
                                rw [show max 0 ((j : Int) + (cur + O) - O) = (t : Int) from by rw [HTT.out]; congr 1; omega]
                                obtain ⟨x0, x1, x2, x3, x4, x5, x6, x7, x8, x9⟩ := HXL.out _ HBX.out
                                go_wp2_with fail
                                go_at_call 73
                                refine (HBK.out _ HBX.out).mono ?_
                                rintro e w1 ⟨rfl, hb9⟩
                                have t0 := below_tr HBX.out hb9; have t1 := HTB.out.below hb9; have t2 := HG.out.below hb9 HG.out.lt; have t3 := HGX.out.below hb9 HGX.out.lt; have t4 := Nat.le_trans HSZ.out (Below.size hb9)
                                clear HBX HTB HG HGX HSZ
                                have HBX := Lib.hid t0; have HTB := Lib.hid t1; have HG := Lib.hid t2; have HGX := Lib.hid t3; have HSZ := Lib.hid t4
                                clear t0 t1 t2 t3 t4
                                clear hb9 
                                clear x0 x1 x2 x3 x4 x5 x6 x7 x8 x9
                                obtain ⟨bo, oo, b, hOA, hbo, hbx, hcc⟩ := HTB.out.rd.at_ hkl
                                subst hOA
                                have htI : (t : Int) < (m : Int) := by omega
                                have ht0 : (0 : Int) ≤ (t : Int) := by omega
                                have hbg := HTB.out.ge k b hbx
                                have HBX2 := Lib.hid hbx
                                by_cases hDt : D ≤ (t : Int)
                                · skip
                                  -- [C
                                  have c1 : w1.cell? ⟨bo, oo + k * 2 + 1, none⟩ = some (.slice (some ⟨b.2, 0, none⟩) m m) := hcc 1 _ rfl
                                  have bb := (HTB.out.blk k b hbx).2
                                  have d1 := boolA_cell bb htm
                                  have f1 := bb.frozen t
                                  have HDT := Lib.hid (show bdK l (decide (s ≤ (k : Int))) ≤ (t : Int) from by rw [← HDD.out]; exact hDt)
                                  clear hcc bb hbx
                                  go_wp2_with fail
                                  go_roundw
                                  case rel =>
                                    refine ⟨cur + 1, nx, Hd, updT Bk k t, by congr 1; omega, by omega, by omega, HG.out.far (p := ⟨b.2, t, none⟩) (by simp; omega) _, HGX.out.far (p := ⟨b.2, t, none⟩) (by simp; omega) _, fun u => ?_, HTB.out.setB HBX2.out t, HIV.out.addB HDT.out HQS.out, by simpa using HSZ.out, HBX.out.setCell (p := ⟨b.2, t, none⟩) hbg.2.1 _⟩
                                    rw [HNX.out, HQS.out]
                                    exact ⟨fun h => ⟨.inl h.1, h.2⟩, fun h => ⟨h.1.elim id fun a => by omega, h.2⟩⟩
                                  case measure => simp [intOf] <;> omega
                                  -- C]
                                · have c0 : w1.cell? ⟨bo, oo + k * 2, none⟩ = some (.slice (some ⟨b.1, 0, none⟩) m m) := hcc 0 _ rfl
                                  have bb := (HTB.out.blk k b hbx).1
                                  have d1 := boolA_cell bb htm
                                  have f1 := bb.frozen t
                                  have d2 := boolA_cell HGX.out htm
                                  have f2 := HGX.out.frozen t
                                  have hn1 : gx ≠ b.1 := by omega
                                  have hn2 : b.1 ≠ gx := by omega
                                  have HDT := Lib.hid (show (t : Int) < bdK l (decide (s ≤ (k : Int))) from by rw [← HDD.out]; omega)
                                  clear hcc bb hbx
                                  go_wp2_with fail
                                  go_roundw
                                  case rel =>
                                    refine ⟨cur + 1, updB nx t, updT Hd k t, Bk, by congr 1; omega, by omega, by omega, (HG.out.far (p := ⟨gx, t, none⟩) (by simp; omega) _).far (p := ⟨b.1, t, none⟩) (by simp; omega) _, by rw [← boolA_set]; exact (HGX.out.set_ t _).far (p := ⟨b.1, t, none⟩) (by simp; omega) _, fun u => ?_, (HTB.out.far (p := ⟨gx, t, none⟩) hCx _).setH HBX2.out t, HIV.out.addH HDT.out HQS.out, by simpa using HSZ.out, (HBX.out.setCell (p := ⟨gx, t, none⟩) (Nat.le_trans hCW hCx) _).setCell (p := ⟨b.1, t, none⟩) hbg.1.1 _⟩
                                    rw [updB_iff, HNX.out, HQS.out]
                                    constructor
                                    · rintro (h | h)
                                      · exact ⟨.inl h.1, h.2⟩
                                      · exact ⟨.inr (by omega), by omega⟩
                                    · rintro ⟨h | h, h2⟩
                                      · exact .inl ⟨h, h2⟩
                                      · exact .inr (by omega)
                                  case measure => simp [intOf] <;> omega
                              · obtain rfl : cur = R.2 + 1 := by omega
                                have hle2 : ¬ (R.2 + 1 + O ≤ r0.2 - l.seep.1) := by omega
                                have HPE := Lib.hid (fromP_end (l := l) (ns := netL l ws c) (s := s) (h := k) (r := R) (j := j) HRJ.out)
                                clear hd1
                                go_wp2_with fail
                                go_roundw
                                case rel => exact ⟨j + 1, nx, Hd, Bk, by omega, by go_num, HG.out, HGX.out, fun u => by rw [HNX.out, HPE.out], HTB.out, HIV.out.congr HPE.out, HSZ.out, HBX.out⟩
                                case measure => simp [intOf] <;> omega
                        · obtain rfl : m = j := by omega
                          have HRM := Lib.hid (show ∀ v, Rch l (netL l ws c) s k v → v < (m : Int) from fun v hv => (HRK.out v hv).2.2)
                          have HIV2 := Lib.hid (HIV.out.hour HNR.out HRM.out)
                          have HNW2 := Lib.hid (show ∀ u : Nat, nx u = true ↔ Rch l (netL l ws c) s (k + 1) (u : Int) from fun u => by
                            rw [HNX.out, HDD.out]; exact fromT_rch HNR.out HRM.out _)
                          go_wp2_with fail
                          go_roundw
                          case rel => exact ⟨k + 1, gx, nx, Hd, Bk, by omega, rfl, by go_num, hCx, HGX.out, HNW2.out, HTB.out, HIV2.out, hsz, HBX.out⟩
                          case measure => simp [intOf] <;> omega
                      -- B]
                    · obtain rfl : nI = k := by omega
                      have HIV2 := Lib.hid (HIV.out.dam hs1)
                      go_wp2_with fail
                      go_roundw
                      case rel => exact ⟨s + 1, Hd, Bk, by go_num, by omega, by omega, HTB.out, HIV2.out, hsz, HBX.out⟩
                      case measure => simp [intOf] <;> omega
            · obtain rfl : s = l.soft.2 + 1 := by omega
              have HOO := Lib.hid (hrOk_of HOK.out HWO.out HCO.out (by rw [HIL.out]; exact HM.out) hml (by rw [HIL.out]; exact HIV.out))
              go_wp2_with fail
              go_ret
              exact ⟨OA, oc, m, Hd, Bk, rfl, HT.out.hr, HOO.out, HB.out.trans (HBR.out.mono HB.out.size)⟩
end
end Go.Proofs.Ytpijmfbpdglchaa
