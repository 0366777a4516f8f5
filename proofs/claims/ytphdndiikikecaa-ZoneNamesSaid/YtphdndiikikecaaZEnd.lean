/- THE CONTRACTS of Valley.end with Range.low and with Range.high: written by mkzend.py. -/
import Derived.Test.YtphdndiikikecaaZCheck
import Derived.Test.YtphdndiikikecaaZAppRd
import Derived.Deep.RegionHeld3
import Derived.Deep.AppendLies
import Derived.Deep.DrawnRows
set_option linter.unusedVariables false
set_option linter.unusedSimpArgs false
namespace Go.Proofs.Ytphdndiikikecaa
open Go.RowKit Go.Proofs
attribute [local go_sem ↓] Go.wp_at_zero Go.wp_at_succ

theorem infoInt : (Try.prog.info? 3).map (fun i => (i.zero, i.size, i.bytes)) = some (some (.int .i64 0), 1, 8) := by kernel_rfl
theorem own_ge {w : World} {base : Nat} {e : TypeId} {size n : Nat} {v : Value} {xs : List Value} (h : w.ownsRow base e size v n xs) {g : Nat} (hg : g < base) : some g ≠ v.ownBlock := by
  intro e
  rcases h.2 with ⟨rfl, _⟩ | ⟨g', cap, cur, rfl, hb, _⟩
  · simp [Value.ownBlock] at e
  · simp [Value.ownBlock] at e; omega
theorem blk3l (w : World) (X Y Z : Array Value) (a b c : TypeId) : Blk (((w.alloc (.cells X a)).alloc (.cells Y b)).alloc (.cells Z c)) (w.heap.size + 1 + 1) c Z ∧
    Blk (((w.alloc (.cells X a)).alloc (.cells Y b)).alloc (.cells Z c)) w.heap.size a X ∧ Blk (((w.alloc (.cells X a)).alloc (.cells Y b)).alloc (.cells Z c)) (w.heap.size + 1) b Y ∧
    Below w.heap.size w (((w.alloc (.cells X a)).alloc (.cells Y b)).alloc (.cells Z c)) := blk3 w X Y Z a b c
theorem endsT_take {v : Vly} {hi : Bool} {k : Nat} {s : Sli} (h : v.sls[k]? = some s) : (endsT v hi).take (k + 1) = (endsT v hi).take k ++ [if hi then s.hi else s.lo] := by
  rw [List.take_add_one]
  simp [endsT, h]
theorem endsT_len {v : Vly} {hi : Bool} : (endsT v hi).length = v.sls.length := by simp [endsT]

set_option maxRecDepth 100000 in
set_option maxHeartbeats 2000000 in
theorem end_low_c {v : Vly} {PA SA : Option Addr} {pn pc sn sc : Nat} {w : World} (h : RdV w PA pn SA sn v) (hsn : sn ≤ 1000000) :
    Calls Try.prog 53 #[.agg #[.slice PA pn pc, .slice SA sn sc, .int .i64 v.s0, .int .i64 v.s1, .int .i64 v.s2], .func (.func 54) #[] #[]] w
      fun e w' => ∃ TA tc, e = .returned (.agg #[.slice PA pn pc, .slice SA sn sc, .int .i64 v.s0, .int .i64 v.s1, .int .i64 v.s2, .slice TA sn tc]) ∧ sn ≤ tc ∧ Rd enc1 1 w' TA sn (endsT v false) ∧ Below w.heap.size w w' := by
  have HLS := Lib.hid h.sls.len
  have HV := Lib.hid h
  have HT := Lib.hid (fun k s => @endsT_take v false k s)
  obtain ⟨T, hT⟩ : ∃ T, T = endsT v false := ⟨_, rfl⟩
  have HTL := Lib.hid (show T.length = sn by rw [hT, endsT_len, h.sls.len])
  rw [← hT] at HT ⊢
  simp only [Bool.false_eq_true, if_false, if_true] at HT
  clear h hT
  obtain ⟨pars, sls, s0, s1, s2⟩ := v
  simp only at HT HLS ⊢
  go_enter Try.func53, Try.ntmps53
  go_wp2_with fail
  go_loopw [13] (fun i wr => ∃ (k : Nat) (tA : Option Addr) (tc : Nat), k ≤ sn ∧ i = .int .i64 k ∧ k ≤ tc ∧ wr.ownsRow (w.heap.size + 1 + 1 + 1) 3 1 (.slice tA k tc) k ((T.take k).flatMap enc1) ∧
      Blk wr (w.heap.size + 1 + 1) 105 #[.slice PA pn pc, .slice SA sn sc, .int .i64 s0, .int .i64 s1, .int .i64 s2, .slice tA k tc] ∧ Blk wr (w.heap.size + 1) 105 #[.slice none 0 0, .slice none 0 0, .int .i64 0, .int .i64 0, .int .i64 0, .slice none 0 0] ∧
      Below w.heap.size w wr ∧ w.heap.size + 1 + 1 + 1 ≤ wr.heap.size) (fun i _ => sn - (intOf i).toNat)
  case atStart =>
    obtain ⟨h1, h2, h3, h4⟩ := blk3l w #[.slice PA pn pc, .slice SA sn sc, .int .i64 s0, .int .i64 s1, .int .i64 s2] _ #[.slice PA pn pc, .slice SA sn sc, .int .i64 s0, .int .i64 s1, .int .i64 s2, .slice none 0 0] 36 105 105
    refine ⟨0, none, 0, Nat.zero_le _, rfl, Nat.le_refl _, World.ownsRow_nil _ _ _ _, h1, h3, h4, by simp⟩
  case round =>
    obtain ⟨k, tA, tc, hk, rfl, htc, hown, hb1, hb2, hb, hsz⟩ := hrel
    have HO := Lib.hid hown; have HB1 := Lib.hid hb1; have HB2 := Lib.hid hb2; have HB := Lib.hid hb
    clear hown hb2
    by_cases hlt : k < sn
    · obtain ⟨b, o, x, hA, hblt, hx, h0, h1, h2, h3⟩ := (HV.out.sls.below hb).atS hlt
      subst hA
      have HX := Lib.hid hx
      have HTK := Lib.hid (HT.out k x hx)
      have hi1 : (k : Int) < (sn : Int) := by omega
      have hi0 : (0 : Int) ≤ (k : Int) := by omega
      have hlo := fun W => low_c x.lo x.hi W
      have HLO := Lib.hid hlo
      have c5 := hb1.cell 5
      simp at c5
      have f5 := hb1.frozen 5
      clear hx hb hlo hb1
      have hszr := HB.out.size
      have hne5 : ¬ (w.heap.size + 1 + 1 = wr.heap.size) := by omega
      have hlt5 : w.heap.size + 1 + 1 < wr.heap.size := by omega
      obtain ⟨i0, hi0, hz0, hz1, hz2⟩ := info_parts infoInt
      have HI := Lib.hid hi0; have HZ0 := Lib.hid hz0; have HZ1 := Lib.hid hz1; have HZ2 := Lib.hid hz2
      clear hi0 hz0 hz1 hz2
      have W1 : Below wr.heap.size wr (wr.alloc (.cells #[.slice x.A x.n x.c, .int .i64 x.rate, .int .i64 x.lo, .int .i64 x.hi] 103)).drew := ((Below.refl _ wr).alloc (Nat.le_refl _) _).drew
      have HW1 := Lib.hid W1; clear W1
      go_wp2_with fail
      refine wp_region_held_drew (S := (fun _ => True)) (by kernel_rfl) (by (trivial)) (fun hHeld => ?_)
      (refine wpAnyH_take (i := 0) (oi := ?ox1) (v := ?vx1) ?hix1 ?k1x1 ?k2x1 ?k3x1 ?hQx1 ?hYx1 ?hSx1 ?restx1; (case hix1 => (simp only [List.getElem?_toArray, List.getElem?_cons_succ, List.getElem?_cons_zero]; exact rfl)); (case k1x1 => kernel_rfl); (case k2x1 => kernel_rfl); (case k3x1 => kernel_rfl); (case hSx1 => assumption); (case hYx1 => (refine Or.inl ⟨rfl, ?hyx1⟩; intro w hSw; (try dsimp only at hSw); go_simp; (try with_reducible rfl))); (case hQx1 => exact (fun _ _ _ h => h)); (try simp only [Act.put, List.setIfInBounds_toArray, List.set_cons_zero, List.set_cons_succ]))
      (refine wpAnyH_take (i := 2) (oi := ?ox2) (v := ?vx2) ?hix2 ?k1x2 ?k2x2 ?k3x2 ?hQx2 ?hYx2 ?hSx2 ?restx2; (case hix2 => (simp only [List.getElem?_toArray, List.getElem?_cons_succ, List.getElem?_cons_zero]; exact rfl)); (case k1x2 => kernel_rfl); (case k2x2 => kernel_rfl); (case k3x2 => kernel_rfl); (case hSx2 => assumption); (case hYx2 => (refine Or.inl ⟨rfl, ?hyx2⟩; intro w hSw; (try dsimp only at hSw); go_simp; (try with_reducible rfl))); (case hQx2 => exact (fun _ _ _ h => h)); (try simp only [Act.put, List.setIfInBounds_toArray, List.set_cons_zero, List.set_cons_succ]))
      (refine wpAnyH_take (i := 3) (oi := ?ox3) (v := ?vx3) ?hix3 ?k1x3 ?k2x3 ?k3x3 ?hQx3 ?hYx3 ?hSx3 ?restx3; (case hix3 => (simp only [List.getElem?_toArray, List.getElem?_cons_succ, List.getElem?_cons_zero]; exact rfl)); (case k1x3 => kernel_rfl); (case k2x3 => kernel_rfl); (case k3x3 => kernel_rfl); (case hSx3 => assumption); (case hYx3 => (refine Or.inl ⟨rfl, ?hyx3⟩; intro w hSw; (try dsimp only at hSw); go_simp; (try with_reducible rfl))); (case hQx3 => exact (fun _ _ _ h => h)); (try simp only [Act.put, List.setIfInBounds_toArray, List.set_cons_zero, List.set_cons_succ]))
      refine wpAnyH_ready (rs := [1, 4]) (by kernel_rfl) (by simp) ?_
      refine AllReadyH.cons (o := ?o0x4) ?hi0x4 (fun K hK => ?_) (AllReadyH.cons (o := ?o1x4) ?hi1x4 (fun K hK => ?_) AllReadyH.nil)
      (case hi0x4 => (simp only [List.getElem?_toArray, List.getElem?_cons_succ, List.getElem?_cons_zero]; exact rfl))
      (case hi1x4 => (simp only [List.getElem?_toArray, List.getElem?_cons_succ, List.getElem?_cons_zero]; exact rfl))
      · skip
        go_simp
        refine hK.out _ _ (by (try dsimp only) <;> (trivial)) (fun hHeld => ?_)
        clear hK K
        (try simp only [Act.put, List.setIfInBounds_toArray, List.set_cons_zero, List.set_cons_succ])
        refine wpAnyH_ready (rs := [4]) (by kernel_rfl) (by simp) ?_
        refine AllReadyH.cons (o := ?o0x5) ?hi0x5 (fun K hK => ?_) AllReadyH.nil
        (case hi0x5 => (simp only [List.getElem?_toArray, List.getElem?_cons_succ, List.getElem?_cons_zero]; exact rfl))
        go_simp
        refine hK.out _ _ (by (try dsimp only) <;> (trivial)) (fun hHeld => ?_)
        clear hK K
        (try simp only [Act.put, List.setIfInBounds_toArray, List.set_cons_zero, List.set_cons_succ])
        refine wpAnyH_ready (rs := [5]) (by kernel_rfl) (by simp) ?_
        refine AllReadyH.cons (o := ?o0x6) ?hi0x6 (fun K hK => ?_) AllReadyH.nil
        (case hi0x6 => (simp only [List.getElem?_toArray, List.getElem?_cons_succ, List.getElem?_cons_zero]; exact rfl))
        go_simp
        (go_at_call 54; refine (HLO.out _).mono ?_; rintro e w2 ⟨rfl, hb2⟩; have HB2w := Lib.hid (HW1.out.trans (hb2.mono HW1.out.size)); have HO2 := Lib.hid (own_mono HO.out HB2w.out); have HX2 := Lib.hid (HB1.out.below HB2w.out (by omega)); have c52 := HX2.out.cell 5; simp at c52; have hlt2 : w.heap.size + 1 + 1 < w2.heap.size := Nat.lt_of_lt_of_le hlt5 HB2w.out.size; have hne2 : ¬ (w.heap.size + 1 + 1 = w2.heap.size) := Nat.ne_of_lt hlt2)
        (try go_wp2_with fail)
        refine hK.out _ _ (by (try dsimp only) <;> (trivial)) (fun hHeld => ?_)
        clear hK K
        (try simp only [Act.put, List.setIfInBounds_toArray, List.set_cons_zero, List.set_cons_succ])
        refine wpAnyH_ready (rs := [6]) (by kernel_rfl) (by simp) ?_
        refine AllReadyH.cons (o := ?o0x7) ?hi0x7 (fun K hK => ?_) AllReadyH.nil
        (case hi0x7 => (simp only [List.getElem?_toArray, List.getElem?_cons_succ, List.getElem?_cons_zero]; exact rfl))
        go_simp
        refine hK.out _ _ (by (try dsimp only) <;> (trivial)) (fun hHeld => ?_)
        clear hK K
        (try simp only [Act.put, List.setIfInBounds_toArray, List.set_cons_zero, List.set_cons_succ])
        refine wpAnyH_ready (rs := [7]) (by kernel_rfl) (by simp) ?_
        refine AllReadyH.cons (o := ?o0x8) ?hi0x8 (fun K hK => ?_) AllReadyH.nil
        (case hi0x8 => (simp only [List.getElem?_toArray, List.getElem?_cons_succ, List.getElem?_cons_zero]; exact rfl))
        (refine step_append_lies _ (by rfl) _ _ _ (by rfl) (w.heap.size + 1 + 1 + 1) 3 i0 _ 1 8 Try.underlying39 HI.out HZ0.out HZ1.out HZ2.out rfl (by omega) _ k ((T.take k).flatMap enc1) (by rfl) (HO2.out.alloc _) ⟨w2.heap.size, 0, none⟩ 1 1 [.int .i64 x.lo] (by rfl) (by rfl) (World.news_of_block (cs := #[.int .i64 x.lo]) (t := 3) (fr := (0, 0)) (heap_alloc_new w2 _)) (by simp [Value.oneCell']) (by omega) (by unfold maxLen; omega) (by omega) (by have := HB2w.out.size; simp; omega) (w2.heap.size + 1) (by simp) ?_; intro gg cap w3 hown3 hgrow hat hlt3; have hX3 := (HX2.out.alloc _).grown hgrow (fun e => own_ge HO2.out (by omega : w.heap.size + 1 + 1 < w.heap.size + 1 + 1 + 1) e); have c53 := hX3.cell 5; have f53 := hX3.frozen 5; simp at c53)
        refine hK.out _ _ (by (try dsimp only) <;> (trivial)) (fun hHeld => ?_)
        clear hK K
        (try simp only [Act.put, List.setIfInBounds_toArray, List.set_cons_zero, List.set_cons_succ])
        (refine wpAnyH_take (i := 8) (oi := ?ox9) (v := ?vx9) ?hix9 ?k1x9 ?k2x9 ?k3x9 ?hQx9 ?hYx9 ?hSx9 ?restx9; (case hix9 => (simp only [List.getElem?_toArray, List.getElem?_cons_succ, List.getElem?_cons_zero]; exact rfl)); (case k1x9 => kernel_rfl); (case k2x9 => kernel_rfl); (case k3x9 => kernel_rfl); (case hSx9 => assumption); (case hYx9 => (refine Or.inl ⟨rfl, ?hyx9⟩; intro w hSw; (try dsimp only at hSw); go_simp; (try with_reducible rfl))); (case hQx9 => exact (fun _ _ _ h => h)); (try simp only [Act.put, List.setIfInBounds_toArray, List.set_cons_zero, List.set_cons_succ]))
        refine wpAnyH_ready (rs := [9]) (by kernel_rfl) (by simp) ?_
        refine AllReadyH.cons (o := ?o0x10) ?hi0x10 (fun K hK => ?_) AllReadyH.nil
        (case hi0x10 => (simp only [List.getElem?_toArray, List.getElem?_cons_succ, List.getElem?_cons_zero]; exact rfl))
        go_simp
        refine hK.out _ _ (by (try dsimp only) <;> (trivial)) (fun hHeld => ?_)
        clear hK K
        (try simp only [Act.put, List.setIfInBounds_toArray, List.set_cons_zero, List.set_cons_succ])
        (try refine wpAnyH_done (by kernel_rfl) ?_ _)
        have hg2 : w.heap.size + 1 + 1 + 1 ≤ w2.heap.size := by have := HB2w.out.size; omega
        have hown4 := hown3.kept (only_setCell (World.grownBy.refl w3 (some (w.heap.size + 1 + 1))) (p := ⟨w.heap.size + 1 + 1, 5, none⟩) (.inl rfl) (.slice (some ⟨gg, 0, none⟩) (k + 1) cap)) (.inr (own_ge hown3 (by omega : w.heap.size + 1 + 1 < w.heap.size + 1 + 1 + 1)).symm)
        have hcap : k + 1 ≤ cap := by
          obtain ⟨A9, c9, e9, h9⟩ := own_form hown3
          injection e9 with e1 e2 e3
          omega
        have hR3 := (((HB2.out.below HB2w.out (by omega)).alloc (.cells #[.int .i64 x.lo] 3)).grown hgrow (fun e => own_ge HO2.out (by omega : w.heap.size + 1 < w.heap.size + 1 + 1 + 1) e)).far (p := ⟨w.heap.size + 1 + 1, 5, none⟩) (by simp) (.slice (some ⟨gg, 0, none⟩) (k + 1) cap)
        have hX4 := hX3.set_ 5 (.slice (some ⟨gg, 0, none⟩) (k + 1) cap)
        have hbl : Below w.heap.size w w3 := ((below_tr HB.out HB2w.out).alloc (Nat.le_trans hszr HB2w.out.size) _).grown hgrow (by simp; omega) (fun g hg => by have := (HO2.out.lt g hg).1; omega)
        have hsz3 : w.heap.size + 1 + 1 + 1 ≤ w3.heap.size := by have := hgrow.size; simp at this; omega
        have HO4 := Lib.hid hown4; have HC := Lib.hid hcap; have HR3 := Lib.hid hR3; have HX4 := Lib.hid hX4; have HBL := Lib.hid hbl
        clear hown3 hown4 hgrow hat hX3 hR3 hX4 hbl c53 f53 c52 c5 f5
        go_wp2_with fail
        go_roundw
        case rel =>
          refine ⟨k + 1, some ⟨gg, 0, none⟩, cap, by omega, by go_num, HC.out, ?_, HX4.out, HR3.out, HBL.out.setCell (by simp; omega) _, by simp; omega⟩
          rw [HTK.out, List.flatMap_append]
          exact HO4.out
        case measure => simp [intOf]; omega
      · skip
        go_simp
        refine hK.out _ _ (by (try dsimp only) <;> (trivial)) (fun hHeld => ?_)
        clear hK K
        (try simp only [Act.put, List.setIfInBounds_toArray, List.set_cons_zero, List.set_cons_succ])
        refine wpAnyH_ready (rs := [1, 5]) (by kernel_rfl) (by simp) ?_
        refine AllReadyH.cons (o := ?o0x11) ?hi0x11 (fun K hK => ?_) (AllReadyH.cons (o := ?o1x11) ?hi1x11 (fun K hK => ?_) AllReadyH.nil)
        (case hi0x11 => (simp only [List.getElem?_toArray, List.getElem?_cons_succ, List.getElem?_cons_zero]; exact rfl))
        (case hi1x11 => (simp only [List.getElem?_toArray, List.getElem?_cons_succ, List.getElem?_cons_zero]; exact rfl))
        · skip
          go_simp
          refine hK.out _ _ (by (try dsimp only) <;> (trivial)) (fun hHeld => ?_)
          clear hK K
          (try simp only [Act.put, List.setIfInBounds_toArray, List.set_cons_zero, List.set_cons_succ])
          refine wpAnyH_ready (rs := [5]) (by kernel_rfl) (by simp) ?_
          refine AllReadyH.cons (o := ?o0x12) ?hi0x12 (fun K hK => ?_) AllReadyH.nil
          (case hi0x12 => (simp only [List.getElem?_toArray, List.getElem?_cons_succ, List.getElem?_cons_zero]; exact rfl))
          go_simp
          (go_at_call 54; refine (HLO.out _).mono ?_; rintro e w2 ⟨rfl, hb2⟩; have HB2w := Lib.hid (HW1.out.trans (hb2.mono HW1.out.size)); have HO2 := Lib.hid (own_mono HO.out HB2w.out); have HX2 := Lib.hid (HB1.out.below HB2w.out (by omega)); have c52 := HX2.out.cell 5; simp at c52; have hlt2 : w.heap.size + 1 + 1 < w2.heap.size := Nat.lt_of_lt_of_le hlt5 HB2w.out.size; have hne2 : ¬ (w.heap.size + 1 + 1 = w2.heap.size) := Nat.ne_of_lt hlt2)
          (try go_wp2_with fail)
          refine hK.out _ _ (by (try dsimp only) <;> (trivial)) (fun hHeld => ?_)
          clear hK K
          (try simp only [Act.put, List.setIfInBounds_toArray, List.set_cons_zero, List.set_cons_succ])
          refine wpAnyH_ready (rs := [6]) (by kernel_rfl) (by simp) ?_
          refine AllReadyH.cons (o := ?o0x13) ?hi0x13 (fun K hK => ?_) AllReadyH.nil
          (case hi0x13 => (simp only [List.getElem?_toArray, List.getElem?_cons_succ, List.getElem?_cons_zero]; exact rfl))
          go_simp
          refine hK.out _ _ (by (try dsimp only) <;> (trivial)) (fun hHeld => ?_)
          clear hK K
          (try simp only [Act.put, List.setIfInBounds_toArray, List.set_cons_zero, List.set_cons_succ])
          refine wpAnyH_ready (rs := [7]) (by kernel_rfl) (by simp) ?_
          refine AllReadyH.cons (o := ?o0x14) ?hi0x14 (fun K hK => ?_) AllReadyH.nil
          (case hi0x14 => (simp only [List.getElem?_toArray, List.getElem?_cons_succ, List.getElem?_cons_zero]; exact rfl))
          (refine step_append_lies _ (by rfl) _ _ _ (by rfl) (w.heap.size + 1 + 1 + 1) 3 i0 _ 1 8 Try.underlying39 HI.out HZ0.out HZ1.out HZ2.out rfl (by omega) _ k ((T.take k).flatMap enc1) (by rfl) (HO2.out.alloc _) ⟨w2.heap.size, 0, none⟩ 1 1 [.int .i64 x.lo] (by rfl) (by rfl) (World.news_of_block (cs := #[.int .i64 x.lo]) (t := 3) (fr := (0, 0)) (heap_alloc_new w2 _)) (by simp [Value.oneCell']) (by omega) (by unfold maxLen; omega) (by omega) (by have := HB2w.out.size; simp; omega) (w2.heap.size + 1) (by simp) ?_; intro gg cap w3 hown3 hgrow hat hlt3; have hX3 := (HX2.out.alloc _).grown hgrow (fun e => own_ge HO2.out (by omega : w.heap.size + 1 + 1 < w.heap.size + 1 + 1 + 1) e); have c53 := hX3.cell 5; have f53 := hX3.frozen 5; simp at c53)
          refine hK.out _ _ (by (try dsimp only) <;> (trivial)) (fun hHeld => ?_)
          clear hK K
          (try simp only [Act.put, List.setIfInBounds_toArray, List.set_cons_zero, List.set_cons_succ])
          (refine wpAnyH_take (i := 8) (oi := ?ox15) (v := ?vx15) ?hix15 ?k1x15 ?k2x15 ?k3x15 ?hQx15 ?hYx15 ?hSx15 ?restx15; (case hix15 => (simp only [List.getElem?_toArray, List.getElem?_cons_succ, List.getElem?_cons_zero]; exact rfl)); (case k1x15 => kernel_rfl); (case k2x15 => kernel_rfl); (case k3x15 => kernel_rfl); (case hSx15 => assumption); (case hYx15 => (refine Or.inl ⟨rfl, ?hyx15⟩; intro w hSw; (try dsimp only at hSw); go_simp; (try with_reducible rfl))); (case hQx15 => exact (fun _ _ _ h => h)); (try simp only [Act.put, List.setIfInBounds_toArray, List.set_cons_zero, List.set_cons_succ]))
          refine wpAnyH_ready (rs := [9]) (by kernel_rfl) (by simp) ?_
          refine AllReadyH.cons (o := ?o0x16) ?hi0x16 (fun K hK => ?_) AllReadyH.nil
          (case hi0x16 => (simp only [List.getElem?_toArray, List.getElem?_cons_succ, List.getElem?_cons_zero]; exact rfl))
          go_simp
          refine hK.out _ _ (by (try dsimp only) <;> (trivial)) (fun hHeld => ?_)
          clear hK K
          (try simp only [Act.put, List.setIfInBounds_toArray, List.set_cons_zero, List.set_cons_succ])
          (try refine wpAnyH_done (by kernel_rfl) ?_ _)
          have hg2 : w.heap.size + 1 + 1 + 1 ≤ w2.heap.size := by have := HB2w.out.size; omega
          have hown4 := hown3.kept (only_setCell (World.grownBy.refl w3 (some (w.heap.size + 1 + 1))) (p := ⟨w.heap.size + 1 + 1, 5, none⟩) (.inl rfl) (.slice (some ⟨gg, 0, none⟩) (k + 1) cap)) (.inr (own_ge hown3 (by omega : w.heap.size + 1 + 1 < w.heap.size + 1 + 1 + 1)).symm)
          have hcap : k + 1 ≤ cap := by
            obtain ⟨A9, c9, e9, h9⟩ := own_form hown3
            injection e9 with e1 e2 e3
            omega
          have hR3 := (((HB2.out.below HB2w.out (by omega)).alloc (.cells #[.int .i64 x.lo] 3)).grown hgrow (fun e => own_ge HO2.out (by omega : w.heap.size + 1 < w.heap.size + 1 + 1 + 1) e)).far (p := ⟨w.heap.size + 1 + 1, 5, none⟩) (by simp) (.slice (some ⟨gg, 0, none⟩) (k + 1) cap)
          have hX4 := hX3.set_ 5 (.slice (some ⟨gg, 0, none⟩) (k + 1) cap)
          have hbl : Below w.heap.size w w3 := ((below_tr HB.out HB2w.out).alloc (Nat.le_trans hszr HB2w.out.size) _).grown hgrow (by simp; omega) (fun g hg => by have := (HO2.out.lt g hg).1; omega)
          have hsz3 : w.heap.size + 1 + 1 + 1 ≤ w3.heap.size := by have := hgrow.size; simp at this; omega
          have HO4 := Lib.hid hown4; have HC := Lib.hid hcap; have HR3 := Lib.hid hR3; have HX4 := Lib.hid hX4; have HBL := Lib.hid hbl
          clear hown3 hown4 hgrow hat hX3 hR3 hX4 hbl c53 f53 c52 c5 f5
          go_wp2_with fail
          go_roundw
          case rel =>
            refine ⟨k + 1, some ⟨gg, 0, none⟩, cap, by omega, by go_num, HC.out, ?_, HX4.out, HR3.out, HBL.out.setCell (by simp; omega) _, by simp; omega⟩
            rw [HTK.out, List.flatMap_append]
            exact HO4.out
          case measure => simp [intOf]; omega
        · skip
          go_simp
          (go_at_call 54; refine (HLO.out _).mono ?_; rintro e w2 ⟨rfl, hb2⟩; have HB2w := Lib.hid (HW1.out.trans (hb2.mono HW1.out.size)); have HO2 := Lib.hid (own_mono HO.out HB2w.out); have HX2 := Lib.hid (HB1.out.below HB2w.out (by omega)); have c52 := HX2.out.cell 5; simp at c52; have hlt2 : w.heap.size + 1 + 1 < w2.heap.size := Nat.lt_of_lt_of_le hlt5 HB2w.out.size; have hne2 : ¬ (w.heap.size + 1 + 1 = w2.heap.size) := Nat.ne_of_lt hlt2)
          (try go_wp2_with fail)
          refine hK.out _ _ (by (try dsimp only) <;> (trivial)) (fun hHeld => ?_)
          clear hK K
          (try simp only [Act.put, List.setIfInBounds_toArray, List.set_cons_zero, List.set_cons_succ])
          refine wpAnyH_ready (rs := [1, 6]) (by kernel_rfl) (by simp) ?_
          refine AllReadyH.cons (o := ?o0x17) ?hi0x17 (fun K hK => ?_) (AllReadyH.cons (o := ?o1x17) ?hi1x17 (fun K hK => ?_) AllReadyH.nil)
          (case hi0x17 => (simp only [List.getElem?_toArray, List.getElem?_cons_succ, List.getElem?_cons_zero]; exact rfl))
          (case hi1x17 => (simp only [List.getElem?_toArray, List.getElem?_cons_succ, List.getElem?_cons_zero]; exact rfl))
          · skip
            go_simp
            refine hK.out _ _ (by (try dsimp only) <;> (trivial)) (fun hHeld => ?_)
            clear hK K
            (try simp only [Act.put, List.setIfInBounds_toArray, List.set_cons_zero, List.set_cons_succ])
            refine wpAnyH_ready (rs := [6]) (by kernel_rfl) (by simp) ?_
            refine AllReadyH.cons (o := ?o0x18) ?hi0x18 (fun K hK => ?_) AllReadyH.nil
            (case hi0x18 => (simp only [List.getElem?_toArray, List.getElem?_cons_succ, List.getElem?_cons_zero]; exact rfl))
            go_simp
            refine hK.out _ _ (by (try dsimp only) <;> (trivial)) (fun hHeld => ?_)
            clear hK K
            (try simp only [Act.put, List.setIfInBounds_toArray, List.set_cons_zero, List.set_cons_succ])
            refine wpAnyH_ready (rs := [7]) (by kernel_rfl) (by simp) ?_
            refine AllReadyH.cons (o := ?o0x19) ?hi0x19 (fun K hK => ?_) AllReadyH.nil
            (case hi0x19 => (simp only [List.getElem?_toArray, List.getElem?_cons_succ, List.getElem?_cons_zero]; exact rfl))
            (refine step_append_lies _ (by rfl) _ _ _ (by rfl) (w.heap.size + 1 + 1 + 1) 3 i0 _ 1 8 Try.underlying39 HI.out HZ0.out HZ1.out HZ2.out rfl (by omega) _ k ((T.take k).flatMap enc1) (by rfl) (HO2.out.alloc _) ⟨w2.heap.size, 0, none⟩ 1 1 [.int .i64 x.lo] (by rfl) (by rfl) (World.news_of_block (cs := #[.int .i64 x.lo]) (t := 3) (fr := (0, 0)) (heap_alloc_new w2 _)) (by simp [Value.oneCell']) (by omega) (by unfold maxLen; omega) (by omega) (by have := HB2w.out.size; simp; omega) (w2.heap.size + 1) (by simp) ?_; intro gg cap w3 hown3 hgrow hat hlt3; have hX3 := (HX2.out.alloc _).grown hgrow (fun e => own_ge HO2.out (by omega : w.heap.size + 1 + 1 < w.heap.size + 1 + 1 + 1) e); have c53 := hX3.cell 5; have f53 := hX3.frozen 5; simp at c53)
            refine hK.out _ _ (by (try dsimp only) <;> (trivial)) (fun hHeld => ?_)
            clear hK K
            (try simp only [Act.put, List.setIfInBounds_toArray, List.set_cons_zero, List.set_cons_succ])
            (refine wpAnyH_take (i := 8) (oi := ?ox20) (v := ?vx20) ?hix20 ?k1x20 ?k2x20 ?k3x20 ?hQx20 ?hYx20 ?hSx20 ?restx20; (case hix20 => (simp only [List.getElem?_toArray, List.getElem?_cons_succ, List.getElem?_cons_zero]; exact rfl)); (case k1x20 => kernel_rfl); (case k2x20 => kernel_rfl); (case k3x20 => kernel_rfl); (case hSx20 => assumption); (case hYx20 => (refine Or.inl ⟨rfl, ?hyx20⟩; intro w hSw; (try dsimp only at hSw); go_simp; (try with_reducible rfl))); (case hQx20 => exact (fun _ _ _ h => h)); (try simp only [Act.put, List.setIfInBounds_toArray, List.set_cons_zero, List.set_cons_succ]))
            refine wpAnyH_ready (rs := [9]) (by kernel_rfl) (by simp) ?_
            refine AllReadyH.cons (o := ?o0x21) ?hi0x21 (fun K hK => ?_) AllReadyH.nil
            (case hi0x21 => (simp only [List.getElem?_toArray, List.getElem?_cons_succ, List.getElem?_cons_zero]; exact rfl))
            go_simp
            refine hK.out _ _ (by (try dsimp only) <;> (trivial)) (fun hHeld => ?_)
            clear hK K
            (try simp only [Act.put, List.setIfInBounds_toArray, List.set_cons_zero, List.set_cons_succ])
            (try refine wpAnyH_done (by kernel_rfl) ?_ _)
            have hg2 : w.heap.size + 1 + 1 + 1 ≤ w2.heap.size := by have := HB2w.out.size; omega
            have hown4 := hown3.kept (only_setCell (World.grownBy.refl w3 (some (w.heap.size + 1 + 1))) (p := ⟨w.heap.size + 1 + 1, 5, none⟩) (.inl rfl) (.slice (some ⟨gg, 0, none⟩) (k + 1) cap)) (.inr (own_ge hown3 (by omega : w.heap.size + 1 + 1 < w.heap.size + 1 + 1 + 1)).symm)
            have hcap : k + 1 ≤ cap := by
              obtain ⟨A9, c9, e9, h9⟩ := own_form hown3
              injection e9 with e1 e2 e3
              omega
            have hR3 := (((HB2.out.below HB2w.out (by omega)).alloc (.cells #[.int .i64 x.lo] 3)).grown hgrow (fun e => own_ge HO2.out (by omega : w.heap.size + 1 < w.heap.size + 1 + 1 + 1) e)).far (p := ⟨w.heap.size + 1 + 1, 5, none⟩) (by simp) (.slice (some ⟨gg, 0, none⟩) (k + 1) cap)
            have hX4 := hX3.set_ 5 (.slice (some ⟨gg, 0, none⟩) (k + 1) cap)
            have hbl : Below w.heap.size w w3 := ((below_tr HB.out HB2w.out).alloc (Nat.le_trans hszr HB2w.out.size) _).grown hgrow (by simp; omega) (fun g hg => by have := (HO2.out.lt g hg).1; omega)
            have hsz3 : w.heap.size + 1 + 1 + 1 ≤ w3.heap.size := by have := hgrow.size; simp at this; omega
            have HO4 := Lib.hid hown4; have HC := Lib.hid hcap; have HR3 := Lib.hid hR3; have HX4 := Lib.hid hX4; have HBL := Lib.hid hbl
            clear hown3 hown4 hgrow hat hX3 hR3 hX4 hbl c53 f53 c52 c5 f5
            go_wp2_with fail
            go_roundw
            case rel =>
              refine ⟨k + 1, some ⟨gg, 0, none⟩, cap, by omega, by go_num, HC.out, ?_, HX4.out, HR3.out, HBL.out.setCell (by simp; omega) _, by simp; omega⟩
              rw [HTK.out, List.flatMap_append]
              exact HO4.out
            case measure => simp [intOf]; omega
          · skip
            go_simp
            refine hK.out _ _ (by (try dsimp only) <;> (trivial)) (fun hHeld => ?_)
            clear hK K
            (try simp only [Act.put, List.setIfInBounds_toArray, List.set_cons_zero, List.set_cons_succ])
            refine wpAnyH_ready (rs := [1]) (by kernel_rfl) (by simp) ?_
            refine AllReadyH.cons (o := ?o0x22) ?hi0x22 (fun K hK => ?_) AllReadyH.nil
            (case hi0x22 => (simp only [List.getElem?_toArray, List.getElem?_cons_succ, List.getElem?_cons_zero]; exact rfl))
            go_simp
            refine hK.out _ _ (by (try dsimp only) <;> (trivial)) (fun hHeld => ?_)
            clear hK K
            (try simp only [Act.put, List.setIfInBounds_toArray, List.set_cons_zero, List.set_cons_succ])
            refine wpAnyH_ready (rs := [7]) (by kernel_rfl) (by simp) ?_
            refine AllReadyH.cons (o := ?o0x23) ?hi0x23 (fun K hK => ?_) AllReadyH.nil
            (case hi0x23 => (simp only [List.getElem?_toArray, List.getElem?_cons_succ, List.getElem?_cons_zero]; exact rfl))
            (refine step_append_lies _ (by rfl) _ _ _ (by rfl) (w.heap.size + 1 + 1 + 1) 3 i0 _ 1 8 Try.underlying39 HI.out HZ0.out HZ1.out HZ2.out rfl (by omega) _ k ((T.take k).flatMap enc1) (by rfl) (HO2.out.alloc _) ⟨w2.heap.size, 0, none⟩ 1 1 [.int .i64 x.lo] (by rfl) (by rfl) (World.news_of_block (cs := #[.int .i64 x.lo]) (t := 3) (fr := (0, 0)) (heap_alloc_new w2 _)) (by simp [Value.oneCell']) (by omega) (by unfold maxLen; omega) (by omega) (by have := HB2w.out.size; simp; omega) (w2.heap.size + 1) (by simp) ?_; intro gg cap w3 hown3 hgrow hat hlt3; have hX3 := (HX2.out.alloc _).grown hgrow (fun e => own_ge HO2.out (by omega : w.heap.size + 1 + 1 < w.heap.size + 1 + 1 + 1) e); have c53 := hX3.cell 5; have f53 := hX3.frozen 5; simp at c53)
            refine hK.out _ _ (by (try dsimp only) <;> (trivial)) (fun hHeld => ?_)
            clear hK K
            (try simp only [Act.put, List.setIfInBounds_toArray, List.set_cons_zero, List.set_cons_succ])
            (refine wpAnyH_take (i := 8) (oi := ?ox24) (v := ?vx24) ?hix24 ?k1x24 ?k2x24 ?k3x24 ?hQx24 ?hYx24 ?hSx24 ?restx24; (case hix24 => (simp only [List.getElem?_toArray, List.getElem?_cons_succ, List.getElem?_cons_zero]; exact rfl)); (case k1x24 => kernel_rfl); (case k2x24 => kernel_rfl); (case k3x24 => kernel_rfl); (case hSx24 => assumption); (case hYx24 => (refine Or.inl ⟨rfl, ?hyx24⟩; intro w hSw; (try dsimp only at hSw); go_simp; (try with_reducible rfl))); (case hQx24 => exact (fun _ _ _ h => h)); (try simp only [Act.put, List.setIfInBounds_toArray, List.set_cons_zero, List.set_cons_succ]))
            refine wpAnyH_ready (rs := [9]) (by kernel_rfl) (by simp) ?_
            refine AllReadyH.cons (o := ?o0x25) ?hi0x25 (fun K hK => ?_) AllReadyH.nil
            (case hi0x25 => (simp only [List.getElem?_toArray, List.getElem?_cons_succ, List.getElem?_cons_zero]; exact rfl))
            go_simp
            refine hK.out _ _ (by (try dsimp only) <;> (trivial)) (fun hHeld => ?_)
            clear hK K
            (try simp only [Act.put, List.setIfInBounds_toArray, List.set_cons_zero, List.set_cons_succ])
            (try refine wpAnyH_done (by kernel_rfl) ?_ _)
            have hg2 : w.heap.size + 1 + 1 + 1 ≤ w2.heap.size := by have := HB2w.out.size; omega
            have hown4 := hown3.kept (only_setCell (World.grownBy.refl w3 (some (w.heap.size + 1 + 1))) (p := ⟨w.heap.size + 1 + 1, 5, none⟩) (.inl rfl) (.slice (some ⟨gg, 0, none⟩) (k + 1) cap)) (.inr (own_ge hown3 (by omega : w.heap.size + 1 + 1 < w.heap.size + 1 + 1 + 1)).symm)
            have hcap : k + 1 ≤ cap := by
              obtain ⟨A9, c9, e9, h9⟩ := own_form hown3
              injection e9 with e1 e2 e3
              omega
            have hR3 := (((HB2.out.below HB2w.out (by omega)).alloc (.cells #[.int .i64 x.lo] 3)).grown hgrow (fun e => own_ge HO2.out (by omega : w.heap.size + 1 < w.heap.size + 1 + 1 + 1) e)).far (p := ⟨w.heap.size + 1 + 1, 5, none⟩) (by simp) (.slice (some ⟨gg, 0, none⟩) (k + 1) cap)
            have hX4 := hX3.set_ 5 (.slice (some ⟨gg, 0, none⟩) (k + 1) cap)
            have hbl : Below w.heap.size w w3 := ((below_tr HB.out HB2w.out).alloc (Nat.le_trans hszr HB2w.out.size) _).grown hgrow (by simp; omega) (fun g hg => by have := (HO2.out.lt g hg).1; omega)
            have hsz3 : w.heap.size + 1 + 1 + 1 ≤ w3.heap.size := by have := hgrow.size; simp at this; omega
            have HO4 := Lib.hid hown4; have HC := Lib.hid hcap; have HR3 := Lib.hid hR3; have HX4 := Lib.hid hX4; have HBL := Lib.hid hbl
            clear hown3 hown4 hgrow hat hX3 hR3 hX4 hbl c53 f53 c52 c5 f5
            go_wp2_with fail
            go_roundw
            case rel =>
              refine ⟨k + 1, some ⟨gg, 0, none⟩, cap, by omega, by go_num, HC.out, ?_, HX4.out, HR3.out, HBL.out.setCell (by simp; omega) _, by simp; omega⟩
              rw [HTK.out, List.flatMap_append]
              exact HO4.out
            case measure => simp [intOf]; omega
    · obtain rfl : k = sn := by omega
      have c0 := hb1.cell 0; have c1 := hb1.cell 1; have c2 := hb1.cell 2; have c3 := hb1.cell 3; have c4 := hb1.cell 4; have c5 := hb1.cell 5
      have r0 := HB2.out.cell 0; have r1 := HB2.out.cell 1; have r2 := HB2.out.cell 2; have r3 := HB2.out.cell 3; have r4 := HB2.out.cell 4; have r5 := HB2.out.cell 5
      have g0 := HB2.out.frozen 0; have g1 := HB2.out.frozen 1; have g2 := HB2.out.frozen 2; have g3 := HB2.out.frozen 3; have g4 := HB2.out.frozen 4; have g5 := HB2.out.frozen 5
      simp at c0 c1 c2 c3 c4 c5 r0 r1 r2 r3 r4 r5
      clear hb hb1
      have HO5 := HO.out
      rw [List.take_of_length_le (by rw [HTL.out]; exact Nat.le_refl _)] at HO5
      have HO6 := Lib.hid HO5; clear HO5
      go_wp2_with fail
      refine bodyPost_ret (v := .agg #[.slice PA pn pc, .slice SA k sc, .int .i64 s0, .int .i64 s1, .int .i64 s2, .slice tA k tc]) ?_ rfl ⟨tA, tc, rfl, htc, ?_, ?_⟩
      · simp [results, Try.f53, go_sem, r0, r1, r2, r3, r4, r5]
      · exact Rd.of_own enc1_len (HO6.out.kept (row := some (w.heap.size + 1)) (by repeat (first | with_reducible exact World.grownBy.refl _ _ | with_reducible refine only_setCell ?_ (.inl rfl) _)) (.inr (own_ge HO6.out (by omega : w.heap.size + 1 < w.heap.size + 1 + 1 + 1)).symm)) HTL.out
      · repeat (first | with_reducible exact HB.out | with_reducible refine Below.setCell ?_ (Nat.le_succ _) _)

set_option maxRecDepth 100000 in
set_option maxHeartbeats 2000000 in
theorem end_high_c {v : Vly} {PA SA : Option Addr} {pn pc sn sc : Nat} {w : World} (h : RdV w PA pn SA sn v) (hsn : sn ≤ 1000000) :
    Calls Try.prog 53 #[.agg #[.slice PA pn pc, .slice SA sn sc, .int .i64 v.s0, .int .i64 v.s1, .int .i64 v.s2], .func (.func 56) #[] #[]] w
      fun e w' => ∃ TA tc, e = .returned (.agg #[.slice PA pn pc, .slice SA sn sc, .int .i64 v.s0, .int .i64 v.s1, .int .i64 v.s2, .slice TA sn tc]) ∧ sn ≤ tc ∧ Rd enc1 1 w' TA sn (endsT v true) ∧ Below w.heap.size w w' := by
  have HLS := Lib.hid h.sls.len
  have HV := Lib.hid h
  have HT := Lib.hid (fun k s => @endsT_take v true k s)
  obtain ⟨T, hT⟩ : ∃ T, T = endsT v true := ⟨_, rfl⟩
  have HTL := Lib.hid (show T.length = sn by rw [hT, endsT_len, h.sls.len])
  rw [← hT] at HT ⊢
  simp only [Bool.false_eq_true, if_false, if_true] at HT
  clear h hT
  obtain ⟨pars, sls, s0, s1, s2⟩ := v
  simp only at HT HLS ⊢
  go_enter Try.func53, Try.ntmps53
  go_wp2_with fail
  go_loopw [13] (fun i wr => ∃ (k : Nat) (tA : Option Addr) (tc : Nat), k ≤ sn ∧ i = .int .i64 k ∧ k ≤ tc ∧ wr.ownsRow (w.heap.size + 1 + 1 + 1) 3 1 (.slice tA k tc) k ((T.take k).flatMap enc1) ∧
      Blk wr (w.heap.size + 1 + 1) 105 #[.slice PA pn pc, .slice SA sn sc, .int .i64 s0, .int .i64 s1, .int .i64 s2, .slice tA k tc] ∧ Blk wr (w.heap.size + 1) 105 #[.slice none 0 0, .slice none 0 0, .int .i64 0, .int .i64 0, .int .i64 0, .slice none 0 0] ∧
      Below w.heap.size w wr ∧ w.heap.size + 1 + 1 + 1 ≤ wr.heap.size) (fun i _ => sn - (intOf i).toNat)
  case atStart =>
    obtain ⟨h1, h2, h3, h4⟩ := blk3l w #[.slice PA pn pc, .slice SA sn sc, .int .i64 s0, .int .i64 s1, .int .i64 s2] _ #[.slice PA pn pc, .slice SA sn sc, .int .i64 s0, .int .i64 s1, .int .i64 s2, .slice none 0 0] 36 105 105
    refine ⟨0, none, 0, Nat.zero_le _, rfl, Nat.le_refl _, World.ownsRow_nil _ _ _ _, h1, h3, h4, by simp⟩
  case round =>
    obtain ⟨k, tA, tc, hk, rfl, htc, hown, hb1, hb2, hb, hsz⟩ := hrel
    have HO := Lib.hid hown; have HB1 := Lib.hid hb1; have HB2 := Lib.hid hb2; have HB := Lib.hid hb
    clear hown hb2
    by_cases hlt : k < sn
    · obtain ⟨b, o, x, hA, hblt, hx, h0, h1, h2, h3⟩ := (HV.out.sls.below hb).atS hlt
      subst hA
      have HX := Lib.hid hx
      have HTK := Lib.hid (HT.out k x hx)
      have hi1 : (k : Int) < (sn : Int) := by omega
      have hi0 : (0 : Int) ≤ (k : Int) := by omega
      have hlo := fun W => high_c x.lo x.hi W
      have HLO := Lib.hid hlo
      have c5 := hb1.cell 5
      simp at c5
      have f5 := hb1.frozen 5
      clear hx hb hlo hb1
      have hszr := HB.out.size
      have hne5 : ¬ (w.heap.size + 1 + 1 = wr.heap.size) := by omega
      have hlt5 : w.heap.size + 1 + 1 < wr.heap.size := by omega
      obtain ⟨i0, hi0, hz0, hz1, hz2⟩ := info_parts infoInt
      have HI := Lib.hid hi0; have HZ0 := Lib.hid hz0; have HZ1 := Lib.hid hz1; have HZ2 := Lib.hid hz2
      clear hi0 hz0 hz1 hz2
      have W1 : Below wr.heap.size wr (wr.alloc (.cells #[.slice x.A x.n x.c, .int .i64 x.rate, .int .i64 x.lo, .int .i64 x.hi] 103)).drew := ((Below.refl _ wr).alloc (Nat.le_refl _) _).drew
      have HW1 := Lib.hid W1; clear W1
      go_wp2_with fail
      refine wp_region_held_drew (S := (fun _ => True)) (by kernel_rfl) (by (trivial)) (fun hHeld => ?_)
      (refine wpAnyH_take (i := 0) (oi := ?ox1) (v := ?vx1) ?hix1 ?k1x1 ?k2x1 ?k3x1 ?hQx1 ?hYx1 ?hSx1 ?restx1; (case hix1 => (simp only [List.getElem?_toArray, List.getElem?_cons_succ, List.getElem?_cons_zero]; exact rfl)); (case k1x1 => kernel_rfl); (case k2x1 => kernel_rfl); (case k3x1 => kernel_rfl); (case hSx1 => assumption); (case hYx1 => (refine Or.inl ⟨rfl, ?hyx1⟩; intro w hSw; (try dsimp only at hSw); go_simp; (try with_reducible rfl))); (case hQx1 => exact (fun _ _ _ h => h)); (try simp only [Act.put, List.setIfInBounds_toArray, List.set_cons_zero, List.set_cons_succ]))
      (refine wpAnyH_take (i := 2) (oi := ?ox2) (v := ?vx2) ?hix2 ?k1x2 ?k2x2 ?k3x2 ?hQx2 ?hYx2 ?hSx2 ?restx2; (case hix2 => (simp only [List.getElem?_toArray, List.getElem?_cons_succ, List.getElem?_cons_zero]; exact rfl)); (case k1x2 => kernel_rfl); (case k2x2 => kernel_rfl); (case k3x2 => kernel_rfl); (case hSx2 => assumption); (case hYx2 => (refine Or.inl ⟨rfl, ?hyx2⟩; intro w hSw; (try dsimp only at hSw); go_simp; (try with_reducible rfl))); (case hQx2 => exact (fun _ _ _ h => h)); (try simp only [Act.put, List.setIfInBounds_toArray, List.set_cons_zero, List.set_cons_succ]))
      (refine wpAnyH_take (i := 3) (oi := ?ox3) (v := ?vx3) ?hix3 ?k1x3 ?k2x3 ?k3x3 ?hQx3 ?hYx3 ?hSx3 ?restx3; (case hix3 => (simp only [List.getElem?_toArray, List.getElem?_cons_succ, List.getElem?_cons_zero]; exact rfl)); (case k1x3 => kernel_rfl); (case k2x3 => kernel_rfl); (case k3x3 => kernel_rfl); (case hSx3 => assumption); (case hYx3 => (refine Or.inl ⟨rfl, ?hyx3⟩; intro w hSw; (try dsimp only at hSw); go_simp; (try with_reducible rfl))); (case hQx3 => exact (fun _ _ _ h => h)); (try simp only [Act.put, List.setIfInBounds_toArray, List.set_cons_zero, List.set_cons_succ]))
      refine wpAnyH_ready (rs := [1, 4]) (by kernel_rfl) (by simp) ?_
      refine AllReadyH.cons (o := ?o0x4) ?hi0x4 (fun K hK => ?_) (AllReadyH.cons (o := ?o1x4) ?hi1x4 (fun K hK => ?_) AllReadyH.nil)
      (case hi0x4 => (simp only [List.getElem?_toArray, List.getElem?_cons_succ, List.getElem?_cons_zero]; exact rfl))
      (case hi1x4 => (simp only [List.getElem?_toArray, List.getElem?_cons_succ, List.getElem?_cons_zero]; exact rfl))
      · skip
        go_simp
        refine hK.out _ _ (by (try dsimp only) <;> (trivial)) (fun hHeld => ?_)
        clear hK K
        (try simp only [Act.put, List.setIfInBounds_toArray, List.set_cons_zero, List.set_cons_succ])
        refine wpAnyH_ready (rs := [4]) (by kernel_rfl) (by simp) ?_
        refine AllReadyH.cons (o := ?o0x5) ?hi0x5 (fun K hK => ?_) AllReadyH.nil
        (case hi0x5 => (simp only [List.getElem?_toArray, List.getElem?_cons_succ, List.getElem?_cons_zero]; exact rfl))
        go_simp
        refine hK.out _ _ (by (try dsimp only) <;> (trivial)) (fun hHeld => ?_)
        clear hK K
        (try simp only [Act.put, List.setIfInBounds_toArray, List.set_cons_zero, List.set_cons_succ])
        refine wpAnyH_ready (rs := [5]) (by kernel_rfl) (by simp) ?_
        refine AllReadyH.cons (o := ?o0x6) ?hi0x6 (fun K hK => ?_) AllReadyH.nil
        (case hi0x6 => (simp only [List.getElem?_toArray, List.getElem?_cons_succ, List.getElem?_cons_zero]; exact rfl))
        go_simp
        (go_at_call 56; refine (HLO.out _).mono ?_; rintro e w2 ⟨rfl, hb2⟩; have HB2w := Lib.hid (HW1.out.trans (hb2.mono HW1.out.size)); have HO2 := Lib.hid (own_mono HO.out HB2w.out); have HX2 := Lib.hid (HB1.out.below HB2w.out (by omega)); have c52 := HX2.out.cell 5; simp at c52; have hlt2 : w.heap.size + 1 + 1 < w2.heap.size := Nat.lt_of_lt_of_le hlt5 HB2w.out.size; have hne2 : ¬ (w.heap.size + 1 + 1 = w2.heap.size) := Nat.ne_of_lt hlt2)
        (try go_wp2_with fail)
        refine hK.out _ _ (by (try dsimp only) <;> (trivial)) (fun hHeld => ?_)
        clear hK K
        (try simp only [Act.put, List.setIfInBounds_toArray, List.set_cons_zero, List.set_cons_succ])
        refine wpAnyH_ready (rs := [6]) (by kernel_rfl) (by simp) ?_
        refine AllReadyH.cons (o := ?o0x7) ?hi0x7 (fun K hK => ?_) AllReadyH.nil
        (case hi0x7 => (simp only [List.getElem?_toArray, List.getElem?_cons_succ, List.getElem?_cons_zero]; exact rfl))
        go_simp
        refine hK.out _ _ (by (try dsimp only) <;> (trivial)) (fun hHeld => ?_)
        clear hK K
        (try simp only [Act.put, List.setIfInBounds_toArray, List.set_cons_zero, List.set_cons_succ])
        refine wpAnyH_ready (rs := [7]) (by kernel_rfl) (by simp) ?_
        refine AllReadyH.cons (o := ?o0x8) ?hi0x8 (fun K hK => ?_) AllReadyH.nil
        (case hi0x8 => (simp only [List.getElem?_toArray, List.getElem?_cons_succ, List.getElem?_cons_zero]; exact rfl))
        (refine step_append_lies _ (by rfl) _ _ _ (by rfl) (w.heap.size + 1 + 1 + 1) 3 i0 _ 1 8 Try.underlying39 HI.out HZ0.out HZ1.out HZ2.out rfl (by omega) _ k ((T.take k).flatMap enc1) (by rfl) (HO2.out.alloc _) ⟨w2.heap.size, 0, none⟩ 1 1 [.int .i64 x.hi] (by rfl) (by rfl) (World.news_of_block (cs := #[.int .i64 x.hi]) (t := 3) (fr := (0, 0)) (heap_alloc_new w2 _)) (by simp [Value.oneCell']) (by omega) (by unfold maxLen; omega) (by omega) (by have := HB2w.out.size; simp; omega) (w2.heap.size + 1) (by simp) ?_; intro gg cap w3 hown3 hgrow hat hlt3; have hX3 := (HX2.out.alloc _).grown hgrow (fun e => own_ge HO2.out (by omega : w.heap.size + 1 + 1 < w.heap.size + 1 + 1 + 1) e); have c53 := hX3.cell 5; have f53 := hX3.frozen 5; simp at c53)
        refine hK.out _ _ (by (try dsimp only) <;> (trivial)) (fun hHeld => ?_)
        clear hK K
        (try simp only [Act.put, List.setIfInBounds_toArray, List.set_cons_zero, List.set_cons_succ])
        (refine wpAnyH_take (i := 8) (oi := ?ox9) (v := ?vx9) ?hix9 ?k1x9 ?k2x9 ?k3x9 ?hQx9 ?hYx9 ?hSx9 ?restx9; (case hix9 => (simp only [List.getElem?_toArray, List.getElem?_cons_succ, List.getElem?_cons_zero]; exact rfl)); (case k1x9 => kernel_rfl); (case k2x9 => kernel_rfl); (case k3x9 => kernel_rfl); (case hSx9 => assumption); (case hYx9 => (refine Or.inl ⟨rfl, ?hyx9⟩; intro w hSw; (try dsimp only at hSw); go_simp; (try with_reducible rfl))); (case hQx9 => exact (fun _ _ _ h => h)); (try simp only [Act.put, List.setIfInBounds_toArray, List.set_cons_zero, List.set_cons_succ]))
        refine wpAnyH_ready (rs := [9]) (by kernel_rfl) (by simp) ?_
        refine AllReadyH.cons (o := ?o0x10) ?hi0x10 (fun K hK => ?_) AllReadyH.nil
        (case hi0x10 => (simp only [List.getElem?_toArray, List.getElem?_cons_succ, List.getElem?_cons_zero]; exact rfl))
        go_simp
        refine hK.out _ _ (by (try dsimp only) <;> (trivial)) (fun hHeld => ?_)
        clear hK K
        (try simp only [Act.put, List.setIfInBounds_toArray, List.set_cons_zero, List.set_cons_succ])
        (try refine wpAnyH_done (by kernel_rfl) ?_ _)
        have hg2 : w.heap.size + 1 + 1 + 1 ≤ w2.heap.size := by have := HB2w.out.size; omega
        have hown4 := hown3.kept (only_setCell (World.grownBy.refl w3 (some (w.heap.size + 1 + 1))) (p := ⟨w.heap.size + 1 + 1, 5, none⟩) (.inl rfl) (.slice (some ⟨gg, 0, none⟩) (k + 1) cap)) (.inr (own_ge hown3 (by omega : w.heap.size + 1 + 1 < w.heap.size + 1 + 1 + 1)).symm)
        have hcap : k + 1 ≤ cap := by
          obtain ⟨A9, c9, e9, h9⟩ := own_form hown3
          injection e9 with e1 e2 e3
          omega
        have hR3 := (((HB2.out.below HB2w.out (by omega)).alloc (.cells #[.int .i64 x.hi] 3)).grown hgrow (fun e => own_ge HO2.out (by omega : w.heap.size + 1 < w.heap.size + 1 + 1 + 1) e)).far (p := ⟨w.heap.size + 1 + 1, 5, none⟩) (by simp) (.slice (some ⟨gg, 0, none⟩) (k + 1) cap)
        have hX4 := hX3.set_ 5 (.slice (some ⟨gg, 0, none⟩) (k + 1) cap)
        have hbl : Below w.heap.size w w3 := ((below_tr HB.out HB2w.out).alloc (Nat.le_trans hszr HB2w.out.size) _).grown hgrow (by simp; omega) (fun g hg => by have := (HO2.out.lt g hg).1; omega)
        have hsz3 : w.heap.size + 1 + 1 + 1 ≤ w3.heap.size := by have := hgrow.size; simp at this; omega
        have HO4 := Lib.hid hown4; have HC := Lib.hid hcap; have HR3 := Lib.hid hR3; have HX4 := Lib.hid hX4; have HBL := Lib.hid hbl
        clear hown3 hown4 hgrow hat hX3 hR3 hX4 hbl c53 f53 c52 c5 f5
        go_wp2_with fail
        go_roundw
        case rel =>
          refine ⟨k + 1, some ⟨gg, 0, none⟩, cap, by omega, by go_num, HC.out, ?_, HX4.out, HR3.out, HBL.out.setCell (by simp; omega) _, by simp; omega⟩
          rw [HTK.out, List.flatMap_append]
          exact HO4.out
        case measure => simp [intOf]; omega
      · skip
        go_simp
        refine hK.out _ _ (by (try dsimp only) <;> (trivial)) (fun hHeld => ?_)
        clear hK K
        (try simp only [Act.put, List.setIfInBounds_toArray, List.set_cons_zero, List.set_cons_succ])
        refine wpAnyH_ready (rs := [1, 5]) (by kernel_rfl) (by simp) ?_
        refine AllReadyH.cons (o := ?o0x11) ?hi0x11 (fun K hK => ?_) (AllReadyH.cons (o := ?o1x11) ?hi1x11 (fun K hK => ?_) AllReadyH.nil)
        (case hi0x11 => (simp only [List.getElem?_toArray, List.getElem?_cons_succ, List.getElem?_cons_zero]; exact rfl))
        (case hi1x11 => (simp only [List.getElem?_toArray, List.getElem?_cons_succ, List.getElem?_cons_zero]; exact rfl))
        · skip
          go_simp
          refine hK.out _ _ (by (try dsimp only) <;> (trivial)) (fun hHeld => ?_)
          clear hK K
          (try simp only [Act.put, List.setIfInBounds_toArray, List.set_cons_zero, List.set_cons_succ])
          refine wpAnyH_ready (rs := [5]) (by kernel_rfl) (by simp) ?_
          refine AllReadyH.cons (o := ?o0x12) ?hi0x12 (fun K hK => ?_) AllReadyH.nil
          (case hi0x12 => (simp only [List.getElem?_toArray, List.getElem?_cons_succ, List.getElem?_cons_zero]; exact rfl))
          go_simp
          (go_at_call 56; refine (HLO.out _).mono ?_; rintro e w2 ⟨rfl, hb2⟩; have HB2w := Lib.hid (HW1.out.trans (hb2.mono HW1.out.size)); have HO2 := Lib.hid (own_mono HO.out HB2w.out); have HX2 := Lib.hid (HB1.out.below HB2w.out (by omega)); have c52 := HX2.out.cell 5; simp at c52; have hlt2 : w.heap.size + 1 + 1 < w2.heap.size := Nat.lt_of_lt_of_le hlt5 HB2w.out.size; have hne2 : ¬ (w.heap.size + 1 + 1 = w2.heap.size) := Nat.ne_of_lt hlt2)
          (try go_wp2_with fail)
          refine hK.out _ _ (by (try dsimp only) <;> (trivial)) (fun hHeld => ?_)
          clear hK K
          (try simp only [Act.put, List.setIfInBounds_toArray, List.set_cons_zero, List.set_cons_succ])
          refine wpAnyH_ready (rs := [6]) (by kernel_rfl) (by simp) ?_
          refine AllReadyH.cons (o := ?o0x13) ?hi0x13 (fun K hK => ?_) AllReadyH.nil
          (case hi0x13 => (simp only [List.getElem?_toArray, List.getElem?_cons_succ, List.getElem?_cons_zero]; exact rfl))
          go_simp
          refine hK.out _ _ (by (try dsimp only) <;> (trivial)) (fun hHeld => ?_)
          clear hK K
          (try simp only [Act.put, List.setIfInBounds_toArray, List.set_cons_zero, List.set_cons_succ])
          refine wpAnyH_ready (rs := [7]) (by kernel_rfl) (by simp) ?_
          refine AllReadyH.cons (o := ?o0x14) ?hi0x14 (fun K hK => ?_) AllReadyH.nil
          (case hi0x14 => (simp only [List.getElem?_toArray, List.getElem?_cons_succ, List.getElem?_cons_zero]; exact rfl))
          (refine step_append_lies _ (by rfl) _ _ _ (by rfl) (w.heap.size + 1 + 1 + 1) 3 i0 _ 1 8 Try.underlying39 HI.out HZ0.out HZ1.out HZ2.out rfl (by omega) _ k ((T.take k).flatMap enc1) (by rfl) (HO2.out.alloc _) ⟨w2.heap.size, 0, none⟩ 1 1 [.int .i64 x.hi] (by rfl) (by rfl) (World.news_of_block (cs := #[.int .i64 x.hi]) (t := 3) (fr := (0, 0)) (heap_alloc_new w2 _)) (by simp [Value.oneCell']) (by omega) (by unfold maxLen; omega) (by omega) (by have := HB2w.out.size; simp; omega) (w2.heap.size + 1) (by simp) ?_; intro gg cap w3 hown3 hgrow hat hlt3; have hX3 := (HX2.out.alloc _).grown hgrow (fun e => own_ge HO2.out (by omega : w.heap.size + 1 + 1 < w.heap.size + 1 + 1 + 1) e); have c53 := hX3.cell 5; have f53 := hX3.frozen 5; simp at c53)
          refine hK.out _ _ (by (try dsimp only) <;> (trivial)) (fun hHeld => ?_)
          clear hK K
          (try simp only [Act.put, List.setIfInBounds_toArray, List.set_cons_zero, List.set_cons_succ])
          (refine wpAnyH_take (i := 8) (oi := ?ox15) (v := ?vx15) ?hix15 ?k1x15 ?k2x15 ?k3x15 ?hQx15 ?hYx15 ?hSx15 ?restx15; (case hix15 => (simp only [List.getElem?_toArray, List.getElem?_cons_succ, List.getElem?_cons_zero]; exact rfl)); (case k1x15 => kernel_rfl); (case k2x15 => kernel_rfl); (case k3x15 => kernel_rfl); (case hSx15 => assumption); (case hYx15 => (refine Or.inl ⟨rfl, ?hyx15⟩; intro w hSw; (try dsimp only at hSw); go_simp; (try with_reducible rfl))); (case hQx15 => exact (fun _ _ _ h => h)); (try simp only [Act.put, List.setIfInBounds_toArray, List.set_cons_zero, List.set_cons_succ]))
          refine wpAnyH_ready (rs := [9]) (by kernel_rfl) (by simp) ?_
          refine AllReadyH.cons (o := ?o0x16) ?hi0x16 (fun K hK => ?_) AllReadyH.nil
          (case hi0x16 => (simp only [List.getElem?_toArray, List.getElem?_cons_succ, List.getElem?_cons_zero]; exact rfl))
          go_simp
          refine hK.out _ _ (by (try dsimp only) <;> (trivial)) (fun hHeld => ?_)
          clear hK K
          (try simp only [Act.put, List.setIfInBounds_toArray, List.set_cons_zero, List.set_cons_succ])
          (try refine wpAnyH_done (by kernel_rfl) ?_ _)
          have hg2 : w.heap.size + 1 + 1 + 1 ≤ w2.heap.size := by have := HB2w.out.size; omega
          have hown4 := hown3.kept (only_setCell (World.grownBy.refl w3 (some (w.heap.size + 1 + 1))) (p := ⟨w.heap.size + 1 + 1, 5, none⟩) (.inl rfl) (.slice (some ⟨gg, 0, none⟩) (k + 1) cap)) (.inr (own_ge hown3 (by omega : w.heap.size + 1 + 1 < w.heap.size + 1 + 1 + 1)).symm)
          have hcap : k + 1 ≤ cap := by
            obtain ⟨A9, c9, e9, h9⟩ := own_form hown3
            injection e9 with e1 e2 e3
            omega
          have hR3 := (((HB2.out.below HB2w.out (by omega)).alloc (.cells #[.int .i64 x.hi] 3)).grown hgrow (fun e => own_ge HO2.out (by omega : w.heap.size + 1 < w.heap.size + 1 + 1 + 1) e)).far (p := ⟨w.heap.size + 1 + 1, 5, none⟩) (by simp) (.slice (some ⟨gg, 0, none⟩) (k + 1) cap)
          have hX4 := hX3.set_ 5 (.slice (some ⟨gg, 0, none⟩) (k + 1) cap)
          have hbl : Below w.heap.size w w3 := ((below_tr HB.out HB2w.out).alloc (Nat.le_trans hszr HB2w.out.size) _).grown hgrow (by simp; omega) (fun g hg => by have := (HO2.out.lt g hg).1; omega)
          have hsz3 : w.heap.size + 1 + 1 + 1 ≤ w3.heap.size := by have := hgrow.size; simp at this; omega
          have HO4 := Lib.hid hown4; have HC := Lib.hid hcap; have HR3 := Lib.hid hR3; have HX4 := Lib.hid hX4; have HBL := Lib.hid hbl
          clear hown3 hown4 hgrow hat hX3 hR3 hX4 hbl c53 f53 c52 c5 f5
          go_wp2_with fail
          go_roundw
          case rel =>
            refine ⟨k + 1, some ⟨gg, 0, none⟩, cap, by omega, by go_num, HC.out, ?_, HX4.out, HR3.out, HBL.out.setCell (by simp; omega) _, by simp; omega⟩
            rw [HTK.out, List.flatMap_append]
            exact HO4.out
          case measure => simp [intOf]; omega
        · skip
          go_simp
          (go_at_call 56; refine (HLO.out _).mono ?_; rintro e w2 ⟨rfl, hb2⟩; have HB2w := Lib.hid (HW1.out.trans (hb2.mono HW1.out.size)); have HO2 := Lib.hid (own_mono HO.out HB2w.out); have HX2 := Lib.hid (HB1.out.below HB2w.out (by omega)); have c52 := HX2.out.cell 5; simp at c52; have hlt2 : w.heap.size + 1 + 1 < w2.heap.size := Nat.lt_of_lt_of_le hlt5 HB2w.out.size; have hne2 : ¬ (w.heap.size + 1 + 1 = w2.heap.size) := Nat.ne_of_lt hlt2)
          (try go_wp2_with fail)
          refine hK.out _ _ (by (try dsimp only) <;> (trivial)) (fun hHeld => ?_)
          clear hK K
          (try simp only [Act.put, List.setIfInBounds_toArray, List.set_cons_zero, List.set_cons_succ])
          refine wpAnyH_ready (rs := [1, 6]) (by kernel_rfl) (by simp) ?_
          refine AllReadyH.cons (o := ?o0x17) ?hi0x17 (fun K hK => ?_) (AllReadyH.cons (o := ?o1x17) ?hi1x17 (fun K hK => ?_) AllReadyH.nil)
          (case hi0x17 => (simp only [List.getElem?_toArray, List.getElem?_cons_succ, List.getElem?_cons_zero]; exact rfl))
          (case hi1x17 => (simp only [List.getElem?_toArray, List.getElem?_cons_succ, List.getElem?_cons_zero]; exact rfl))
          · skip
            go_simp
            refine hK.out _ _ (by (try dsimp only) <;> (trivial)) (fun hHeld => ?_)
            clear hK K
            (try simp only [Act.put, List.setIfInBounds_toArray, List.set_cons_zero, List.set_cons_succ])
            refine wpAnyH_ready (rs := [6]) (by kernel_rfl) (by simp) ?_
            refine AllReadyH.cons (o := ?o0x18) ?hi0x18 (fun K hK => ?_) AllReadyH.nil
            (case hi0x18 => (simp only [List.getElem?_toArray, List.getElem?_cons_succ, List.getElem?_cons_zero]; exact rfl))
            go_simp
            refine hK.out _ _ (by (try dsimp only) <;> (trivial)) (fun hHeld => ?_)
            clear hK K
            (try simp only [Act.put, List.setIfInBounds_toArray, List.set_cons_zero, List.set_cons_succ])
            refine wpAnyH_ready (rs := [7]) (by kernel_rfl) (by simp) ?_
            refine AllReadyH.cons (o := ?o0x19) ?hi0x19 (fun K hK => ?_) AllReadyH.nil
            (case hi0x19 => (simp only [List.getElem?_toArray, List.getElem?_cons_succ, List.getElem?_cons_zero]; exact rfl))
            (refine step_append_lies _ (by rfl) _ _ _ (by rfl) (w.heap.size + 1 + 1 + 1) 3 i0 _ 1 8 Try.underlying39 HI.out HZ0.out HZ1.out HZ2.out rfl (by omega) _ k ((T.take k).flatMap enc1) (by rfl) (HO2.out.alloc _) ⟨w2.heap.size, 0, none⟩ 1 1 [.int .i64 x.hi] (by rfl) (by rfl) (World.news_of_block (cs := #[.int .i64 x.hi]) (t := 3) (fr := (0, 0)) (heap_alloc_new w2 _)) (by simp [Value.oneCell']) (by omega) (by unfold maxLen; omega) (by omega) (by have := HB2w.out.size; simp; omega) (w2.heap.size + 1) (by simp) ?_; intro gg cap w3 hown3 hgrow hat hlt3; have hX3 := (HX2.out.alloc _).grown hgrow (fun e => own_ge HO2.out (by omega : w.heap.size + 1 + 1 < w.heap.size + 1 + 1 + 1) e); have c53 := hX3.cell 5; have f53 := hX3.frozen 5; simp at c53)
            refine hK.out _ _ (by (try dsimp only) <;> (trivial)) (fun hHeld => ?_)
            clear hK K
            (try simp only [Act.put, List.setIfInBounds_toArray, List.set_cons_zero, List.set_cons_succ])
            (refine wpAnyH_take (i := 8) (oi := ?ox20) (v := ?vx20) ?hix20 ?k1x20 ?k2x20 ?k3x20 ?hQx20 ?hYx20 ?hSx20 ?restx20; (case hix20 => (simp only [List.getElem?_toArray, List.getElem?_cons_succ, List.getElem?_cons_zero]; exact rfl)); (case k1x20 => kernel_rfl); (case k2x20 => kernel_rfl); (case k3x20 => kernel_rfl); (case hSx20 => assumption); (case hYx20 => (refine Or.inl ⟨rfl, ?hyx20⟩; intro w hSw; (try dsimp only at hSw); go_simp; (try with_reducible rfl))); (case hQx20 => exact (fun _ _ _ h => h)); (try simp only [Act.put, List.setIfInBounds_toArray, List.set_cons_zero, List.set_cons_succ]))
            refine wpAnyH_ready (rs := [9]) (by kernel_rfl) (by simp) ?_
            refine AllReadyH.cons (o := ?o0x21) ?hi0x21 (fun K hK => ?_) AllReadyH.nil
            (case hi0x21 => (simp only [List.getElem?_toArray, List.getElem?_cons_succ, List.getElem?_cons_zero]; exact rfl))
            go_simp
            refine hK.out _ _ (by (try dsimp only) <;> (trivial)) (fun hHeld => ?_)
            clear hK K
            (try simp only [Act.put, List.setIfInBounds_toArray, List.set_cons_zero, List.set_cons_succ])
            (try refine wpAnyH_done (by kernel_rfl) ?_ _)
            have hg2 : w.heap.size + 1 + 1 + 1 ≤ w2.heap.size := by have := HB2w.out.size; omega
            have hown4 := hown3.kept (only_setCell (World.grownBy.refl w3 (some (w.heap.size + 1 + 1))) (p := ⟨w.heap.size + 1 + 1, 5, none⟩) (.inl rfl) (.slice (some ⟨gg, 0, none⟩) (k + 1) cap)) (.inr (own_ge hown3 (by omega : w.heap.size + 1 + 1 < w.heap.size + 1 + 1 + 1)).symm)
            have hcap : k + 1 ≤ cap := by
              obtain ⟨A9, c9, e9, h9⟩ := own_form hown3
              injection e9 with e1 e2 e3
              omega
            have hR3 := (((HB2.out.below HB2w.out (by omega)).alloc (.cells #[.int .i64 x.hi] 3)).grown hgrow (fun e => own_ge HO2.out (by omega : w.heap.size + 1 < w.heap.size + 1 + 1 + 1) e)).far (p := ⟨w.heap.size + 1 + 1, 5, none⟩) (by simp) (.slice (some ⟨gg, 0, none⟩) (k + 1) cap)
            have hX4 := hX3.set_ 5 (.slice (some ⟨gg, 0, none⟩) (k + 1) cap)
            have hbl : Below w.heap.size w w3 := ((below_tr HB.out HB2w.out).alloc (Nat.le_trans hszr HB2w.out.size) _).grown hgrow (by simp; omega) (fun g hg => by have := (HO2.out.lt g hg).1; omega)
            have hsz3 : w.heap.size + 1 + 1 + 1 ≤ w3.heap.size := by have := hgrow.size; simp at this; omega
            have HO4 := Lib.hid hown4; have HC := Lib.hid hcap; have HR3 := Lib.hid hR3; have HX4 := Lib.hid hX4; have HBL := Lib.hid hbl
            clear hown3 hown4 hgrow hat hX3 hR3 hX4 hbl c53 f53 c52 c5 f5
            go_wp2_with fail
            go_roundw
            case rel =>
              refine ⟨k + 1, some ⟨gg, 0, none⟩, cap, by omega, by go_num, HC.out, ?_, HX4.out, HR3.out, HBL.out.setCell (by simp; omega) _, by simp; omega⟩
              rw [HTK.out, List.flatMap_append]
              exact HO4.out
            case measure => simp [intOf]; omega
          · skip
            go_simp
            refine hK.out _ _ (by (try dsimp only) <;> (trivial)) (fun hHeld => ?_)
            clear hK K
            (try simp only [Act.put, List.setIfInBounds_toArray, List.set_cons_zero, List.set_cons_succ])
            refine wpAnyH_ready (rs := [1]) (by kernel_rfl) (by simp) ?_
            refine AllReadyH.cons (o := ?o0x22) ?hi0x22 (fun K hK => ?_) AllReadyH.nil
            (case hi0x22 => (simp only [List.getElem?_toArray, List.getElem?_cons_succ, List.getElem?_cons_zero]; exact rfl))
            go_simp
            refine hK.out _ _ (by (try dsimp only) <;> (trivial)) (fun hHeld => ?_)
            clear hK K
            (try simp only [Act.put, List.setIfInBounds_toArray, List.set_cons_zero, List.set_cons_succ])
            refine wpAnyH_ready (rs := [7]) (by kernel_rfl) (by simp) ?_
            refine AllReadyH.cons (o := ?o0x23) ?hi0x23 (fun K hK => ?_) AllReadyH.nil
            (case hi0x23 => (simp only [List.getElem?_toArray, List.getElem?_cons_succ, List.getElem?_cons_zero]; exact rfl))
            (refine step_append_lies _ (by rfl) _ _ _ (by rfl) (w.heap.size + 1 + 1 + 1) 3 i0 _ 1 8 Try.underlying39 HI.out HZ0.out HZ1.out HZ2.out rfl (by omega) _ k ((T.take k).flatMap enc1) (by rfl) (HO2.out.alloc _) ⟨w2.heap.size, 0, none⟩ 1 1 [.int .i64 x.hi] (by rfl) (by rfl) (World.news_of_block (cs := #[.int .i64 x.hi]) (t := 3) (fr := (0, 0)) (heap_alloc_new w2 _)) (by simp [Value.oneCell']) (by omega) (by unfold maxLen; omega) (by omega) (by have := HB2w.out.size; simp; omega) (w2.heap.size + 1) (by simp) ?_; intro gg cap w3 hown3 hgrow hat hlt3; have hX3 := (HX2.out.alloc _).grown hgrow (fun e => own_ge HO2.out (by omega : w.heap.size + 1 + 1 < w.heap.size + 1 + 1 + 1) e); have c53 := hX3.cell 5; have f53 := hX3.frozen 5; simp at c53)
            refine hK.out _ _ (by (try dsimp only) <;> (trivial)) (fun hHeld => ?_)
            clear hK K
            (try simp only [Act.put, List.setIfInBounds_toArray, List.set_cons_zero, List.set_cons_succ])
            (refine wpAnyH_take (i := 8) (oi := ?ox24) (v := ?vx24) ?hix24 ?k1x24 ?k2x24 ?k3x24 ?hQx24 ?hYx24 ?hSx24 ?restx24; (case hix24 => (simp only [List.getElem?_toArray, List.getElem?_cons_succ, List.getElem?_cons_zero]; exact rfl)); (case k1x24 => kernel_rfl); (case k2x24 => kernel_rfl); (case k3x24 => kernel_rfl); (case hSx24 => assumption); (case hYx24 => (refine Or.inl ⟨rfl, ?hyx24⟩; intro w hSw; (try dsimp only at hSw); go_simp; (try with_reducible rfl))); (case hQx24 => exact (fun _ _ _ h => h)); (try simp only [Act.put, List.setIfInBounds_toArray, List.set_cons_zero, List.set_cons_succ]))
            refine wpAnyH_ready (rs := [9]) (by kernel_rfl) (by simp) ?_
            refine AllReadyH.cons (o := ?o0x25) ?hi0x25 (fun K hK => ?_) AllReadyH.nil
            (case hi0x25 => (simp only [List.getElem?_toArray, List.getElem?_cons_succ, List.getElem?_cons_zero]; exact rfl))
            go_simp
            refine hK.out _ _ (by (try dsimp only) <;> (trivial)) (fun hHeld => ?_)
            clear hK K
            (try simp only [Act.put, List.setIfInBounds_toArray, List.set_cons_zero, List.set_cons_succ])
            (try refine wpAnyH_done (by kernel_rfl) ?_ _)
            have hg2 : w.heap.size + 1 + 1 + 1 ≤ w2.heap.size := by have := HB2w.out.size; omega
            have hown4 := hown3.kept (only_setCell (World.grownBy.refl w3 (some (w.heap.size + 1 + 1))) (p := ⟨w.heap.size + 1 + 1, 5, none⟩) (.inl rfl) (.slice (some ⟨gg, 0, none⟩) (k + 1) cap)) (.inr (own_ge hown3 (by omega : w.heap.size + 1 + 1 < w.heap.size + 1 + 1 + 1)).symm)
            have hcap : k + 1 ≤ cap := by
              obtain ⟨A9, c9, e9, h9⟩ := own_form hown3
              injection e9 with e1 e2 e3
              omega
            have hR3 := (((HB2.out.below HB2w.out (by omega)).alloc (.cells #[.int .i64 x.hi] 3)).grown hgrow (fun e => own_ge HO2.out (by omega : w.heap.size + 1 < w.heap.size + 1 + 1 + 1) e)).far (p := ⟨w.heap.size + 1 + 1, 5, none⟩) (by simp) (.slice (some ⟨gg, 0, none⟩) (k + 1) cap)
            have hX4 := hX3.set_ 5 (.slice (some ⟨gg, 0, none⟩) (k + 1) cap)
            have hbl : Below w.heap.size w w3 := ((below_tr HB.out HB2w.out).alloc (Nat.le_trans hszr HB2w.out.size) _).grown hgrow (by simp; omega) (fun g hg => by have := (HO2.out.lt g hg).1; omega)
            have hsz3 : w.heap.size + 1 + 1 + 1 ≤ w3.heap.size := by have := hgrow.size; simp at this; omega
            have HO4 := Lib.hid hown4; have HC := Lib.hid hcap; have HR3 := Lib.hid hR3; have HX4 := Lib.hid hX4; have HBL := Lib.hid hbl
            clear hown3 hown4 hgrow hat hX3 hR3 hX4 hbl c53 f53 c52 c5 f5
            go_wp2_with fail
            go_roundw
            case rel =>
              refine ⟨k + 1, some ⟨gg, 0, none⟩, cap, by omega, by go_num, HC.out, ?_, HX4.out, HR3.out, HBL.out.setCell (by simp; omega) _, by simp; omega⟩
              rw [HTK.out, List.flatMap_append]
              exact HO4.out
            case measure => simp [intOf]; omega
    · obtain rfl : k = sn := by omega
      have c0 := hb1.cell 0; have c1 := hb1.cell 1; have c2 := hb1.cell 2; have c3 := hb1.cell 3; have c4 := hb1.cell 4; have c5 := hb1.cell 5
      have r0 := HB2.out.cell 0; have r1 := HB2.out.cell 1; have r2 := HB2.out.cell 2; have r3 := HB2.out.cell 3; have r4 := HB2.out.cell 4; have r5 := HB2.out.cell 5
      have g0 := HB2.out.frozen 0; have g1 := HB2.out.frozen 1; have g2 := HB2.out.frozen 2; have g3 := HB2.out.frozen 3; have g4 := HB2.out.frozen 4; have g5 := HB2.out.frozen 5
      simp at c0 c1 c2 c3 c4 c5 r0 r1 r2 r3 r4 r5
      clear hb hb1
      have HO5 := HO.out
      rw [List.take_of_length_le (by rw [HTL.out]; exact Nat.le_refl _)] at HO5
      have HO6 := Lib.hid HO5; clear HO5
      go_wp2_with fail
      refine bodyPost_ret (v := .agg #[.slice PA pn pc, .slice SA k sc, .int .i64 s0, .int .i64 s1, .int .i64 s2, .slice tA k tc]) ?_ rfl ⟨tA, tc, rfl, htc, ?_, ?_⟩
      · simp [results, Try.f53, go_sem, r0, r1, r2, r3, r4, r5]
      · exact Rd.of_own enc1_len (HO6.out.kept (row := some (w.heap.size + 1)) (by repeat (first | with_reducible exact World.grownBy.refl _ _ | with_reducible refine only_setCell ?_ (.inl rfl) _)) (.inr (own_ge HO6.out (by omega : w.heap.size + 1 < w.heap.size + 1 + 1 + 1)).symm)) HTL.out
      · repeat (first | with_reducible exact HB.out | with_reducible refine Below.setCell ?_ (Nat.le_succ _) _)
end Go.Proofs.Ytphdndiikikecaa
