/- THE CONTRACT of the law's Picked. -/
import Derived.Test.YtphdndiikikecaaZFits
import Derived.Test.YtphdndiikikecaaZAppRd
namespace Go.Proofs.Ytphdndiikikecaa
open Go.RowKit Go.Proofs
attribute [local go_sem ↓] Go.wp_at_zero Go.wp_at_succ

theorem fit_mod {lo hi d : Int} (hlh : lo ≤ hi) (hd : 0 ≤ d) : lo ≤ lo + d % (hi - lo + 1) ∧ lo + d % (hi - lo + 1) ≤ hi := by
  have h1 := Int.emod_nonneg d (show hi - lo + 1 ≠ 0 by omega)
  have h2 := Int.emod_lt_of_pos d (show 0 < hi - lo + 1 by omega)
  omega

set_option maxRecDepth 100000 in
set_option maxHeartbeats 2000000 in
theorem Picked_c {v : Vly} {ws : List UInt8} {PA SA WA : Option Addr} {pn pc sn sc wn wc : Nat} {w : World} (hok : VOk v) (h : RdV w PA pn SA sn v) (hW : Rd encB 1 w WA wn ws) (hwn : wn ≤ maxLen) :
    Calls Try.prog 43 #[.agg #[.slice PA pn pc, .slice SA sn sc, .int .i64 v.s0, .int .i64 v.s1, .int .i64 v.s2], .slice WA wn wc] w fun e w' => ∃ tr A c, e = .returned (.slice A sn c) ∧ Rd enc1 1 w' A sn tr ∧ Fits v tr ∧ Below w.heap.size w w' := by
  obtain ⟨i0, hi0, hz0, hz1, hz2⟩ := info_parts infoInt
  have HI := Lib.hid hi0; have HZ0 := Lib.hid hz0; have HZ1 := Lib.hid hz1; have HZ2 := Lib.hid hz2
  clear hi0 hz0 hz1 hz2
  have hls := h.sls.len
  have hsn := hok.sn
  have hsn10 : sn ≤ 10 := by omega
  unfold maxLen at hwn
  have hb0 : Below w.heap.size w (w.alloc (.cells #[.slice PA pn pc, .slice SA sn sc, .int .i64 v.s0, .int .i64 v.s1, .int .i64 v.s2] 26)) := (Below.refl _ w).alloc (Nat.le_refl _) _
  have HB := Lib.hid hb0
  have HX := Lib.hid (Blk.new w 26 #[.slice PA pn pc, .slice SA sn sc, .int .i64 v.s0, .int .i64 v.s1, .int .i64 v.s2])
  have HV := Lib.hid h; have HW := Lib.hid hW
  have HLS := Lib.hid hls
  have HSB := Lib.hid (fun (k : Nat) (s : Sli) (hs : v.sls[k]? = some s) => show (0 ≤ s.lo ∧ s.lo ≤ s.hi ∧ s.hi ≤ 12) from by
    have h1 := hok.slide hs; have h2 := wayTo_len h1.1; have := hok.pn; omega)
  clear h hW hb0 hok hls hsn
  go_enter Try.func43, Try.ntmps43
  go_wp2_with fail
  go_loopw [5, 6] (fun o i wr => ∃ (k : Nat) (tr : List Int), k ≤ sn ∧ i = .int .i64 k ∧ tr.length = k ∧ fitTo v tr k ∧ wr.ownsRow (w.heap.size + 1) 3 1 o k (tr.flatMap enc1) ∧ Blk wr w.heap.size 26 #[.slice PA pn pc, .slice SA sn sc, .int .i64 v.s0, .int .i64 v.s1, .int .i64 v.s2] ∧ Below w.heap.size w wr ∧ w.heap.size + 1 ≤ wr.heap.size) (fun _ i _ => sn - (intOf i).toNat)
  case atStart => exact ⟨0, [], Nat.zero_le _, rfl, rfl, (fun j s m hj => by omega), World.ownsRow_nil _ _ _ _, HX.out, HB.out, by simp⟩
  case round =>
    obtain ⟨k, tr, hk, rfl, htl, hft, hown, hbx, hb, hsz⟩ := hrel
    have HBX := Lib.hid hbx; have HB2 := Lib.hid hb; have HF := Lib.hid hft; have HO := Lib.hid hown; have HTL := Lib.hid htl
    have c1 := hbx.cell 1
    simp at c1
    by_cases hlt : k < sn
    · obtain ⟨b, o, x, hA, hblt, hx, h0, h1, h2, h3⟩ := (HV.out.sls.below hb).atS hlt
      subst hA
      have hkn : (k : Int) < (sn : Int) := by omega
      have hk0 : (0 : Int) ≤ (k : Int) := by omega
      have hsb := HSB.out k x hx
      have HSX := Lib.hid hx
      clear hx hbx hft hown htl
      have key : ∀ (n : Int), x.lo ≤ n → n ≤ x.hi → fitTo v (tr ++ [n]) (k + 1) := fun n h1 h2 j s m hj hs hm => by
        by_cases hjk : j = k
        · subst hjk
          rw [HSX.out] at hs; cases hs
          rw [← HTL.out, List.getElem?_append_right (Nat.le_refl _)] at hm
          simp at hm; omega
        · rw [List.getElem?_append_left (by rw [HTL.out]; omega)] at hm
          exact HF.out j s m (by omega) hs hm
      have HKEY := Lib.hid key
      clear key
      by_cases hw0 : 0 < wn
      · obtain ⟨b', o', u, hA', hblt', hu, h4⟩ := (HW.out.below hb).atB (i := k % wn) (Nat.mod_lt _ hw0)
        subst hA'
        have hm1 : (k : Int).tmod (wn : Int) = ((k % wn : Nat) : Int) := by rw [Int.tmod_eq_emod_of_nonneg (by omega)]; omega
        have hmlt := Nat.mod_lt k hw0
        have hml : ((k % wn : Nat) : Int) < (wn : Int) := by omega
        have hm0 : (0 : Int) ≤ ((k % wn : Nat) : Int) := by omega
        have hmw : IntKind.i64.wrap ((k % wn : Nat) : Int) = ((k % wn : Nat) : Int) := wi (by omega)
        have hub : (u.toNat : Int) ≤ 255 := by have := u.toNat_lt; omega
        have hu8 : IntKind.i64.wrap (u.toNat : Int) = (u.toNat : Int) := wi (by omega)
        have hw2 : IntKind.i64.wrap (x.hi - x.lo) = x.hi - x.lo := wi (by omega)
        have hw3 : IntKind.i64.wrap (x.hi - x.lo + 1) = x.hi - x.lo + 1 := wi (by omega)
        have hfm := fit_mod (d := (u.toNat : Int)) hsb.2.1 (by omega)
        have hm2 : (u.toNat : Int).tmod (x.hi - x.lo + 1) = (u.toNat : Int) % (x.hi - x.lo + 1) := Int.tmod_eq_emod_of_nonneg (by omega)
        obtain ⟨R, hR⟩ : ∃ R, R = (u.toNat : Int) % (x.hi - x.lo + 1) := ⟨_, rfl⟩
        rw [← hR] at hfm hm2
        have hwR : IntKind.i64.wrap R = R := wi (by omega)
        have hwn2 : IntKind.i64.wrap (x.lo + R) = x.lo + R := wi (by omega)
        have hne1 : ¬ (wn : Int) = 0 := by omega
        have hne2 : ¬ x.hi - x.lo + 1 = 0 := by omega
        have hne3 : ((wn : Int) == 0) = false := by rw [beq_eq_false_iff_ne]; exact hne1
        have hne4 : (x.hi - x.lo + 1 == 0) = false := by rw [beq_eq_false_iff_ne]; exact hne2
        have hwpos : (0 : Int) < (wn : Int) := by omega
        clear hR hu
        go_wp2_with fail
        go_quiet (fail)
        go_upto_region 9 with fail
        obtain ⟨W1, hW1⟩ : ∃ W1, W1 = (wr.alloc (.cells #[.int .i64 x.lo, .int .i64 x.hi] 60)).drewN nq := ⟨_, rfl⟩
        rw [← hW1]
        have hb1 : Below wr.heap.size wr W1 := by rw [hW1]; exact below_drewN ((Below.refl _ wr).alloc (Nat.le_refl _) _) _
        have HO1 := Lib.hid (own_mono HO.out hb1)
        have HB1 := Lib.hid (below_tr HB2.out hb1)
        have HX1 := Lib.hid (HBX.out.below hb1 HBX.out.lt)
        have hsz0 : w.heap.size + 1 ≤ W1.heap.size := HX1.out.lt
        have HK := Lib.hid (HKEY.out (x.lo + R) hfm.1 hfm.2)
        clear hW1 hb1 h0 h1 h2 h3 c1 hb hsz
        go_wp2_with (at_builtin; go_must (refine wpList_append_own_at _ rfl _ _ 39 rfl (w.heap.size + 1) 3 i0 _ 1 8 Try.underlying39 HI.out HZ0.out HZ1.out HZ2.out rfl (by decide) _ _ _ rfl (HO1.out.alloc _) ⟨W1.heap.size, 0, none⟩ 1 1 [.int .i64 (x.lo + R)] rfl rfl (fun j u hj => World.news_of_block (cs := #[.int .i64 (x.lo + R)]) (t := 3) (fr := (0, 0)) (heap_alloc_new W1 _) j u hj) (by simp [Value.oneCell']) (by unfold maxLen; omega) (by omega) (by simp; omega) ?_; intro v' w1 hown' hgrow _ _))
        have H1 : Hid (w1.ownsRow (w.heap.size + 1) 3 1 v' (k + 1) ((tr ++ [x.lo + R]).flatMap enc1)) := by
          rw [List.flatMap_append]
          exact hown'
        have H2 : Hid (Below w.heap.size w w1) := (HB1.out.alloc HB1.out.size _).grown hgrow (by simp; have := HB1.out.size; omega) (fun g hg => by have := (HO1.out.lt g hg).1; omega)
        have H3 := Lib.hid ((HX1.out.alloc (.cells #[.int .i64 (x.lo + R)] 3)).grown hgrow (fun e => own_ge HO1.out (by omega : w.heap.size < w.heap.size + 1) e))
        have hsz1 : w.heap.size + 1 ≤ w1.heap.size := H3.out.lt
        clear hown' hgrow
        go_wp2_with fail
        go_roundw
        case rel => exact ⟨k + 1, tr ++ [x.lo + R], by omega, by go_num, by rw [List.length_append, HTL.out]; rfl, HK.out, H1.out, H3.out, H2.out, hsz1⟩
        case measure => simp [intOf] <;> omega
      · obtain rfl : wn = 0 := by omega
        go_upto_region 9 with fail
        obtain ⟨W1, hW1⟩ : ∃ W1, W1 = wr.alloc (.cells #[.int .i64 x.lo, .int .i64 x.hi] 60) := ⟨_, rfl⟩
        rw [← hW1]
        have hb1 : Below wr.heap.size wr W1 := by rw [hW1]; exact (Below.refl _ wr).alloc (Nat.le_refl _) _
        have HO1 := Lib.hid (own_mono HO.out hb1)
        have HB1 := Lib.hid (below_tr HB2.out hb1)
        have HX1 := Lib.hid (HBX.out.below hb1 HBX.out.lt)
        have hsz0 : w.heap.size + 1 ≤ W1.heap.size := HX1.out.lt
        have HK := Lib.hid (HKEY.out (x.lo) (Int.le_refl _) hsb.2.1)
        clear hW1 hb1 h0 h1 h2 h3 c1 hb hsz
        go_wp2_with (at_builtin; go_must (refine wpList_append_own_at _ rfl _ _ 39 rfl (w.heap.size + 1) 3 i0 _ 1 8 Try.underlying39 HI.out HZ0.out HZ1.out HZ2.out rfl (by decide) _ _ _ rfl (HO1.out.alloc _) ⟨W1.heap.size, 0, none⟩ 1 1 [.int .i64 (x.lo)] rfl rfl (fun j u hj => World.news_of_block (cs := #[.int .i64 (x.lo)]) (t := 3) (fr := (0, 0)) (heap_alloc_new W1 _) j u hj) (by simp [Value.oneCell']) (by unfold maxLen; omega) (by omega) (by simp; omega) ?_; intro v' w1 hown' hgrow _ _))
        have H1 : Hid (w1.ownsRow (w.heap.size + 1) 3 1 v' (k + 1) ((tr ++ [x.lo]).flatMap enc1)) := by
          rw [List.flatMap_append]
          exact hown'
        have H2 : Hid (Below w.heap.size w w1) := (HB1.out.alloc HB1.out.size _).grown hgrow (by simp; have := HB1.out.size; omega) (fun g hg => by have := (HO1.out.lt g hg).1; omega)
        have H3 := Lib.hid ((HX1.out.alloc (.cells #[.int .i64 (x.lo)] 3)).grown hgrow (fun e => own_ge HO1.out (by omega : w.heap.size < w.heap.size + 1) e))
        have hsz1 : w.heap.size + 1 ≤ w1.heap.size := H3.out.lt
        clear hown' hgrow
        go_wp2_with fail
        go_roundw
        case rel => exact ⟨k + 1, tr ++ [x.lo], by omega, by go_num, by rw [List.length_append, HTL.out]; rfl, HK.out, H1.out, H3.out, H2.out, hsz1⟩
        case measure => simp [intOf] <;> omega
    · obtain rfl : k = sn := by omega
      have hfin := hown
      obtain ⟨A', c', rfl, hc'⟩ := own_form hfin
      have H5 := Lib.hid (Rd.of_own enc1_len hfin htl)
      have HFA := Lib.hid (fitTo_all (by rw [htl]; exact HLS.out.symm) (by rw [HLS.out]; exact hft))
      clear hbx hft hown hb hfin
      go_wp2_with fail
      go_ret
      exact ⟨tr, A', c', rfl, H5.out, HFA.out, HB2.out⟩
end Go.Proofs.Ytphdndiikikecaa
