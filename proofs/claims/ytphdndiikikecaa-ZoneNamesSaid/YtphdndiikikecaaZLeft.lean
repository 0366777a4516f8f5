/- THE CONTRACT of the law's Heard: new evidence that reads as the old one. -/
import Derived.Test.YtphdndiikikecaaZHear
import Derived.Deep.RegionHeld3
import Derived.Deep.AppendLies
import Derived.Deep.DrawnRows
import Derived.Test.YtphdndiikikecaaZEv
import Derived.Test.YtphdndiikikecaaZRef2
import Derived.StillTailTactics
set_option linter.unusedVariables false
set_option linter.unusedSimpArgs false
namespace Go.Proofs.Ytphdndiikikecaa
open Go.RowKit Go.Proofs
attribute [local go_sem ↓] Go.wp_at_zero Go.wp_at_succ

theorem infoEv : (Try.prog.info? 101).map (fun i => (i.zero, i.size, i.bytes)) = some (some (.agg #[.int .i64 0, .int .i64 0, .int .i64 0]), 3, 24) := by kernel_rfl

set_option maxRecDepth 100000 in
set_option maxHeartbeats 400000 in
theorem Heard_c {l : List Evd} {A : Option Addr} {n c : Nat} {w : World} (h : Rd encE 3 w A n l) (hn : n ≤ 1000000) :
    Calls Try.prog 47 #[.slice A n c] w fun e w' => ∃ A' c', e = .returned (.slice A' n c') ∧ Rd encE 3 w' A' n l ∧ Below w.heap.size w w' := by
  obtain ⟨i0, hi0, hz0, hz1, hz2⟩ := info_parts infoEv
  have hl := h.len
  have HL := Lib.hid hl; clear hl
  have HI := Lib.hid hi0; have HZ0 := Lib.hid hz0; have HZ1 := Lib.hid hz1; have HZ2 := Lib.hid hz2
  clear hi0 hz0 hz1 hz2
  go_enter Try.func47, Try.ntmps47
  go_wp2_with fail
  go_loopw [3, 4] (fun v i wr => ∃ k : Nat, k ≤ n ∧ i = .int .i64 k ∧ wr.ownsRow w.heap.size 101 3 v k ((l.take k).flatMap encE) ∧ Below w.heap.size w wr) (fun _ i _ => n - (intOf i).toNat)
  case atStart => exact ⟨0, Nat.zero_le _, rfl, World.ownsRow_nil _ _ _ _, Below.refl _ _⟩
  case round =>
    obtain ⟨k, hk, rfl, hown, hb⟩ := hrel
    by_cases hlt : k < n
    · obtain ⟨b, o, x, hA, hbl, hx, h0', h1', h2'⟩ := h.at3 hlt
      subst hA
      have h0 := (hb.cell (p := ⟨b, o + k * 3, none⟩) hbl).trans h0'
      have h1 := (hb.cell (p := ⟨b, o + k * 3 + 1, none⟩) hbl).trans h1'
      have h2 := (hb.cell (p := ⟨b, o + k * 3 + 2, none⟩) hbl).trans h2'
      clear h0' h1' h2'
      have HX := Lib.hid hx; clear hx
      have hblr : b < wr.heap.size := Nat.lt_of_lt_of_le hbl hb.size
      have hne : u3.ownBlock ≠ some b := fun e => by have := (hown.lt b e).1; omega
      have HO := Lib.hid hown; clear hown
      have hi1 : (k : Int) < (n : Int) := by omega
      have hi0' : (0 : Int) ≤ (k : Int) := by omega
      go_wp2
      go_region_held3 (fun w' => w'.cell? ⟨b, o + k * 3, none⟩ = some (.int .i64 x.k) ∧ w'.cell? ⟨b, o + k * 3 + 1, none⟩ = some (.int .i64 x.lo) ∧ w'.cell? ⟨b, o + k * 3 + 2, none⟩ = some (.int .i64 x.hi))
        (first
          | go_keep
          | (go_split_ands
             refine ⟨?_, ?_, ?_⟩
             · (rw [hgrow.cell_far _ (by simp; omega) (Ne.symm hne)]; exact (World.cell?_alloc_lt _ _ _ hblr).trans h0)
             · (rw [hgrow.cell_far _ (by simp; omega) (Ne.symm hne)]; exact (World.cell?_alloc_lt _ _ _ hblr).trans h1)
             · (rw [hgrow.cell_far _ (by simp; omega) (Ne.symm hne)]; exact (World.cell?_alloc_lt _ _ _ hblr).trans h2)))
        ((refine step_append_lies _ (by rfl) _ _ _ (by rfl) w.heap.size 101 i0 _ 3 24 Try.underlying89 HI.out HZ0.out HZ1.out HZ2.out rfl (by omega) _ k ((l.take k).flatMap encE) (by rfl) ((HO.out.alloc _).drew) ⟨wr.heap.size, 0, none⟩ 1 1 [.int .i64 x.k, .int .i64 x.lo, .int .i64 x.hi] (by rfl) (by rfl) (World.news_of_block (cs := #[.int .i64 x.k, .int .i64 x.lo, .int .i64 x.hi]) (t := 101) (fr := (0, 0)) (heap_alloc_new wr _)) (by simp [Value.oneCell']) (by omega) (by unfold maxLen; omega) (by omega) (by have := hb.size; simp; omega) (wr.heap.size + 1) (by simp) ?_; intro gg cap w1 hown1 hgrow hat hlt1))
      have hown2 : Hid (w1.ownsRow w.heap.size 101 3 (.slice (some ⟨gg, 0, none⟩) (k + 1) cap) (k + 1) ((l.take (k + 1)).flatMap encE)) := by
        rw [List.take_add_one, HX.out]
        have := hown1
        simp [encE] at this ⊢
        exact this
      have hb2 : Hid (Below w.heap.size w w1) := (hb.drew.alloc hb.size _).grown hgrow (by have := hb.size; simp; omega) (fun g hg => (HO.out.lt g hg).1)
      clear hown1 hgrow
      go_wp2
      go_roundw
      case rel => exact ⟨k + 1, by omega, by go_num, hown2.out, hb2.out⟩
      case measure => simp [intOf] <;> omega
    · obtain rfl : k = n := by omega
      obtain ⟨A', c', rfl, hc'⟩ := own_form hown
      rw [List.take_of_length_le (by rw [HL.out]; exact Nat.le_refl _)] at hown
      have HR := Lib.hid (Rd.of_own encE_len hown HL.out); clear hown
      go_wp2
      go_ret
      exact ⟨A', c', rfl, HR.out, hb⟩
end Go.Proofs.Ytphdndiikikecaa

namespace Go.Proofs.Ytphdndiikikecaa
open Go.RowKit Go.Proofs
attribute [local go_sem ↓] Go.wp_at_zero Go.wp_at_succ

theorem leftL_take {l : List Evd} {j : Nat} {x : Evd} (h : l[j]? = some x) (k : Int) (r : Int × Int) : leftL (l.take (j + 1)) k r = stepE k (leftL (l.take j) k r) x := by
  rw [List.take_add_one, h]; exact leftL_snoc _ _ _ _

set_option maxRecDepth 100000 in
set_option maxHeartbeats 1000000 in
theorem Left_c {v : Vly} {l : List Evd} {PA SA LA : Option Addr} {pn pc sn sc ln lc k : Nat} {s : Sli} {w : World} (h : RdV w PA pn SA sn v) (hL : Rd encE 3 w LA ln l) (hln : ln ≤ 1000) (hs : v.sls[k]? = some s) :
    Calls Try.prog 49 #[.agg #[.slice PA pn pc, .slice SA sn sc, .int .i64 v.s0, .int .i64 v.s1, .int .i64 v.s2], .slice LA ln lc, .int .i64 (k : Int)] w fun e w' => e = .returned (.agg #[.int .i64 (leftL l (k : Int) (s.lo, s.hi)).1, .int .i64 (leftL l (k : Int) (s.lo, s.hi)).2]) ∧ Below w.heap.size w w' := by
  have hls := h.sls.len; have hll := hL.len
  have hkl := lt_of_get hs
  obtain ⟨b, o, x, hA, hblt, hx, h0, h1, h2, h3⟩ := h.sls.atS (show k < sn by omega)
  rw [hs] at hx; cases hx
  subst hA
  have HL := Lib.hid hL
  have HLL := Lib.hid hll
  have hkn : (k : Int) < (sn : Int) := by omega
  have hk0 : (0 : Int) ≤ (k : Int) := by omega
  clear h hL hs hls hll hkl
  go_enter Try.func49, Try.ntmps49
  go_wp2_with fail
  obtain ⟨VC, hVC⟩ : ∃ VC : Array Value, VC = #[.slice PA pn pc, .slice (some ⟨b, o, none⟩) sn sc, .int .i64 v.s0, .int .i64 v.s1, .int .i64 v.s2] := ⟨_, rfl⟩
  rw [← hVC]
  have hx1 := (Blk.new (w.alloc (.cells VC 26)) 60 #[.int .i64 0, .int .i64 0]).alloc (.cells #[.int .i64 s.lo, .int .i64 s.hi] 60)
  have hx2 := Blk.new ((w.alloc (.cells VC 26)).alloc (.cells #[.int .i64 0, .int .i64 0] 60)) 60 #[.int .i64 s.lo, .int .i64 s.hi]
  simp only [World.size_alloc] at hx1 hx2
  have HX1 := Lib.hid hx1; have HX2 := Lib.hid hx2
  have HB := Lib.hid ((((Below.refl _ w).alloc (Nat.le_refl _) (.cells VC 26)).alloc (by simp) (.cells #[.int .i64 0, .int .i64 0] 60)).alloc (by simp; omega) (.cells #[.int .i64 s.lo, .int .i64 s.hi] 60))
  clear hx1 hx2 h0 h1 h2 h3 hVC
  go_loopw [8] (fun i wr => ∃ j : Nat, j ≤ ln ∧ i = .int .i64 j ∧ Blk wr (w.heap.size + 1 + 1) 60 #[.int .i64 (leftL (l.take j) (k : Int) (s.lo, s.hi)).1, .int .i64 (leftL (l.take j) (k : Int) (s.lo, s.hi)).2] ∧ Blk wr (w.heap.size + 1) 60 #[.int .i64 0, .int .i64 0] ∧ Below w.heap.size w wr) (fun i _ => ln - (intOf i).toNat)
  case atStart => exact ⟨0, Nat.zero_le _, rfl, HX2.out, HX1.out, HB.out⟩
  case round =>
    clear HX1 HX2 HB
    obtain ⟨j, hj, rfl, hb2, hb1, hb⟩ := hrel
    have HB := Lib.hid hb; have H2 := Lib.hid hb2; have H1 := Lib.hid hb1
    obtain ⟨r, hr⟩ : ∃ r, r = leftL (l.take j) (k : Int) (s.lo, s.hi) := ⟨_, rfl⟩
    by_cases hlt : j < ln
    · obtain ⟨b3, o3, x, hA3, hb3, hx, h0, h1, h2⟩ := (HL.out.below hb).at3 hlt
      subst hA3
      have hstep := leftL_take hx (k : Int) (s.lo, s.hi)
      rw [← hr] at hstep H2 hb2
      have hjn : (j : Int) < (ln : Int) := by omega
      have hj0 : (0 : Int) ≤ (j : Int) := by omega
      have q0 := hb2.cell 0
      have q1 := hb2.cell 1
      have qf := hb2.frozen 0
      have qf1 := hb2.frozen 1
      have qs := hb2.lt
      simp at q0 q1
      by_cases hk : x.k = (k : Int)
      · have hst : stepE (k : Int) r x = (max r.1 x.lo, min r.2 x.hi) := by unfold stepE; rw [if_pos hk]
        rw [hst] at hstep
        have HS := Lib.hid hstep
        rw [hk] at h0
        have hne : w.heap.size + 1 + 1 ≠ w.heap.size + 1 := by omega
        have hset := ((show Blk wr.drew _ _ _ from H2.out).set_ 0 (.int .i64 (max r.1 x.lo))).set_ 1 (.int .i64 (min r.2 x.hi))
        have hfar := ((show Blk wr.drew _ _ _ from H1.out).far hne.symm (p := ⟨w.heap.size + 1 + 1, 0, none⟩) (.int .i64 (max r.1 x.lo))).far hne.symm (p := ⟨w.heap.size + 1 + 1, 1, none⟩) (.int .i64 (min r.2 x.hi))
        have hbl := (HB.out.drew.setCell (p := ⟨w.heap.size + 1 + 1, 0, none⟩) (by simp; omega) (.int .i64 (max r.1 x.lo))).setCell (p := ⟨w.heap.size + 1 + 1, 1, none⟩) (by simp; omega) (.int .i64 (min r.2 x.hi))
        have H3 := Lib.hid hset; have H4 := Lib.hid hfar; have H5 := Lib.hid hbl
        clear hstep hst hk hr hx hb2 hb1 hb hset hfar hbl
        go_wp2_with fail
        go_still_tail 19, (by kernel_rfl)
        change wpList _ _ _ _ _ wr.drew
        go_wp2_with fail
        go_roundw
        case rel => exact ⟨j + 1, by omega, by go_num, by rw [HS.out]; exact H3.out, H4.out, H5.out⟩
        case measure => simp [intOf] <;> omega
      · have hst : stepE (k : Int) r x = r := by unfold stepE; rw [if_neg hk]
        rw [hst] at hstep
        have HS := Lib.hid hstep
        have hd : (x.k == (k : Int)) = false := by rw [beq_eq_false_iff_ne]; exact hk
        clear hstep hst hr hx hb2 hb1 hb
        go_wp2_with fail
        go_roundw
        case rel => exact ⟨j + 1, by omega, by go_num, by rw [HS.out]; exact H2.out, H1.out, HB.out⟩
        case measure => simp [intOf] <;> omega
    · obtain rfl : j = ln := by omega
      have HR := Lib.hid (show r = leftL l (k : Int) (s.lo, s.hi) by rw [hr, List.take_of_length_le (by have := HLL.out; omega)])
      rw [show l.take j = l from List.take_of_length_le (by have := HLL.out; omega), ← HR.out] at H2 hb2
      have q0 := hb2.cell 0
      have q1 := hb2.cell 1
      have p0 := hb1.cell 0
      have p1 := hb1.cell 1
      have pf := hb1.frozen 0
      have pf1 := hb1.frozen 1
      have ps := hb1.lt
      simp at q0 q1 p0 p1
      clear hr hb2 hb1 hb
      go_wp2_with fail
      have hset := (H1.out.set_ 0 (.int .i64 r.1)).set_ 1 (.int .i64 r.2)
      have d0 := hset.cell 0
      have d1 := hset.cell 1
      simp at d0 d1
      refine bodyPost_ret (v := .agg #[.int .i64 r.1, .int .i64 r.2]) ?_ rfl ⟨by rw [HR.out], (HB.out.setCell (p := ⟨w.heap.size + 1, 0, none⟩) (by simp) (.int .i64 r.1)).setCell (p := ⟨w.heap.size + 1, 1, none⟩) (by simp) (.int .i64 r.2)⟩
      simp [results, Try.f49, go_sem, d0, d1]
end Go.Proofs.Ytphdndiikikecaa
