/- CONTRACT of water.Run, where a ground with days is right and a truth fits. -/
import Derived.Test.YtjpobkmlcjbpiaaGreatYRun
import Derived.Test.YtjpobkmlcjbpiaaGreatYHas
import Derived.Test.YtjpobkmlcjbpiaaGreatYGround3
set_option linter.unusedVariables false
set_option linter.unusedSimpArgs false
namespace Go.Proofs.YtjpobkmlcjbpiaaGreat
open Go.RowKit Go.Proofs Go.Shelf
attribute [local go_sem] Oper.semAt_some
attribute [local go_sem ↓] Go.wp_at_zero Go.wp_at_succ

theorem infoNum : (Tryz.prog.info? 3).map (fun i => (i.zero, i.size, i.bytes)) = some (some (.int .i64 0), 1, 8) := by kernel_rfl
/-- the block for the rounds' deferred calls -/
def DefT (D : Nat) (W : World) : Prop := W.heap[D]? = some (.deferred (some []))
theorem DefT.below {D : Nat} {W W' : World} (h : DefT D W) (hb : Below W.heap.size W W') : DefT D W' := (hb.block D (Array.getElem?_eq_some_iff.1 h).1).trans h
/-- a truth that fits a ground with days -/
structure WE.Fit (E : WE) : Prop where
  sn : E.sn0 ≤ E.tsn ∧ E.tsn ≤ E.sn1
  so : E.so0 ≤ E.tso ∧ E.tso ≤ E.so1
  lv : ∀ (i : Nat) c l, E.C[i]? = some c → E.L0[i]? = some l → c.lo ≤ l ∧ l ≤ c.hi
  rn : ∀ (i : Nat) d r, E.D[i]? = some d → E.rain[i]? = some r → d.lo ≤ r ∧ r ≤ d.hi
set_option linter.unusedSimpArgs false in
set_option maxRecDepth 100000 in
set_option maxHeartbeats 8000000 in
theorem Run_c {E : WE} (hok : E.Ok) (hfit : E.Fit) (hfa : faultW E.C E.sn0 E.sn1 E.so0 E.so1 E.melt E.D = 0) {w : World} (hd1 : 1 ≤ E.DS.n) (hr : E.Rds w) (hl : Rd enc1 1 w E.LV.A E.LV.n E.L0) (hln : E.LV.n = E.CS.n) :
    Calls Tryz.prog 9 #[.agg #[.slice E.CS.A E.CS.n E.CS.c, .int .i64 E.sn0, .int .i64 E.sn1, .int .i64 E.so0, .int .i64 E.so1, .int .i64 E.melt], .slice E.DS.A E.DS.n E.DS.c, .agg #[.int .i64 E.tsn, .int .i64 E.tso, .slice E.LV.A E.LV.n E.LV.c, .slice E.RN.A E.RN.n E.RN.c]] w fun e w' =>
      ∃ A c rs vl sn, e = .returned (.tuple #[.slice A E.DS.n c, vl, .int .i64 sn, .int .i64 0]) ∧ LevR E w' A rs ∧ Below w.heap.size w w' := by
  have hwc := fun (W : World) (hW : Below w.heap.size w W) => wcheck_c (c := E.CS.c) (dc := E.DS.c) E.sn0 E.sn1 E.so0 E.so1 E.melt (hr.below hW).c (by have := hok.n; unfold maxLen; omega) (hr.below hW).d (by have := hok.dn; unfold maxLen; omega)
  rw [hfa] at hwc
  have hhc := fun (W : World) (hW : Below w.heap.size w W) => has_c (cc := E.CS.c) (dc := E.DS.c) (lc := E.LV.c) (rc := E.RN.c) (sn0 := E.sn0) (sn1 := E.sn1) (so0 := E.so0) (so1 := E.so1) (melt := E.melt) (tsn := E.tsn) (tso := E.tso) (hr.below hW).c (hr.below hW).d (hl.below hW) (hr.below hW).r hln hok.rn (by have := hok.n; omega) (by have := hok.dn; omega) hfit.sn hfit.so hfit.lv hfit.rn
  have hbc := fun (W : World) (hW : Below w.heap.size w W) => begin_c (CS := E.CS) (DS := E.DS) (LV := E.LV) (RN := E.RN) (sn0 := E.sn0) (sn1 := E.sn1) (so0 := E.so0) (so1 := E.so1) (melt := E.melt) (tsn := E.tsn) (tso := E.tso) (L := E.L0) (hl.below hW) (by have := hok.n; omega)
  have hre : ∀ ad, (E.CS.A = some ad ∨ E.DS.A = some ad ∨ E.RN.A = some ad) → ad.block < w.heap.size := by
    rintro ad (e | e | e)
    · obtain ⟨b, o, e', hlt, _⟩ := hr.c.2 (by have := hok.n; omega)
      rw [e] at e'; cases e'; exact hlt
    · obtain ⟨b, o, e', hlt, _⟩ := hr.d.2 (by omega)
      rw [e] at e'; cases e'; exact hlt
    · obtain ⟨b, o, e', hlt, _⟩ := hr.r.2 (by have := hok.rn; omega)
      rw [e] at e'; cases e'; exact hlt
  have HWC := Lib.hid hwc; have HHC := Lib.hid hhc; have HBC := Lib.hid hbc; have HRE := Lib.hid hre; have HOK := Lib.hid hok; have HR := Lib.hid hr
  clear hwc hhc hbc hre hok hfit hfa hr hl hln
  obtain ⟨w1, hw1⟩ : ∃ w1, w1 = ((((w.alloc (.cells #[.slice E.CS.A E.CS.n E.CS.c, .int .i64 E.sn0, .int .i64 E.sn1, .int .i64 E.so0, .int .i64 E.so1, .int .i64 E.melt] 46)).alloc (.cells #[.int .i64 E.tsn, .int .i64 E.tso, .slice E.LV.A E.LV.n E.LV.c, .slice E.RN.A E.RN.n E.RN.c] 50)).alloc (.cells #[.slice none 0 0] 39)).alloc (.cells #[.slice none 0 0] 33)) := ⟨_, rfl⟩
  have hb1 : Below w.heap.size w w1 := by rw [hw1]; exact ((((Below.refl _ _).alloc (Nat.le_refl _) _).alloc (by simp) _).alloc (by simp; omega) _).alloc (by simp; omega) _
  have hsz : w1.heap.size = w.heap.size + 4 := by rw [hw1]; simp
  have hg : Blk w1 w.heap.size 46 #[.slice E.CS.A E.CS.n E.CS.c, .int .i64 E.sn0, .int .i64 E.sn1, .int .i64 E.so0, .int .i64 E.so1, .int .i64 E.melt] := by
    rw [hw1]; exact (((Blk.new w _ _).alloc _).alloc _).alloc _
  have ht : Blk w1 (w.heap.size + 1) 50 #[.int .i64 E.tsn, .int .i64 E.tso, .slice E.LV.A E.LV.n E.LV.c, .slice E.RN.A E.RN.n E.RN.c] := by
    rw [hw1]
    have := ((Blk.new (w.alloc (.cells #[.slice E.CS.A E.CS.n E.CS.c, .int .i64 E.sn0, .int .i64 E.sn1, .int .i64 E.so0, .int .i64 E.so1, .int .i64 E.melt] 46)) 50 #[.int .i64 E.tsn, .int .i64 E.tso, .slice E.LV.A E.LV.n E.LV.c, .slice E.RN.A E.RN.n E.RN.c]).alloc (.cells #[.slice none 0 0] 39)).alloc (.cells #[.slice none 0 0] 33)
    simpa only [World.size_alloc] using this
  have ho : Blk w1 (w.heap.size + 1 + 1) 39 #[.slice none 0 0] := by
    rw [hw1]
    have := (Blk.new ((w.alloc (.cells #[.slice E.CS.A E.CS.n E.CS.c, .int .i64 E.sn0, .int .i64 E.sn1, .int .i64 E.so0, .int .i64 E.so1, .int .i64 E.melt] 46)).alloc (.cells #[.int .i64 E.tsn, .int .i64 E.tso, .slice E.LV.A E.LV.n E.LV.c, .slice E.RN.A E.RN.n E.RN.c] 50)) 39 #[.slice none 0 0]).alloc (.cells #[.slice none 0 0] 33)
    simpa only [World.size_alloc] using this
  have hlf : Blk w1 (w.heap.size + 1 + 1 + 1) 33 #[.slice none 0 0] := by
    rw [hw1]
    have := Blk.new (((w.alloc (.cells #[.slice E.CS.A E.CS.n E.CS.c, .int .i64 E.sn0, .int .i64 E.sn1, .int .i64 E.so0, .int .i64 E.so1, .int .i64 E.melt] 46)).alloc (.cells #[.int .i64 E.tsn, .int .i64 E.tso, .slice E.LV.A E.LV.n E.LV.c, .slice E.RN.A E.RN.n E.RN.c] 50)).alloc (.cells #[.slice none 0 0] 39)) 33 #[.slice none 0 0]
    simpa only [World.size_alloc] using this
  have HB := Lib.hid hb1; have HG := Lib.hid hg; have HT := Lib.hid ht; have HO := Lib.hid ho; have HLF := Lib.hid hlf; have HW1 := Lib.hid hw1
  clear hb1 hg ht ho hlf hw1
  refine (callsIn_wide (n := 8)).1 ?_
  refine callsIn_of_wp_marks Tryz.func9 rfl trivial ?_ rfl
  simp only [Tryz.ntmps9, List.size_toArray, List.length_cons, List.length_nil, Nat.reduceAdd, Nat.reduceSub, Array.replicate_succ, Array.replicate_zero, List.push_toArray, List.append_toArray, List.nil_append, List.cons_append]
  refine wpIn_wide.2 ?_
  go_upto_region 1 with fail
  have hfold : ∀ P : World → Prop, P w1 → P ((((w.alloc (.cells #[.slice E.CS.A E.CS.n E.CS.c, .int .i64 E.sn0, .int .i64 E.sn1, .int .i64 E.so0, .int .i64 E.so1, .int .i64 E.melt] 46)).alloc (.cells #[.int .i64 E.tsn, .int .i64 E.tso, .slice E.LV.A E.LV.n E.LV.c, .slice E.RN.A E.RN.n E.RN.c] 50)).alloc (.cells #[.slice none 0 0] 39)).alloc (.cells #[.slice none 0 0] 33)) := fun P h => by rw [HW1.out] at h; exact h
  refine hfold _ ?_
  clear hfold HW1
  have g0 := HG.out.cell 0; have g1 := HG.out.cell 1; have g2 := HG.out.cell 2; have g3 := HG.out.cell 3; have g4 := HG.out.cell 4; have g5 := HG.out.cell 5
  simp at g0 g1 g2 g3 g4 g5
  go_wp2_with fail
  go_at_call 21
  refine (HWC.out _ HB.out).mono ?_
  rintro e w2 ⟨rfl, hb9⟩
  have t0 := below_tr HB.out hb9; have t1 := HG.out.below hb9 HG.out.lt; have t2 := HT.out.below hb9 HT.out.lt; have t3 := HO.out.below hb9 HO.out.lt; have t4 := HLF.out.below hb9 HLF.out.lt
  clear HB HG HT HO HLF
  have HB := Lib.hid t0; have HG := Lib.hid t1; have HT := Lib.hid t2; have HO := Lib.hid t3; have HLF := Lib.hid t4
  clear t0 t1 t2 t3 t4
  clear hb9 
  clear g0 g1 g2 g3 g4 g5
  have g0 := HG.out.cell 0; have g1 := HG.out.cell 1; have g2 := HG.out.cell 2; have g3 := HG.out.cell 3; have g4 := HG.out.cell 4; have g5 := HG.out.cell 5
  have t0 := HT.out.cell 0; have t1 := HT.out.cell 1; have t2 := HT.out.cell 2; have t3 := HT.out.cell 3
  simp at g0 g1 g2 g3 g4 g5 t0 t1 t2 t3
  go_wp2_with fail
  go_at_call 22
  refine (HHC.out _ HB.out).mono ?_
  rintro e w3 ⟨rfl, hb9⟩
  have t0 := below_tr HB.out hb9; have t1 := HG.out.below hb9 HG.out.lt; have t2 := HT.out.below hb9 HT.out.lt; have t3 := HO.out.below hb9 HO.out.lt; have t4 := HLF.out.below hb9 HLF.out.lt
  clear HB HG HT HO HLF
  have HB := Lib.hid t0; have HG := Lib.hid t1; have HT := Lib.hid t2; have HO := Lib.hid t3; have HLF := Lib.hid t4
  clear t0 t1 t2 t3 t4
  clear hb9 
  clear g0 g1 g2 g3 g4 g5 t0 t1 t2 t3
  have g0 := HG.out.cell 0; have g1 := HG.out.cell 1; have g2 := HG.out.cell 2; have g3 := HG.out.cell 3; have g4 := HG.out.cell 4; have g5 := HG.out.cell 5
  have t0 := HT.out.cell 0; have t1 := HT.out.cell 1; have t2 := HT.out.cell 2; have t3 := HT.out.cell 3
  simp at g0 g1 g2 g3 g4 g5 t0 t1 t2 t3
  go_wp2_with fail
  go_at_call 23
  refine (HBC.out _ HB.out).mono ?_
  rintro e w4 ⟨W0, rfl, hge, hway, hb9⟩
  have HGE := Lib.hid (Nat.le_trans HB.out.size hge); clear hge
  have t0 := below_tr HB.out hb9; have t1 := HG.out.below hb9 HG.out.lt; have t2 := HT.out.below hb9 HT.out.lt; have t3 := HO.out.below hb9 HO.out.lt; have t4 := HLF.out.below hb9 HLF.out.lt
  clear HB HG HT HO HLF
  have HB := Lib.hid t0; have HG := Lib.hid t1; have HT := Lib.hid t2; have HO := Lib.hid t3; have HLF := Lib.hid t4
  clear t0 t1 t2 t3 t4
  have HWAY := Lib.hid hway
  clear hb9 hway
  clear g0 g1 g2 g3 g4 g5 t0 t1 t2 t3
  clear HG HT
  go_upto_region 7 with fail
  have hw5 := Blk.new w4 79 #[.pointer (some ⟨W0, 0, none⟩)]
  have hal := (Below.refl w4.heap.size w4).alloc (Nat.le_refl _) (.cells #[.pointer (some ⟨W0, 0, none⟩)] 79)
  have t0 := below_tr HB.out hal; have t1 := HO.out.below hal HO.out.lt; have t2 := HLF.out.below hal HLF.out.lt; have t3 := HWAY.out.below hal HWAY.out.lt
  clear HB HO HLF HWAY
  have HB := Lib.hid t0; have HO := Lib.hid t1; have HLF := Lib.hid t2; have HWAY := Lib.hid t3
  clear t0 t1 t2 t3
  have HBW := Lib.hid hw5
  clear hal hw5
  revert HB HO HLF HWAY HBW
  generalize World.alloc w4 _ = w5
  intro HB HO HLF HWAY HBW
  generalize w4.heap.size = Bw at *
  have hc := HBW.out.cell 0
  simp at hc
  go_wp2_with fail
  go_at_call 24
  refine (after_c W0 _).mono ?_
  rintro e w6 ⟨rfl, rfl⟩
  go_wp2_with fail
  refine (wpIn_wide (n := 8)).1 ?_
  have hal := (Below.refl w5.heap.size w5).alloc (Nat.le_refl _) (.cells #[.pointer (some ⟨W0, 0, none⟩)] 79)
  have hbx := Blk.new w5 79 #[.pointer (some ⟨W0, 0, none⟩)]
  have hbase : w.heap.size + 4 ≤ w5.heap.size := by have := HLF.out.lt; omega
  have hne : E.Ne W0 := by
    have hge := HGE.out
    exact ⟨fun ad e => by have := HRE.out ad (.inl e); omega, fun ad e => by have := HRE.out ad (.inr (.inl e)); omega, fun ad e => by have := HRE.out ad (.inr (.inr e)); omega⟩
  have hRI : RunI E w (w.heap.size + 4) W0 w5.heap.size Bw (w.heap.size + 1 + 1) (E.st 0) 0 (.slice none 0 0) (.slice none 0 0) [] (w5.alloc (.cells #[.pointer (some ⟨W0, 0, none⟩)] 79)) :=
    ⟨HWAY.out.below hal HWAY.out.lt, (HR.out.below HB.out).below hal, hbx, HBW.out.below hal HBW.out.lt, HO.out.below hal HO.out.lt, World.ownsRow_nil _ _ _ _, rfl, fun j r h => by simp at h, fun r h => by simp at h, below_tr HB.out hal, by omega, Nat.le_trans hbase hal.size⟩
  have hLI : LeftI (w.heap.size + 4) (w.heap.size + 1 + 1 + 1) 0 (.slice none 0 0) (.slice none 0 0) [] [] (w5.alloc (.cells #[.pointer (some ⟨W0, 0, none⟩)] 79)) :=
    ⟨HLF.out.below hal HLF.out.lt, World.ownsRow_nil _ _ _ _, fun r h => by simp at h⟩
  have hsz6 : (w5.alloc (.cells #[.pointer (some ⟨W0, 0, none⟩)] 79)).heap.size = w5.heap.size + 1 := by simp
  have hWlt := HWAY.out.lt
  have HRI := Lib.hid hRI; have HLI := Lib.hid hLI; have HNE := Lib.hid hne
  clear hal hbx hne hRI hLI hc HB HO HLF HWAY HBW
  revert hsz6 HRI HLI
  generalize World.alloc w5 _ = wd
  intro hsz6 HRI HLI
  obtain ⟨i0, hi0, hz0, hz1, hz2⟩ := info_parts infoII
  have HI0 := Lib.hid hi0; have HZ0 := Lib.hid hz0; have HZ1 := Lib.hid hz1; have HZ2 := Lib.hid hz2
  obtain ⟨j0, hj0, hy0, hy1, hy2⟩ := info_parts infoNum
  have HJ0 := Lib.hid hj0; have HY0 := Lib.hid hy0; have HY1 := Lib.hid hy1; have HY2 := Lib.hid hy2
  clear hi0 hz0 hz1 hz2 hj0 hy0 hy1 hy2
  have hge0 := HGE.out
  refine wpIn_range_turns (I := fun k U => ∃ v rs vl xs, RunI E w (w.heap.size + 4) W0 w5.heap.size Bw (w.heap.size + 1 + 1) (E.st k) k v v rs U ∧ LeftI (w.heap.size + 4) (w.heap.size + 1 + 1 + 1) k vl vl xs rs U) (J := fun k U => ∃ v rs vl xs, RunI E w (w.heap.size + 4) W0 w5.heap.size Bw (w.heap.size + 1 + 1) (E.st (k + 1)) k v v rs U ∧ LeftI (w.heap.size + 4) (w.heap.size + 1 + 1 + 1) k vl vl xs rs U) (T := Fr fun g => g = W0) (N := E.DS.n) (encs := E.encs) rfl (by omega) (gf := 56) (lb := #[.pointer (some ⟨w5.heap.size, 0, none⟩)]) rfl trivial (enters_of Tryz.func56 (by kernel_rfl) rfl)
    (after_iter HOK.out HNE.out (fun k U ⟨v, rs, vl, xs, h, _⟩ => ⟨h.blk, h.rds, h.bx⟩) (HRI.out.bx.ne HRI.out.blk (by decide)) (fun k U U' hk ⟨v, rs, vl, xs, h, hl⟩ hb hf => ⟨v, rs, vl, xs, h.turn HNE.out hge0 hb hf, hl.turn h.blk (by decide) hf⟩) (by omega) wd)
    (fun _ => rfl) (fun U U' g o hf hg h => (hf.block g (Array.getElem?_eq_some_iff.1 h).1 (by omega)).trans h)
    ⟨fun k U l o o' ⟨v, rs, vl, xs, h, hl'⟩ hl hq hc => ⟨v, rs, vl, xs, h.put (by omega) hq hc, hl'.put hq hc⟩, fun k U o ⟨v, rs, vl, xs, h, hl'⟩ => ⟨v, rs, vl, xs, h.below ((Below.refl _ _).alloc (Nat.le_refl _) _), hl'.below ((Below.refl _ _).alloc (Nat.le_refl _) _)⟩⟩
    ⟨fun k U l o o' ⟨v, rs, vl, xs, h, hl'⟩ hl hq hc => ⟨v, rs, vl, xs, h.put (by omega) hq hc, hl'.put hq hc⟩, fun k U o ⟨v, rs, vl, xs, h, hl'⟩ => ⟨v, rs, vl, xs, h.below ((Below.refl _ _).alloc (Nat.le_refl _) _), hl'.below ((Below.refl _ _).alloc (Nat.le_refl _) _)⟩⟩
    ⟨_, _, _, _, HRI.out, HLI.out⟩ ?a1 ?assign ?body ?done
  case assign =>
    intro l k U K h
    dsimp only [WE.encs]
    gi_wp2
    exact h
  case body =>
    intro l k U hl hJ hk
    obtain ⟨v, rs, vl, xs, hI, hL⟩ := hJ
    have HUO := Lib.hid hI.own; have HUL := Lib.hid hL.own
    have HK := Lib.hid (Fr.refl (fun g => g = w.heap.size + 1 + 1 ∨ g = w.heap.size + 1 + 1 + 1 ∨ v.ownBlock = some g ∨ vl.ownBlock = some g) U)
    have hok := HOK.out
    have HLEN := Lib.hid (WE.bd hok (k + 1)).2.1
    have HN8 := Lib.hid hok.n.2
    have HKD := Lib.hid (show k < 30 by have := hok.dn; omega)
    have HI := Lib.hid hI; have HL := Lib.hid hL
    clear hI hL hok
    gi_wp2_with fail
    refine wpIn_region_till_round [11, 12, 13] (fun V => V.cell? ⟨w.heap.size + 1 + 1, 0, none⟩ = some v ∧ V.cell? ⟨Bw, 0, none⟩ = some (.pointer (some ⟨W0, 0, none⟩)) ∧ V.cell? ⟨w.heap.size + 1 + 1 + 1, 0, none⟩ = some vl ∧ V.cell? ⟨W0, 20, none⟩ = some (.int .i64 (E.st (k + 1)).left)) (by kernel_rfl) (by kernel_rfl) (by have hd0 := HI.out.below ((Below.refl U.heap.size U).drew); have hd1 := HL.out.below ((Below.refl U.heap.size U).drew); exact ⟨by simpa using hd0.bo.cell 0, by simpa using hd0.bw.cell 0, by simpa using hd1.bl.cell 0, by simpa [WE.cells, wayC] using hd0.blk.cell 20⟩) (fun hHeld => ?_)
    have hb9 := (Below.refl U.heap.size U).drew
    have t0 := HK.out.trans (Fr.of_below hb9 _); have t1 := HI.out.below hb9; have t2 := HL.out.below hb9
    clear HK HI HL
    have HK := Lib.hid t0; have HI := Lib.hid t1; have HL := Lib.hid t2
    clear t0 t1 t2
    clear hb9
    revert hHeld HK HI HL
    generalize U.drew = w0
    intro hHeld HK HI HL
    (refine wpAnyL_take (n := 1) (i := 0) (oi := ?ox1) (v := ?vx1) ?hix1 ?k1x1 ?k2x1 ?k3x1 ?k4x1 ?k5x1 ?k6x1 ?hQx1 ?hYx1 ?hSx1 ?restx1; (case hix1 => (simp only [List.getElem?_toArray, List.getElem?_cons_succ, List.getElem?_cons_zero]; exact rfl)); (case k1x1 => kernel_rfl); (case k2x1 => kernel_rfl); (case k3x1 => kernel_rfl); (case k4x1 => kernel_rfl); (case k5x1 => kernel_rfl); (case k6x1 => kernel_rfl); (case hSx1 => assumption); (case hYx1 => (refine Or.inl ⟨rfl, ?hyx1⟩; intro w hSw; (try dsimp only at hSw); go_simp; (try with_reducible rfl))); (case hQx1 => exact (fun _ _ _ h => h)); (try simp only [Act.put, List.setIfInBounds_toArray, List.set_cons_zero, List.set_cons_succ]))
    (refine wpAnyL_take (n := 2) (i := 1) (oi := ?ox2) (v := ?vx2) ?hix2 ?k1x2 ?k2x2 ?k3x2 ?k4x2 ?k5x2 ?k6x2 ?hQx2 ?hYx2 ?hSx2 ?restx2; (case hix2 => (simp only [List.getElem?_toArray, List.getElem?_cons_succ, List.getElem?_cons_zero]; exact rfl)); (case k1x2 => kernel_rfl); (case k2x2 => kernel_rfl); (case k3x2 => kernel_rfl); (case k4x2 => kernel_rfl); (case k5x2 => kernel_rfl); (case k6x2 => kernel_rfl); (case hSx2 => assumption); (case hYx2 => (refine Or.inl ⟨rfl, ?hyx2⟩; intro w hSw; (try dsimp only at hSw); go_simp; (try with_reducible rfl))); (case hQx2 => exact (fun _ _ _ h => h)); (try simp only [Act.put, List.setIfInBounds_toArray, List.set_cons_zero, List.set_cons_succ]))
    (refine wpAnyL_take (n := 1) (i := 5) (oi := ?ox3) (v := ?vx3) ?hix3 ?k1x3 ?k2x3 ?k3x3 ?k4x3 ?k5x3 ?k6x3 ?hQx3 ?hYx3 ?hSx3 ?restx3; (case hix3 => (simp only [List.getElem?_toArray, List.getElem?_cons_succ, List.getElem?_cons_zero]; exact rfl)); (case k1x3 => kernel_rfl); (case k2x3 => kernel_rfl); (case k3x3 => kernel_rfl); (case k4x3 => kernel_rfl); (case k5x3 => kernel_rfl); (case k6x3 => kernel_rfl); (case hSx3 => assumption); (case hYx3 => (refine Or.inl ⟨rfl, ?hyx3⟩; intro w hSw; (try dsimp only at hSw); go_simp; (try with_reducible rfl))); (case hQx3 => exact (fun _ _ _ h => h)); (try simp only [Act.put, List.setIfInBounds_toArray, List.set_cons_zero, List.set_cons_succ]))
    (refine wpAnyL_take (n := 5) (i := 6) (oi := ?ox4) (v := ?vx4) ?hix4 ?k1x4 ?k2x4 ?k3x4 ?k4x4 ?k5x4 ?k6x4 ?hQx4 ?hYx4 ?hSx4 ?restx4; (case hix4 => (simp only [List.getElem?_toArray, List.getElem?_cons_succ, List.getElem?_cons_zero]; exact rfl)); (case k1x4 => kernel_rfl); (case k2x4 => kernel_rfl); (case k3x4 => kernel_rfl); (case k4x4 => kernel_rfl); (case k5x4 => kernel_rfl); (case k6x4 => kernel_rfl); (case hSx4 => assumption); (case hYx4 => (refine Or.inl ⟨rfl, ?hyx4⟩; intro w hSw; (try dsimp only at hSw); go_simp; (try with_reducible rfl))); (case hQx4 => exact (fun _ _ _ h => h)); (try simp only [Act.put, List.setIfInBounds_toArray, List.set_cons_zero, List.set_cons_succ]))
    (refine wpAnyL_take (n := 4) (i := 7) (oi := ?ox5) (v := ?vx5) ?hix5 ?k1x5 ?k2x5 ?k3x5 ?k4x5 ?k5x5 ?k6x5 ?hQx5 ?hYx5 ?hSx5 ?restx5; (case hix5 => (simp only [List.getElem?_toArray, List.getElem?_cons_succ, List.getElem?_cons_zero]; exact rfl)); (case k1x5 => kernel_rfl); (case k2x5 => kernel_rfl); (case k3x5 => kernel_rfl); (case k4x5 => kernel_rfl); (case k5x5 => kernel_rfl); (case k6x5 => kernel_rfl); (case hSx5 => assumption); (case hYx5 => (refine Or.inl ⟨rfl, ?hyx5⟩; intro w hSw; (try dsimp only at hSw); go_simp; (try with_reducible rfl))); (case hQx5 => exact (fun _ _ _ h => h)); (try simp only [Act.put, List.setIfInBounds_toArray, List.set_cons_zero, List.set_cons_succ]))
    (refine wpAnyL_take (n := 3) (i := 8) (oi := ?ox6) (v := ?vx6) ?hix6 ?k1x6 ?k2x6 ?k3x6 ?k4x6 ?k5x6 ?k6x6 ?hQx6 ?hYx6 ?hSx6 ?restx6; (case hix6 => (simp only [List.getElem?_toArray, List.getElem?_cons_succ, List.getElem?_cons_zero]; exact rfl)); (case k1x6 => kernel_rfl); (case k2x6 => kernel_rfl); (case k3x6 => kernel_rfl); (case k4x6 => kernel_rfl); (case k5x6 => kernel_rfl); (case k6x6 => kernel_rfl); (case hSx6 => assumption); (case hYx6 => (refine Or.inl ⟨rfl, ?hyx6⟩; intro w hSw; (try dsimp only at hSw); go_simp; (try with_reducible rfl))); (case hQx6 => exact (fun _ _ _ h => h)); (try simp only [Act.put, List.setIfInBounds_toArray, List.set_cons_zero, List.set_cons_succ]))
    (refine wpAnyL_take (n := 2) (i := 9) (oi := ?ox7) (v := ?vx7) ?hix7 ?k1x7 ?k2x7 ?k3x7 ?k4x7 ?k5x7 ?k6x7 ?hQx7 ?hYx7 ?hSx7 ?restx7; (case hix7 => (simp only [List.getElem?_toArray, List.getElem?_cons_succ, List.getElem?_cons_zero]; exact rfl)); (case k1x7 => kernel_rfl); (case k2x7 => kernel_rfl); (case k3x7 => kernel_rfl); (case k4x7 => kernel_rfl); (case k5x7 => kernel_rfl); (case k6x7 => kernel_rfl); (case hSx7 => assumption); (case hYx7 => (refine Or.inl ⟨rfl, ?hyx7⟩; intro w hSw; (try dsimp only at hSw); go_simp; (try with_reducible rfl))); (case hQx7 => exact (fun _ _ _ h => h)); (try simp only [Act.put, List.setIfInBounds_toArray, List.set_cons_zero, List.set_cons_succ]))
    refine wpAnyL_ready (rs := [2, 10]) (by kernel_rfl) (by simp) ?_
    refine AllReadyL.cons (o := ?o2x8) ?hi2x8 (fun K hK => ?_) (AllReadyL.cons (o := ?o10x8) ?hi10x8 (fun K hK => ?_) AllReadyL.nil)
    (case hi2x8 => (simp only [List.getElem?_toArray, List.getElem?_cons_succ, List.getElem?_cons_zero]; exact rfl))
    (case hi10x8 => (simp only [List.getElem?_toArray, List.getElem?_cons_succ, List.getElem?_cons_zero]; exact rfl))
    · skip
      go_simp
      have HSZ := Lib.hid (Nat.le_refl w0.heap.size)
      go_at_call 25
      refine (now_c HI.out.blk HN8.out HLEN.out).mono ?_
      rintro e w1 ⟨vN, rfl, hown, hb9⟩
      obtain ⟨AN, cN, rfl, hcN⟩ := own_form hown; have HAP := Lib.hid (show ∀ g, vl.ownBlock = some g → (Value.slice AN E.CS.n cN).ownBlock ≠ some g from fun g h1 h2 => by have h3 := (HL.out.own.lt g h1).2; have h4 := (hown.lt g h2).1; omega); have hown := own_low hown HI.out.hs
      have t0 := HK.out.trans (Fr.of_below hb9 _); have t1 := HI.out.below hb9; have t2 := HL.out.below hb9
      clear HK HI HL
      have HK := Lib.hid t0; have HI := Lib.hid t1; have HL := Lib.hid t2
      clear t0 t1 t2
      have HOW := Lib.hid hown
      clear hb9 hown
      have hl9 := HL.out.more (r := ⟨AN, E.CS.n, cN, (E.st (k + 1)).lv⟩) HAP.out
      clear HL HAP HSZ
      have HL := Lib.hid hl9
      clear hl9
      (try go_wp2_with fail)
      (try clear hHeld)
      refine hK.out _ _ (by (try dsimp only); exact ⟨by simpa using HI.out.bo.cell 0, by simpa using HI.out.bw.cell 0, by simpa using HL.out.bl.cell 0, by simpa [WE.cells, wayC] using HI.out.blk.cell 20⟩) (fun hHeld => ?_)
      clear hK K
      (try simp only [Act.put, List.setIfInBounds_toArray, List.set_cons_zero, List.set_cons_succ])
      refine wpAnyL_ready (rs := [3, 10]) (by kernel_rfl) (by simp) ?_
      refine AllReadyL.cons (o := ?o3x9) ?hi3x9 (fun K hK => ?_) (AllReadyL.cons (o := ?o10x9) ?hi10x9 (fun K hK => ?_) AllReadyL.nil)
      (case hi3x9 => (simp only [List.getElem?_toArray, List.getElem?_cons_succ, List.getElem?_cons_zero]; exact rfl))
      (case hi10x9 => (simp only [List.getElem?_toArray, List.getElem?_cons_succ, List.getElem?_cons_zero]; exact rfl))
      · skip
        go_simp
        have hb9 := (Below.refl w1.heap.size w1).alloc (Nat.le_refl _) (.cells #[.slice AN E.CS.n cN] 33)
        have hn := Blk.new w1 33 #[.slice AN E.CS.n cN]
        have t0 := HK.out.trans (Fr.of_below hb9 _); have t1 := HI.out.below hb9; have t2 := HL.out.below hb9; have t3 := own_mono HOW.out hb9
        clear HK HI HL HOW
        have HK := Lib.hid t0; have HI := Lib.hid t1; have HL := Lib.hid t2; have HOW := Lib.hid t3
        clear t0 t1 t2 t3
        have HA := Lib.hid hn
        clear hb9 hn
        (try clear hHeld)
        refine hK.out _ _ (by (try dsimp only); exact ⟨by simpa using HI.out.bo.cell 0, by simpa using HI.out.bw.cell 0, by simpa using HL.out.bl.cell 0, by simpa [WE.cells, wayC] using HI.out.blk.cell 20⟩) (fun hHeld => ?_)
        clear hK K
        (try simp only [Act.put, List.setIfInBounds_toArray, List.set_cons_zero, List.set_cons_succ])
        revert hHeld HK HI HL HOW HA
        generalize hgA : w1.heap.size = gA
        generalize (World.alloc w1 (.cells #[.slice AN E.CS.n cN] 33)) = w0
        intro HK HI HL HOW HA hHeld
        clear hgA
        refine wpAnyL_ready (rs := [4, 10]) (by kernel_rfl) (by simp) ?_
        refine AllReadyL.cons (o := ?o4x10) ?hi4x10 (fun K hK => ?_) (AllReadyL.cons (o := ?o10x10) ?hi10x10 (fun K hK => ?_) AllReadyL.nil)
        (case hi4x10 => (simp only [List.getElem?_toArray, List.getElem?_cons_succ, List.getElem?_cons_zero]; exact rfl))
        (case hi10x10 => (simp only [List.getElem?_toArray, List.getElem?_cons_succ, List.getElem?_cons_zero]; exact rfl))
        · skip
          refine step_append_rd rfl _ _ 39 rfl (w.heap.size + 4) 33 i0 (.slice none 0 0) 1 24 Tryz.underlying39 HI0.out HZ0.out HZ1.out HZ2.out rfl (by decide) v k (rs.flatMap encI) rfl HI.out.own encI_len oneI (some ⟨gA, 0, none⟩) 1 1 [⟨AN, E.CS.n, cN, (E.st (k + 1)).lv⟩] rfl (Rd.of_blkE (k := 1) encI_len HA.out (l := [(⟨AN, E.CS.n, cN, (E.st (k + 1)).lv⟩ : RowI)]) rfl rfl) (by have := HKD.out; unfold maxLen; omega) (by have := HKD.out; omega) HI.out.hs ?_
          intro v' w3 hown3 hgrow
          obtain ⟨A3, c3, rfl, hc3⟩ := own_form hown3
          have hi9 := HI.out.grow (r := ⟨AN, E.CS.n, cN, (E.st (k + 1)).lv⟩) rfl HOW.out rfl rfl (by rw [List.flatMap_append]; exact hown3) hgrow HRE.out
          have hl9 := HL.out.other (by omega) HI.out.own hgrow
          have hk9 := HK.out.comp (Fr.of_grown hgrow (E := fun g => v.ownBlock = some g) fun g e _ => e) (fun g e => .inl (.inr (.inr (.inl e))))
          (first
            | (have hx9 := HX.out.grown hgrow (fun e => own_blk_ne HI.out.own HX.out (by decide) e.symm); clear HX; have HX := Lib.hid hx9; clear hx9)
            | skip)
          clear HI HL HK HOW HA
          have HI := Lib.hid hi9; have HL := Lib.hid hl9; have HK := Lib.hid hk9
          clear hi9 hl9 hk9 hgrow hown3
          (try clear hHeld)
          refine hK.out _ _ (by (try dsimp only); exact ⟨by simpa using HI.out.bo.cell 0, by simpa using HI.out.bw.cell 0, by simpa using HL.out.bl.cell 0, by simpa [WE.cells, wayC] using HI.out.blk.cell 20⟩) (fun hHeld => ?_)
          clear hK K
          (try simp only [Act.put, List.setIfInBounds_toArray, List.set_cons_zero, List.set_cons_succ])
          refine wpAnyL_ready (rs := [10]) (by kernel_rfl) (by simp) ?_
          refine AllReadyL.cons (o := ?o10x11) ?hi10x11 (fun K hK => ?_) AllReadyL.nil
          (case hi10x11 => (simp only [List.getElem?_toArray, List.getElem?_cons_succ, List.getElem?_cons_zero]; exact rfl))
          go_simp
          have hb9 := (Below.refl w3.heap.size w3).alloc (Nat.le_refl _) (.cells #[.int .i64 (E.st (k + 1)).left] 3)
          have hn := Blk.new w3 3 #[.int .i64 (E.st (k + 1)).left]
          have t0 := HK.out.trans (Fr.of_below hb9 _); have t1 := HI.out.below hb9; have t2 := HL.out.below hb9
          clear HK HI HL
          have HK := Lib.hid t0; have HI := Lib.hid t1; have HL := Lib.hid t2
          clear t0 t1 t2
          have HX := Lib.hid hn
          clear hb9 hn
          (try clear hHeld)
          refine hK.out _ _ (by (try dsimp only); exact ⟨by simpa using HI.out.bo.cell 0, by simpa using HI.out.bw.cell 0, by simpa using HL.out.bl.cell 0, by simpa [WE.cells, wayC] using HI.out.blk.cell 20⟩) (fun hHeld => ?_)
          clear hK K
          (try simp only [Act.put, List.setIfInBounds_toArray, List.set_cons_zero, List.set_cons_succ])
          revert hHeld HK HI HL HX
          generalize hgX : w3.heap.size = gX
          generalize (World.alloc w3 (.cells #[.int .i64 (E.st (k + 1)).left] 3)) = w0
          intro HK HI HL HX hHeld
          clear hgX
          refine wpAnyL_ready (rs := [11]) (by kernel_rfl) (by simp) ?_
          refine AllReadyL.last (o := ?o11x12) ?hi11x12 ?he11x12 (fun K hK => ?_) AllReadyL.nil
          (case hi11x12 => (simp only [List.getElem?_toArray, List.getElem?_cons_succ, List.getElem?_cons_zero]; exact rfl))
          (case he11x12 => kernel_rfl)
          refine step_append_lies _ rfl _ _ 33 rfl (w.heap.size + 4) 3 j0 (.int .i64 0) 1 8 Tryz.underlying33 HJ0.out HY0.out HY1.out HY2.out rfl (by decide) vl k xs rfl HL.out.own ⟨gX, 0, none⟩ 1 1 [.int .i64 (E.st (k + 1)).left] rfl rfl (World.news_of_block (cs := #[.int .i64 (E.st (k + 1)).left]) HX.out) (by simp [Value.oneCell']) (by omega) (by have := HKD.out; unfold maxLen; omega) (by have := HKD.out; omega) HI.out.hs _ rfl ?_
          intro gl cl w8 hown5 hgrow hat hlt5
          have hi9 := HI.out.other HL.out.own HL.out.ap hgrow HRE.out
          have hl9 := HL.out.grow (by omega) hown5 hgrow hat HI.out.owns
          have hk9 := HK.out.comp (Fr.of_grown hgrow (E := fun g => vl.ownBlock = some g) fun g e _ => e) (fun g e => .inl (.inr (.inr (.inr e))))
          clear HI HL HK HX
          have HI := Lib.hid hi9; have HL := Lib.hid hl9; have HK := Lib.hid hk9
          clear hi9 hl9 hk9 hgrow hown5 hat
          (try clear hHeld)
          refine hK.out _ _ ?_
          clear hK K
          (try simp only [Act.put, List.setIfInBounds_toArray, List.set_cons_zero, List.set_cons_succ])
          refine wpAnyL_ready (rs := [12]) (by kernel_rfl) (by simp) ?_
          refine AllReadyL.last (o := ?o12x13) ?hi12x13 ?he12x13 (fun K hK => ?_) AllReadyL.nil
          (case hi12x13 => (simp only [List.getElem?_toArray, List.getElem?_cons_succ, List.getElem?_cons_zero]; exact rfl))
          (case he12x13 => kernel_rfl)
          have s0 := HI.out.bo.cell 0; have f0 := HI.out.bo.frozen 0
          (try simp at s0)
          go_simp
          (try clear hHeld)
          refine hK.out _ _ ?_
          clear hK K
          (try simp only [Act.put, List.setIfInBounds_toArray, List.set_cons_zero, List.set_cons_succ])
          refine wpAnyL_ready (rs := [13]) (by kernel_rfl) (by simp) ?_
          refine AllReadyL.last (o := ?o13x14) ?hi13x14 ?he13x14 (fun K hK => ?_) AllReadyL.nil
          (case hi13x14 => (simp only [List.getElem?_toArray, List.getElem?_cons_succ, List.getElem?_cons_zero]; exact rfl))
          (case he13x14 => kernel_rfl)
          clear s0 f0
          have hlx := (HL.out.far (B := w.heap.size + 1 + 1) HI.out.bo (by decide) (.slice A3 (k + 1) c3))
          have s0 := hlx.bl.cell 0; have f0 := hlx.bl.frozen 0
          (try simp at s0)
          go_simp
          (try clear hHeld)
          refine hK.out _ _ ?_
          clear hK K
          (try simp only [Act.put, List.setIfInBounds_toArray, List.set_cons_zero, List.set_cons_succ])
          (refine wpAnyL_done (by kernel_rfl) ?_ _)
          dsimp only [OnlyN]
          gi_wp2
          have hi9 := HI.out.store (by omega) HRE.out (.slice A3 (k + 1) c3)
          have hi8 := hi9.box hlx.bl (by omega) HRE.out (.slice (some ⟨gl, 0, none⟩) (k + 1) cl)
          have hl8 := hlx.store (by omega) (.slice (some ⟨gl, 0, none⟩) (k + 1) cl)
          refine ⟨?_, _, _, _, _, hi8, hl8⟩
          refine ((HK.out.setAt (p := ⟨w.heap.size + 1 + 1, 0, none⟩) (.inl (.inl rfl)) _).setAt (p := ⟨w.heap.size + 1 + 1 + 1, 0, none⟩) (.inl (.inr (.inl rfl))) _).keeps ?_
          rintro g o (rfl | rfl | hg | hg) hle ho
          · omega
          · omega
          · obtain ⟨cur, hc⟩ := own_ty HUO.out hg
            rw [ho] at hc; cases hc; rfl
          · obtain ⟨cur, hc⟩ := own_ty HUL.out hg
            rw [ho] at hc; cases hc; rfl
        · skip
          go_simp
          have hb9 := (Below.refl w0.heap.size w0).alloc (Nat.le_refl _) (.cells #[.int .i64 (E.st (k + 1)).left] 3)
          have hn := Blk.new w0 3 #[.int .i64 (E.st (k + 1)).left]
          have t0 := HK.out.trans (Fr.of_below hb9 _); have t1 := HI.out.below hb9; have t2 := HL.out.below hb9; have t3 := own_mono HOW.out hb9; have t4 := HA.out.below hb9 HA.out.lt
          clear HK HI HL HOW HA
          have HK := Lib.hid t0; have HI := Lib.hid t1; have HL := Lib.hid t2; have HOW := Lib.hid t3; have HA := Lib.hid t4
          clear t0 t1 t2 t3 t4
          have HX := Lib.hid hn
          clear hb9 hn
          (try clear hHeld)
          refine hK.out _ _ (by (try dsimp only); exact ⟨by simpa using HI.out.bo.cell 0, by simpa using HI.out.bw.cell 0, by simpa using HL.out.bl.cell 0, by simpa [WE.cells, wayC] using HI.out.blk.cell 20⟩) (fun hHeld => ?_)
          clear hK K
          (try simp only [Act.put, List.setIfInBounds_toArray, List.set_cons_zero, List.set_cons_succ])
          revert hHeld HK HI HL HOW HA HX
          generalize hgX : w0.heap.size = gX
          generalize (World.alloc w0 (.cells #[.int .i64 (E.st (k + 1)).left] 3)) = w0
          intro HK HI HL HOW HA HX hHeld
          clear hgX
          refine wpAnyL_ready (rs := [4]) (by kernel_rfl) (by simp) ?_
          refine AllReadyL.cons (o := ?o4x15) ?hi4x15 (fun K hK => ?_) AllReadyL.nil
          (case hi4x15 => (simp only [List.getElem?_toArray, List.getElem?_cons_succ, List.getElem?_cons_zero]; exact rfl))
          refine step_append_rd rfl _ _ 39 rfl (w.heap.size + 4) 33 i0 (.slice none 0 0) 1 24 Tryz.underlying39 HI0.out HZ0.out HZ1.out HZ2.out rfl (by decide) v k (rs.flatMap encI) rfl HI.out.own encI_len oneI (some ⟨gA, 0, none⟩) 1 1 [⟨AN, E.CS.n, cN, (E.st (k + 1)).lv⟩] rfl (Rd.of_blkE (k := 1) encI_len HA.out (l := [(⟨AN, E.CS.n, cN, (E.st (k + 1)).lv⟩ : RowI)]) rfl rfl) (by have := HKD.out; unfold maxLen; omega) (by have := HKD.out; omega) HI.out.hs ?_
          intro v' w3 hown3 hgrow
          obtain ⟨A3, c3, rfl, hc3⟩ := own_form hown3
          have hi9 := HI.out.grow (r := ⟨AN, E.CS.n, cN, (E.st (k + 1)).lv⟩) rfl HOW.out rfl rfl (by rw [List.flatMap_append]; exact hown3) hgrow HRE.out
          have hl9 := HL.out.other (by omega) HI.out.own hgrow
          have hk9 := HK.out.comp (Fr.of_grown hgrow (E := fun g => v.ownBlock = some g) fun g e _ => e) (fun g e => .inl (.inr (.inr (.inl e))))
          (first
            | (have hx9 := HX.out.grown hgrow (fun e => own_blk_ne HI.out.own HX.out (by decide) e.symm); clear HX; have HX := Lib.hid hx9; clear hx9)
            | skip)
          clear HI HL HK HOW HA
          have HI := Lib.hid hi9; have HL := Lib.hid hl9; have HK := Lib.hid hk9
          clear hi9 hl9 hk9 hgrow hown3
          (try clear hHeld)
          refine hK.out _ _ (by (try dsimp only); exact ⟨by simpa using HI.out.bo.cell 0, by simpa using HI.out.bw.cell 0, by simpa using HL.out.bl.cell 0, by simpa [WE.cells, wayC] using HI.out.blk.cell 20⟩) (fun hHeld => ?_)
          clear hK K
          (try simp only [Act.put, List.setIfInBounds_toArray, List.set_cons_zero, List.set_cons_succ])
          refine wpAnyL_ready (rs := [11]) (by kernel_rfl) (by simp) ?_
          refine AllReadyL.last (o := ?o11x16) ?hi11x16 ?he11x16 (fun K hK => ?_) AllReadyL.nil
          (case hi11x16 => (simp only [List.getElem?_toArray, List.getElem?_cons_succ, List.getElem?_cons_zero]; exact rfl))
          (case he11x16 => kernel_rfl)
          refine step_append_lies _ rfl _ _ 33 rfl (w.heap.size + 4) 3 j0 (.int .i64 0) 1 8 Tryz.underlying33 HJ0.out HY0.out HY1.out HY2.out rfl (by decide) vl k xs rfl HL.out.own ⟨gX, 0, none⟩ 1 1 [.int .i64 (E.st (k + 1)).left] rfl rfl (World.news_of_block (cs := #[.int .i64 (E.st (k + 1)).left]) HX.out) (by simp [Value.oneCell']) (by omega) (by have := HKD.out; unfold maxLen; omega) (by have := HKD.out; omega) HI.out.hs _ rfl ?_
          intro gl cl w8 hown5 hgrow hat hlt5
          have hi9 := HI.out.other HL.out.own HL.out.ap hgrow HRE.out
          have hl9 := HL.out.grow (by omega) hown5 hgrow hat HI.out.owns
          have hk9 := HK.out.comp (Fr.of_grown hgrow (E := fun g => vl.ownBlock = some g) fun g e _ => e) (fun g e => .inl (.inr (.inr (.inr e))))
          clear HI HL HK HX
          have HI := Lib.hid hi9; have HL := Lib.hid hl9; have HK := Lib.hid hk9
          clear hi9 hl9 hk9 hgrow hown5 hat
          (try clear hHeld)
          refine hK.out _ _ ?_
          clear hK K
          (try simp only [Act.put, List.setIfInBounds_toArray, List.set_cons_zero, List.set_cons_succ])
          refine wpAnyL_ready (rs := [12]) (by kernel_rfl) (by simp) ?_
          refine AllReadyL.last (o := ?o12x17) ?hi12x17 ?he12x17 (fun K hK => ?_) AllReadyL.nil
          (case hi12x17 => (simp only [List.getElem?_toArray, List.getElem?_cons_succ, List.getElem?_cons_zero]; exact rfl))
          (case he12x17 => kernel_rfl)
          have s0 := HI.out.bo.cell 0; have f0 := HI.out.bo.frozen 0
          (try simp at s0)
          go_simp
          (try clear hHeld)
          refine hK.out _ _ ?_
          clear hK K
          (try simp only [Act.put, List.setIfInBounds_toArray, List.set_cons_zero, List.set_cons_succ])
          refine wpAnyL_ready (rs := [13]) (by kernel_rfl) (by simp) ?_
          refine AllReadyL.last (o := ?o13x18) ?hi13x18 ?he13x18 (fun K hK => ?_) AllReadyL.nil
          (case hi13x18 => (simp only [List.getElem?_toArray, List.getElem?_cons_succ, List.getElem?_cons_zero]; exact rfl))
          (case he13x18 => kernel_rfl)
          clear s0 f0
          have hlx := (HL.out.far (B := w.heap.size + 1 + 1) HI.out.bo (by decide) (.slice A3 (k + 1) c3))
          have s0 := hlx.bl.cell 0; have f0 := hlx.bl.frozen 0
          (try simp at s0)
          go_simp
          (try clear hHeld)
          refine hK.out _ _ ?_
          clear hK K
          (try simp only [Act.put, List.setIfInBounds_toArray, List.set_cons_zero, List.set_cons_succ])
          (refine wpAnyL_done (by kernel_rfl) ?_ _)
          dsimp only [OnlyN]
          gi_wp2
          have hi9 := HI.out.store (by omega) HRE.out (.slice A3 (k + 1) c3)
          have hi8 := hi9.box hlx.bl (by omega) HRE.out (.slice (some ⟨gl, 0, none⟩) (k + 1) cl)
          have hl8 := hlx.store (by omega) (.slice (some ⟨gl, 0, none⟩) (k + 1) cl)
          refine ⟨?_, _, _, _, _, hi8, hl8⟩
          refine ((HK.out.setAt (p := ⟨w.heap.size + 1 + 1, 0, none⟩) (.inl (.inl rfl)) _).setAt (p := ⟨w.heap.size + 1 + 1 + 1, 0, none⟩) (.inl (.inr (.inl rfl))) _).keeps ?_
          rintro g o (rfl | rfl | hg | hg) hle ho
          · omega
          · omega
          · obtain ⟨cur, hc⟩ := own_ty HUO.out hg
            rw [ho] at hc; cases hc; rfl
          · obtain ⟨cur, hc⟩ := own_ty HUL.out hg
            rw [ho] at hc; cases hc; rfl
      · skip
        go_simp
        have hb9 := (Below.refl w1.heap.size w1).alloc (Nat.le_refl _) (.cells #[.int .i64 (E.st (k + 1)).left] 3)
        have hn := Blk.new w1 3 #[.int .i64 (E.st (k + 1)).left]
        have t0 := HK.out.trans (Fr.of_below hb9 _); have t1 := HI.out.below hb9; have t2 := HL.out.below hb9; have t3 := own_mono HOW.out hb9
        clear HK HI HL HOW
        have HK := Lib.hid t0; have HI := Lib.hid t1; have HL := Lib.hid t2; have HOW := Lib.hid t3
        clear t0 t1 t2 t3
        have HX := Lib.hid hn
        clear hb9 hn
        (try clear hHeld)
        refine hK.out _ _ (by (try dsimp only); exact ⟨by simpa using HI.out.bo.cell 0, by simpa using HI.out.bw.cell 0, by simpa using HL.out.bl.cell 0, by simpa [WE.cells, wayC] using HI.out.blk.cell 20⟩) (fun hHeld => ?_)
        clear hK K
        (try simp only [Act.put, List.setIfInBounds_toArray, List.set_cons_zero, List.set_cons_succ])
        revert hHeld HK HI HL HOW HX
        generalize hgX : w1.heap.size = gX
        generalize (World.alloc w1 (.cells #[.int .i64 (E.st (k + 1)).left] 3)) = w0
        intro HK HI HL HOW HX hHeld
        clear hgX
        refine wpAnyL_ready (rs := [3]) (by kernel_rfl) (by simp) ?_
        refine AllReadyL.cons (o := ?o3x19) ?hi3x19 (fun K hK => ?_) AllReadyL.nil
        (case hi3x19 => (simp only [List.getElem?_toArray, List.getElem?_cons_succ, List.getElem?_cons_zero]; exact rfl))
        go_simp
        have hb9 := (Below.refl w0.heap.size w0).alloc (Nat.le_refl _) (.cells #[.slice AN E.CS.n cN] 33)
        have hn := Blk.new w0 33 #[.slice AN E.CS.n cN]
        have t0 := HK.out.trans (Fr.of_below hb9 _); have t1 := HI.out.below hb9; have t2 := HL.out.below hb9; have t3 := own_mono HOW.out hb9; have t4 := HX.out.below hb9 HX.out.lt
        clear HK HI HL HOW HX
        have HK := Lib.hid t0; have HI := Lib.hid t1; have HL := Lib.hid t2; have HOW := Lib.hid t3; have HX := Lib.hid t4
        clear t0 t1 t2 t3 t4
        have HA := Lib.hid hn
        clear hb9 hn
        (try clear hHeld)
        refine hK.out _ _ (by (try dsimp only); exact ⟨by simpa using HI.out.bo.cell 0, by simpa using HI.out.bw.cell 0, by simpa using HL.out.bl.cell 0, by simpa [WE.cells, wayC] using HI.out.blk.cell 20⟩) (fun hHeld => ?_)
        clear hK K
        (try simp only [Act.put, List.setIfInBounds_toArray, List.set_cons_zero, List.set_cons_succ])
        revert hHeld HK HI HL HOW HX HA
        generalize hgA : w0.heap.size = gA
        generalize (World.alloc w0 (.cells #[.slice AN E.CS.n cN] 33)) = w0
        intro HK HI HL HOW HX HA hHeld
        clear hgA
        refine wpAnyL_ready (rs := [4]) (by kernel_rfl) (by simp) ?_
        refine AllReadyL.cons (o := ?o4x20) ?hi4x20 (fun K hK => ?_) AllReadyL.nil
        (case hi4x20 => (simp only [List.getElem?_toArray, List.getElem?_cons_succ, List.getElem?_cons_zero]; exact rfl))
        refine step_append_rd rfl _ _ 39 rfl (w.heap.size + 4) 33 i0 (.slice none 0 0) 1 24 Tryz.underlying39 HI0.out HZ0.out HZ1.out HZ2.out rfl (by decide) v k (rs.flatMap encI) rfl HI.out.own encI_len oneI (some ⟨gA, 0, none⟩) 1 1 [⟨AN, E.CS.n, cN, (E.st (k + 1)).lv⟩] rfl (Rd.of_blkE (k := 1) encI_len HA.out (l := [(⟨AN, E.CS.n, cN, (E.st (k + 1)).lv⟩ : RowI)]) rfl rfl) (by have := HKD.out; unfold maxLen; omega) (by have := HKD.out; omega) HI.out.hs ?_
        intro v' w3 hown3 hgrow
        obtain ⟨A3, c3, rfl, hc3⟩ := own_form hown3
        have hi9 := HI.out.grow (r := ⟨AN, E.CS.n, cN, (E.st (k + 1)).lv⟩) rfl HOW.out rfl rfl (by rw [List.flatMap_append]; exact hown3) hgrow HRE.out
        have hl9 := HL.out.other (by omega) HI.out.own hgrow
        have hk9 := HK.out.comp (Fr.of_grown hgrow (E := fun g => v.ownBlock = some g) fun g e _ => e) (fun g e => .inl (.inr (.inr (.inl e))))
        (first
          | (have hx9 := HX.out.grown hgrow (fun e => own_blk_ne HI.out.own HX.out (by decide) e.symm); clear HX; have HX := Lib.hid hx9; clear hx9)
          | skip)
        clear HI HL HK HOW HA
        have HI := Lib.hid hi9; have HL := Lib.hid hl9; have HK := Lib.hid hk9
        clear hi9 hl9 hk9 hgrow hown3
        (try clear hHeld)
        refine hK.out _ _ (by (try dsimp only); exact ⟨by simpa using HI.out.bo.cell 0, by simpa using HI.out.bw.cell 0, by simpa using HL.out.bl.cell 0, by simpa [WE.cells, wayC] using HI.out.blk.cell 20⟩) (fun hHeld => ?_)
        clear hK K
        (try simp only [Act.put, List.setIfInBounds_toArray, List.set_cons_zero, List.set_cons_succ])
        refine wpAnyL_ready (rs := [11]) (by kernel_rfl) (by simp) ?_
        refine AllReadyL.last (o := ?o11x21) ?hi11x21 ?he11x21 (fun K hK => ?_) AllReadyL.nil
        (case hi11x21 => (simp only [List.getElem?_toArray, List.getElem?_cons_succ, List.getElem?_cons_zero]; exact rfl))
        (case he11x21 => kernel_rfl)
        refine step_append_lies _ rfl _ _ 33 rfl (w.heap.size + 4) 3 j0 (.int .i64 0) 1 8 Tryz.underlying33 HJ0.out HY0.out HY1.out HY2.out rfl (by decide) vl k xs rfl HL.out.own ⟨gX, 0, none⟩ 1 1 [.int .i64 (E.st (k + 1)).left] rfl rfl (World.news_of_block (cs := #[.int .i64 (E.st (k + 1)).left]) HX.out) (by simp [Value.oneCell']) (by omega) (by have := HKD.out; unfold maxLen; omega) (by have := HKD.out; omega) HI.out.hs _ rfl ?_
        intro gl cl w8 hown5 hgrow hat hlt5
        have hi9 := HI.out.other HL.out.own HL.out.ap hgrow HRE.out
        have hl9 := HL.out.grow (by omega) hown5 hgrow hat HI.out.owns
        have hk9 := HK.out.comp (Fr.of_grown hgrow (E := fun g => vl.ownBlock = some g) fun g e _ => e) (fun g e => .inl (.inr (.inr (.inr e))))
        clear HI HL HK HX
        have HI := Lib.hid hi9; have HL := Lib.hid hl9; have HK := Lib.hid hk9
        clear hi9 hl9 hk9 hgrow hown5 hat
        (try clear hHeld)
        refine hK.out _ _ ?_
        clear hK K
        (try simp only [Act.put, List.setIfInBounds_toArray, List.set_cons_zero, List.set_cons_succ])
        refine wpAnyL_ready (rs := [12]) (by kernel_rfl) (by simp) ?_
        refine AllReadyL.last (o := ?o12x22) ?hi12x22 ?he12x22 (fun K hK => ?_) AllReadyL.nil
        (case hi12x22 => (simp only [List.getElem?_toArray, List.getElem?_cons_succ, List.getElem?_cons_zero]; exact rfl))
        (case he12x22 => kernel_rfl)
        have s0 := HI.out.bo.cell 0; have f0 := HI.out.bo.frozen 0
        (try simp at s0)
        go_simp
        (try clear hHeld)
        refine hK.out _ _ ?_
        clear hK K
        (try simp only [Act.put, List.setIfInBounds_toArray, List.set_cons_zero, List.set_cons_succ])
        refine wpAnyL_ready (rs := [13]) (by kernel_rfl) (by simp) ?_
        refine AllReadyL.last (o := ?o13x23) ?hi13x23 ?he13x23 (fun K hK => ?_) AllReadyL.nil
        (case hi13x23 => (simp only [List.getElem?_toArray, List.getElem?_cons_succ, List.getElem?_cons_zero]; exact rfl))
        (case he13x23 => kernel_rfl)
        clear s0 f0
        have hlx := (HL.out.far (B := w.heap.size + 1 + 1) HI.out.bo (by decide) (.slice A3 (k + 1) c3))
        have s0 := hlx.bl.cell 0; have f0 := hlx.bl.frozen 0
        (try simp at s0)
        go_simp
        (try clear hHeld)
        refine hK.out _ _ ?_
        clear hK K
        (try simp only [Act.put, List.setIfInBounds_toArray, List.set_cons_zero, List.set_cons_succ])
        (refine wpAnyL_done (by kernel_rfl) ?_ _)
        dsimp only [OnlyN]
        gi_wp2
        have hi9 := HI.out.store (by omega) HRE.out (.slice A3 (k + 1) c3)
        have hi8 := hi9.box hlx.bl (by omega) HRE.out (.slice (some ⟨gl, 0, none⟩) (k + 1) cl)
        have hl8 := hlx.store (by omega) (.slice (some ⟨gl, 0, none⟩) (k + 1) cl)
        refine ⟨?_, _, _, _, _, hi8, hl8⟩
        refine ((HK.out.setAt (p := ⟨w.heap.size + 1 + 1, 0, none⟩) (.inl (.inl rfl)) _).setAt (p := ⟨w.heap.size + 1 + 1 + 1, 0, none⟩) (.inl (.inr (.inl rfl))) _).keeps ?_
        rintro g o (rfl | rfl | hg | hg) hle ho
        · omega
        · omega
        · obtain ⟨cur, hc⟩ := own_ty HUO.out hg
          rw [ho] at hc; cases hc; rfl
        · obtain ⟨cur, hc⟩ := own_ty HUL.out hg
          rw [ho] at hc; cases hc; rfl
    · skip
      go_simp
      have hb9 := (Below.refl w0.heap.size w0).alloc (Nat.le_refl _) (.cells #[.int .i64 (E.st (k + 1)).left] 3)
      have hn := Blk.new w0 3 #[.int .i64 (E.st (k + 1)).left]
      have t0 := HK.out.trans (Fr.of_below hb9 _); have t1 := HI.out.below hb9; have t2 := HL.out.below hb9
      clear HK HI HL
      have HK := Lib.hid t0; have HI := Lib.hid t1; have HL := Lib.hid t2
      clear t0 t1 t2
      have HX := Lib.hid hn
      clear hb9 hn
      (try clear hHeld)
      refine hK.out _ _ (by (try dsimp only); exact ⟨by simpa using HI.out.bo.cell 0, by simpa using HI.out.bw.cell 0, by simpa using HL.out.bl.cell 0, by simpa [WE.cells, wayC] using HI.out.blk.cell 20⟩) (fun hHeld => ?_)
      clear hK K
      (try simp only [Act.put, List.setIfInBounds_toArray, List.set_cons_zero, List.set_cons_succ])
      revert hHeld HK HI HL HX
      generalize hgX : w0.heap.size = gX
      generalize (World.alloc w0 (.cells #[.int .i64 (E.st (k + 1)).left] 3)) = w0
      intro HK HI HL HX hHeld
      clear hgX
      refine wpAnyL_ready (rs := [2]) (by kernel_rfl) (by simp) ?_
      refine AllReadyL.cons (o := ?o2x24) ?hi2x24 (fun K hK => ?_) AllReadyL.nil
      (case hi2x24 => (simp only [List.getElem?_toArray, List.getElem?_cons_succ, List.getElem?_cons_zero]; exact rfl))
      go_simp
      have HSZ := Lib.hid (Nat.le_refl w0.heap.size)
      go_at_call 25
      refine (now_c HI.out.blk HN8.out HLEN.out).mono ?_
      rintro e w1 ⟨vN, rfl, hown, hb9⟩
      obtain ⟨AN, cN, rfl, hcN⟩ := own_form hown; have HAP := Lib.hid (show ∀ g, vl.ownBlock = some g → (Value.slice AN E.CS.n cN).ownBlock ≠ some g from fun g h1 h2 => by have h3 := (HL.out.own.lt g h1).2; have h4 := (hown.lt g h2).1; omega); have hown := own_low hown HI.out.hs
      have t0 := HK.out.trans (Fr.of_below hb9 _); have t1 := HI.out.below hb9; have t2 := HL.out.below hb9; have t3 := HX.out.below hb9 HX.out.lt
      clear HK HI HL HX
      have HK := Lib.hid t0; have HI := Lib.hid t1; have HL := Lib.hid t2; have HX := Lib.hid t3
      clear t0 t1 t2 t3
      have HOW := Lib.hid hown
      clear hb9 hown
      have hl9 := HL.out.more (r := ⟨AN, E.CS.n, cN, (E.st (k + 1)).lv⟩) HAP.out
      clear HL HAP HSZ
      have HL := Lib.hid hl9
      clear hl9
      (try go_wp2_with fail)
      (try clear hHeld)
      refine hK.out _ _ (by (try dsimp only); exact ⟨by simpa using HI.out.bo.cell 0, by simpa using HI.out.bw.cell 0, by simpa using HL.out.bl.cell 0, by simpa [WE.cells, wayC] using HI.out.blk.cell 20⟩) (fun hHeld => ?_)
      clear hK K
      (try simp only [Act.put, List.setIfInBounds_toArray, List.set_cons_zero, List.set_cons_succ])
      refine wpAnyL_ready (rs := [3]) (by kernel_rfl) (by simp) ?_
      refine AllReadyL.cons (o := ?o3x25) ?hi3x25 (fun K hK => ?_) AllReadyL.nil
      (case hi3x25 => (simp only [List.getElem?_toArray, List.getElem?_cons_succ, List.getElem?_cons_zero]; exact rfl))
      go_simp
      have hb9 := (Below.refl w1.heap.size w1).alloc (Nat.le_refl _) (.cells #[.slice AN E.CS.n cN] 33)
      have hn := Blk.new w1 33 #[.slice AN E.CS.n cN]
      have t0 := HK.out.trans (Fr.of_below hb9 _); have t1 := HI.out.below hb9; have t2 := HL.out.below hb9; have t3 := HX.out.below hb9 HX.out.lt; have t4 := own_mono HOW.out hb9
      clear HK HI HL HX HOW
      have HK := Lib.hid t0; have HI := Lib.hid t1; have HL := Lib.hid t2; have HX := Lib.hid t3; have HOW := Lib.hid t4
      clear t0 t1 t2 t3 t4
      have HA := Lib.hid hn
      clear hb9 hn
      (try clear hHeld)
      refine hK.out _ _ (by (try dsimp only); exact ⟨by simpa using HI.out.bo.cell 0, by simpa using HI.out.bw.cell 0, by simpa using HL.out.bl.cell 0, by simpa [WE.cells, wayC] using HI.out.blk.cell 20⟩) (fun hHeld => ?_)
      clear hK K
      (try simp only [Act.put, List.setIfInBounds_toArray, List.set_cons_zero, List.set_cons_succ])
      revert hHeld HK HI HL HX HOW HA
      generalize hgA : w1.heap.size = gA
      generalize (World.alloc w1 (.cells #[.slice AN E.CS.n cN] 33)) = w0
      intro HK HI HL HX HOW HA hHeld
      clear hgA
      refine wpAnyL_ready (rs := [4]) (by kernel_rfl) (by simp) ?_
      refine AllReadyL.cons (o := ?o4x26) ?hi4x26 (fun K hK => ?_) AllReadyL.nil
      (case hi4x26 => (simp only [List.getElem?_toArray, List.getElem?_cons_succ, List.getElem?_cons_zero]; exact rfl))
      refine step_append_rd rfl _ _ 39 rfl (w.heap.size + 4) 33 i0 (.slice none 0 0) 1 24 Tryz.underlying39 HI0.out HZ0.out HZ1.out HZ2.out rfl (by decide) v k (rs.flatMap encI) rfl HI.out.own encI_len oneI (some ⟨gA, 0, none⟩) 1 1 [⟨AN, E.CS.n, cN, (E.st (k + 1)).lv⟩] rfl (Rd.of_blkE (k := 1) encI_len HA.out (l := [(⟨AN, E.CS.n, cN, (E.st (k + 1)).lv⟩ : RowI)]) rfl rfl) (by have := HKD.out; unfold maxLen; omega) (by have := HKD.out; omega) HI.out.hs ?_
      intro v' w3 hown3 hgrow
      obtain ⟨A3, c3, rfl, hc3⟩ := own_form hown3
      have hi9 := HI.out.grow (r := ⟨AN, E.CS.n, cN, (E.st (k + 1)).lv⟩) rfl HOW.out rfl rfl (by rw [List.flatMap_append]; exact hown3) hgrow HRE.out
      have hl9 := HL.out.other (by omega) HI.out.own hgrow
      have hk9 := HK.out.comp (Fr.of_grown hgrow (E := fun g => v.ownBlock = some g) fun g e _ => e) (fun g e => .inl (.inr (.inr (.inl e))))
      (first
        | (have hx9 := HX.out.grown hgrow (fun e => own_blk_ne HI.out.own HX.out (by decide) e.symm); clear HX; have HX := Lib.hid hx9; clear hx9)
        | skip)
      clear HI HL HK HOW HA
      have HI := Lib.hid hi9; have HL := Lib.hid hl9; have HK := Lib.hid hk9
      clear hi9 hl9 hk9 hgrow hown3
      (try clear hHeld)
      refine hK.out _ _ (by (try dsimp only); exact ⟨by simpa using HI.out.bo.cell 0, by simpa using HI.out.bw.cell 0, by simpa using HL.out.bl.cell 0, by simpa [WE.cells, wayC] using HI.out.blk.cell 20⟩) (fun hHeld => ?_)
      clear hK K
      (try simp only [Act.put, List.setIfInBounds_toArray, List.set_cons_zero, List.set_cons_succ])
      refine wpAnyL_ready (rs := [11]) (by kernel_rfl) (by simp) ?_
      refine AllReadyL.last (o := ?o11x27) ?hi11x27 ?he11x27 (fun K hK => ?_) AllReadyL.nil
      (case hi11x27 => (simp only [List.getElem?_toArray, List.getElem?_cons_succ, List.getElem?_cons_zero]; exact rfl))
      (case he11x27 => kernel_rfl)
      refine step_append_lies _ rfl _ _ 33 rfl (w.heap.size + 4) 3 j0 (.int .i64 0) 1 8 Tryz.underlying33 HJ0.out HY0.out HY1.out HY2.out rfl (by decide) vl k xs rfl HL.out.own ⟨gX, 0, none⟩ 1 1 [.int .i64 (E.st (k + 1)).left] rfl rfl (World.news_of_block (cs := #[.int .i64 (E.st (k + 1)).left]) HX.out) (by simp [Value.oneCell']) (by omega) (by have := HKD.out; unfold maxLen; omega) (by have := HKD.out; omega) HI.out.hs _ rfl ?_
      intro gl cl w8 hown5 hgrow hat hlt5
      have hi9 := HI.out.other HL.out.own HL.out.ap hgrow HRE.out
      have hl9 := HL.out.grow (by omega) hown5 hgrow hat HI.out.owns
      have hk9 := HK.out.comp (Fr.of_grown hgrow (E := fun g => vl.ownBlock = some g) fun g e _ => e) (fun g e => .inl (.inr (.inr (.inr e))))
      clear HI HL HK HX
      have HI := Lib.hid hi9; have HL := Lib.hid hl9; have HK := Lib.hid hk9
      clear hi9 hl9 hk9 hgrow hown5 hat
      (try clear hHeld)
      refine hK.out _ _ ?_
      clear hK K
      (try simp only [Act.put, List.setIfInBounds_toArray, List.set_cons_zero, List.set_cons_succ])
      refine wpAnyL_ready (rs := [12]) (by kernel_rfl) (by simp) ?_
      refine AllReadyL.last (o := ?o12x28) ?hi12x28 ?he12x28 (fun K hK => ?_) AllReadyL.nil
      (case hi12x28 => (simp only [List.getElem?_toArray, List.getElem?_cons_succ, List.getElem?_cons_zero]; exact rfl))
      (case he12x28 => kernel_rfl)
      have s0 := HI.out.bo.cell 0; have f0 := HI.out.bo.frozen 0
      (try simp at s0)
      go_simp
      (try clear hHeld)
      refine hK.out _ _ ?_
      clear hK K
      (try simp only [Act.put, List.setIfInBounds_toArray, List.set_cons_zero, List.set_cons_succ])
      refine wpAnyL_ready (rs := [13]) (by kernel_rfl) (by simp) ?_
      refine AllReadyL.last (o := ?o13x29) ?hi13x29 ?he13x29 (fun K hK => ?_) AllReadyL.nil
      (case hi13x29 => (simp only [List.getElem?_toArray, List.getElem?_cons_succ, List.getElem?_cons_zero]; exact rfl))
      (case he13x29 => kernel_rfl)
      clear s0 f0
      have hlx := (HL.out.far (B := w.heap.size + 1 + 1) HI.out.bo (by decide) (.slice A3 (k + 1) c3))
      have s0 := hlx.bl.cell 0; have f0 := hlx.bl.frozen 0
      (try simp at s0)
      go_simp
      (try clear hHeld)
      refine hK.out _ _ ?_
      clear hK K
      (try simp only [Act.put, List.setIfInBounds_toArray, List.set_cons_zero, List.set_cons_succ])
      (refine wpAnyL_done (by kernel_rfl) ?_ _)
      dsimp only [OnlyN]
      gi_wp2
      have hi9 := HI.out.store (by omega) HRE.out (.slice A3 (k + 1) c3)
      have hi8 := hi9.box hlx.bl (by omega) HRE.out (.slice (some ⟨gl, 0, none⟩) (k + 1) cl)
      have hl8 := hlx.store (by omega) (.slice (some ⟨gl, 0, none⟩) (k + 1) cl)
      refine ⟨?_, _, _, _, _, hi8, hl8⟩
      refine ((HK.out.setAt (p := ⟨w.heap.size + 1 + 1, 0, none⟩) (.inl (.inl rfl)) _).setAt (p := ⟨w.heap.size + 1 + 1 + 1, 0, none⟩) (.inl (.inr (.inl rfl))) _).keeps ?_
      rintro g o (rfl | rfl | hg | hg) hle ho
      · omega
      · omega
      · obtain ⟨cur, hc⟩ := own_ty HUO.out hg
        rw [ho] at hc; cases hc; rfl
      · obtain ⟨cur, hc⟩ := own_ty HUL.out hg
        rw [ho] at hc; cases hc; rfl
  case done =>
    rintro D U hD ⟨v, rs, vl, xs, hI, hLI⟩ hdef
    obtain ⟨A, c, rfl, hlev⟩ := hI.lev HOK.out
    obtain ⟨AL, cL, rfl, hcL⟩ := own_form hLI.own
    have hDn : D ≠ w.heap.size + 1 + 1 ∧ D ≠ w.heap.size + 1 + 1 + 1 := by omega
    have HI := Lib.hid hI; have HL := Lib.hid hLI; have HD := Lib.hid (show DefT D U from hdef)
    clear hI hLI hdef hlev
    go_upto_region 9 with fail
    refine (wpIn_wide (n := 8)).1 ?_
    refine wpIn_region_till_wide [8] (fun V => V.cell? ⟨w.heap.size + 1 + 1, 0, none⟩ = some (.slice A E.DS.n c) ∧ V.cell? ⟨Bw, 0, none⟩ = some (.pointer (some ⟨W0, 0, none⟩)) ∧ V.cell? ⟨w.heap.size + 1 + 1 + 1, 0, none⟩ = some (.slice AL E.DS.n cL) ∧ V.cell? ⟨W0, 19, none⟩ = some (.int .i64 (E.st E.DS.n).snow)) (by kernel_rfl) (by have hd0 := HI.out.below ((Below.refl U.heap.size U).drew); have hd1 := HL.out.below ((Below.refl U.heap.size U).drew); exact ⟨by simpa using hd0.bo.cell 0, by simpa using hd0.bw.cell 0, by simpa using hd1.bl.cell 0, by simpa [WE.cells, wayC] using hd0.blk.cell 19⟩) (fun hHeld => ?_)
    have hb9 := (Below.refl U.heap.size U).drew
    have t0 := HI.out.below hb9; have t1 := HL.out.below hb9; have t2 := HD.out.below hb9
    clear HI HL HD
    have HI := Lib.hid t0; have HL := Lib.hid t1; have HD := Lib.hid t2
    clear t0 t1 t2
    clear hb9
    revert hHeld HI HL HD
    generalize U.drew = w0
    intro hHeld HI HL HD
    (refine wpAnyL_take (n := 0) (i := 0) (oi := ?ox30) (v := ?vx30) ?hix30 ?k1x30 ?k2x30 ?k3x30 ?k4x30 ?k5x30 ?k6x30 ?hQx30 ?hYx30 ?hSx30 ?restx30; (case hix30 => (simp only [List.getElem?_toArray, List.getElem?_cons_succ, List.getElem?_cons_zero]; exact rfl)); (case k1x30 => kernel_rfl); (case k2x30 => kernel_rfl); (case k3x30 => kernel_rfl); (case k4x30 => kernel_rfl); (case k5x30 => kernel_rfl); (case k6x30 => kernel_rfl); (case hSx30 => assumption); (case hYx30 => (refine Or.inl ⟨rfl, ?hyx30⟩; intro w hSw; (try dsimp only at hSw); go_simp; (try with_reducible rfl))); (case hQx30 => exact (fun _ _ _ h => h)); (try simp only [Act.put, List.setIfInBounds_toArray, List.set_cons_zero, List.set_cons_succ]))
    (refine wpAnyL_take (n := 0) (i := 1) (oi := ?ox31) (v := ?vx31) ?hix31 ?k1x31 ?k2x31 ?k3x31 ?k4x31 ?k5x31 ?k6x31 ?hQx31 ?hYx31 ?hSx31 ?restx31; (case hix31 => (simp only [List.getElem?_toArray, List.getElem?_cons_succ, List.getElem?_cons_zero]; exact rfl)); (case k1x31 => kernel_rfl); (case k2x31 => kernel_rfl); (case k3x31 => kernel_rfl); (case k4x31 => kernel_rfl); (case k5x31 => kernel_rfl); (case k6x31 => kernel_rfl); (case hSx31 => assumption); (case hYx31 => (refine Or.inl ⟨rfl, ?hyx31⟩; intro w hSw; (try dsimp only at hSw); go_simp; (try with_reducible rfl))); (case hQx31 => exact (fun _ _ _ h => h)); (try simp only [Act.put, List.setIfInBounds_toArray, List.set_cons_zero, List.set_cons_succ]))
    (refine wpAnyL_take (n := 0) (i := 2) (oi := ?ox32) (v := ?vx32) ?hix32 ?k1x32 ?k2x32 ?k3x32 ?k4x32 ?k5x32 ?k6x32 ?hQx32 ?hYx32 ?hSx32 ?restx32; (case hix32 => (simp only [List.getElem?_toArray, List.getElem?_cons_succ, List.getElem?_cons_zero]; exact rfl)); (case k1x32 => kernel_rfl); (case k2x32 => kernel_rfl); (case k3x32 => kernel_rfl); (case k4x32 => kernel_rfl); (case k5x32 => kernel_rfl); (case k6x32 => kernel_rfl); (case hSx32 => assumption); (case hYx32 => (refine Or.inl ⟨rfl, ?hyx32⟩; intro w hSw; (try dsimp only at hSw); go_simp; (try with_reducible rfl))); (case hQx32 => exact (fun _ _ _ h => h)); (try simp only [Act.put, List.setIfInBounds_toArray, List.set_cons_zero, List.set_cons_succ]))
    (refine wpAnyL_take (n := 0) (i := 3) (oi := ?ox33) (v := ?vx33) ?hix33 ?k1x33 ?k2x33 ?k3x33 ?k4x33 ?k5x33 ?k6x33 ?hQx33 ?hYx33 ?hSx33 ?restx33; (case hix33 => (simp only [List.getElem?_toArray, List.getElem?_cons_succ, List.getElem?_cons_zero]; exact rfl)); (case k1x33 => kernel_rfl); (case k2x33 => kernel_rfl); (case k3x33 => kernel_rfl); (case k4x33 => kernel_rfl); (case k5x33 => kernel_rfl); (case k6x33 => kernel_rfl); (case hSx33 => assumption); (case hYx33 => (refine Or.inl ⟨rfl, ?hyx33⟩; intro w hSw; (try dsimp only at hSw); go_simp; (try with_reducible rfl))); (case hQx33 => exact (fun _ _ _ h => h)); (try simp only [Act.put, List.setIfInBounds_toArray, List.set_cons_zero, List.set_cons_succ]))
    (refine wpAnyL_take (n := 0) (i := 4) (oi := ?ox34) (v := ?vx34) ?hix34 ?k1x34 ?k2x34 ?k3x34 ?k4x34 ?k5x34 ?k6x34 ?hQx34 ?hYx34 ?hSx34 ?restx34; (case hix34 => (simp only [List.getElem?_toArray, List.getElem?_cons_succ, List.getElem?_cons_zero]; exact rfl)); (case k1x34 => kernel_rfl); (case k2x34 => kernel_rfl); (case k3x34 => kernel_rfl); (case k4x34 => kernel_rfl); (case k5x34 => kernel_rfl); (case k6x34 => kernel_rfl); (case hSx34 => assumption); (case hYx34 => (refine Or.inl ⟨rfl, ?hyx34⟩; intro w hSw; (try dsimp only at hSw); go_simp; (try with_reducible rfl))); (case hQx34 => exact (fun _ _ _ h => h)); (try simp only [Act.put, List.setIfInBounds_toArray, List.set_cons_zero, List.set_cons_succ]))
    (refine wpAnyL_take (n := 0) (i := 5) (oi := ?ox35) (v := ?vx35) ?hix35 ?k1x35 ?k2x35 ?k3x35 ?k4x35 ?k5x35 ?k6x35 ?hQx35 ?hYx35 ?hSx35 ?restx35; (case hix35 => (simp only [List.getElem?_toArray, List.getElem?_cons_succ, List.getElem?_cons_zero]; exact rfl)); (case k1x35 => kernel_rfl); (case k2x35 => kernel_rfl); (case k3x35 => kernel_rfl); (case k4x35 => kernel_rfl); (case k5x35 => kernel_rfl); (case k6x35 => kernel_rfl); (case hSx35 => assumption); (case hYx35 => (refine Or.inl ⟨rfl, ?hyx35⟩; intro w hSw; (try dsimp only at hSw); go_simp; (try with_reducible rfl))); (case hQx35 => exact (fun _ _ _ h => h)); (try simp only [Act.put, List.setIfInBounds_toArray, List.set_cons_zero, List.set_cons_succ]))
    refine wpAnyL_ready (rs := [6]) (by kernel_rfl) (by simp) ?_
    refine AllReadyL.cons (o := ?o6x36) ?hi6x36 (fun K hK => ?_) AllReadyL.nil
    (case hi6x36 => (simp only [List.getElem?_toArray, List.getElem?_cons_succ, List.getElem?_cons_zero]; exact rfl))
    have s0 := HI.out.bo.cell 0; have f0 := HI.out.bo.frozen 0
    (try simp at s0)
    go_simp
    have hl9 := HL.out.far (B := w.heap.size + 1 + 1) HI.out.bo (by decide) (.slice A E.DS.n c)
    have hi9 := HI.out.store (by omega) HRE.out (.slice A E.DS.n c)
    have hd9 := (Below.heap_setCell _ ⟨w.heap.size + 1 + 1, 0, none⟩ (.slice A E.DS.n c) D hDn.1).trans HD.out
    clear HI HL HD s0 f0
    have HI := Lib.hid hi9; have HL := Lib.hid hl9; have HD := Lib.hid hd9
    clear hi9 hl9 hd9
    (try clear hHeld)
    refine hK.out _ _ (by (try dsimp only); exact ⟨by simpa using HI.out.bo.cell 0, by simpa using HI.out.bw.cell 0, by simpa using HL.out.bl.cell 0, by simpa [WE.cells, wayC] using HI.out.blk.cell 19⟩) (fun hHeld => ?_)
    clear hK K
    (try simp only [Act.put, List.setIfInBounds_toArray, List.set_cons_zero, List.set_cons_succ])
    refine wpAnyL_ready (rs := [7]) (by kernel_rfl) (by simp) ?_
    refine AllReadyL.cons (o := ?o7x37) ?hi7x37 (fun K hK => ?_) AllReadyL.nil
    (case hi7x37 => (simp only [List.getElem?_toArray, List.getElem?_cons_succ, List.getElem?_cons_zero]; exact rfl))
    have s0 := HL.out.bl.cell 0; have f0 := HL.out.bl.frozen 0
    (try simp at s0)
    go_simp
    have hi9 := HI.out.box HL.out.bl (by omega) HRE.out (.slice AL E.DS.n cL)
    have hl9 := HL.out.store (by omega) (.slice AL E.DS.n cL)
    have hd9 := (Below.heap_setCell _ ⟨w.heap.size + 1 + 1 + 1, 0, none⟩ (.slice AL E.DS.n cL) D hDn.2).trans HD.out
    clear HI HL HD s0 f0
    have HI := Lib.hid hi9; have HL := Lib.hid hl9; have HD := Lib.hid hd9
    clear hi9 hl9 hd9
    (try clear hHeld)
    refine hK.out _ _ (by (try dsimp only); exact ⟨by simpa using HI.out.bo.cell 0, by simpa using HI.out.bw.cell 0, by simpa using HL.out.bl.cell 0, by simpa [WE.cells, wayC] using HI.out.blk.cell 19⟩) (fun hHeld => ?_)
    clear hK K
    (try simp only [Act.put, List.setIfInBounds_toArray, List.set_cons_zero, List.set_cons_succ])
    refine wpAnyL_ready (rs := [8]) (by kernel_rfl) (by simp) ?_
    refine AllReadyL.last (o := ?o8x38) ?hi8x38 ?he8x38 (fun K hK => ?_) AllReadyL.nil
    (case hi8x38 => (simp only [List.getElem?_toArray, List.getElem?_cons_succ, List.getElem?_cons_zero]; exact rfl))
    (case he8x38 => kernel_rfl)
    go_simp
    (try clear hHeld)
    refine hK.out _ _ ?_
    clear hK K
    (try simp only [Act.put, List.setIfInBounds_toArray, List.set_cons_zero, List.set_cons_succ])
    (refine wpAnyL_free (i := 9) (oi := ?ox39) (v := ?vx39) ?hix39 ?k1x39 ?k2x39 ?k3x39 ?k4x39 ?k5x39 ?hQx39 ?hYx39 ?restx39; (case hix39 => (simp only [List.getElem?_toArray, List.getElem?_cons_succ, List.getElem?_cons_zero]; exact rfl)); (case k1x39 => kernel_rfl); (case k2x39 => kernel_rfl); (case k3x39 => kernel_rfl); (case k4x39 => kernel_rfl); (case k5x39 => kernel_rfl); (case hYx39 => (refine Or.inl ⟨rfl, ?hyx39⟩; intro w hSw; (try dsimp only at hSw); go_simp; (try with_reducible rfl))); (case hQx39 => exact (fun _ _ _ h => h)); (try simp only [Act.put, List.setIfInBounds_toArray, List.set_cons_zero, List.set_cons_succ]))
    (refine wpAnyL_done (by kernel_rfl) ?_ _)
    dsimp only [OnlyN]
    go_wp2
    have hdf := HD.out
    refine ⟨by simp, .inl ?_⟩
    refine ⟨_, _, rfl, run_takeDeferred hdf, ?_⟩
    have hri := HI.out.put (o := .deferred none) (by omega : w.heap.size ≤ D) hdf rfl
    have hrl := HL.out.put (o := .deferred none) hdf rfl
    obtain ⟨A', c', e, hlev⟩ := hri.lev HOK.out
    cases e
    have q0 := hri.bo.cell 0; have q1 := hrl.bl.cell 0
    simp at q0 q1
    refine ⟨.tuple #[.slice A E.DS.n c, .slice AL E.DS.n cL, .int .i64 (E.st E.DS.n).snow, .int .i64 0], ?_, A, c, rs, _, _, rfl, hlev, hri.bel⟩
    simp [results, Tryz.f9, go_sem, q0, q1]
end Go.Proofs.YtjpobkmlcjbpiaaGreat
