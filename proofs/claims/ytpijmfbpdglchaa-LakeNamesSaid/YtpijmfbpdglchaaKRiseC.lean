/- CONTRACT: Rise. -/
import Derived.Test.YtpijmfbpdglchaaKRise
import Derived.Test.YtpijmfbpdglchaaKTool
set_option linter.unusedVariables false
set_option linter.unusedSimpArgs false
namespace Go.Proofs.Ytpijmfbpdglchaa
open Go.RowKit Go.Proofs
attribute [local go_sem ↓] Go.wp_at_zero Go.wp_at_succ

theorem run_neq_rng (a b c d : Int) (W : World) : (binOp .neq 35 (.agg #[.int .i64 a, .int .i64 b]) (.agg #[.int .i64 c, .int .i64 d])).run Try.prog W = .ok (.bool (!decide (a = c ∧ b = d))) W := by
  rw [run_neq_struct]
  have : (Op.equalIn 10000 35 (.agg #[.int .i64 a, .int .i64 b]) (.agg #[.int .i64 c, .int .i64 d])).run Try.prog W = .ok (decide (a = c ∧ b = d)) W := by
    simp [go_sem, Try.underlying35]
    by_cases h1 : a = c <;> by_cases h2 : b = d <;> simp [h1, h2]
  rw [this]; rfl
/-- the answer of Rise -/
def RiseP (w : World) (E : Int) (L : List Stt) (e : Ending) (w' : World) : Prop :=
  ∃ A n cp, e = .returned (.tuple #[.slice A n cp, .int .i64 E]) ∧ n ≤ cp ∧ (E ≠ 0 → n = 0) ∧ (E = 0 → Rd encT 4 w' A n L) ∧ Below w.heap.size w w'
theorem RiseP.bad {w w' : World} {E : Int} {L : List Stt} (h : E ≠ 0) (hb : Below w.heap.size w w') : RiseP w E L (.returned (.tuple #[.slice none 0 0, .int .i64 E])) w' :=
  ⟨none, 0, 0, rfl, Nat.le_refl _, fun _ => rfl, fun h' => absurd h' h, hb⟩
theorem RiseP.good {w w' : World} {L : List Stt} {A : Option Addr} {n cp : Nat} (hc : n ≤ cp) (hr : Rd encT 4 w' A n L) (hb : Below w.heap.size w w') : RiseP w 0 L (.returned (.tuple #[.slice A n cp, .int .i64 0])) w' :=
  ⟨A, n, cp, rfl, hc, fun h => absurd rfl h, fun _ => hr, hb⟩
theorem take_flatT {L : List Stt} {k : Nat} {x : Stt} (h : L[k]? = some x) : (L.take (k + 1)).flatMap encT = (L.take k).flatMap encT ++ encT x := by
  rw [List.take_add_one, h, List.flatMap_append]; simp
section
variable {VA IA WA CA : Option Addr} {nV nI nW nC cV cI cW cC : Nat} {l : Lak} {ws : List Wrk} {c : List Int} {w : World}
set_option maxRecDepth 100000 in
set_option maxHeartbeats 4000000 in
theorem Rise_c (hP : RdP w VA nV IA nI l WA nW ws CA nC c) (hcV : nV ≤ cV) (hcI : nI ≤ cI) (hnV : nV ≤ maxLen) (hnI : nI ≤ maxLen) (hnW : nW ≤ maxLen) (hnC : nC ≤ maxLen) :
    Calls Try.prog 32 #[.agg (lA VA nV cV IA nI cI l), .slice WA nW cW, .slice CA nC cC] w (RiseP w (errA l ws c) ((aftL l (netL l ws c)).map (sttOf l.vols))) := by
  have hb := (Below.refl w.heap.size w).alloc (Nat.le_refl _) (.cells (lA VA nV cV IA nI cI l) 38)
  have HC := Lib.hid (worked_c (cV := cV) (cI := cI) (cW := cW) (cC := cC) (hP.below hb) hcV hcI hnV hnI hnW hnC)
  have HX := Lib.hid (Blk.new w 38 (lA VA nV cV IA nI cI l))
  have HB := Lib.hid hb; have HP := Lib.hid hP
  obtain ⟨LL, hLL⟩ : ∃ LL, LL = (aftL l (netL l ws c)).map (sttOf l.vols) := ⟨_, rfl⟩
  rw [← hLL]
  have HLL := Lib.hid hLL
  clear hb hLL
  by_cases he : errA l ws c = 0
  · have hok := errA_zero.1 he
    rw [he] at HC ⊢
    have HH := Lib.hid (fun (U : World) (hU : Below w.heap.size w U) => hours_c (cV := cV) (cI := cI) (cW := cW) (cC := cC) (hP.below hU) hok.l hok.w hok.c)
    obtain ⟨L, hL⟩ : ∃ L, L = aftL l (netL l ws c) := ⟨_, rfl⟩
    rw [← hL] at HH HLL
    have hLn : L.length = nI := by rw [hL, aftL_len, netL_len, hP.l.infl.len]
    have h60 : nI ≤ 60 := by have := hok.l.h; have := hP.l.infl.len; omega
    have hv30 : nV ≤ 30 := by have := hok.l.n; have := hP.l.vols.len; omega
    obtain ⟨i0, hi0, hz0, hz1, hz2⟩ := info_parts infoT
    have HI := Lib.hid hi0; have HZ0 := Lib.hid hz0; have HZ1 := Lib.hid hz1; have HZ2 := Lib.hid hz2
    clear hi0 hz0 hz1 hz2
    clear hP hok he hL hnI hnV hnW hnC
    go_enter Try.func32, Try.ntmps32
    go_wp2_with fail
    refine HC.out.mono ?_
    rintro e w1 ⟨rfl, hb1⟩
    have hx1 := HX.out.below hb1 (by simp)
    have pc : ∀ i, w1.cell? ⟨w.heap.size, i, none⟩ = (lA VA nV cV IA nI cI l)[i]? := fun i => hx1.cell i
    have p0 := pc 0; have p1 := pc 1; have p2 := pc 2; have p3 := pc 3; have p4 := pc 4; have p5 := pc 5; have p6 := pc 6; have p7 := pc 7; have p8 := pc 8; have p9 := pc 9
    simp at p0 p1 p2 p3 p4 p5 p6 p7 p8 p9
    have HB1 := Lib.hid (below_tr HB.out hb1)
    have HX1 := Lib.hid hx1
    clear hb1 hx1 pc
    go_wp2_with fail
    refine (HH.out _ HB1.out).mono ?_
    rintro e w3 ⟨A, n, cp, rfl, rfl, hrd, hb3⟩
    have HB3 := Lib.hid (below_tr HB1.out hb3)
    have HX3 := Lib.hid (HX1.out.below hb3 HX1.out.lt)
    have HRD := Lib.hid hrd
    clear hb3 hrd p0 p1 p2 p3 p4 p5 p6 p7 p8 p9 HC HH HX1 HB1
    go_wp2_with fail
    go_loopw [6, 26] (fun vs i wr => ∃ k : Nat, k ≤ n ∧ i = .int .i64 k ∧ wr.ownsRow w3.heap.size 66 4 vs k ((LL.take k).flatMap encT) ∧ Below w3.heap.size w3 wr) (fun _ i _ => n - (intOf i).toNat)
    case atStart => exact ⟨0, Nat.zero_le _, rfl, World.ownsRow_nil _ _ _ _, Below.refl _ _⟩
    case round =>
      obtain ⟨k, hk, rfl, hown, hbr⟩ := hrel
      have HO := Lib.hid hown; have HBR := Lib.hid hbr
      obtain ⟨OA, oc, rfl, hoc⟩ := own_form hown
      have HOC := Lib.hid hoc
      clear hoc
      by_cases hlt : k < n
      · obtain ⟨b, o, x, rfl, hbl, hx, e0, e1, e2, e3, e4⟩ := (HRD.out.below hbr).atA hlt
        have hst : LL[k]? = some (sttOf l.vols x) := by rw [HLL.out, List.getElem?_map, hx]; rfl
        have HAPP := Lib.hid (take_flatT hst)
        have HS0 := Lib.hid (show sttOf l.vols x = if joinR x.hard x.soft = noneR then ⟨false, 0, 0, 0⟩ else ⟨true, (joinR x.hard x.soft).1, (joinR x.hard x.soft).2, levOf l.vols (joinR x.hard x.soft).2⟩ from rfl)
        obtain ⟨S, hS⟩ : ∃ S, S = sttOf l.vols x := ⟨_, rfl⟩
        rw [← hS] at HAPP HS0
        have hkn : (k : Int) < (n : Int) := by omega
        have hk0 : (0 : Int) ≤ (k : Int) := by omega
        have HJ := Lib.hid (joined_c x.hard x.soft)
        obtain ⟨J, hJ⟩ : ∃ J, J = joinR x.hard x.soft := ⟨_, rfl⟩
        rw [← hJ] at HJ HS0
        have hbx := hbr.alloc hbr.size (.cells #[.int .i64 x.hard.1, .int .i64 x.hard.2, .int .i64 x.soft.1, .int .i64 x.soft.2, .int .i64 x.brk] 140)
        have HBX := Lib.hid hbx
        have HOX := Lib.hid (own_mono hown ((Below.refl wr.heap.size wr).alloc (Nat.le_refl _) (.cells #[.int .i64 x.hard.1, .int .i64 x.hard.2, .int .i64 x.soft.1, .int .i64 x.soft.2, .int .i64 x.brk] 140)))
        have hsr := hbr.size
        clear hx hst hS hJ hown hbr hbx
        go_wp2_with fail
        refine (HJ.out _).mono ?_
        rintro e w4 ⟨rfl, hb4⟩
        have hb44 := hb4.size
        have HB4 := Lib.hid (HBX.out.trans (hb4.mono HBX.out.size))
        have HO4 := Lib.hid (own_mono HOX.out hb4)
        obtain ⟨J1, J2⟩ := J
        simp only at HS0
        clear hb4 e0 e1 e2 e3 e4 HJ HBX HOX
        obtain ⟨W5, hW5⟩ : ∃ W5, W5 = (w4.alloc (.cells #[.int .i64 J1, .int .i64 J2] 35)).alloc (.cells #[.bool false, .int .i64 0, .int .i64 0, .int .i64 0] 66) := ⟨_, rfl⟩
        have hr5 := (Blk.new w4 35 #[.int .i64 J1, .int .i64 J2]).alloc (.cells #[.bool false, .int .i64 0, .int .i64 0, .int .i64 0] 66)
        have hs5 := Blk.new (w4.alloc (.cells #[.int .i64 J1, .int .i64 J2] 35)) 66 #[.bool false, .int .i64 0, .int .i64 0, .int .i64 0]
        have hb5 := ((Below.refl w4.heap.size w4).alloc (Nat.le_refl _) (.cells #[.int .i64 J1, .int .i64 J2] 35)).alloc (by simp) (.cells #[.bool false, .int .i64 0, .int .i64 0, .int .i64 0] 66)
        simp only [World.size_alloc] at hs5
        rw [← hW5] at hr5 hs5 hb5
        have hr0 := hr5.cell 0; have hr1 := hr5.cell 1
        simp at hr0 hr1
        have hrl := hr5.lt
        have HR5 := Lib.hid hr5; have HS5 := Lib.hid hs5; have HB5 := Lib.hid (HB4.out.trans (hb5.mono HB4.out.size))
        have HO5 := Lib.hid (own_mono HO4.out hb5)
        have HW5 := Lib.hid hW5
        have HN := Lib.hid none_c
        have hs4 := HB4.out.size
        have hs44 : wr.heap.size ≤ w4.heap.size := by have := hb44; simp at this; omega
        clear hr5 hs5 hb5 hW5 HB4 HO4 hb44
        have heq := fun W => run_neq_rng J1 J2 1 0 W
        by_cases hj : (J1, J2) = noneR
        · rw [if_pos hj] at HS0
          rw [decide_eq_true (show J1 = 1 ∧ J2 = 0 by simpa [noneR] using hj)] at heq
          clear hj
          go_upto_region 9 with fail
          rw [← HW5.out]
          refine wp_region_ext (by kernel_rfl) (by kernel_rfl) ?_
          repeat (go_big_quiet_step ((go_at_call 66; exact ext_call (HN.out _))))
          refine wpQuiet_nil ?_
          rintro _ ⟨q, rfl⟩
          have HSq := Lib.hid (HS5.out.below q.below HS5.out.lt)
          have s0 := HSq.out.cell 0; have s1 := HSq.out.cell 1; have s2 := HSq.out.cell 2; have s3 := HSq.out.cell 3
          simp at s0 s1 s2 s3
          have HOq := Lib.hid (own_mono HO5.out q.below)
          have HBq := Lib.hid (HB5.out.trans (q.below.mono HB5.out.size))
          have hsq := HBq.out.size
          clear hr0 hr1 heq
          go_wp2_with (at_builtin; go_must (refine wpList_append_own_at _ rfl _ _ 52 rfl w3.heap.size 66 i0 _ 4 32 Try.underlying52 HI.out HZ0.out HZ1.out HZ2.out rfl (by decide) _ _ _ rfl (HOq.out.alloc _) ⟨q.w.heap.size, 0, none⟩ 1 1 [.bool false, .int .i64 0, .int .i64 0, .int .i64 0] rfl rfl (fun j u hj => World.news_of_block (cs := #[.bool false, .int .i64 0, .int .i64 0, .int .i64 0]) (t := 66) (fr := (0, 0)) (heap_alloc_new q.w _) j u hj) (by simp [Value.oneCell']) (by unfold maxLen; omega) (by omega) (by simp; omega) ?_; intro v' w7 hown' hgrow _ _))
          have hb7 : Below w3.heap.size w3 w7 := (HBq.out.alloc hsq _).grown hgrow (by simp; omega) (fun g hg => (HOq.out.lt g hg).1)
          have hown2 : w7.ownsRow w3.heap.size 66 4 v' (k + 1) ((LL.take (k + 1)).flatMap encT) := by rw [HAPP.out, HS0.out]; exact hown'
          have HO7 := Lib.hid hown2; have HB7 := Lib.hid hb7
          clear hown' hgrow hown2 hb7
          go_roundw
          case rel => exact ⟨k + 1, by omega, by go_num, HO7.out, HB7.out⟩
          case measure => simp [intOf] <;> omega
        · rw [if_neg hj] at HS0
          rw [decide_eq_false (show ¬ (J1 = 1 ∧ J2 = 0) by simpa [noneR] using hj)] at heq
          clear hj
          go_upto_region 9 with fail
          rw [← HW5.out]
          refine wp_region_ext (by kernel_rfl) (by kernel_rfl) ?_
          repeat (go_big_quiet_step ((go_at_call 66; exact ext_call (HN.out _))))
          refine wpQuiet_nil ?_
          rintro _ ⟨q, rfl⟩
          obtain ⟨W6, hW6⟩ : ∃ W6, W6 = q.w := ⟨_, rfl⟩
          have hbq := q.below
          rw [← hW6] at hbq ⊢
          have HSq := Lib.hid (HS5.out.below hbq HS5.out.lt)
          have HRq := Lib.hid (HR5.out.below hbq HR5.out.lt)
          have HOq := Lib.hid (own_mono HO5.out hbq)
          have HBq := Lib.hid (HB5.out.trans (hbq.mono HB5.out.size))
          have hsq := HBq.out.size
          have HLq := Lib.hid (HX3.out.below HBq.out HX3.out.lt)
          have HLV := Lib.hid (level_c (cV := cV) (cI := cI) (HP.out.l.below (HB3.out.trans (HBq.out.drew.mono HB3.out.size))) (by omega) J2)
          obtain ⟨V, hV⟩ : ∃ V, V = levOf l.vols J2 := ⟨_, rfl⟩
          rw [← hV] at HLV HS0
          have r0 := HRq.out.cell 0; have r1 := HRq.out.cell 1
          have pc : ∀ i, W6.cell? ⟨w.heap.size, i, none⟩ = (lA VA nV cV IA n cI l)[i]? := fun i => HLq.out.cell i
          have p0 := pc 0; have p1 := pc 1; have p2 := pc 2; have p3 := pc 3; have p4 := pc 4; have p5 := pc 5; have p6 := pc 6; have p7 := pc 7; have p8 := pc 8; have p9 := pc 9
          simp at p0 p1 p2 p3 p4 p5 p6 p7 p8 p9 r0 r1
          clear hr0 hr1 heq hW6 hbq pc hV
          have hne0 : w4.heap.size ≠ w4.heap.size + 1 := by omega
          have hwl : w.heap.size ≠ w4.heap.size + 1 := by have := HX3.out.lt; omega
          have hwl2 : ¬ (w4.heap.size + 1 = w.heap.size) := fun e => hwl e.symm
          have hne2 : ¬ (w4.heap.size + 1 = w4.heap.size) := by omega
          have HST := Lib.hid (fun (U : World) (hU : Below W6.heap.size W6 U) => show U.cell? ⟨w4.heap.size, 0, none⟩ = some (.int .i64 J1) ∧ U.cell? ⟨w4.heap.size, 1, none⟩ = some (.int .i64 J2) ∧ U.cell? ⟨w.heap.size, 0, none⟩ = some (.slice VA nV cV) ∧ U.cell? ⟨w.heap.size, 1, none⟩ = some (.int .i64 l.crest) ∧ U.cell? ⟨w.heap.size, 2, none⟩ = some (.int .i64 l.weak) ∧ U.cell? ⟨w.heap.size, 3, none⟩ = some (.int .i64 l.soft.1) ∧ U.cell? ⟨w.heap.size, 4, none⟩ = some (.int .i64 l.soft.2) ∧ U.cell? ⟨w.heap.size, 5, none⟩ = some (.int .i64 l.start.1) ∧ U.cell? ⟨w.heap.size, 6, none⟩ = some (.int .i64 l.start.2) ∧ U.cell? ⟨w.heap.size, 7, none⟩ = some (.int .i64 l.seep.1) ∧ U.cell? ⟨w.heap.size, 8, none⟩ = some (.int .i64 l.seep.2) ∧ U.cell? ⟨w.heap.size, 9, none⟩ = some (.slice IA n cI) from
            ⟨bel_keep hU r0, bel_keep hU r1, bel_keep hU p0, bel_keep hU p1, bel_keep hU p2, bel_keep hU p3, bel_keep hU p4, bel_keep hU p5, bel_keep hU p6, bel_keep hU p7, bel_keep hU p8, bel_keep hU p9⟩)
          go_wp2_with fail
          go_region_held3 (fun U => U.cell? ⟨w4.heap.size, 0, none⟩ = some (.int .i64 J1) ∧ U.cell? ⟨w4.heap.size, 1, none⟩ = some (.int .i64 J2) ∧ U.cell? ⟨w.heap.size, 0, none⟩ = some (.slice VA nV cV) ∧ U.cell? ⟨w.heap.size, 1, none⟩ = some (.int .i64 l.crest) ∧ U.cell? ⟨w.heap.size, 2, none⟩ = some (.int .i64 l.weak) ∧ U.cell? ⟨w.heap.size, 3, none⟩ = some (.int .i64 l.soft.1) ∧ U.cell? ⟨w.heap.size, 4, none⟩ = some (.int .i64 l.soft.2) ∧ U.cell? ⟨w.heap.size, 5, none⟩ = some (.int .i64 l.start.1) ∧ U.cell? ⟨w.heap.size, 6, none⟩ = some (.int .i64 l.start.2) ∧ U.cell? ⟨w.heap.size, 7, none⟩ = some (.int .i64 l.seep.1) ∧ U.cell? ⟨w.heap.size, 8, none⟩ = some (.int .i64 l.seep.2) ∧ U.cell? ⟨w.heap.size, 9, none⟩ = some (.slice IA n cI))
            (first | exact HST.out _ (Below.refl _ _) | exact HST.out _ (Below.refl _ _).drew | exact HST.out _ hb8 | (simp [World.cell?_setCell_far, hne0, hwl, hwl2, hne2, HST.out _ hb8]; done))
            (first | (go_at_call 67; refine HLV.out.mono ?_; rintro e w8 ⟨rfl, hb8'⟩; have hb8 := (Below.refl W6.heap.size W6).drew.trans hb8'; have hs8 := HSq.out.below hb8 HSq.out.lt; have f0 := hs8.frozen 0; have f1 := hs8.frozen 1; have f2 := hs8.frozen 2; have f3 := hs8.frozen 3; have g0 := hs8.cell 0; have g1 := hs8.cell 1; have g2 := hs8.cell 2; have g3 := hs8.cell 3; simp at g0 g1 g2 g3))
          all_goals
            have HB8 := Lib.hid (HBq.out.trans (hb8.mono hsq))
            have HO8 := Lib.hid (own_mono HOq.out hb8)
            have hs9 := (((hs8.set_ 0 (.bool true)).set_ 1 (.int .i64 J1)).set_ 2 (.int .i64 J2)).set_ 3 (.int .i64 V)
            have y0 := hs9.cell 0; have y1 := hs9.cell 1; have y2 := hs9.cell 2; have y3 := hs9.cell 3
            simp at y0 y1 y2 y3
            obtain ⟨W9, hW9⟩ : ∃ W9, W9 = (((w8.setCell ⟨w4.heap.size + 1, 0, none⟩ (.bool true)).setCell ⟨w4.heap.size + 1, 1, none⟩ (.int .i64 J1)).setCell ⟨w4.heap.size + 1, 2, none⟩ (.int .i64 J2)).setCell ⟨w4.heap.size + 1, 3, none⟩ (.int .i64 V) := ⟨_, rfl⟩
            rw [← hW9] at y0 y1 y2 y3
            have HB9 := Lib.hid (show Below w3.heap.size w3 W9 by
              rw [hW9]; exact (((HB8.out.setCell (by simp; omega) _).setCell (by simp; omega) _).setCell (by simp; omega) _).setCell (by simp; omega) _)
            have HO9 := Lib.hid (show W9.ownsRow w3.heap.size 66 4 (.slice OA k oc) k ((LL.take k).flatMap encT) by
              have hne : (Value.slice OA k oc).ownBlock ≠ some (w4.heap.size + 1) := fun e => by
                obtain ⟨cur, hc⟩ := own_ty HO.out e
                have h1 := (Array.getElem?_eq_some_iff.1 hc).1
                exact absurd h1 (by omega)
              rw [hW9]
              exact HO8.out.kept (only_setCell (only_setCell (only_setCell (only_setCell (World.grownBy.refl w8 (some (w4.heap.size + 1))) (.inl rfl) _) (.inl rfl) _) (.inl rfl) _) (.inl rfl) _) (.inr hne))
            have hsz9 := HB9.out.size
            have HW9 := Lib.hid hW9
            clear hs9 hs8 hb8 hb8' hW9
            go_upto_region 11 with fail
            rw [← HW9.out]
            go_wp2_with (at_builtin; go_must (refine wpList_append_own_at _ rfl _ _ 52 rfl w3.heap.size 66 i0 _ 4 32 Try.underlying52 HI.out HZ0.out HZ1.out HZ2.out rfl (by decide) _ _ _ rfl (HO9.out.alloc _) ⟨W9.heap.size, 0, none⟩ 1 1 [.bool true, .int .i64 J1, .int .i64 J2, .int .i64 V] rfl rfl (fun j u hj => World.news_of_block (cs := #[.bool true, .int .i64 J1, .int .i64 J2, .int .i64 V]) (t := 66) (fr := (0, 0)) (heap_alloc_new W9 _) j u hj) (by simp [Value.oneCell']) (by unfold maxLen; omega) (by omega) (by simp; omega) ?_; intro v' w7 hown' hgrow _ _))
            have hb7 : Below w3.heap.size w3 w7 := (HB9.out.alloc hsz9 _).grown hgrow (by simp; omega) (fun g hg => (HO9.out.lt g hg).1)
            have hown2 : w7.ownsRow w3.heap.size 66 4 v' (k + 1) ((LL.take (k + 1)).flatMap encT) := by rw [HAPP.out, HS0.out]; exact hown'
            have HO7 := Lib.hid hown2; have HB7 := Lib.hid hb7
            clear hown' hgrow hown2 hb7
            go_roundw
            case rel => exact ⟨k + 1, by omega, by go_num, HO7.out, HB7.out⟩
            case measure => simp [intOf] <;> omega
      · obtain rfl : k = n := by omega
        have hrd := Rd.of_own encT_len hown (by simp [HLL.out, hLn])
        rw [List.take_of_length_le (by simp [HLL.out, hLn])] at hrd
        have HRE := Lib.hid hrd
        have HBE := Lib.hid (HB3.out.trans (hbr.mono HB3.out.size))
        clear hown hbr hrd
        go_wp2_with fail
        go_ret2
        exact RiseP.good HOC.out HRE.out HBE.out
  · obtain ⟨E, hE⟩ : ∃ E, E = errA l ws c := ⟨_, rfl⟩
    rw [← hE] at HC he ⊢
    clear hE hP
    go_enter Try.func32, Try.ntmps32
    go_wp2_with fail
    refine HC.out.mono ?_
    rintro e w1 ⟨rfl, hb1⟩
    go_wp2_with fail
    go_ret2
    exact RiseP.bad he (below_tr HB.out hb1)
end
end Go.Proofs.Ytpijmfbpdglchaa
