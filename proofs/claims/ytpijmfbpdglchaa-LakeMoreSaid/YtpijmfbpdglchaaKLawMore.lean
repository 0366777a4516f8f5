/- THE WALK of LakeMore. -/
import Derived.Test.YtpijmfbpdglchaaKReady
import Derived.Test.YtpijmfbpdglchaaKConv
import Derived.Test.YtpijmfbpdglchaaKAwake
import Derived.Test.YtpijmfbpdglchaaKReal
import Derived.Test.YtpijmfbpdglchaaKValid
import Derived.Test.YtpijmfbpdglchaaKMore2
import Derived.Deep.CutBlock
import Derived.Laws.OwnMore
import Derived.Maps.AppendAt
namespace Go.Proofs.Ytpijmfbpdglchaa
open Go.RowKit Go.Proofs
attribute [local go_sem ↓] Go.wp_at_zero Go.wp_at_succ
theorem flat_set {α : Type} {enc : α → List Value} {s : Nat} (hs : ∀ x, (enc x).length = s) : ∀ {l : List α} {k : Nat} {x : α} (j : Nat) (v : Value) (x' : α), l[k]? = some x → j < s → enc x' = (enc x).set j v → (l.flatMap enc).set (k * s + j) v = (l.set k x').flatMap enc
  | [], k, x, j, v, x', h, _, _ => by simp at h
  | y :: t, 0, x, j, v, x', h, hj, he => by
    simp at h; subst h
    simp only [List.flatMap_cons, Nat.zero_mul, Nat.zero_add, List.set_cons_zero]
    rw [List.set_append_left _ _ (by rw [hs]; exact hj), he]
  | y :: t, k + 1, x, j, v, x', h, hj, he => by
    have ih := flat_set hs j v x' (show t[k]? = some x by simpa using h) hj he
    have e : (k + 1) * s + j = s + (k * s + j) := by rw [Nat.succ_mul]; omega
    simp only [List.flatMap_cons, List.set_cons_succ]
    rw [List.set_append_right _ _ (by rw [hs]; omega), hs, e, Nat.add_sub_cancel_left, ih]
theorem mix_store {X : List Rng} {j : Nat} {r : Rng} (h : X[j]? = some r) (a b : Int) : ((X.flatMap enc2).set (j * 2) (.int .i64 a)).set (j * 2 + 1) (.int .i64 b) = (X.set j (a, b)).flatMap enc2 := by
  have hj := lt_of_get h
  have h1 := flat_set enc2_len 0 (.int .i64 a) (a, r.2) h (by omega) rfl
  rw [Nat.add_zero] at h1
  rw [h1, flat_set enc2_len 1 (.int .i64 b) (a, b) (show (X.set j (a, r.2))[j]? = some (a, r.2) by simp [hj]) (by omega) rfl, List.set_set]
theorem own_addr {w : World} {base : Nat} {e : TypeId} {size n c : Nat} {A : Option Addr} {xs : List Value} (h : w.ownsRow base e size (.slice A n c) n xs) (hn : 0 < n) : ∃ g, A = some ⟨g, 0, none⟩ ∧ base ≤ g ∧ g < w.heap.size := by
  rcases h.2 with ⟨h', h0⟩ | ⟨g', cap', cur, h', hb, hg, _⟩
  · omega
  · simp only [Value.slice.injEq] at h'
    obtain ⟨rfl, _, _⟩ := h'
    exact ⟨g', rfl, hb, (Array.getElem?_eq_some_iff.1 hg).1⟩
def isT (c : List Int) (k i n : Nat) : Bool := ((i : Int) == (k : Int)) || (c.take n).any fun z => z == (i : Int)
theorem isT_zero (c : List Int) (k i : Nat) : isT c k i 0 = ((i : Int) == (k : Int)) := by simp [isT]
theorem isT_succ {c : List Int} {k i n : Nat} {z : Int} (hz : c[n]? = some z) : isT c k i (n + 1) = (isT c k i n || (z == (i : Int))) := by
  unfold isT
  rw [List.take_add_one, hz]
  simp [Bool.or_assoc]
theorem isT_all {c : List Int} {k i n : Nat} (hn : c.length = n) : isT c k i n = takeB c k i := by
  unfold isT takeB
  rw [List.take_of_length_le (by omega)]
  congr 1
  by_cases h : i = k <;> simp [h]; omega
def mixR (l : List Rng) (d : Int) (j : Nat) : List Rng := (l.take j).map (lessR d) ++ l.drop j
theorem mixR_zero (l : List Rng) (d : Int) : mixR l d 0 = l := by simp [mixR]
theorem mixR_all {l : List Rng} {n : Nat} (d : Int) (h : l.length = n) : mixR l d n = l.map (lessR d) := by simp [mixR, ← h]
theorem mixR_len (l : List Rng) (d : Int) (j : Nat) : (mixR l d j).length = l.length := by simp [mixR]; omega
theorem mixR_get {l : List Rng} {d : Int} {j : Nat} {r : Rng} (h : l[j]? = some r) : (mixR l d j)[j]? = some r := by
  have hj := lt_of_get h
  unfold mixR
  rw [List.getElem?_append_right (by simp; omega)]
  simpa [Nat.min_eq_left (Nat.le_of_lt hj)] using h
theorem mixR_set {l : List Rng} {d : Int} {j : Nat} {r : Rng} (h : l[j]? = some r) : (mixR l d j).set j (lessR d r) = mixR l d (j + 1) := by
  have hj := lt_of_get h
  unfold mixR
  rw [List.take_add_one, h, List.drop_eq_getElem_cons hj]
  rw [List.getElem?_eq_getElem hj] at h
  cases h
  have hl : ((l.take j).map (lessR d)).length = j := by rw [List.length_map, List.length_take]; omega
  rw [List.set_append_right _ _ (by omega), hl, Nat.sub_self, List.set_cons_zero, List.map_append, List.append_assoc]
  rfl
theorem lA_with (VA IA : Option Addr) (nV cV nI cI : Nat) (l : Lak) (I : List Rng) : lA VA nV cV IA nI cI (withI l I) = lA VA nV cV IA nI cI l := by simp only [lA, withI]
section
variable {VA IA WA CA : Option Addr} {nV nI cV cI nW cW nC cC : Nat} {l : Lak} {ws : List Wrk} {c : List Int} {I : List Rng} {w : World}
theorem Break_I {F1 F2 F3 : Int} (hF : brkRes (withI l I) ws c = (F1, F2, F3)) (hL : RdL w VA nV IA nI (withI l I)) (hW : Rd encW 3 w WA nW ws) (hC : Rd enc1 1 w CA nC c) (hcV : nV ≤ cV) (hcI : nI ≤ cI) (hok : LOk (withI l I)) (hwk : WOk ws) (hcho : choB ws.length c = true) :
    Calls Try.prog 33 #[.agg (lA VA nV cV IA nI cI l), .slice WA nW cW, .slice CA nC cC] w fun e w' => e = .returned (.tuple #[.int .i64 F1, .int .i64 F2, .int .i64 F3]) ∧ Below w.heap.size w w' := by
  have h := Break_3 (cW := cW) (cC := cC) hF hL hW hC hcV hcI hok hwk hcho
  rw [lA_with] at h
  exact h
theorem Prove_I {E : Bool} (hE : enB (withI l I) ws c = E) (hL : RdL w VA nV IA nI (withI l I)) (hW : Rd encW 3 w WA nW ws) (hC : Rd enc1 1 w CA nC c) (hcV : nV ≤ cV) (hcI : nI ≤ cI) (hok : LOk (withI l I)) (hwk : WOk ws) (hcho : choB ws.length c = true) :
    Calls Try.prog 26 #[.agg (lA VA nV cV IA nI cI l), .slice WA nW cW, .slice CA nC cC] w fun e w' => e = .returned (.bool E) ∧ Below w.heap.size w w' := by
  have h := Prove_3 (cW := cW) (cC := cC) hE hL hW hC hcV hcI hok hwk hcho
  rw [lA_with] at h
  exact h
set_option maxRecDepth 100000 in
set_option maxHeartbeats 8000000 in
theorem LakeMore_w (h : RdL w VA nV IA nI l) (hw : Rd encW 3 w WA nW ws) (hc : Rd enc1 1 w CA nC c) {wh at_ by_ : Int} (hwh : 0 ≤ wh ∧ wh ≤ 255) (hat : 0 ≤ at_ ∧ at_ ≤ 255) (hby : 0 ≤ by_ ∧ by_ ≤ 65535) (hnV : nV ≤ maxLen) (hnI : nI ≤ maxLen) (hnW : nW ≤ maxLen) (hnC : nC ≤ maxLen) :
    Calls Try.prog 7 #[.agg (lA VA nV cV IA nI cI l), .slice WA nW cW, .slice CA nC cC, .int .u8 wh, .int .u8 at_, .int .u16 by_] w fun e w' => e = .returned (.bool true) ∧ Below w.heap.size w w' := by
  have hb0 := (Below.refl w.heap.size w).alloc (Nat.le_refl _) (.cells (lA VA nV cV IA nI cI l) 27)
  have HB := Lib.hid hb0
  have HRY := Lib.hid (fun (U : World) (hU : Below w.heap.size w U) => ready_c (cV := cV) (cI := cI) (cW := cW) (cC := cC) (h.below hU) (hw.below hU) (hc.below hU) hnV hnI hnW hnC)
  have HXX := Lib.hid (fun U hU => lA_cells (VA := VA) (IA := IA) (nV := nV) (nI := nI) (cV := cV) (cI := cI) (l := l) w (U := U) hU)
  have HL := Lib.hid h; have HW := Lib.hid hw; have HC := Lib.hid hc
  have HAW := Lib.hid (fun (U : World) => awake_c U)
  clear h hw hc hb0
  cases hr : readyB l ws c
  · rw [hr] at HRY
    go_enter Try.func7, Try.ntmps7
    go_wp2_with fail
    go_at_call 28
    refine (HRY.out _ HB.out).mono ?_
    rintro e w1 ⟨rfl, hb9⟩
    have t0 := below_tr HB.out hb9
    clear HB
    have HB := Lib.hid t0
    clear t0
    clear hb9 
    go_wp2_with fail
    go_at_call 18
    refine (HAW.out _).mono ?_
    rintro e w1 ⟨rfl, hb9⟩
    have t0 := below_tr HB.out hb9
    clear HB
    have HB := Lib.hid t0
    clear t0
    clear hb9 
    go_wp2_with fail
    go_ret
    exact ⟨rfl, HB.out⟩
  · rw [hr] at HRY
    obtain ⟨hth, hok, hwk, hcho⟩ := readyB_iff.1 hr
    have h30 := hok.n; have h60 := hok.h; have h10 := hwk.n
    have hvl := HL.out.vols.len; have hil := HL.out.infl.len; have hwl := HW.out.len; have hcl := HC.out.len
    have hclen := cho_len hcho
    have hnI60 : nI ≤ 60 := by omega
    have hnW10 : nW ≤ 10 := by omega
    have hnC10 : nC ≤ 10 := by omega
    have HVL := Lib.hid hvl; have HIL := Lib.hid hil; have HWL := Lib.hid hwl; have HCL := Lib.hid hcl
    by_cases hz : nW = 0
    · obtain rfl := hz
      clear hr hth hok hwk hcho h30 h60 h10 hvl hil hwl hcl hclen hnV hnI hnW hnC
      go_enter Try.func7, Try.ntmps7
      go_wp2_with fail
      go_at_call 28
      refine (HRY.out _ HB.out).mono ?_
      rintro e w1 ⟨rfl, hb9⟩
      have t0 := below_tr HB.out hb9
      clear HB
      have HB := Lib.hid t0
      clear t0
      clear hb9 
      go_wp2_with fail
      go_at_call 18
      refine (HAW.out _).mono ?_
      rintro e w1 ⟨rfl, hb9⟩
      have t0 := below_tr HB.out hb9
      clear HB
      have HB := Lib.hid t0
      clear t0
      clear hb9 
      go_wp2_with fail
      go_ret
      exact ⟨rfl, HB.out⟩
    · have HLK := Lib.hid (fun (U : World) (hU : Below w.heap.size w U) => LakeR_c (cV := cV) (cI := cI) (HL.out.below hU) (by omega) (by omega))
      have HWK := Lib.hid (fun (U : World) (hU : Below w.heap.size w U) => WorksR_c (c := cW) (HW.out.below hU) (by omega))
      have HLI := Lib.hid (fun (U : World) (hU : Below w.heap.size w U) => listR_c (c := cC) (HC.out.below hU) (by omega))
      have HLKo := Lib.hid (fun (U : World) (hU : Below w.heap.size w U) => Lake_c (cV := cV) (cI := cI) (HL.out.below hU) (by omega) (by omega))
      have HWKo := Lib.hid (fun (U : World) (hU : Below w.heap.size w U) => Works_c (c := cW) (HW.out.below hU) (by omega))
      have HLIo := Lib.hid (fun (U : World) (hU : Below w.heap.size w U) => list_c (c := cC) (HC.out.below hU) (by omega))
      have HOK := Lib.hid hok; have HWO := Lib.hid hwk; have HCO := Lib.hid hcho
      obtain ⟨F1, F2, F3, hF⟩ : ∃ F1 F2 F3, brkRes l ws c = (F1, F2, F3) := ⟨_, _, _, rfl⟩
      have hbr := brkRes_v hok hwk hcho
      rw [hF] at hbr
      have HBR := Lib.hid hbr; have HF := Lib.hid hF
      obtain ⟨k, hk⟩ : ∃ k : Nat, (k : Int) = at_ % (nW : Int) := ⟨(at_ % (nW : Int)).toNat, by have := Int.emod_nonneg at_ (show (nW : Int) ≠ 0 by omega); omega⟩
      have hkW : k < nW := by have := Int.emod_lt_of_pos at_ (show (0 : Int) < (nW : Int) by omega); omega
      have HK := Lib.hid hk
      have hz1 : ((nW : Int) == 0) = false := by simp; omega
      have hz2 : ¬ ((nW : Int) = 0) := by omega
      clear hr hth hok hwk hcho h30 h60 h10 hvl hil hwl hcl hclen hnV hnI hnW hnC hbr hF hk hz
      have HQ := Lib.hid (Below.refl (w.alloc (.cells (lA VA nV cV IA nI cI l) 27)).heap.size (w.alloc (.cells (lA VA nV cV IA nI cI l) 27)))
      go_enter Try.func7, Try.ntmps7
      go_wp2_with fail
      go_at_call 28
      refine (HRY.out _ HB.out).mono ?_
      rintro e w1 ⟨rfl, hb9⟩
      have t0 := below_tr HB.out hb9; have t1 := below_tr HQ.out hb9
      clear HB HQ
      have HB := Lib.hid t0; have HQ := Lib.hid t1
      clear t0 t1
      clear hb9 
      obtain ⟨x0, x1, x2, x3, x4, x5, x6, x7, x8, x9⟩ := HXX.out _ HQ.out
      go_wp2_with fail
      go_at_call 20
      refine (HLKo.out _ HB.out).mono ?_
      rintro e w1 ⟨VS, cVS, IS, cIS, rfl, hcv, hci, hvs, his, hb9⟩
      have hvs := own_weak (base := w.heap.size + 1) hvs (by have := HQ.out.size; simp at this; omega); have his := own_weak (base := w.heap.size + 1) his (by have := HQ.out.size; simp at this; omega)
      have t0 := below_tr HB.out hb9; have t1 := below_tr HQ.out hb9
      clear HB HQ
      have HB := Lib.hid t0; have HQ := Lib.hid t1
      clear t0 t1
      have HVS := Lib.hid hvs
      have HIS := Lib.hid his
      have HSV := Lib.hid hcv
      have HSI := Lib.hid hci
      clear hb9 hvs his hcv hci
      clear x0 x1 x2 x3 x4 x5 x6 x7 x8 x9
      go_wp2_with fail
      go_at_call 21
      refine (HWKo.out _ HB.out).mono ?_
      rintro e w1 ⟨WS, cWS, rfl, hcw, hws, hb9⟩
      have hws := own_weak (base := w.heap.size + 1) hws (by have := HQ.out.size; simp at this; omega)
      have t0 := below_tr HB.out hb9; have t1 := below_tr HQ.out hb9; have t2 := own_mono HVS.out hb9; have t3 := own_mono HIS.out hb9
      clear HB HQ HVS HIS
      have HB := Lib.hid t0; have HQ := Lib.hid t1; have HVS := Lib.hid t2; have HIS := Lib.hid t3
      clear t0 t1 t2 t3
      have HWS := Lib.hid hws
      have HSW := Lib.hid hcw
      clear hb9 hws hcw
      go_wp2_with fail
      go_at_call 27
      refine (HLIo.out _ HB.out).mono ?_
      rintro e w1 ⟨CS, cCS, rfl, hcc, hcs, hb9⟩
      have hcs := own_weak (base := w.heap.size + 1) hcs (by have := HQ.out.size; simp at this; omega)
      have t0 := below_tr HB.out hb9; have t1 := below_tr HQ.out hb9; have t2 := own_mono HVS.out hb9; have t3 := own_mono HIS.out hb9; have t4 := own_mono HWS.out hb9
      clear HB HQ HVS HIS HWS
      have HB := Lib.hid t0; have HQ := Lib.hid t1; have HVS := Lib.hid t2; have HIS := Lib.hid t3; have HWS := Lib.hid t4
      clear t0 t1 t2 t3 t4
      have HCS := Lib.hid hcs
      have HSC := Lib.hid hcc
      clear hb9 hcs hcc
      go_upto_region 5 with fail
      rw [← HK.out]
      obtain ⟨XB, hXB⟩ : ∃ XB, XB = w1.heap.size := ⟨_, rfl⟩
      rw [← hXB]
      obtain ⟨W1, hW1⟩ : ∃ W1, W1 = w1.alloc (.cells (lA VS nV cVS IS nI cIS l) 38) := ⟨_, rfl⟩
      rw [← hW1]
      have hb9 : Below w1.heap.size w1 W1 := by rw [hW1]; exact (Below.refl _ _).alloc (Nat.le_refl _) _
      have hxb : Blk W1 XB 38 (lA VS nV cVS IS nI cIS l) := by rw [hW1, hXB]; exact Blk.new _ _ _
      have hq1 : (w.alloc (.cells (lA VA nV cV IA nI cI l) 27)).heap.size ≤ XB := by rw [hXB]; exact HQ.out.size
      have t0 := below_tr HB.out hb9; have t1 := below_tr HQ.out hb9; have t2 := own_mono HVS.out hb9; have t3 := own_mono HIS.out hb9; have t4 := own_mono HWS.out hb9; have t5 := own_mono HCS.out hb9
      clear HB HQ HVS HIS HWS HCS
      have HB := Lib.hid t0; have HQ := Lib.hid t1; have HVS := Lib.hid t2; have HIS := Lib.hid t3; have HWS := Lib.hid t4; have HCS := Lib.hid t5
      clear t0 t1 t2 t3 t4 t5
      have HXB := Lib.hid hxb; have HXQ := Lib.hid hq1
      clear hb9 hxb hq1 hXB hW1
      go_upto_block 0 with fail
      go_cut [16] (fun cv wx => ∃ I ws' c' m cc A2, cv = .slice A2 m cc ∧ MoreP l ws c I ws' c' ∧ RdL wx VS nV IS nI (withI l I) ∧ Rd encW 3 wx WS nW ws' ∧ Rd enc1 1 wx A2 m c' ∧ m ≤ 10 ∧ Blk wx XB 38 (lA VS nV cVS IS nI cIS l) ∧ Below w.heap.size w wx ∧ Below (w.alloc (.cells (lA VA nV cV IA nI cI l) 27)).heap.size (w.alloc (.cells (lA VA nV cV IA nI cI l) 27)) wx)
      case first =>
        have HVR := Lib.hid (Rd.of_own enc1_len HVS.out HVL.out)
        have HIR := Lib.hid (Rd.of_own enc2_len HIS.out HIL.out)
        have HWR := Lib.hid (Rd.of_own encW_len HWS.out HWL.out)
        have HCR := Lib.hid (Rd.of_own enc1_len HCS.out HCL.out)
        by_cases h0 : wh % 3 = 0
        · have e0 : (wh % 3 == 0) = true := by simp [h0]
          clear h0
          have hcw : nC ≤ 10 := hnC10
          go_wp2_with fail
          obtain ⟨i0, hi0, hz0, hz1', hz2'⟩ := info_parts infoI
          have HI := Lib.hid hi0; have HZ0 := Lib.hid hz0; have HZ1 := Lib.hid hz1'; have HZ2 := Lib.hid hz2'
          clear hi0 hz0 hz1' hz2' hz1 hz2
          go_loopw [16, 17] (fun cv iv wr => ∃ i : Nat, i ≤ nW ∧ iv = .int .i64 i ∧ wr.ownsRow W1.heap.size 3 1 cv (addC c k i).length ((addC c k i).flatMap enc1) ∧ Below W1.heap.size W1 wr) (fun _ iv _ => nW - (intOf iv).toNat)
          case atStart => exact ⟨0, Nat.zero_le _, rfl, World.ownsRow_nil _ _ _ _, Below.refl _ _⟩
          case round =>
            obtain ⟨i, hi, rfl, hown, hbr⟩ := hrel
            obtain ⟨WQ, hWQ⟩ : ∃ WQ, WQ = wr := ⟨_, rfl⟩
            rw [← hWQ] at hown hbr ⊢
            clear hWQ
            obtain ⟨A2, cc, rfl, hcc⟩ := own_form hown
            have HO := Lib.hid hown; have HBR := Lib.hid hbr; have HC2 := Lib.hid hcc
            have hlen := addC_len (c := c) (k := k) i
            obtain ⟨m, hm⟩ : ∃ m, m = (addC c k i).length := ⟨_, rfl⟩
            rw [← hm] at hlen HO HC2 ⊢
            have HM := Lib.hid hm
            have hsz := hbr.size
            clear hown hbr hcc hm
            by_cases hlt : i < nW
            · have hiw : (i : Int) < (nW : Int) := by omega
              have hi0' : (0 : Int) ≤ (i : Int) := by omega
              have HLT := Lib.hid hlt
              clear hlt
              go_wp2_with fail
              go_loopw [18, 19] (fun s nv wr => ∃ n : Nat, n ≤ nC ∧ nv = .int .i64 n ∧ s = .bool (isT c k i n) ∧ wr = WQ) (fun _ nv _ => nC - (intOf nv).toNat)
              case atStart => exact ⟨0, Nat.zero_le _, rfl, by rw [isT_zero], rfl⟩
              case round =>
                obtain ⟨n, hn, rfl, rfl, rfl⟩ := hrel
                by_cases hlt : n < nC
                · obtain ⟨b, o, z, hA, hbl, hz, z0⟩ := (HC.out.below (HB.out.trans (HBR.out.mono HB.out.size))).at1 hlt
                  subst hA
                  have hsu := isT_succ (k := k) (i := i) hz
                  have hnC : (n : Int) < (nC : Int) := by omega
                  have hn0 : (0 : Int) ≤ (n : Int) := by omega
                  cases hb : isT c k i n
                  · rw [hb, Bool.false_or] at hsu
                    cases hq : (z == (i : Int))
                    · rw [hq] at hsu
                      have HSU := Lib.hid hsu
                      clear hb hsu hz
                      go_wp2_with fail
                      go_roundw
                      case rel => exact ⟨n + 1, by omega, by go_num, by rw [HSU.out], by first | rfl | trivial⟩
                      case measure => simp [intOf] <;> omega
                    · rw [hq] at hsu
                      have HSU := Lib.hid hsu
                      clear hb hsu hz
                      go_wp2_with fail
                      go_roundw
                      case rel => exact ⟨n + 1, by omega, by go_num, by rw [HSU.out], by first | rfl | trivial⟩
                      case measure => simp [intOf] <;> omega
                  · rw [hb, Bool.true_or] at hsu
                    have HSU := Lib.hid hsu
                    clear hb hsu hz
                    go_wp2_with fail
                    go_roundw
                    case rel => exact ⟨n + 1, by omega, by go_num, by rw [HSU.out], by first | rfl | trivial⟩
                    case measure => simp [intOf] <;> omega
                · obtain rfl : n = nC := by omega
                  have hta := isT_all (k := k) (i := i) HCL.out
                  cases hb : takeB c k i
                  · rw [hta, hb]
                    have hs1 : addC c k (i + 1) = addC c k i := by rw [addC_succ, hb]; simp
                    have HS1 := Lib.hid hs1
                    clear hta hb hs1 hlt
                    go_wp2_with fail
                    go_roundw
                    case rel => exact ⟨i + 1, by have := HLT.out; omega, by go_num, by rw [HS1.out, ← HM.out]; exact HO.out, HBR.out⟩
                    case measure => have := HLT.out; simp [intOf] <;> omega
                  · rw [hta, hb]
                    have hs1 : addC c k (i + 1) = addC c k i ++ [(i : Int)] := by rw [addC_succ, hb]; simp
                    have HS1 := Lib.hid hs1
                    clear hta hb hs1 hlt
                    go_wp2_with (at_builtin; go_must (refine wpList_append_own_at _ rfl _ _ 22 rfl W1.heap.size 3 i0 _ 1 8 Try.underlying22 HI.out HZ0.out HZ1.out HZ2.out rfl (by decide) _ _ _ rfl (HO.out.alloc _) ⟨wr.heap.size, 0, none⟩ 1 1 [.int .i64 i] rfl rfl (fun j u hj => World.news_of_block (cs := #[.int .i64 i]) (t := 3) (fr := (0, 0)) (heap_alloc_new wr _) j u hj) (by simp [Value.oneCell']) (by unfold maxLen; omega) (by omega) (by simp; omega) ?_; intro v' w6 hown' hgrow _ _; have HG := Lib.hid hgrow; have HO6 := Lib.hid hown'; clear hgrow hown'))
                    have hb6 : Below W1.heap.size W1 w6 := (HBR.out.alloc hsz _).grown HG.out (by simp; omega) (fun g hg => (HO.out.lt g hg).1)
                    have HB6 := Lib.hid hb6
                    clear hb6
                    go_roundw
                    case rel =>
                      refine ⟨i + 1, by have := HLT.out; omega, by go_num, ?_, HB6.out⟩
                      rw [HS1.out, List.flatMap_append, List.length_append, ← HM.out]
                      simpa [enc1] using HO6.out
                    case measure => have := HLT.out; simp [intOf] <;> omega
            · obtain rfl : i = nW := by omega
              have HWi := Lib.hid (show MoreP l ws c l.inflow ws (addC c k i) from by have := more_work HOK.out HWO.out HCO.out k; rwa [HWL.out] at this)
              go_wp2_with fail
              go_meet
              exact ⟨l.inflow, ws, addC c k i, m, cc, A2, rfl, HWi.out, ⟨HVR.out.below HBR.out, HIR.out.below HBR.out⟩, HWR.out.below HBR.out, Rd.of_own enc1_len HO.out HM.out.symm, by omega, HXB.out.below HBR.out HXB.out.lt, HB.out.trans (HBR.out.mono HB.out.size), HQ.out.trans (HBR.out.mono HQ.out.size)⟩
        · have e0 : (wh % 3 == 0) = false := by simp [h0]
          by_cases h1 : wh % 3 = 1
          · have e1 : (wh % 3 == 1) = true := by simp [h1]
            clear h0 h1
            have hxk := List.getElem?_eq_getElem (show k < ws.length by have := HWL.out; omega)
            obtain ⟨x, hx⟩ : ∃ x, ws[k]? = some x := ⟨_, hxk⟩
            obtain ⟨g, hWS, hgb0, hgl⟩ := own_addr HWS.out (by omega)
            subst hWS
            have hck := HWS.out.cellAt (k * 3 + 1) (by omega)
            rw [show k * 3 + 1 = k * 3 + 1 from rfl, flatMap_get encW_len ws k x 1 _ hx rfl] at hck
            have hfk := HWS.out.frozenAt (k * 3 + 1)
            have hxo := (okW_iff.1 (HWO.out.all k x hx)).2.1
            have hkw : (k : Int) < (nW : Int) := by omega
            have hk0 : (0 : Int) ≤ (k : Int) := by omega
            have hst := (HWS.out.stored (k * 3 + 1) (.int .i64 (min 1000000 (x.flow + by_)))).1
            rw [flat_set encW_len 1 (.int .i64 (min 1000000 (x.flow + by_))) ⟨x.frm, min 1000000 (x.flow + by_), x.price⟩ hx (by omega) rfl, ← flowW_at hx] at hst
            have HST := Lib.hid hst
            have HMW := Lib.hid (more_flow (c := c) HOK.out HWO.out HCO.out hx hby.1)
            have hgx : g ≠ XB := fun e => own_blk_ne HWS.out HXB.out (by decide) (by rw [e]; rfl)
            have hnv := own_own_ne HWS.out HVS.out (by decide) (g := g) rfl
            have hni := own_own_ne HWS.out HIS.out (by decide) (g := g) rfl
            have hnc := own_own_ne HWS.out HCS.out (by decide) (g := g) rfl
            have HGQ := Lib.hid (show (w.alloc (.cells (lA VA nV cV IA nI cI l) 27)).heap.size ≤ g by simp; omega)
            have hgb : w.heap.size ≤ g := by omega
            have HGX := Lib.hid hgx; have HNV := Lib.hid hnv; have HNI := Lib.hid hni; have HNC := Lib.hid hnc
            clear hxk hx hst hgx hnv hni hnc
            go_wp2_with fail
            go_meet
            have hgr : ∀ u, W1.grownBy (W1.setCell ⟨g, k * 3 + 1, none⟩ u) (some g) := fun u => only_setCell (World.grownBy.refl W1 (some g)) (.inl rfl) u
            have hgq : (w.alloc (.cells (lA VA nV cV IA nI cI l) 27)).heap.size ≤ g := HGQ.out
            exact ⟨l.inflow, flowW ws k by_, c, nC, cCS, CS, rfl, HMW.out, ⟨Rd.of_own enc1_len (HVS.out.kept (hgr _) (.inr HNV.out)) HVL.out, Rd.of_own enc2_len (HIS.out.kept (hgr _) (.inr HNI.out)) HIL.out⟩, Rd.of_own encW_len HST.out (HMW.out.wl.trans HWL.out), Rd.of_own enc1_len (HCS.out.kept (hgr _) (.inr HNC.out)) HCL.out, hnC10, HXB.out.far (p := ⟨g, k * 3 + 1, none⟩) (Ne.symm HGX.out) _, HB.out.setCell (p := ⟨g, k * 3 + 1, none⟩) hgb _, HQ.out.setCell (p := ⟨g, k * 3 + 1, none⟩) hgq _⟩
          · have e1 : (wh % 3 == 1) = false := by simp [h1]
            clear h0 h1
            obtain ⟨d, hd⟩ : ∃ d, d = by_ % 40 := ⟨_, rfl⟩
            have hd0 : 0 ≤ d ∧ d < 40 := by omega
            have HD := Lib.hid hd
            clear hd
            have HBQ := Lib.hid (show Below (w.heap.size + 1) (w.alloc (.cells (lA VA nV cV IA nI cI l) 27)) W1 from by have := HQ.out; simpa using this)
            have HBA := Lib.hid ((Below.refl w.heap.size w).alloc (Nat.le_refl _) (.cells (lA VA nV cV IA nI cI l) 27))
            have hy9 := HXB.out.cell 9
            simp at hy9
            go_wp2_with fail
            go_loopw [20] (fun iv wr => ∃ j : Nat, j ≤ nI ∧ iv = .int .i64 j ∧ wr.ownsRow (w.heap.size + 1) 35 2 (.slice IS nI cIS) nI ((mixR l.inflow d j).flatMap enc2) ∧ wr.ownsRow (w.heap.size + 1) 3 1 (.slice VS nV cVS) nV (l.vols.flatMap enc1) ∧ wr.ownsRow (w.heap.size + 1) 71 3 (.slice WS nW cWS) nW (ws.flatMap encW) ∧ wr.ownsRow (w.heap.size + 1) 3 1 (.slice CS nC cCS) nC (c.flatMap enc1) ∧ Blk wr XB 38 (lA VS nV cVS IS nI cIS l) ∧ Below (w.heap.size + 1) (w.alloc (.cells (lA VA nV cV IA nI cI l) 27)) wr) (fun iv _ => nI - (intOf iv).toNat)
            case atStart => exact ⟨0, Nat.zero_le _, rfl, by rw [mixR_zero]; exact HIS.out, HVS.out, HWS.out, HCS.out, HXB.out, HBQ.out⟩
            case round =>
              obtain ⟨j, hj, rfl, hio, hvo, hwo, hco, hxo, hbo⟩ := hrel
              obtain ⟨W2, hW2⟩ : ∃ W2, W2 = wr := ⟨_, rfl⟩
              rw [← hW2] at hio hvo hwo hco hxo hbo ⊢
              clear hW2 hy9
              have hy9 := hxo.cell 9
              simp at hy9
              have HIO := Lib.hid hio; have HVO := Lib.hid hvo; have HWO2 := Lib.hid hwo; have HCO2 := Lib.hid hco; have HXO := Lib.hid hxo; have HBO := Lib.hid hbo
              clear hvo hwo hco hxo hbo
              by_cases hlt : j < nI
              · obtain ⟨r, hr⟩ : ∃ r, l.inflow[j]? = some r := ⟨_, List.getElem?_eq_getElem (by have := HIL.out; omega)⟩
                obtain ⟨g, hIS, hgb, hgl⟩ := own_addr hio (by omega)
                subst hIS
                have c0 := HIO.out.cellAt (j * 2) (by omega)
                have c1 := HIO.out.cellAt (j * 2 + 1) (by omega)
                rw [show j * 2 = j * 2 + 0 from rfl, flatMap_get enc2_len (mixR l.inflow d j) j r 0 _ (mixR_get hr) rfl] at c0
                rw [flatMap_get enc2_len (mixR l.inflow d j) j r 1 _ (mixR_get hr) rfl] at c1
                simp only [Nat.add_zero] at c0
                have f0 := HIO.out.frozenAt (j * 2)
                have f1 := HIO.out.frozenAt (j * 2 + 1)
                have hrb := HOK.out.inflow j r hr
                have HR := Lib.hid hr; have HLT := Lib.hid hlt
                have hjI : (j : Int) < (nI : Int) := by omega
                have hj0 : (0 : Int) ≤ (j : Int) := by omega
                have hw1 : IntKind.i64.wrap (r.1 - d) = r.1 - d := wi (by omega)
                have hw2 : IntKind.i64.wrap (r.2 - d) = r.2 - d := wi (by omega)
                have hm1 : by_.tmod 40 = d := by rw [HD.out]; exact Int.tmod_eq_emod_of_nonneg hby.1
                have hm2 : by_ % 40 = d := HD.out.symm
                have hw3 : IntKind.i64.wrap d = d := wi (by omega)
                have HF0 := Lib.hid f0; have HF1 := Lib.hid f1
                have HH1 := Lib.hid hw1; have HH2 := Lib.hid hw2; have HH3 := Lib.hid hw3; have HM1 := Lib.hid hm1; have HM2 := Lib.hid hm2
                clear hr hlt hio hw1 hw2 hw3 hm1 hm2
                go_upto_region 10 with fail
                have hw1 := HH1.out; have hw2 := HH2.out; have hw3 := HH3.out; have hm1 := HM1.out; have hm2 := HM2.out
                refine wp_region_till [22] (fun U => U.cell? ⟨g, j * 2, none⟩ = some (.int .i64 r.1) ∧ U.cell? ⟨g, j * 2 + 1, none⟩ = some (.int .i64 r.2)) (by kernel_rfl) (by exact ⟨c0, c1⟩) (fun hHeld => ?_)
                skip
                (refine wpAnyL_take (n := 0) (i := 0) (oi := ?ox1) (v := ?vx1) ?hix1 ?k1x1 ?k2x1 ?k3x1 ?k4x1 ?k5x1 ?k6x1 ?hQx1 ?hYx1 ?hSx1 ?restx1; (case hix1 => (simp only [List.getElem?_toArray, List.getElem?_cons_succ, List.getElem?_cons_zero]; exact rfl)); (case k1x1 => kernel_rfl); (case k2x1 => kernel_rfl); (case k3x1 => kernel_rfl); (case k4x1 => kernel_rfl); (case k5x1 => kernel_rfl); (case k6x1 => kernel_rfl); (case hSx1 => assumption); (case hYx1 => (refine Or.inl ⟨rfl, ?hyx1⟩; intro w hSw; (try dsimp only at hSw); go_simp; (try with_reducible rfl))); (case hQx1 => exact (fun _ _ _ h => h)); (try simp only [Act.put, List.setIfInBounds_toArray, List.set_cons_zero, List.set_cons_succ]))
                (refine wpAnyL_freeS (i := 1) (oi := ?ox2) (v := ?vx2) ?hix2 ?k1x2 ?k2x2 ?k3x2 ?k4x2 ?hQx2 ?hYx2 ?hSx2 ?restx2; (case hix2 => (simp only [List.getElem?_toArray, List.getElem?_cons_succ, List.getElem?_cons_zero]; exact rfl)); (case k1x2 => kernel_rfl); (case k2x2 => kernel_rfl); (case k3x2 => kernel_rfl); (case k4x2 => kernel_rfl); (case hSx2 => assumption); (case hYx2 => (refine Or.inl ⟨rfl, ?hyx2⟩; intro w hSw; (try dsimp only at hSw); go_simp; (try with_reducible rfl))); (case hQx2 => exact (fun _ _ _ h => h)); (try simp only [Act.put, List.setIfInBounds_toArray, List.set_cons_zero, List.set_cons_succ]))
                (refine wpAnyL_take (n := 0) (i := 2) (oi := ?ox3) (v := ?vx3) ?hix3 ?k1x3 ?k2x3 ?k3x3 ?k4x3 ?k5x3 ?k6x3 ?hQx3 ?hYx3 ?hSx3 ?restx3; (case hix3 => (simp only [List.getElem?_toArray, List.getElem?_cons_succ, List.getElem?_cons_zero]; exact rfl)); (case k1x3 => kernel_rfl); (case k2x3 => kernel_rfl); (case k3x3 => kernel_rfl); (case k4x3 => kernel_rfl); (case k5x3 => kernel_rfl); (case k6x3 => kernel_rfl); (case hSx3 => assumption); (case hYx3 => (refine Or.inl ⟨rfl, ?hyx3⟩; intro w hSw; (try dsimp only at hSw); go_simp; (try with_reducible rfl))); (case hQx3 => exact (fun _ _ _ h => h)); (try simp only [Act.put, List.setIfInBounds_toArray, List.set_cons_zero, List.set_cons_succ]))
                (refine wpAnyL_take (n := 0) (i := 3) (oi := ?ox4) (v := ?vx4) ?hix4 ?k1x4 ?k2x4 ?k3x4 ?k4x4 ?k5x4 ?k6x4 ?hQx4 ?hYx4 ?hSx4 ?restx4; (case hix4 => (simp only [List.getElem?_toArray, List.getElem?_cons_succ, List.getElem?_cons_zero]; exact rfl)); (case k1x4 => kernel_rfl); (case k2x4 => kernel_rfl); (case k3x4 => kernel_rfl); (case k4x4 => kernel_rfl); (case k5x4 => kernel_rfl); (case k6x4 => kernel_rfl); (case hSx4 => assumption); (case hYx4 => (refine Or.inl ⟨rfl, ?hyx4⟩; intro w hSw; (try dsimp only at hSw); go_simp; (try with_reducible rfl))); (case hQx4 => exact (fun _ _ _ h => h)); (try simp only [Act.put, List.setIfInBounds_toArray, List.set_cons_zero, List.set_cons_succ]))
                (refine wpAnyL_take (n := 0) (i := 4) (oi := ?ox5) (v := ?vx5) ?hix5 ?k1x5 ?k2x5 ?k3x5 ?k4x5 ?k5x5 ?k6x5 ?hQx5 ?hYx5 ?hSx5 ?restx5; (case hix5 => (simp only [List.getElem?_toArray, List.getElem?_cons_succ, List.getElem?_cons_zero]; exact rfl)); (case k1x5 => kernel_rfl); (case k2x5 => kernel_rfl); (case k3x5 => kernel_rfl); (case k4x5 => kernel_rfl); (case k5x5 => kernel_rfl); (case k6x5 => kernel_rfl); (case hSx5 => assumption); (case hYx5 => (refine Or.inl ⟨rfl, ?hyx5⟩; intro w hSw; (try dsimp only at hSw); go_simp; (try with_reducible rfl))); (case hQx5 => exact (fun _ _ _ h => h)); (try simp only [Act.put, List.setIfInBounds_toArray, List.set_cons_zero, List.set_cons_succ]))
                (refine wpAnyL_take (n := 0) (i := 5) (oi := ?ox6) (v := ?vx6) ?hix6 ?k1x6 ?k2x6 ?k3x6 ?k4x6 ?k5x6 ?k6x6 ?hQx6 ?hYx6 ?hSx6 ?restx6; (case hix6 => (simp only [List.getElem?_toArray, List.getElem?_cons_succ, List.getElem?_cons_zero]; exact rfl)); (case k1x6 => kernel_rfl); (case k2x6 => kernel_rfl); (case k3x6 => kernel_rfl); (case k4x6 => kernel_rfl); (case k5x6 => kernel_rfl); (case k6x6 => kernel_rfl); (case hSx6 => assumption); (case hYx6 => (refine Or.inl ⟨rfl, ?hyx6⟩; intro w hSw; (try dsimp only at hSw); go_simp; (try with_reducible rfl))); (case hQx6 => exact (fun _ _ _ h => h)); (try simp only [Act.put, List.setIfInBounds_toArray, List.set_cons_zero, List.set_cons_succ]))
                (refine wpAnyL_take (n := 0) (i := 6) (oi := ?ox7) (v := ?vx7) ?hix7 ?k1x7 ?k2x7 ?k3x7 ?k4x7 ?k5x7 ?k6x7 ?hQx7 ?hYx7 ?hSx7 ?restx7; (case hix7 => (simp only [List.getElem?_toArray, List.getElem?_cons_succ, List.getElem?_cons_zero]; exact rfl)); (case k1x7 => kernel_rfl); (case k2x7 => kernel_rfl); (case k3x7 => kernel_rfl); (case k4x7 => kernel_rfl); (case k5x7 => kernel_rfl); (case k6x7 => kernel_rfl); (case hSx7 => assumption); (case hYx7 => (refine Or.inl ⟨rfl, ?hyx7⟩; intro w hSw; (try dsimp only at hSw); go_simp; (try with_reducible rfl))); (case hQx7 => exact (fun _ _ _ h => h)); (try simp only [Act.put, List.setIfInBounds_toArray, List.set_cons_zero, List.set_cons_succ]))
                (refine wpAnyL_take (n := 0) (i := 7) (oi := ?ox8) (v := ?vx8) ?hix8 ?k1x8 ?k2x8 ?k3x8 ?k4x8 ?k5x8 ?k6x8 ?hQx8 ?hYx8 ?hSx8 ?restx8; (case hix8 => (simp only [List.getElem?_toArray, List.getElem?_cons_succ, List.getElem?_cons_zero]; exact rfl)); (case k1x8 => kernel_rfl); (case k2x8 => kernel_rfl); (case k3x8 => kernel_rfl); (case k4x8 => kernel_rfl); (case k5x8 => kernel_rfl); (case k6x8 => kernel_rfl); (case hSx8 => assumption); (case hYx8 => (refine Or.inl ⟨rfl, ?hyx8⟩; intro w hSw; (try dsimp only at hSw); go_simp; (try with_reducible rfl))); (case hQx8 => exact (fun _ _ _ h => h)); (try simp only [Act.put, List.setIfInBounds_toArray, List.set_cons_zero, List.set_cons_succ]))
                (refine wpAnyL_take (n := 0) (i := 8) (oi := ?ox9) (v := ?vx9) ?hix9 ?k1x9 ?k2x9 ?k3x9 ?k4x9 ?k5x9 ?k6x9 ?hQx9 ?hYx9 ?hSx9 ?restx9; (case hix9 => (simp only [List.getElem?_toArray, List.getElem?_cons_succ, List.getElem?_cons_zero]; exact rfl)); (case k1x9 => kernel_rfl); (case k2x9 => kernel_rfl); (case k3x9 => kernel_rfl); (case k4x9 => kernel_rfl); (case k5x9 => kernel_rfl); (case k6x9 => kernel_rfl); (case hSx9 => assumption); (case hYx9 => (refine Or.inl ⟨rfl, ?hyx9⟩; intro w hSw; (try dsimp only at hSw); go_simp; (try with_reducible rfl))); (case hQx9 => exact (fun _ _ _ h => h)); (try simp only [Act.put, List.setIfInBounds_toArray, List.set_cons_zero, List.set_cons_succ]))
                (refine wpAnyL_take (n := 0) (i := 9) (oi := ?ox10) (v := ?vx10) ?hix10 ?k1x10 ?k2x10 ?k3x10 ?k4x10 ?k5x10 ?k6x10 ?hQx10 ?hYx10 ?hSx10 ?restx10; (case hix10 => (simp only [List.getElem?_toArray, List.getElem?_cons_succ, List.getElem?_cons_zero]; exact rfl)); (case k1x10 => kernel_rfl); (case k2x10 => kernel_rfl); (case k3x10 => kernel_rfl); (case k4x10 => kernel_rfl); (case k5x10 => kernel_rfl); (case k6x10 => kernel_rfl); (case hSx10 => assumption); (case hYx10 => (refine Or.inl ⟨rfl, ?hyx10⟩; intro w hSw; (try dsimp only at hSw); go_simp; (try with_reducible rfl))); (case hQx10 => exact (fun _ _ _ h => h)); (try simp only [Act.put, List.setIfInBounds_toArray, List.set_cons_zero, List.set_cons_succ]))
                (refine wpAnyL_take (n := 0) (i := 10) (oi := ?ox11) (v := ?vx11) ?hix11 ?k1x11 ?k2x11 ?k3x11 ?k4x11 ?k5x11 ?k6x11 ?hQx11 ?hYx11 ?hSx11 ?restx11; (case hix11 => (simp only [List.getElem?_toArray, List.getElem?_cons_succ, List.getElem?_cons_zero]; exact rfl)); (case k1x11 => kernel_rfl); (case k2x11 => kernel_rfl); (case k3x11 => kernel_rfl); (case k4x11 => kernel_rfl); (case k5x11 => kernel_rfl); (case k6x11 => kernel_rfl); (case hSx11 => assumption); (case hYx11 => (refine Or.inl ⟨rfl, ?hyx11⟩; intro w hSw; (try dsimp only at hSw); go_simp; (try with_reducible rfl))); (case hQx11 => exact (fun _ _ _ h => h)); (try simp only [Act.put, List.setIfInBounds_toArray, List.set_cons_zero, List.set_cons_succ]))
                (refine wpAnyL_take (n := 3) (i := 11) (oi := ?ox12) (v := ?vx12) ?hix12 ?k1x12 ?k2x12 ?k3x12 ?k4x12 ?k5x12 ?k6x12 ?hQx12 ?hYx12 ?hSx12 ?restx12; (case hix12 => (simp only [List.getElem?_toArray, List.getElem?_cons_succ, List.getElem?_cons_zero]; exact rfl)); (case k1x12 => kernel_rfl); (case k2x12 => kernel_rfl); (case k3x12 => kernel_rfl); (case k4x12 => kernel_rfl); (case k5x12 => kernel_rfl); (case k6x12 => kernel_rfl); (case hSx12 => assumption); (case hYx12 => (refine Or.inl ⟨rfl, ?hyx12⟩; intro w hSw; (try dsimp only at hSw); go_simp; (try with_reducible rfl))); (case hQx12 => exact (fun _ _ _ h => h)); (try simp only [Act.put, List.setIfInBounds_toArray, List.set_cons_zero, List.set_cons_succ]))
                (refine wpAnyL_take (n := 2) (i := 12) (oi := ?ox13) (v := ?vx13) ?hix13 ?k1x13 ?k2x13 ?k3x13 ?k4x13 ?k5x13 ?k6x13 ?hQx13 ?hYx13 ?hSx13 ?restx13; (case hix13 => (simp only [List.getElem?_toArray, List.getElem?_cons_succ, List.getElem?_cons_zero]; exact rfl)); (case k1x13 => kernel_rfl); (case k2x13 => kernel_rfl); (case k3x13 => kernel_rfl); (case k4x13 => kernel_rfl); (case k5x13 => kernel_rfl); (case k6x13 => kernel_rfl); (case hSx13 => assumption); (case hYx13 => (refine Or.inl ⟨rfl, ?hyx13⟩; intro w hSw; (try dsimp only at hSw); go_simp; (try with_reducible rfl))); (case hQx13 => exact (fun _ _ _ h => h)); (try simp only [Act.put, List.setIfInBounds_toArray, List.set_cons_zero, List.set_cons_succ]))
                (refine wpAnyL_take (n := 1) (i := 13) (oi := ?ox14) (v := ?vx14) ?hix14 ?k1x14 ?k2x14 ?k3x14 ?k4x14 ?k5x14 ?k6x14 ?hQx14 ?hYx14 ?hSx14 ?restx14; (case hix14 => (simp only [List.getElem?_toArray, List.getElem?_cons_succ, List.getElem?_cons_zero]; exact rfl)); (case k1x14 => kernel_rfl); (case k2x14 => kernel_rfl); (case k3x14 => kernel_rfl); (case k4x14 => kernel_rfl); (case k5x14 => kernel_rfl); (case k6x14 => kernel_rfl); (case hSx14 => assumption); (case hYx14 => (refine Or.inl ⟨rfl, ?hyx14⟩; intro w hSw; (try dsimp only at hSw); go_simp; (try with_reducible rfl))); (case hQx14 => exact (fun _ _ _ h => h)); (try simp only [Act.put, List.setIfInBounds_toArray, List.set_cons_zero, List.set_cons_succ]))
                (refine wpAnyL_take (n := 0) (i := 14) (oi := ?ox15) (v := ?vx15) ?hix15 ?k1x15 ?k2x15 ?k3x15 ?k4x15 ?k5x15 ?k6x15 ?hQx15 ?hYx15 ?hSx15 ?restx15; (case hix15 => (simp only [List.getElem?_toArray, List.getElem?_cons_succ, List.getElem?_cons_zero]; exact rfl)); (case k1x15 => kernel_rfl); (case k2x15 => kernel_rfl); (case k3x15 => kernel_rfl); (case k4x15 => kernel_rfl); (case k5x15 => kernel_rfl); (case k6x15 => kernel_rfl); (case hSx15 => assumption); (case hYx15 => (refine Or.inl ⟨rfl, ?hyx15⟩; intro w hSw; (try dsimp only at hSw); go_simp; (try with_reducible rfl))); (case hQx15 => exact (fun _ _ _ h => h)); (try simp only [Act.put, List.setIfInBounds_toArray, List.set_cons_zero, List.set_cons_succ]))
                (refine wpAnyL_freeS (i := 15) (oi := ?ox16) (v := ?vx16) ?hix16 ?k1x16 ?k2x16 ?k3x16 ?k4x16 ?hQx16 ?hYx16 ?hSx16 ?restx16; (case hix16 => (simp only [List.getElem?_toArray, List.getElem?_cons_succ, List.getElem?_cons_zero]; exact rfl)); (case k1x16 => kernel_rfl); (case k2x16 => kernel_rfl); (case k3x16 => kernel_rfl); (case k4x16 => kernel_rfl); (case hSx16 => assumption); (case hYx16 => (refine Or.inl ⟨rfl, ?hyx16⟩; intro w hSw; (try dsimp only at hSw); go_simp; (try with_reducible rfl))); (case hQx16 => exact (fun _ _ _ h => h)); (try simp only [Act.put, List.setIfInBounds_toArray, List.set_cons_zero, List.set_cons_succ]))
                (refine wpAnyL_freeS (i := 16) (oi := ?ox17) (v := ?vx17) ?hix17 ?k1x17 ?k2x17 ?k3x17 ?k4x17 ?hQx17 ?hYx17 ?hSx17 ?restx17; (case hix17 => (simp only [List.getElem?_toArray, List.getElem?_cons_succ, List.getElem?_cons_zero]; exact rfl)); (case k1x17 => kernel_rfl); (case k2x17 => kernel_rfl); (case k3x17 => kernel_rfl); (case k4x17 => kernel_rfl); (case hSx17 => assumption); (case hYx17 => (refine Or.inl ⟨rfl, ?hyx17⟩; intro w hSw; (try dsimp only at hSw); go_simp; (try with_reducible rfl))); (case hQx17 => exact (fun _ _ _ h => h)); (try simp only [Act.put, List.setIfInBounds_toArray, List.set_cons_zero, List.set_cons_succ]))
                (refine wpAnyL_freeS (i := 17) (oi := ?ox18) (v := ?vx18) ?hix18 ?k1x18 ?k2x18 ?k3x18 ?k4x18 ?hQx18 ?hYx18 ?hSx18 ?restx18; (case hix18 => (simp only [List.getElem?_toArray, List.getElem?_cons_succ, List.getElem?_cons_zero]; exact rfl)); (case k1x18 => kernel_rfl); (case k2x18 => kernel_rfl); (case k3x18 => kernel_rfl); (case k4x18 => kernel_rfl); (case hSx18 => assumption); (case hYx18 => (refine Or.inl ⟨rfl, ?hyx18⟩; intro w hSw; (try dsimp only at hSw); go_simp; (try with_reducible rfl))); (case hQx18 => exact (fun _ _ _ h => h)); (try simp only [Act.put, List.setIfInBounds_toArray, List.set_cons_zero, List.set_cons_succ]))
                (refine wpAnyL_freeS (i := 18) (oi := ?ox19) (v := ?vx19) ?hix19 ?k1x19 ?k2x19 ?k3x19 ?k4x19 ?hQx19 ?hYx19 ?hSx19 ?restx19; (case hix19 => (simp only [List.getElem?_toArray, List.getElem?_cons_succ, List.getElem?_cons_zero]; exact rfl)); (case k1x19 => kernel_rfl); (case k2x19 => kernel_rfl); (case k3x19 => kernel_rfl); (case k4x19 => kernel_rfl); (case hSx19 => assumption); (case hYx19 => (refine Or.inl ⟨rfl, ?hyx19⟩; intro w hSw; (try dsimp only at hSw); go_simp; (try with_reducible rfl))); (case hQx19 => exact (fun _ _ _ h => h)); (try simp only [Act.put, List.setIfInBounds_toArray, List.set_cons_zero, List.set_cons_succ]))
                (refine wpAnyL_freeS (i := 19) (oi := ?ox20) (v := ?vx20) ?hix20 ?k1x20 ?k2x20 ?k3x20 ?k4x20 ?hQx20 ?hYx20 ?hSx20 ?restx20; (case hix20 => (simp only [List.getElem?_toArray, List.getElem?_cons_succ, List.getElem?_cons_zero]; exact rfl)); (case k1x20 => kernel_rfl); (case k2x20 => kernel_rfl); (case k3x20 => kernel_rfl); (case k4x20 => kernel_rfl); (case hSx20 => assumption); (case hYx20 => (refine Or.inl ⟨rfl, ?hyx20⟩; intro w hSw; (try dsimp only at hSw); go_simp; (try with_reducible rfl))); (case hQx20 => exact (fun _ _ _ h => h)); (try simp only [Act.put, List.setIfInBounds_toArray, List.set_cons_zero, List.set_cons_succ]))
                (refine wpAnyL_take (n := 1) (i := 20) (oi := ?ox21) (v := ?vx21) ?hix21 ?k1x21 ?k2x21 ?k3x21 ?k4x21 ?k5x21 ?k6x21 ?hQx21 ?hYx21 ?hSx21 ?restx21; (case hix21 => (simp only [List.getElem?_toArray, List.getElem?_cons_succ, List.getElem?_cons_zero]; exact rfl)); (case k1x21 => kernel_rfl); (case k2x21 => kernel_rfl); (case k3x21 => kernel_rfl); (case k4x21 => kernel_rfl); (case k5x21 => kernel_rfl); (case k6x21 => kernel_rfl); (case hSx21 => assumption); (case hYx21 => (refine Or.inl ⟨rfl, ?hyx21⟩; intro w hSw; (try dsimp only at hSw); go_simp; (try with_reducible rfl))); (case hQx21 => exact (fun _ _ _ h => h)); (try simp only [Act.put, List.setIfInBounds_toArray, List.set_cons_zero, List.set_cons_succ]))
                (refine wpAnyL_take (n := 0) (i := 21) (oi := ?ox22) (v := ?vx22) ?hix22 ?k1x22 ?k2x22 ?k3x22 ?k4x22 ?k5x22 ?k6x22 ?hQx22 ?hYx22 ?hSx22 ?restx22; (case hix22 => (simp only [List.getElem?_toArray, List.getElem?_cons_succ, List.getElem?_cons_zero]; exact rfl)); (case k1x22 => kernel_rfl); (case k2x22 => kernel_rfl); (case k3x22 => kernel_rfl); (case k4x22 => kernel_rfl); (case k5x22 => kernel_rfl); (case k6x22 => kernel_rfl); (case hSx22 => assumption); (case hYx22 => (refine Or.inl ⟨rfl, ?hyx22⟩; intro w hSw; (try dsimp only at hSw); go_simp; (try with_reducible rfl))); (case hQx22 => exact (fun _ _ _ h => h)); (try simp only [Act.put, List.setIfInBounds_toArray, List.set_cons_zero, List.set_cons_succ]))
                refine wpAnyL_ready (rs := [22]) (by kernel_rfl) (by simp) ?_
                refine AllReadyL.last (o := ?o22x23) ?hi22x23 ?he22x23 (fun K hK => ?_) AllReadyL.nil
                (case hi22x23 => (simp only [List.getElem?_toArray, List.getElem?_cons_succ, List.getElem?_cons_zero]; exact rfl))
                (case he22x23 => kernel_rfl)
                go_simp
                (try clear hHeld)
                refine hK.out _ _ ?_
                clear hK K
                (try simp only [Act.put, List.setIfInBounds_toArray, List.set_cons_zero, List.set_cons_succ])
                (refine wpAnyL_free (i := 23) (oi := ?ox24) (v := ?vx24) ?hix24 ?k1x24 ?k2x24 ?k3x24 ?k4x24 ?k5x24 ?hQx24 ?hYx24 ?restx24; (case hix24 => (simp only [List.getElem?_toArray, List.getElem?_cons_succ, List.getElem?_cons_zero]; exact rfl)); (case k1x24 => kernel_rfl); (case k2x24 => kernel_rfl); (case k3x24 => kernel_rfl); (case k4x24 => kernel_rfl); (case k5x24 => kernel_rfl); (case hYx24 => (refine Or.inl ⟨rfl, ?hyx24⟩; intro w hSw; (try dsimp only at hSw); go_simp; (try with_reducible rfl))); (case hQx24 => exact (fun _ _ _ h => h)); (try simp only [Act.put, List.setIfInBounds_toArray, List.set_cons_zero, List.set_cons_succ]))
                (refine wpAnyL_free (i := 24) (oi := ?ox25) (v := ?vx25) ?hix25 ?k1x25 ?k2x25 ?k3x25 ?k4x25 ?k5x25 ?hQx25 ?hYx25 ?restx25; (case hix25 => (simp only [List.getElem?_toArray, List.getElem?_cons_succ, List.getElem?_cons_zero]; exact rfl)); (case k1x25 => kernel_rfl); (case k2x25 => kernel_rfl); (case k3x25 => kernel_rfl); (case k4x25 => kernel_rfl); (case k5x25 => kernel_rfl); (case hYx25 => (refine Or.inl ⟨rfl, ?hyx25⟩; intro w hSw; (try dsimp only at hSw); go_simp; (try with_reducible rfl))); (case hQx25 => exact (fun _ _ _ h => h)); (try simp only [Act.put, List.setIfInBounds_toArray, List.set_cons_zero, List.set_cons_succ]))
                refine wpAnyL_ready (rs := [25]) (by kernel_rfl) (by simp) ?_
                refine AllReadyL.last (o := ?o25x26) ?hi25x26 ?he25x26 (fun K hK => ?_) AllReadyL.nil
                (case hi25x26 => (simp only [List.getElem?_toArray, List.getElem?_cons_succ, List.getElem?_cons_zero]; exact rfl))
                (case he25x26 => kernel_rfl)
                go_simp
                (try clear hHeld)
                refine hK.out _ _ ?_
                clear hK K
                (try simp only [Act.put, List.setIfInBounds_toArray, List.set_cons_zero, List.set_cons_succ])
                (refine wpAnyL_done (by kernel_rfl) ?_ _)
                clear hw1 hw2 hw3 hm1 hm2 c0 c1 f0 f1
                rw [show IntKind.i64.wrap by_ = by_ from wi (by omega), HM1.out, HH1.out, HH2.out]
                have hst1 := (HIO.out.stored (j * 2) (.int .i64 (max 0 (r.1 - d)))).1
                have hst2 := (hst1.stored (j * 2 + 1) (.int .i64 (max 0 (r.2 - d)))).1
                rw [mix_store (mixR_get HR.out) (max 0 (r.1 - d)) (max 0 (r.2 - d)), show ((max 0 (r.1 - d), max 0 (r.2 - d)) : Rng) = lessR d r from rfl, mixR_set HR.out] at hst2
                have hgr := only_setCell (only_setCell (World.grownBy.refl W2 (some g)) (p := ⟨g, j * 2, none⟩) (.inl rfl) (.int .i64 (max 0 (r.1 - d)))) (p := ⟨g, j * 2 + 1, none⟩) (.inl rfl) (.int .i64 (max 0 (r.2 - d)))
                have hgx : g ≠ XB := fun e => own_blk_ne HIO.out HXO.out (by decide) (by rw [e]; rfl)
                have k1 := HVO.out.kept hgr (.inr (own_own_ne HIO.out HVO.out (by decide) (g := g) rfl))
                have k2 := HWO2.out.kept hgr (.inr (own_own_ne HIO.out HWO2.out (by decide) (g := g) rfl))
                have k3 := HCO2.out.kept hgr (.inr (own_own_ne HIO.out HCO2.out (by decide) (g := g) rfl))
                have k4 := (HXO.out.far (p := ⟨g, j * 2, none⟩) (Ne.symm hgx) (.int .i64 (max 0 (r.1 - d)))).far (p := ⟨g, j * 2 + 1, none⟩) (Ne.symm hgx) (.int .i64 (max 0 (r.2 - d)))
                have k5 := (HBO.out.setCell (p := ⟨g, j * 2, none⟩) hgb (.int .i64 (max 0 (r.1 - d)))).setCell (p := ⟨g, j * 2 + 1, none⟩) hgb (.int .i64 (max 0 (r.2 - d)))
                have HK1 := Lib.hid (And.intro hst2 (And.intro k1 (And.intro k2 (And.intro k3 (And.intro k4 k5)))))
                clear hst1 hst2 hgr k1 k2 k3 k4 k5 hgx
                go_wp2_with fail
                go_roundw
                case rel => exact ⟨j + 1, by have := HLT.out; omega, by go_num, HK1.out.1, HK1.out.2.1, HK1.out.2.2.1, HK1.out.2.2.2.1, HK1.out.2.2.2.2.1, HK1.out.2.2.2.2.2.drew⟩
                case measure => have := HLT.out; simp [intOf] <;> omega
              · obtain rfl : nI = j := by omega
                have HML := Lib.hid (more_less (c := c) HOK.out HWO.out HCO.out hd0.1)
                clear hio
                go_wp2_with fail
                go_meet
                have hq := HBO.out
                exact ⟨l.inflow.map (lessR d), ws, c, nC, cCS, CS, rfl, HML.out, ⟨Rd.of_own enc1_len HVO.out HVL.out, Rd.of_own enc2_len (by have := HIO.out; rwa [mixR_all d HIL.out] at this) (by rw [withI, List.length_map]; exact HIL.out)⟩, Rd.of_own encW_len HWO2.out HWL.out, Rd.of_own enc1_len HCO2.out HCL.out, hnC10, HXO.out, (HBA.out.trans (hq.mono (by omega))), by simpa using hq⟩
      case rest =>
        obtain ⟨I, ws', c', m, cc, A2, rfl, hmp, hrl, hrw, hrc, hm10, hxb, hb, hq⟩ := hcut
        clear HB HQ
        obtain ⟨w1, hw1⟩ : ∃ w1, w1 = wc := ⟨_, rfl⟩
        rw [← hw1] at hrl hrw hrc hxb hb hq ⊢
        have HB := Lib.hid hb; have HQ := Lib.hid hq; have HXB := Lib.hid hxb; have HSL := Lib.hid hrl; have HSW2 := Lib.hid hrw; have HSC2 := Lib.hid hrc; have HMP := Lib.hid hmp
        obtain ⟨G1, G2, G3, hG⟩ : ∃ G1 G2 G3, brkRes (withI l I) ws' c' = (G1, G2, G3) := ⟨_, _, _, rfl⟩
        have hgr := brkRes_v hmp.ok hmp.wk hmp.cho
        rw [hG] at hgr
        have HGR := Lib.hid hgr; have HG := Lib.hid hG
        clear hmp hrl hrw hrc hxb hb hq hw1 hgr hG
        obtain ⟨x0, x1, x2, x3, x4, x5, x6, x7, x8, x9⟩ := HXX.out _ HQ.out
        go_wp2_with fail
        go_at_call 20
        refine (HLK.out _ HB.out).mono ?_
        rintro e w1 ⟨VA', cV', IA', cI', rfl, hcv, hci, hrl, hb9⟩
        have t0 := below_tr HB.out hb9; have t1 := below_tr HQ.out hb9; have t2 := HXB.out.below hb9 HXB.out.lt; have t3 := HSL.out.below hb9; have t4 := HSW2.out.below hb9; have t5 := HSC2.out.below hb9
        clear HB HQ HXB HSL HSW2 HSC2
        have HB := Lib.hid t0; have HQ := Lib.hid t1; have HXB := Lib.hid t2; have HSL := Lib.hid t3; have HSW2 := Lib.hid t4; have HSC2 := Lib.hid t5
        clear t0 t1 t2 t3 t4 t5
        have HRL := Lib.hid hrl
        have HCV := Lib.hid hcv
        have HCI := Lib.hid hci
        clear hb9 hrl hcv hci
        clear x0 x1 x2 x3 x4 x5 x6 x7 x8 x9
        go_wp2_with fail
        go_at_call 21
        refine (HWK.out _ HB.out).mono ?_
        rintro e w1 ⟨WA', cW', rfl, hcw, hrw, hb9⟩
        have t0 := below_tr HB.out hb9; have t1 := below_tr HQ.out hb9; have t2 := HXB.out.below hb9 HXB.out.lt; have t3 := HSL.out.below hb9; have t4 := HSW2.out.below hb9; have t5 := HSC2.out.below hb9; have t6 := HRL.out.below hb9
        clear HB HQ HXB HSL HSW2 HSC2 HRL
        have HB := Lib.hid t0; have HQ := Lib.hid t1; have HXB := Lib.hid t2; have HSL := Lib.hid t3; have HSW2 := Lib.hid t4; have HSC2 := Lib.hid t5; have HRL := Lib.hid t6
        clear t0 t1 t2 t3 t4 t5 t6
        have HRW := Lib.hid hrw
        have HCW := Lib.hid hcw
        clear hb9 hrw hcw
        go_wp2_with fail
        go_at_call 27
        refine (HLI.out _ HB.out).mono ?_
        rintro e w1 ⟨CA', cC', rfl, hcc, hrc, hb9⟩
        have t0 := below_tr HB.out hb9; have t1 := below_tr HQ.out hb9; have t2 := HXB.out.below hb9 HXB.out.lt; have t3 := HSL.out.below hb9; have t4 := HSW2.out.below hb9; have t5 := HSC2.out.below hb9; have t6 := HRL.out.below hb9; have t7 := HRW.out.below hb9
        clear HB HQ HXB HSL HSW2 HSC2 HRL HRW
        have HB := Lib.hid t0; have HQ := Lib.hid t1; have HXB := Lib.hid t2; have HSL := Lib.hid t3; have HSW2 := Lib.hid t4; have HSC2 := Lib.hid t5; have HRL := Lib.hid t6; have HRW := Lib.hid t7
        clear t0 t1 t2 t3 t4 t5 t6 t7
        have HRC := Lib.hid hrc
        have HCC := Lib.hid hcc
        clear hb9 hrc hcc
        go_wp2_with fail
        go_at_call 33
        refine (Break_3 HF.out HRL.out HRW.out HRC.out HCV.out HCI.out HOK.out HWO.out HCO.out).mono ?_
        rintro e w1 ⟨rfl, hb9⟩
        have t0 := below_tr HB.out hb9; have t1 := below_tr HQ.out hb9; have t2 := HXB.out.below hb9 HXB.out.lt; have t3 := HSL.out.below hb9; have t4 := HSW2.out.below hb9; have t5 := HSC2.out.below hb9; have t6 := HRL.out.below hb9; have t7 := HRW.out.below hb9; have t8 := HRC.out.below hb9
        clear HB HQ HXB HSL HSW2 HSC2 HRL HRW HRC
        have HB := Lib.hid t0; have HQ := Lib.hid t1; have HXB := Lib.hid t2; have HSL := Lib.hid t3; have HSW2 := Lib.hid t4; have HSC2 := Lib.hid t5; have HRL := Lib.hid t6; have HRW := Lib.hid t7; have HRC := Lib.hid t8
        clear t0 t1 t2 t3 t4 t5 t6 t7 t8
        clear hb9 
        clear HRL HRW HRC HCV HCI HCW HCC
        obtain ⟨x0, x1, x2, x3, x4, x5, x6, x7, x8, x9⟩ := blk_lA HXB.out
        go_wp2_with fail
        go_at_call 33
        refine (Break_I HG.out HSL.out HSW2.out HSC2.out HSV.out HSI.out HMP.out.ok HMP.out.wk HMP.out.cho).mono ?_
        rintro e w1 ⟨rfl, hb9⟩
        have t0 := below_tr HB.out hb9; have t1 := below_tr HQ.out hb9; have t2 := HXB.out.below hb9 HXB.out.lt; have t3 := HSL.out.below hb9; have t4 := HSW2.out.below hb9; have t5 := HSC2.out.below hb9
        clear HB HQ HXB HSL HSW2 HSC2
        have HB := Lib.hid t0; have HQ := Lib.hid t1; have HXB := Lib.hid t2; have HSL := Lib.hid t3; have HSW2 := Lib.hid t4; have HSC2 := Lib.hid t5
        clear t0 t1 t2 t3 t4 t5
        clear hb9 
        clear x0 x1 x2 x3 x4 x5 x6 x7 x8 x9
        have hcase : (F3 = 7 ∧ G3 = 7 ∧ brkF (aftL (withI l I) (netL (withI l I) ws' c')) < 0) ∨ (F3 = 0 ∧ (G3 = 7 ∨ (G3 = 0 ∧ F1 ≤ G1))) := by
          have h1 := HMP.out.none; have h2 := HMP.out.late
          have l1 := brkF_lt l (netL l ws c)
          rcases HBR.out with ⟨g3, g4⟩ | ⟨g3, g4⟩
          · obtain ⟨_, _, rfl⟩ : F1 = 0 ∧ F2 = 0 ∧ F3 = 7 := by simpa using g4
            have h3 := h1 (by omega)
            rcases HGR.out with ⟨g1, g2⟩ | ⟨g1, g2⟩
            · obtain ⟨_, _, rfl⟩ : G1 = 0 ∧ G2 = 0 ∧ G3 = 7 := by simpa using g2
              exact .inl ⟨rfl, rfl, g1⟩
            · omega
          · obtain ⟨e1, _, rfl⟩ : F1 = brkF (aftL l (netL l ws c)) ∧ F2 = brkE (aftL l (netL l ws c)) ∧ F3 = 0 := by simpa using g4
            refine .inr ⟨rfl, ?_⟩
            rcases HGR.out with ⟨g1, g2⟩ | ⟨g1, g2⟩
            · obtain ⟨_, _, rfl⟩ : G1 = 0 ∧ G2 = 0 ∧ G3 = 7 := by simpa using g2
              exact .inl rfl
            · obtain ⟨e3, _, rfl⟩ : G1 = brkF (aftL (withI l I) (netL (withI l I) ws' c')) ∧ G2 = brkE (aftL (withI l I) (netL (withI l I) ws' c')) ∧ G3 = 0 := by simpa using g2
              exact .inr ⟨rfl, by omega⟩
        clear HBR HGR
        rcases hcase with ⟨rfl, rfl, hneg⟩ | ⟨rfl, rfl | ⟨rfl, hle⟩⟩
        · have HEN := Lib.hid (enB_iff.2 hneg)
          clear hneg
          obtain ⟨x0, x1, x2, x3, x4, x5, x6, x7, x8, x9⟩ := blk_lA HXB.out
          go_wp2_with fail
          go_at_call 26
          refine (Prove_I HEN.out HSL.out HSW2.out HSC2.out HSV.out HSI.out HMP.out.ok HMP.out.wk HMP.out.cho).mono ?_
          rintro e w1 ⟨rfl, hb9⟩
          have t0 := below_tr HB.out hb9; have t1 := below_tr HQ.out hb9; have t2 := HXB.out.below hb9 HXB.out.lt; have t3 := HSL.out.below hb9; have t4 := HSW2.out.below hb9; have t5 := HSC2.out.below hb9
          clear HB HQ HXB HSL HSW2 HSC2
          have HB := Lib.hid t0; have HQ := Lib.hid t1; have HXB := Lib.hid t2; have HSL := Lib.hid t3; have HSW2 := Lib.hid t4; have HSC2 := Lib.hid t5
          clear t0 t1 t2 t3 t4 t5
          clear hb9 
          clear x0 x1 x2 x3 x4 x5 x6 x7 x8 x9
          go_wp2_with fail
          go_at_call 18
          refine (HAW.out _).mono ?_
          rintro e w1 ⟨rfl, hb9⟩
          have t0 := below_tr HB.out hb9; have t1 := below_tr HQ.out hb9; have t2 := HXB.out.below hb9 HXB.out.lt; have t3 := HSL.out.below hb9; have t4 := HSW2.out.below hb9; have t5 := HSC2.out.below hb9
          clear HB HQ HXB HSL HSW2 HSC2
          have HB := Lib.hid t0; have HQ := Lib.hid t1; have HXB := Lib.hid t2; have HSL := Lib.hid t3; have HSW2 := Lib.hid t4; have HSC2 := Lib.hid t5
          clear t0 t1 t2 t3 t4 t5
          clear hb9 
          go_wp2_with fail
          go_ret
          exact ⟨rfl, HB.out⟩
        · skip
          go_wp2_with fail
          go_at_call 18
          refine (HAW.out _).mono ?_
          rintro e w1 ⟨rfl, hb9⟩
          have t0 := below_tr HB.out hb9
          clear HB
          have HB := Lib.hid t0
          clear t0
          clear hb9 
          go_wp2_with fail
          go_ret
          exact ⟨rfl, HB.out⟩
        · have hge : ¬ G1 < F1 := by omega
          go_wp2_with fail
          go_at_call 18
          refine (HAW.out _).mono ?_
          rintro e w1 ⟨rfl, hb9⟩
          have t0 := below_tr HB.out hb9
          clear HB
          have HB := Lib.hid t0
          clear t0
          clear hb9 
          go_wp2_with fail
          go_ret
          exact ⟨rfl, HB.out⟩
end
end Go.Proofs.Ytpijmfbpdglchaa
