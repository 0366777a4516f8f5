/- CONTRACT of the reference's At. -/
import Derived.Test.YtpijmfbpdglchaaKHrd
set_option linter.unusedVariables false
set_option linter.unusedSimpArgs false
namespace Go.Proofs.Ytpijmfbpdglchaa
open Go.RowKit Go.Proofs
attribute [local go_sem ↓] Go.wp_at_zero Go.wp_at_succ
abbrev stA (b : Bool) (lo hi lev : Int) : Array Value := #[.bool b, .int .i64 lo, .int .i64 hi, .int .i64 lev]
theorem stRow_next {m : Nat} {P : Nat → Bool} {k : Nat} (hk : k < m) : (P k = false → stRow (rowOf m P) (k + 1) = stRow (rowOf m P) k) ∧
    (P k = true → stRow (rowOf m P) (k + 1) = (true, if (stRow (rowOf m P) k).1 then (stRow (rowOf m P) k).2.1 else (k : Int), (k : Int))) :=
  ⟨fun h => stRow_not (by rw [rowB_of hk]; exact h), fun h => stRow_set (by rw [rowB_of hk]; exact h)⟩
section
variable {VA IA : Option Addr} {nV nI cV cI : Nat} {l : Lak} {w : World} {b : Nat × Nat} {m : Nat} {P : Nat → Bool}
set_option maxRecDepth 100000 in
set_option maxHeartbeats 2000000 in
theorem rAt_c (h : RdL w VA nV IA nI l) (hok : LOk l) (hm : m ≤ 100000000) (hP : Blk w b.1 4 (boolA m P)) {S : Stt} (hS : stRow (rowOf m P) m = (S.holds, S.lo, S.hi)) (hL : S.lev = if S.holds then levOf l.vols S.hi else 0) (hS0 : 0 ≤ S.hi) :
    Calls Try.prog 36 #[.agg (lA VA nV cV IA nI cI l), .agg (hrA m b)] w fun e w' => e = .returned (.agg (stA S.holds S.lo S.hi S.lev)) ∧ Below w.heap.size w w' := by
  obtain ⟨W, hW⟩ : ∃ W, W = ((((w.alloc (.cells (lA VA nV cV IA nI cI l) 27)).alloc (.cells (hrA m b) 65)).alloc (.cells (stA false 0 0 0) 61)).alloc (.cells (stA false 0 0 0) 61)) := ⟨_, rfl⟩
  have hb : Below w.heap.size w W := by rw [hW]; exact ((((Below.refl _ _).alloc (Nat.le_refl _) _).alloc (by simp) _).alloc (by simp; omega) _).alloc (by simp; omega) _
  have h0 := (((Blk.new w 27 (lA VA nV cV IA nI cI l)).alloc (.cells (hrA m b) 65)).alloc (.cells (stA false 0 0 0) 61)).alloc (.cells (stA false 0 0 0) 61)
  have h1 := ((Blk.new (w.alloc (.cells (lA VA nV cV IA nI cI l) 27)) 65 (hrA m b)).alloc (.cells (stA false 0 0 0) 61)).alloc (.cells (stA false 0 0 0) 61)
  have h2 := (Blk.new ((w.alloc (.cells (lA VA nV cV IA nI cI l) 27)).alloc (.cells (hrA m b) 65)) 61 (stA false 0 0 0)).alloc (.cells (stA false 0 0 0) 61)
  have h3 := Blk.new (((w.alloc (.cells (lA VA nV cV IA nI cI l) 27)).alloc (.cells (hrA m b) 65)).alloc (.cells (stA false 0 0 0) 61)) 61 (stA false 0 0 0)
  simp only [World.size_alloc] at h1 h2 h3
  rw [← hW] at h0 h1 h2 h3
  have HP := Lib.hid (hP.below hb hP.lt); have hPl := hP.lt
  have HLV := Lib.hid (fun (U : World) (hU : Below w.heap.size w U) => rLevel_c (cV := cV) (cI := cI) (h.below hU) hok hS0)
  have HW := Lib.hid hW; have HB := Lib.hid hb; have H0 := Lib.hid h0; have H1 := Lib.hid h1; have H2 := Lib.hid h2; have H3 := Lib.hid h3
  have HSS := Lib.hid hS; have HSL := Lib.hid hL
  have HNX := Lib.hid (fun (k : Nat) (hk : k < m) => stRow_next (P := P) hk)
  have HZ := Lib.hid (stRow_zero (rowOf m P))
  have y0 := h1.cell 0
  simp at y0
  obtain ⟨R, hR⟩ : ∃ R : Nat → Bool × Int × Int, R = stRow (rowOf m P) := ⟨_, rfl⟩
  rw [← hR] at HSS HNX HZ
  have hWs : W.heap.size = w.heap.size + 4 := by rw [hW]; simp
  have HWS := Lib.hid hWs
  clear hW hb h0 h1 h2 h3 hP h hok hS hL hR hWs
  go_enter Try.func36, Try.ntmps36
  go_upto_region 2 with fail
  rw [← HW.out]
  go_wp2_with fail
  go_loopw [6] (fun i wr => ∃ k : Nat, k ≤ m ∧ i = .int .i64 k ∧ Blk wr (w.heap.size + 1 + 1 + 1) 61 (stA (R k).1 (R k).2.1 (R k).2.2 0) ∧ Below (w.heap.size + 3) W wr) (fun i _ => m - (intOf i).toNat)
  case atStart => exact ⟨0, Nat.zero_le _, rfl, by rw [HZ.out]; exact H3.out, Below.refl _ _⟩
  case round =>
    obtain ⟨k, hk, rfl, hs, hbr⟩ := hrel
    have hh1 := H1.out.below hbr (by omega)
    clear y0
    have y0 := hh1.cell 0
    simp at y0
    by_cases hlt : k < m
    · have hc := boolA_cell (HP.out.below hbr (by omega)) hlt
      obtain ⟨n1, n2⟩ := HNX.out k hlt
      have s0 := hs.cell 0; have s1 := hs.cell 1; have s2 := hs.cell 2
      simp at s0 s1 s2
      have f0 := hs.frozen 0; have f1 := hs.frozen 1; have f2 := hs.frozen 2
      have HBR := Lib.hid hbr; have HS := Lib.hid hs
      have hkm : (k : Int) < (m : Int) := by omega
      have hk0 : (0 : Int) ≤ (k : Int) := by omega
      clear hs hbr hh1
      cases hp : P k
      · have HN := Lib.hid (n1 hp)
        rw [hp] at hc
        clear n1 n2 hp s0 s1 s2
        go_wp2_with fail
        go_roundw
        case rel => exact ⟨k + 1, by omega, by go_num, by rw [HN.out]; exact HS.out, HBR.out⟩
        case measure => simp [intOf] <;> omega
      · have HN := Lib.hid (n2 hp)
        rw [hp] at hc
        clear n1 n2 hp
        cases hq : (R k).1
        · rw [hq] at s0
          have HQ := Lib.hid hq
          clear hq
          go_wp2_with fail
          go_roundw
          case rel =>
            refine ⟨k + 1, by omega, by go_num, ?_, ?_⟩
            · rw [HN.out, HQ.out]
              have := ((HS.out.set_ 1 (.int .i64 (k : Int))).set_ 0 (.bool true)).set_ 2 (.int .i64 (k : Int))
              simpa using this
            · exact ((HBR.out.setCell (p := ⟨w.heap.size + 1 + 1 + 1, 1, none⟩) (by simp) (.int .i64 (k : Int))).setCell (p := ⟨w.heap.size + 1 + 1 + 1, 0, none⟩) (by simp) (.bool true)).setCell (p := ⟨w.heap.size + 1 + 1 + 1, 2, none⟩) (by simp) (.int .i64 (k : Int))
          case measure => simp [intOf] <;> omega
        · rw [hq] at s0
          have HQ := Lib.hid hq
          clear hq
          go_wp2_with fail
          go_roundw
          case rel =>
            refine ⟨k + 1, by omega, by go_num, ?_, ?_⟩
            · rw [HN.out, HQ.out]
              have := (HS.out.set_ 0 (.bool true)).set_ 2 (.int .i64 (k : Int))
              simpa using this
            · exact (HBR.out.setCell (p := ⟨w.heap.size + 1 + 1 + 1, 0, none⟩) (by simp) (.bool true)).setCell (p := ⟨w.heap.size + 1 + 1 + 1, 2, none⟩) (by simp) (.int .i64 (k : Int))
          case measure => simp [intOf] <;> omega
    · obtain rfl : m = k := by omega
      rw [HSS.out] at hs
      simp only at hs
      obtain ⟨x0, x1, x2, x3, x4, x5, x6, x7, x8, x9⟩ := blk_lA (H0.out.below hbr (by omega))
      have hz := H2.out.below hbr (by omega)
      have s0 := hs.cell 0; have s1 := hs.cell 1; have s2 := hs.cell 2; have s3 := hs.cell 3
      have r0 := hz.cell 0; have r1 := hz.cell 1; have r2 := hz.cell 2; have r3 := hz.cell 3
      simp at s0 s1 s2 s3 r0 r1 r2 r3
      have q0 := hz.frozen 0; have q1 := hz.frozen 1; have q2 := hz.frozen 2; have q3 := hz.frozen 3
      have HBR := Lib.hid hbr; have HS := Lib.hid hs; have HZB := Lib.hid hz
      have hsl := HSL.out
      obtain ⟨SO, SL, SH, SV⟩ := S
      simp only at *
      clear hbr hs hz hh1 hk hlt HSL
      have hW4 : w.heap.size + 4 ≤ W.heap.size := by have := HWS.out; omega
      cases SO
      · simp only [Bool.false_eq_true, if_false] at hsl
        subst hsl
        go_wp2_with fail
        · skip
          have gB := below_setCells (B := w.heap.size) (g := w.heap.size + 1 + 1) (w0 := w) (by omega) (stA false SL SH 0).toList 0 wr (HB.out.trans (HBR.out.mono (by omega)))
          have hBF := blk_setCells (stA false SL SH 0).toList 0 wr [] _ (by simpa using HZB.out) rfl (by simp)
          simp only [World.setCells, List.nil_append, Nat.reduceAdd] at hBF gB
          revert hBF gB
          generalize (World.setCell _ ⟨w.heap.size + 1 + 1, 3, none⟩ (Value.int IntKind.i64 0)) = WF
          intro gB hBF
          have HG := Lib.hid gB
          clear gB
          exact bodyPost_ret (v := .agg (stA false SL SH 0)) (results_cell_row (g := w.heap.size + 1 + 1) Try.results36 _ _ _ _ _ _ rfl hBF Try.underlying61 rfl (by kernel_rfl)) rfl ⟨rfl, HG.out⟩
      · simp only [if_true] at hsl
        have HSV := Lib.hid hsl
        rw [← hsl] at HLV
        clear hsl
        have hb1 : Below w.heap.size w wr := HB.out.trans (HBR.out.mono (by omega))
        have HB1 := Lib.hid hb1
        have HBS := Lib.hid HS.out; have HBZ := Lib.hid HZB.out
        have f3 := HS.out.frozen 3
        clear hb1 r0 r1 r2 r3 q0 q1 q2 q3 s1 s3
        go_wp2_with fail
        go_at_call 50
        refine (HLV.out _ HB1.out).mono ?_
        rintro e w1 ⟨rfl, hb9⟩
        have t0 := below_tr HB1.out hb9; have t1 := HBS.out.below hb9 HBS.out.lt; have t2 := HBZ.out.below hb9 HBZ.out.lt
        clear HB1 HBS HBZ
        have HB1 := Lib.hid t0; have HBS := Lib.hid t1; have HBZ := Lib.hid t2
        clear t0 t1 t2
        clear hb9 
        clear f3 s2 s0
        have s0 := HBS.out.cell 0; have s1 := HBS.out.cell 1; have s2 := HBS.out.cell 2; have s3 := HBS.out.cell 3
        have r0 := HBZ.out.cell 0; have r1 := HBZ.out.cell 1; have r2 := HBZ.out.cell 2; have r3 := HBZ.out.cell 3
        simp at s0 s1 s2 s3 r0 r1 r2 r3
        have q0 := HBZ.out.frozen 0; have q1 := HBZ.out.frozen 1; have q2 := HBZ.out.frozen 2; have q3 := HBZ.out.frozen 3
        have f3 := HBS.out.frozen 3
        go_wp2_with fail
        · skip
          have hzz := HBZ.out.far (p := ⟨w.heap.size + 1 + 1 + 1, 3, none⟩) (by simp) (.int .i64 SV)
          have hbb := HB1.out.setCell (p := ⟨w.heap.size + 1 + 1 + 1, 3, none⟩) (by simp; omega) (.int .i64 SV)
          have gB := below_setCells (B := w.heap.size) (g := w.heap.size + 1 + 1) (w0 := w) (by omega) (stA true SL SH SV).toList 0 _ hbb
          have hBF := blk_setCells (stA true SL SH SV).toList 0 _ [] _ (by simpa using hzz) rfl (by simp)
          simp only [World.setCells, List.nil_append, Nat.reduceAdd] at hBF gB
          revert hBF gB
          generalize (World.setCell _ ⟨w.heap.size + 1 + 1, 3, none⟩ (Value.int IntKind.i64 SV)) = WF
          intro gB hBF
          have HG := Lib.hid gB
          clear gB
          exact bodyPost_ret (v := .agg (stA true SL SH SV)) (results_cell_row (g := w.heap.size + 1 + 1) Try.results36 _ _ _ _ _ _ rfl hBF Try.underlying61 rfl (by kernel_rfl)) rfl ⟨rfl, HG.out⟩
end
end Go.Proofs.Ytpijmfbpdglchaa
