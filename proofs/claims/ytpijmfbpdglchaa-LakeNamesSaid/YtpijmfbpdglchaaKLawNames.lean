/- THE WALK of LakeNames. -/
import Derived.Test.YtpijmfbpdglchaaKNm
import Derived.Test.YtpijmfbpdglchaaKLawCheapest
set_option linter.unusedVariables false
set_option linter.unusedSimpArgs false
namespace Go.Proofs.Ytpijmfbpdglchaa
open Go.RowKit Go.Proofs
attribute [local go_sem ↓] Go.wp_at_zero Go.wp_at_succ
/-- A row that make has made reads as that many zeros. -/
theorem rd_made {α : Type} {enc : α → List Value} {k : Nat} (x : α) (henc : (enc x).length = k) (_hk : 0 < k) {w : World} {g n : Nat} {t : TypeId} {fr : Nat × Nat} {z : Array Value} (hz : z.toList = enc x)
    (h : w.heap[g]? = some (.cells (madeCells z (n * k)) t fr)) : Rd enc k w (some ⟨g, 0, none⟩) n (List.replicate n x) := by
  refine ⟨by simp, fun _ => ⟨g, 0, rfl, (Array.getElem?_eq_some_iff.1 h).1, fun i y hy j v hv => ?_⟩⟩
  obtain ⟨hi, rfl⟩ : i < n ∧ x = y := by
    rw [List.getElem?_replicate] at hy
    split at hy
    · exact ⟨by assumption, by simpa using hy⟩
    · cases hy
  have hj : j < k := by have := (List.getElem?_eq_some_iff.1 hv).1; omega
  have hsz : z.size = k := by rw [← henc, ← hz]; simp
  have hlt : i * k + j < n * k := by
    have : (i + 1) * k ≤ n * k := Nat.mul_le_mul_right k hi
    rw [Nat.add_mul] at this; omega
  rw [Nat.zero_add, cell_of_row w g _ _ t fr h]
  unfold madeCells
  rw [Array.getElem?_map, Array.getElem?_range, if_pos hlt, hsz]
  have hm : (i * k + j) % k = j := by rw [Nat.mul_comm, Nat.mul_add_mod, Nat.mod_eq_of_lt hj]
  simp only [Option.map_some, hm]
  rw [← hz] at hv
  rw [Array.getElem?_toList] at hv
  rw [getElem!_def, hv]

theorem infoI9 : (Try.prog.info? 3).map (fun i => (i.zero, i.size, i.bytes)) = some (some (.int .i64 0), 1, 8) := by kernel_rfl
theorem infoH9 : (Try.prog.info? 154).map (fun i => (i.zero, i.size, i.bytes)) = some (some (.agg #[.int .i64 0, .int .i64 0, .int .i64 0]), 3, 24) := by kernel_rfl
theorem infoW9 : (Try.prog.info? 71).map (fun i => (i.zero, i.size, i.bytes)) = some (some (.agg #[.int .i64 0, .int .i64 0, .int .i64 0]), 3, 24) := by kernel_rfl
theorem cells3z : (Value.agg #[.int .i64 0, .int .i64 0, .int .i64 0]).cells = #[.int .i64 0, .int .i64 0, .int .i64 0] := by simp [go_sem]
theorem mk_i9 (n : Nat) (hn : n ≤ 100) (W : World) : (Instr.makeSlice 22 (.int .i64 (n : Int)) (.int .i64 (n : Int))).run Try.prog W = .ok (.slice (some ⟨W.heap.size, 0, none⟩) n n) (W.alloc (.cells (madeCells #[.int .i64 0] (n * 1)) 3)) := by
  obtain ⟨i, h0, hz0, hz1, hz2⟩ := info_parts infoI9
  have := run_make (P := Try.prog) W 22 3 i _ Try.underlying22 h0 hz0 .i64 .i64 n n (by omega) (by omega) (by rw [hz2]; omega) (by omega)
  rw [hz1, show (Value.int IntKind.i64 0).cells = #[.int .i64 0] from rfl] at this
  simpa using this
theorem mk_h9 (W : World) : (Instr.makeSlice 92 (.int .i64 21) (.int .i64 21)).run Try.prog W = .ok (.slice (some ⟨W.heap.size, 0, none⟩) 21 21) (W.alloc (.cells (madeCells #[.int .i64 0, .int .i64 0, .int .i64 0] (21 * 3)) 154)) := by
  obtain ⟨i, h0, hz0, hz1, hz2⟩ := info_parts infoH9
  have := run_make (P := Try.prog) W 92 154 i _ Try.underlying92 h0 hz0 .i64 .i64 21 21 (by decide) (by decide) (by rw [hz2]; decide) (by decide)
  rw [hz1, cells3z] at this
  exact this
theorem mk_w9 (W : World) : (Instr.makeSlice 40 (.int .i64 11) (.int .i64 11)).run Try.prog W = .ok (.slice (some ⟨W.heap.size, 0, none⟩) 11 11) (W.alloc (.cells (madeCells #[.int .i64 0, .int .i64 0, .int .i64 0] (11 * 3)) 71)) := by
  obtain ⟨i, h0, hz0, hz1, hz2⟩ := info_parts infoW9
  have := run_make (P := Try.prog) W 40 71 i _ Try.underlying40 h0 hz0 .i64 .i64 11 11 (by decide) (by decide) (by rw [hz2]; decide) (by decide)
  rw [hz1, cells3z] at this
  exact this
theorem valL_oks : LOk valL ∧ WOk pumW ∧ choB pumW.length [] = true := by
  obtain ⟨h1, h2, h3⟩ := errA_zero.1 valL_ok
  exact ⟨h1, h2, h3⟩
theorem made4 : madeCells #[.int .i64 0] 4 = #[.int .i64 0, .int .i64 0, .int .i64 0, .int .i64 0] := by kernel_rfl
theorem Rd.setNot {α : Type} {enc : α → List Value} {k : Nat} {w : World} {A : Option Addr} {n : Nat} {l : List α} (h : Rd enc k w A n l) {p : Addr} {s : Value} (hp : w.cell? p = some s) (hs : ∀ x ∈ l, s ∉ enc x) (u : Value) : Rd enc k (w.setCell p u) A n l := by
  refine ⟨h.1, fun h0 => ?_⟩
  obtain ⟨b, o, e, hb, hc⟩ := h.2 h0
  refine ⟨b, o, e, by simpa [World.setCell] using hb, fun i x hx j v hv => ?_⟩
  have h1 := hc i x hx j v hv
  by_cases hne : p = ⟨b, o + i * k + j, none⟩
  · subst hne
    rw [hp] at h1; cases h1
    exact absurd (List.mem_of_getElem? hv) (hs x (List.mem_of_getElem? hx))
  · rw [World.cell?_setCell_other w p _ u hne]; exact h1
theorem run_neq_rc2 (a : Bool) (b c : Int) (W : World) : (binOp .neq 100 (.agg #[.bool a, .int .i64 b, .int .i64 c]) (.agg #[.bool a, .int .i64 b, .int .i64 c])).run Try.prog W = .ok (.bool false) W := by
  rw [run_neq_struct]
  have : (Op.equalIn 10000 100 (.agg #[.bool a, .int .i64 b, .int .i64 c]) (.agg #[.bool a, .int .i64 b, .int .i64 c])).run Try.prog W = .ok true W := by
    simp [go_sem, Try.underlying100]
  rw [this]; rfl
theorem ml {n : Nat} (h : n ≤ 100) : n ≤ maxLen := by unfold maxLen; omega
section
variable {VA IA PA FA SA QA : Option Addr} {w : World}
theorem nmF2_c (hL : RdL w VA 4 IA 4 valL) (hW : Rd encW 3 w PA 2 pumW) (hF : Rd enc1 1 w FA 4 [120, 100, 60, 100]) (hS : Rd enc1 1 w SA 4 [0, 0, 0, 0]) :
    Calls Try.prog 39 #[.agg (lA VA 4 4 IA 4 4 valL), .slice PA 2 2, .slice none 0 0, .agg (xA FA 4 4 SA 4 4 (nmX [0, 0, 0, 0] 2))] w (FillV w 3 2 [180, 280, 340]) := by
  have h := Fill_v (cW := 2) (cC := 0) (cF := 4) (cS := 4) (x := nmX [0, 0, 0, 0] 2) hL hW (Rd.nil _ _ _ none) ⟨hF, hS⟩ (Nat.le_refl 4) (Nat.le_refl 4) valL_oks.1 valL_oks.2.1 valL_oks.2.2 (fitsB_iff.1 nm_fits2)
  rwa [nm_fill2.1, nm_fill2.2.1, nm_fill2.2.2] at h
theorem nmF3_c (hL : RdL w VA 4 IA 4 valL) (hW : Rd encW 3 w PA 2 pumW) (hF : Rd enc1 1 w FA 4 [120, 100, 60, 100]) (hS : Rd enc1 1 w SA 4 [0, 0, 0, 0]) :
    Calls Try.prog 39 #[.agg (lA VA 4 4 IA 4 4 valL), .slice PA 2 2, .slice none 0 0, .agg (xA FA 4 4 SA 4 4 (nmX [0, 0, 0, 0] 3))] w (FillV w 4 3 [180, 280, 340, 440]) := by
  have h := Fill_v (cW := 2) (cC := 0) (cF := 4) (cS := 4) (x := nmX [0, 0, 0, 0] 3) hL hW (Rd.nil _ _ _ none) ⟨hF, hS⟩ (Nat.le_refl 4) (Nat.le_refl 4) valL_oks.1 valL_oks.2.1 valL_oks.2.2 (fitsB_iff.1 nm_fits3)
  rwa [nm_fill3.1, nm_fill3.2.1, nm_fill3.2.2] at h
def ErrP (w : World) (e : Ending) (w' : World) (E : Int) (k : Nat) : Prop := ∃ A n cp, e = .returned (.tuple (if k = 0 then #[.slice A n cp, .int .i64 E] else #[.slice A n cp, .int .i64 0, .int .i64 E])) ∧ Below w.heap.size w w'
theorem nmF11_c (hL : RdL w VA 4 IA 4 valL) (hW : Rd encW 3 w PA 2 pumW) (hF : Rd enc1 1 w FA 4 [120, 100, 60, 100]) (hS : Rd enc1 1 w SA 4 [0, 0, 0, 11]) :
    Calls Try.prog 39 #[.agg (lA VA 4 4 IA 4 4 valL), .slice PA 2 2, .slice none 0 0, .agg (xA FA 4 4 SA 4 4 (nmX [0, 0, 0, 11] 3))] w fun e w' => ∃ A n cp, e = .returned (.tuple #[.slice A n cp, .int .i64 0, .int .i64 2]) ∧ Below w.heap.size w w' := by
  have h := Fill_c (cW := 2) (cC := 0) (cF := 4) (cS := 4) (x := nmX [0, 0, 0, 11] 3) ⟨hL, hW, Rd.nil _ _ _ none⟩ (Nat.le_refl 4) (Nat.le_refl 4) (ml (by omega)) (ml (by omega)) (ml (by omega)) (ml (by omega)) ⟨hF, hS⟩ (ml (by omega)) (ml (by omega))
  rw [nm_fill11] at h
  refine h.mono ?_
  rintro e w' ⟨A, n, cp, rfl, _, _, _, hb⟩
  exact ⟨A, n, cp, rfl, hb⟩
theorem nmB0_c (hL : RdL w VA 4 IA 4 valL) (hW : Rd encW 3 w PA 2 pumW) :
    Calls Try.prog 33 #[.agg (lA VA 4 4 IA 4 4 valL), .slice PA 2 2, .slice none 0 0] w fun e w' => e = .returned (.tuple #[.int .i64 2, .int .i64 (-1), .int .i64 0]) ∧ Below w.heap.size w w' :=
  Break_3 nm_brk0 hL hW (Rd.nil _ _ _ none) (Nat.le_refl 4) (Nat.le_refl 4) valL_oks.1 valL_oks.2.1 valL_oks.2.2
theorem nmB1_c (hL : RdL w VA 4 IA 4 valL) (hW : Rd encW 3 w PA 2 pumW) (hQ : Rd enc1 1 w QA 2 [0, 1]) :
    Calls Try.prog 33 #[.agg (lA VA 4 4 IA 4 4 valL), .slice PA 2 2, .slice QA 2 2] w fun e w' => e = .returned (.tuple #[.int .i64 0, .int .i64 0, .int .i64 7]) ∧ Below w.heap.size w w' := by
  have h := Break_c (cW := 2) (cC := 2) ⟨hL, hW, hQ⟩ (Nat.le_refl 4) (Nat.le_refl 4) (ml (by omega)) (ml (by omega)) (ml (by omega)) (ml (by omega))
  rwa [nm_brk1] at h
theorem nmR_c (hL : RdL w VA 4 IA 4 valL) (hW : Rd encW 3 w PA 2 pumW) (hQ : Rd enc1 1 w QA 2 [1, 0]) :
    Calls Try.prog 32 #[.agg (lA VA 4 4 IA 4 4 valL), .slice PA 2 2, .slice QA 2 2] w fun e w' => ∃ A n cp, e = .returned (.tuple #[.slice A n cp, .int .i64 2]) ∧ Below w.heap.size w w' := by
  have h := Rise_c (cW := 2) (cC := 2) ⟨hL, hW, hQ⟩ (Nat.le_refl 4) (Nat.le_refl 4) (ml (by omega)) (ml (by omega)) (ml (by omega)) (ml (by omega))
  rw [nm_cho] at h
  refine h.mono ?_
  rintro e w' ⟨A, n, cp, rfl, _, _, _, hb⟩
  exact ⟨A, n, cp, rfl, hb⟩
theorem nmW_c (hL : RdL w VA 4 IA 4 valL) (hW : Rd encW 3 w PA 2 pumW) (hH : Rd encH 3 w QA 3 housL) :
    Calls Try.prog 43 #[.agg (lA VA 4 4 IA 4 4 valL), .slice PA 2 2, .slice none 0 0, .agg (rA rivR), .slice QA 3 3] w (WavesV w 3 [⟨true, 20, 150⟩, ⟨false, 1, 0⟩, ⟨true, 2, 300⟩]) := by
  have h := Waves_v (cW := 2) (cC := 0) (cH := 3) hL hW (Rd.nil _ _ _ none) hH (Nat.le_refl 4) (Nat.le_refl 4) valL_oks.1 valL_oks.2.1 valL_oks.2.2 (errH_zero.1 nm_hok)
  rwa [nm_waves] at h
theorem nmCh1_c (hL : RdL w VA 4 IA 4 valL) (hW : Rd encW 3 w PA 2 pumW) :
    Calls Try.prog 19 #[.agg (lA VA 4 4 IA 4 4 valL), .slice PA 1 2] w fun e w' => e = .returned (.tuple #[.slice none 0 0, .int .i64 0, .int .i64 9]) ∧ Below w.heap.size w w' := by
  have hw1 : Rd encW 3 w PA 1 [⟨1, 60, 7⟩] := by
    refine ⟨rfl, fun _ => ?_⟩
    obtain ⟨b, o, e, hb, hc⟩ := hW.2 (by omega)
    refine ⟨b, o, e, hb, fun i x hx j v hv => hc i x ?_ j v hv⟩
    cases i with
    | zero => exact hx
    | succ i => simp at hx
  have hwk : WOk [⟨1, 60, 7⟩] := errW_zero.1 (by decide +kernel)
  refine (Cheapest_c (cW := 2) hL hw1 (Nat.le_refl 4) (Nat.le_refl 4) valL_oks.1 hwk).mono ?_
  rintro e w' ⟨⟨A, n, cc, b, rfl, _, _, hb⟩ | ⟨_, rfl⟩, hbel⟩
  · have := nm_one b hb.cho
    rw [hb.en] at this; cases this
  · exact ⟨rfl, hbel⟩
theorem nmW61_c (hL : RdL w VA 4 IA 4 valL) (hW : Rd encW 3 w PA 2 pumW) :
    Calls Try.prog 43 #[.agg (lA VA 4 4 IA 4 4 valL), .slice PA 2 2, .slice none 0 0, .agg (rA ⟨0, (0, 61)⟩), .slice none 0 0] w fun e w' => e = .returned (.tuple #[.slice none 0 0, .int .i64 1]) ∧ Below w.heap.size w w' :=
  Waves_e (cW := 2) (cC := 0) (cH := 0) (c := []) (hs := []) hL hW (Rd.nil _ _ _ none) (Rd.nil _ _ _ none) (Nat.le_refl 4) (Nat.le_refl 4) (ml (by omega)) (ml (by omega)) (ml (by omega)) (ml (by omega)) (ml (by omega)) nm_riv61 (by decide)
theorem nmW21_c (hL : RdL w VA 4 IA 4 valL) (hW : Rd encW 3 w PA 2 pumW) (hH : Rd encH 3 w QA 21 (List.replicate 21 ⟨0, 0, 0⟩)) :
    Calls Try.prog 43 #[.agg (lA VA 4 4 IA 4 4 valL), .slice PA 2 2, .slice none 0 0, .agg (rA rivR), .slice QA 21 21] w fun e w' => e = .returned (.tuple #[.slice none 0 0, .int .i64 3]) ∧ Below w.heap.size w w' :=
  Waves_e (cW := 2) (cC := 0) (cH := 21) (c := []) hL hW (Rd.nil _ _ _ none) hH (Nat.le_refl 4) (Nat.le_refl 4) (ml (by omega)) (ml (by omega)) (ml (by omega)) (ml (by omega)) (ml (by omega)) nm_h21 (by decide)
theorem nmC11_c (hL : RdL w VA 4 IA 4 valL) (hW : Rd encW 3 w QA 11 (List.replicate 11 ⟨0, 0, 0⟩)) :
    Calls Try.prog 19 #[.agg (lA VA 4 4 IA 4 4 valL), .slice QA 11 11] w fun e w' => e = .returned (.tuple #[.slice none 0 0, .int .i64 0, .int .i64 3]) ∧ Below w.heap.size w w' :=
  Cheapest_e (cW := 11) hL hW (Nat.le_refl 4) (Nat.le_refl 4) (ml (by omega)) (ml (by omega)) (ml (by omega)) nm_w11.symm (by decide)
theorem nmCn_c (hL : RdL w VA 4 IA 4 valL) (hW : Rd encW 3 w QA 1 [⟨0, -1, 0⟩]) :
    Calls Try.prog 19 #[.agg (lA VA 4 4 IA 4 4 valL), .slice QA 1 1] w fun e w' => e = .returned (.tuple #[.slice none 0 0, .int .i64 0, .int .i64 1]) ∧ Below w.heap.size w w' :=
  Cheapest_e (cW := 1) hL hW (Nat.le_refl 4) (Nat.le_refl 4) (ml (by omega)) (ml (by omega)) (ml (by omega)) nm_wneg.symm (by decide)
theorem nmKh_c (hL : RdL w VA 4 IA 4 valL) :
    Calls Try.prog 31 #[.agg (lA VA 4 4 IA 4 4 highL)] w fun e w' => e = .returned (.int .i64 1) ∧ Below w.heap.size w w' := by
  have h := CheckLake_c (cV := 4) (cI := 4) (l := highL) ⟨hL.vols, hL.infl⟩ (Nat.le_refl 4) (Nat.le_refl 4) (ml (by omega)) (ml (by omega))
  rwa [nm_high] at h
theorem nmKl_c (hV : Rd enc1 1 w VA 31 (List.replicate 31 0)) (hI : Rd enc2 2 w IA 4 valL.inflow) :
    Calls Try.prog 31 #[.agg (lA VA 31 31 IA 4 4 longL)] w fun e w' => e = .returned (.int .i64 3) ∧ Below w.heap.size w w' := by
  have h := CheckLake_c (cV := 31) (cI := 4) (l := longL) ⟨hV, hI⟩ (Nat.le_refl 31) (Nat.le_refl 4) (ml (by omega)) (ml (by omega))
  rwa [nm_long] at h
theorem nmK0_c (w : World) : Calls Try.prog 31 #[.agg (lA none 0 0 none 0 0 noL)] w fun e w' => e = .returned (.int .i64 1) ∧ Below w.heap.size w w' := by
  have h := CheckLake_c (w := w) (VA := none) (IA := none) (cV := 0) (cI := 0) (l := noL) ⟨Rd.nil _ _ _ none, Rd.nil _ _ _ none⟩ (Nat.le_refl 0) (Nat.le_refl 0) (ml (by omega)) (ml (by omega))
  rwa [nm_no] at h
theorem nmP_c {n : Nat} {c : List Int} {b : Bool} (hb : proveB valL pumW c = b) (hn : n ≤ 100) (hL : RdL w VA 4 IA 4 valL) (hW : Rd encW 3 w PA 2 pumW) (hQ : Rd enc1 1 w QA n c) :
    Calls Try.prog 26 #[.agg (lA VA 4 4 IA 4 4 valL), .slice PA 2 2, .slice QA n n] w fun e w' => e = .returned (.bool b) ∧ Below w.heap.size w w' := by
  have h := prove_c (cW := 2) (cC := n) ⟨hL, hW, hQ⟩ (Nat.le_refl 4) (Nat.le_refl 4) (ml (by omega)) (ml (by omega)) (ml (by omega)) (ml hn)
  rwa [hb] at h
end
set_option linter.unusedSimpArgs false in
set_option maxRecDepth 100000 in
set_option maxHeartbeats 8000000 in
theorem LakeNames_w (w : World) : Calls Try.prog 15 #[] w fun e w' => e = .returned (.bool true) ∧ Below w.heap.size w w' := by
  have HB := Lib.hid (Below.refl w.heap.size w)
  have HAW := Lib.hid (fun (U : World) => awake_c U)
  have mk4 : ∀ W : World, (Instr.makeSlice 22 (.int .i64 4) (.int .i64 4)).run Try.prog W = .ok (.slice (some ⟨W.heap.size, 0, none⟩) 4 4) (W.alloc (.cells (madeCells #[.int .i64 0] (4 * 1)) 3)) := fun W => mk_i9 4 (by omega) W
  have HOK := Lib.hid valL_oks.1; have HWO := Lib.hid valL_oks.2.1; have HCO := Lib.hid valL_oks.2.2
  go_enter Try.func15, Try.ntmps15
  go_wp2_with fail
  go_at_call 53
  refine (valley_c _).mono ?_
  rintro e w1 ⟨VA, IA, rfl, hrl, hb9⟩
  have t0 := below_tr HB.out hb9
  clear HB
  have HB := Lib.hid t0
  clear t0
  have HRL := Lib.hid hrl
  clear hb9 hrl
  go_wp2_with fail
  go_at_call 54
  refine (pumps_c _).mono ?_
  rintro e w1 ⟨PA, rfl, hrw, hb9⟩
  have t0 := below_tr HB.out hb9; have t1 := HRL.out.below hb9
  clear HB HRL
  have HB := Lib.hid t0; have HRL := Lib.hid t1
  clear t0 t1
  have HRW := Lib.hid hrw
  clear hb9 hrw
  go_upto_region 3 with fail
  obtain ⟨z, hz⟩ : ∃ z, z = w1.heap.size := ⟨_, rfl⟩
  rw [made4]
  obtain ⟨W1, hW1⟩ : ∃ W1, W1 = ((((w1.alloc (.cells (lA VA 4 4 IA 4 4 valL) 38)).alloc (.cells #[.int .i64 120, .int .i64 100, .int .i64 60, .int .i64 100] 3)).alloc (.cells #[.int .i64 0, .int .i64 0, .int .i64 0, .int .i64 0] 3)).alloc (.cells (xA (some ⟨w1.heap.size + 1, 0, none⟩) 4 4 (some ⟨w1.heap.size + 1 + 1, 0, none⟩) 4 4 (nmX [0, 0, 0, 0] 2)) 77)) := ⟨_, rfl⟩
  have hb9 : Below w1.heap.size w1 W1 := by rw [hW1]; exact ((((Below.refl _ _).alloc (Nat.le_refl _) _).alloc (by simp) _).alloc (by simp; omega) _).alloc (by simp; omega) _
  have h0 := (((Blk.new w1 38 (lA VA 4 4 IA 4 4 valL)).alloc (.cells #[.int .i64 120, .int .i64 100, .int .i64 60, .int .i64 100] 3)).alloc (.cells #[.int .i64 0, .int .i64 0, .int .i64 0, .int .i64 0] 3)).alloc (.cells (xA (some ⟨w1.heap.size + 1, 0, none⟩) 4 4 (some ⟨w1.heap.size + 1 + 1, 0, none⟩) 4 4 (nmX [0, 0, 0, 0] 2)) 77)
  have h1 := ((Blk.new (w1.alloc (.cells (lA VA 4 4 IA 4 4 valL) 38)) 3 #[.int .i64 120, .int .i64 100, .int .i64 60, .int .i64 100]).alloc (.cells #[.int .i64 0, .int .i64 0, .int .i64 0, .int .i64 0] 3)).alloc (.cells (xA (some ⟨w1.heap.size + 1, 0, none⟩) 4 4 (some ⟨w1.heap.size + 1 + 1, 0, none⟩) 4 4 (nmX [0, 0, 0, 0] 2)) 77)
  have h2 := (Blk.new ((w1.alloc (.cells (lA VA 4 4 IA 4 4 valL) 38)).alloc (.cells #[.int .i64 120, .int .i64 100, .int .i64 60, .int .i64 100] 3)) 3 #[.int .i64 0, .int .i64 0, .int .i64 0, .int .i64 0]).alloc (.cells (xA (some ⟨w1.heap.size + 1, 0, none⟩) 4 4 (some ⟨w1.heap.size + 1 + 1, 0, none⟩) 4 4 (nmX [0, 0, 0, 0] 2)) 77)
  have h3 := Blk.new (((w1.alloc (.cells (lA VA 4 4 IA 4 4 valL) 38)).alloc (.cells #[.int .i64 120, .int .i64 100, .int .i64 60, .int .i64 100] 3)).alloc (.cells #[.int .i64 0, .int .i64 0, .int .i64 0, .int .i64 0] 3)) 77 (xA (some ⟨w1.heap.size + 1, 0, none⟩) 4 4 (some ⟨w1.heap.size + 1 + 1, 0, none⟩) 4 4 (nmX [0, 0, 0, 0] 2))
  simp only [World.size_alloc] at h1 h2 h3
  have hfold : ∀ P : World → Prop, P W1 → P ((((w1.alloc (.cells #[.slice VA 4 4, .int .i64 valL.crest, .int .i64 valL.weak, .int .i64 valL.soft.1, .int .i64 valL.soft.2, .int .i64 valL.start.1, .int .i64 valL.start.2, .int .i64 valL.seep.1, .int .i64 valL.seep.2, .slice IA 4 4] 38)).alloc (.cells #[.int .i64 120, .int .i64 100, .int .i64 60, .int .i64 100] 3)).alloc (.cells #[.int .i64 0, .int .i64 0, .int .i64 0, .int .i64 0] 3)).alloc (.cells #[.slice (some ⟨w1.heap.size + 1, 0, none⟩) 4 4, .slice (some ⟨w1.heap.size + 1 + 1, 0, none⟩) 4 4, .int .i64 60, .int .i64 2] 77)) := fun P h => by rw [hW1] at h; exact h
  refine hfold _ ?_
  clear hfold
  rw [← hW1] at h0 h1 h2 h3
  obtain ⟨wA, hwA⟩ : ∃ wA, wA = w1 := ⟨_, rfl⟩
  rw [← hwA] at HB HRL HRW hb9 h0 h1 h2 h3 hz ⊢
  clear hW1 hwA
  have HZA := Lib.hid hz
  have hzw : w.heap.size ≤ z := by rw [hz]; exact HB.out.size
  have HRL0 := HRL; have HRW0 := HRW
  clear HRL HRW
  have t0 := below_tr HB.out hb9
  clear HB
  have HB := Lib.hid t0
  clear t0
  have HXL := Lib.hid h0; have HF := Lib.hid h1; have HS := Lib.hid h2; have HX := Lib.hid h3; have HBZ := Lib.hid hb9
  rw [← hz] at HXL HF HS HX ⊢
  clear hz hb9 h0 h1 h2 h3 mk4
  obtain ⟨x0, x1, x2, x3, x4, x5, x6, x7, x8, x9⟩ := blk_lA HXL.out
  obtain ⟨y0, y1, y2, y3⟩ := blk_xA HX.out
  go_wp2_with fail
  go_at_call 39
  refine (nmF2_c (HRL0.out.below HBZ.out) (HRW0.out.below HBZ.out) (Rd.of_blkE enc1_len HF.out rfl rfl) (Rd.of_blkE enc1_len HS.out rfl rfl)).mono ?_
  rintro e w1 ⟨A1, c1, rfl, hc1, hr1, hb9⟩
  have t0 := below_tr HB.out hb9; have t1 := HXL.out.below hb9 HXL.out.lt; have t2 := HX.out.below hb9 HX.out.lt; have t3 := HF.out.below hb9 HF.out.lt; have t4 := HS.out.below hb9 HS.out.lt; have t5 := below_tr HBZ.out hb9
  clear HB HXL HX HF HS HBZ
  have HB := Lib.hid t0; have HXL := Lib.hid t1; have HX := Lib.hid t2; have HF := Lib.hid t3; have HS := Lib.hid t4; have HBZ := Lib.hid t5
  clear t0 t1 t2 t3 t4 t5
  have HR1 := Lib.hid hr1
  clear hb9 hr1
  clear hc1 x0 x1 x2 x3 x4 x5 x6 x7 x8 x9 y0 y1 y2 y3
  have y3 := HX.out.cell 3; have f3 := HX.out.frozen 3
  simp [nmX] at y3
  go_upto_region 5 with fail
  have hz3 : wA.heap.size ≤ z + 1 + 1 + 1 := by have := HZA.out; omega
  have hb9 := HB.out.setCell (p := ⟨z + 1 + 1 + 1, 3, none⟩) (by simp; omega) (.int .i64 3)
  have hbz := HBZ.out.setCell (p := ⟨z + 1 + 1 + 1, 3, none⟩) hz3 (.int .i64 3)
  have hr1 := HR1.out.setNot (p := ⟨z + 1 + 1 + 1, 3, none⟩) y3 (by simp [enc1]) (.int .i64 3)
  have h0 := HXL.out.far (p := ⟨z + 1 + 1 + 1, 3, none⟩) (by simp <;> omega) (.int .i64 3)
  have h1 := HF.out.far (p := ⟨z + 1 + 1 + 1, 3, none⟩) (by simp <;> omega) (.int .i64 3)
  have h2 := HS.out.far (p := ⟨z + 1 + 1 + 1, 3, none⟩) (by simp <;> omega) (.int .i64 3)
  have h3 : Blk _ _ _ (xA (some ⟨z + 1, 0, none⟩) 4 4 (some ⟨z + 1 + 1, 0, none⟩) 4 4 (nmX [0, 0, 0, 0] 3)) := HX.out.set_ 3 (.int .i64 3)
  clear y3 f3
  clear HB HBZ HR1 HXL HF HS HX
  have HB := Lib.hid hb9; have HBZ := Lib.hid hbz; have HR1 := Lib.hid hr1; have HXL := Lib.hid h0; have HF := Lib.hid h1; have HS := Lib.hid h2; have HX := Lib.hid h3
  clear hb9 hbz hr1 h0 h1 h2 h3
  revert HB HBZ HR1 HXL HF HS HX
  generalize (World.setCell w1 ⟨z + 1 + 1 + 1, 3, none⟩ (.int .i64 3)) = w1
  intro HB HBZ HR1 HXL HF HS HX
  obtain ⟨x0, x1, x2, x3, x4, x5, x6, x7, x8, x9⟩ := blk_lA HXL.out
  obtain ⟨y0, y1, y2, y3⟩ := blk_xA HX.out
  go_wp2_with fail
  go_at_call 39
  refine (nmF3_c (HRL0.out.below HBZ.out) (HRW0.out.below HBZ.out) (Rd.of_blkE enc1_len HF.out rfl rfl) (Rd.of_blkE enc1_len HS.out rfl rfl)).mono ?_
  rintro e w1 ⟨A2, c2, rfl, hc2, hr2, hb9⟩
  have t0 := below_tr HB.out hb9; have t1 := HXL.out.below hb9 HXL.out.lt; have t2 := HX.out.below hb9 HX.out.lt; have t3 := HF.out.below hb9 HF.out.lt; have t4 := HS.out.below hb9 HS.out.lt; have t5 := below_tr HBZ.out hb9; have t6 := HR1.out.below hb9
  clear HB HXL HX HF HS HBZ HR1
  have HB := Lib.hid t0; have HXL := Lib.hid t1; have HX := Lib.hid t2; have HF := Lib.hid t3; have HS := Lib.hid t4; have HBZ := Lib.hid t5; have HR1 := Lib.hid t6
  clear t0 t1 t2 t3 t4 t5 t6
  have HR2 := Lib.hid hr2
  clear hb9 hr2
  clear hc2 x0 x1 x2 x3 x4 x5 x6 x7 x8 x9 y0 y1 y2 y3
  obtain ⟨x0, x1, x2, x3, x4, x5, x6, x7, x8, x9⟩ := blk_lA HXL.out
  go_wp2_with fail
  go_at_call 33
  refine (nmB0_c (HRL0.out.below HBZ.out) (HRW0.out.below HBZ.out)).mono ?_
  rintro e w1 ⟨rfl, hb9⟩
  have t0 := below_tr HB.out hb9; have t1 := HXL.out.below hb9 HXL.out.lt; have t2 := HX.out.below hb9 HX.out.lt; have t3 := HF.out.below hb9 HF.out.lt; have t4 := HS.out.below hb9 HS.out.lt; have t5 := below_tr HBZ.out hb9; have t6 := HR1.out.below hb9; have t7 := HR2.out.below hb9
  clear HB HXL HX HF HS HBZ HR1 HR2
  have HB := Lib.hid t0; have HXL := Lib.hid t1; have HX := Lib.hid t2; have HF := Lib.hid t3; have HS := Lib.hid t4; have HBZ := Lib.hid t5; have HR1 := Lib.hid t6; have HR2 := Lib.hid t7
  clear t0 t1 t2 t3 t4 t5 t6 t7
  clear hb9 
  clear x0 x1 x2 x3 x4 x5 x6 x7 x8 x9
  go_wp2_with fail
  go_at_call 55
  refine (river_c _).mono ?_
  rintro e w1 ⟨QA, rfl, hrq, hb9⟩
  have t0 := below_tr HB.out hb9; have t1 := HXL.out.below hb9 HXL.out.lt; have t2 := HX.out.below hb9 HX.out.lt; have t3 := HF.out.below hb9 HF.out.lt; have t4 := HS.out.below hb9 HS.out.lt; have t5 := below_tr HBZ.out hb9; have t6 := HR1.out.below hb9; have t7 := HR2.out.below hb9
  clear HB HXL HX HF HS HBZ HR1 HR2
  have HB := Lib.hid t0; have HXL := Lib.hid t1; have HX := Lib.hid t2; have HF := Lib.hid t3; have HS := Lib.hid t4; have HBZ := Lib.hid t5; have HR1 := Lib.hid t6; have HR2 := Lib.hid t7
  clear t0 t1 t2 t3 t4 t5 t6 t7
  have HRQ := Lib.hid hrq
  clear hb9 hrq
  go_upto_region 8 with fail
  have hgr := HX.out.lt
  have hal := (Below.refl w1.heap.size w1).alloc (Nat.le_refl _) (.cells (rA rivR) 90)
  have hn2 := Blk.new w1 90 (rA rivR)
  have t0 := below_tr HB.out hal; have t1 := HXL.out.below hal HXL.out.lt; have t2 := HX.out.below hal HX.out.lt; have t3 := HF.out.below hal HF.out.lt; have t4 := HS.out.below hal HS.out.lt; have t5 := below_tr HBZ.out hal; have t6 := HR1.out.below hal; have t7 := HR2.out.below hal; have t8 := HRQ.out.below hal
  clear HB HXL HX HF HS HBZ HR1 HR2 HRQ
  have HB := Lib.hid t0; have HXL := Lib.hid t1; have HX := Lib.hid t2; have HF := Lib.hid t3; have HS := Lib.hid t4; have HBZ := Lib.hid t5; have HR1 := Lib.hid t6; have HR2 := Lib.hid t7; have HRQ := Lib.hid t8
  clear t0 t1 t2 t3 t4 t5 t6 t7 t8
  have HXR := Lib.hid hn2
  clear hal hn2
  revert HB HXL HX HF HS HBZ HR1 HR2 HRQ HXR
  generalize hg2 : w1.heap.size = gR
  generalize (World.alloc w1 (.cells (rA rivR) 90)) = w1
  intro HB HXL HX HF HS HBZ HR1 HR2 HRQ HXR
  have HGR := Lib.hid (show z + 1 + 1 + 1 < gR from hg2 ▸ hgr)
  clear hg2 hgr
  obtain ⟨x0, x1, x2, x3, x4, x5, x6, x7, x8, x9⟩ := blk_lA HXL.out
  have y0 := HXR.out.cell 0; have y1 := HXR.out.cell 1; have y2 := HXR.out.cell 2
  simp at y0 y1 y2
  go_wp2_with fail
  go_at_call 43
  refine (nmW_c (HRL0.out.below HBZ.out) (HRW0.out.below HBZ.out) HRQ.out).mono ?_
  rintro e w1 ⟨A3, c3, rfl, hc3, hr3, hb9⟩
  have t0 := below_tr HB.out hb9; have t1 := HXL.out.below hb9 HXL.out.lt; have t2 := HX.out.below hb9 HX.out.lt; have t3 := HF.out.below hb9 HF.out.lt; have t4 := HS.out.below hb9 HS.out.lt; have t5 := below_tr HBZ.out hb9; have t6 := HR1.out.below hb9; have t7 := HR2.out.below hb9; have t8 := HRQ.out.below hb9; have t9 := HXR.out.below hb9 HXR.out.lt
  clear HB HXL HX HF HS HBZ HR1 HR2 HRQ HXR
  have HB := Lib.hid t0; have HXL := Lib.hid t1; have HX := Lib.hid t2; have HF := Lib.hid t3; have HS := Lib.hid t4; have HBZ := Lib.hid t5; have HR1 := Lib.hid t6; have HR2 := Lib.hid t7; have HRQ := Lib.hid t8; have HXR := Lib.hid t9
  clear t0 t1 t2 t3 t4 t5 t6 t7 t8 t9
  have HRV := Lib.hid hr3
  clear hb9 hr3
  clear x0 x1 x2 x3 x4 x5 x6 x7 x8 x9
  clear y0 y1 y2 hc3
  go_wp2_with fail
  have hal := (Below.refl w1.heap.size w1).alloc (Nat.le_refl _) (.cells #[.int .i64 180, .int .i64 280, .int .i64 340] 3)
  have hn2 := Blk.new w1 3 #[.int .i64 180, .int .i64 280, .int .i64 340]
  have t0 := below_tr HB.out hal; have t1 := HXL.out.below hal HXL.out.lt; have t2 := HX.out.below hal HX.out.lt; have t3 := HF.out.below hal HF.out.lt; have t4 := HS.out.below hal HS.out.lt; have t5 := below_tr HBZ.out hal; have t6 := HR1.out.below hal; have t7 := HR2.out.below hal; have t8 := HRQ.out.below hal; have t9 := HXR.out.below hal HXR.out.lt; have t10 := HRV.out.below hal
  clear HB HXL HX HF HS HBZ HR1 HR2 HRQ HXR HRV
  have HB := Lib.hid t0; have HXL := Lib.hid t1; have HX := Lib.hid t2; have HF := Lib.hid t3; have HS := Lib.hid t4; have HBZ := Lib.hid t5; have HR1 := Lib.hid t6; have HR2 := Lib.hid t7; have HRQ := Lib.hid t8; have HXR := Lib.hid t9; have HRV := Lib.hid t10
  clear t0 t1 t2 t3 t4 t5 t6 t7 t8 t9 t10
  clear hal
  go_at_call 23
  refine (ints_c (l := [180, 280, 340]) (l' := [180, 280, 340]) HR1.out (Rd.of_blkE enc1_len hn2 rfl rfl) (by omega)).mono ?_
  rintro e w1 ⟨rfl, hb9⟩
  have t0 := below_tr HB.out hb9; have t1 := HXL.out.below hb9 HXL.out.lt; have t2 := HX.out.below hb9 HX.out.lt; have t3 := HF.out.below hb9 HF.out.lt; have t4 := HS.out.below hb9 HS.out.lt; have t5 := below_tr HBZ.out hb9; have t6 := HR1.out.below hb9; have t7 := HR2.out.below hb9; have t8 := HRQ.out.below hb9; have t9 := HXR.out.below hb9 HXR.out.lt; have t10 := HRV.out.below hb9
  clear HB HXL HX HF HS HBZ HR1 HR2 HRQ HXR HRV
  have HB := Lib.hid t0; have HXL := Lib.hid t1; have HX := Lib.hid t2; have HF := Lib.hid t3; have HS := Lib.hid t4; have HBZ := Lib.hid t5; have HR1 := Lib.hid t6; have HR2 := Lib.hid t7; have HRQ := Lib.hid t8; have HXR := Lib.hid t9; have HRV := Lib.hid t10
  clear t0 t1 t2 t3 t4 t5 t6 t7 t8 t9 t10
  clear hb9 
  clear hn2
  go_wp2_with fail
  have hal := (Below.refl w1.heap.size w1).alloc (Nat.le_refl _) (.cells #[.int .i64 180, .int .i64 280, .int .i64 340, .int .i64 440] 3)
  have hn2 := Blk.new w1 3 #[.int .i64 180, .int .i64 280, .int .i64 340, .int .i64 440]
  have t0 := below_tr HB.out hal; have t1 := HXL.out.below hal HXL.out.lt; have t2 := HX.out.below hal HX.out.lt; have t3 := HF.out.below hal HF.out.lt; have t4 := HS.out.below hal HS.out.lt; have t5 := below_tr HBZ.out hal; have t6 := HR1.out.below hal; have t7 := HR2.out.below hal; have t8 := HRQ.out.below hal; have t9 := HXR.out.below hal HXR.out.lt; have t10 := HRV.out.below hal
  clear HB HXL HX HF HS HBZ HR1 HR2 HRQ HXR HRV
  have HB := Lib.hid t0; have HXL := Lib.hid t1; have HX := Lib.hid t2; have HF := Lib.hid t3; have HS := Lib.hid t4; have HBZ := Lib.hid t5; have HR1 := Lib.hid t6; have HR2 := Lib.hid t7; have HRQ := Lib.hid t8; have HXR := Lib.hid t9; have HRV := Lib.hid t10
  clear t0 t1 t2 t3 t4 t5 t6 t7 t8 t9 t10
  clear hal
  go_at_call 23
  refine (ints_c (l := [180, 280, 340, 440]) (l' := [180, 280, 340, 440]) HR2.out (Rd.of_blkE enc1_len hn2 rfl rfl) (by omega)).mono ?_
  rintro e w1 ⟨rfl, hb9⟩
  have t0 := below_tr HB.out hb9; have t1 := HXL.out.below hb9 HXL.out.lt; have t2 := HX.out.below hb9 HX.out.lt; have t3 := HF.out.below hb9 HF.out.lt; have t4 := HS.out.below hb9 HS.out.lt; have t5 := below_tr HBZ.out hb9; have t6 := HR1.out.below hb9; have t7 := HR2.out.below hb9; have t8 := HRQ.out.below hb9; have t9 := HXR.out.below hb9 HXR.out.lt; have t10 := HRV.out.below hb9
  clear HB HXL HX HF HS HBZ HR1 HR2 HRQ HXR HRV
  have HB := Lib.hid t0; have HXL := Lib.hid t1; have HX := Lib.hid t2; have HF := Lib.hid t3; have HS := Lib.hid t4; have HBZ := Lib.hid t5; have HR1 := Lib.hid t6; have HR2 := Lib.hid t7; have HRQ := Lib.hid t8; have HXR := Lib.hid t9; have HRV := Lib.hid t10
  clear t0 t1 t2 t3 t4 t5 t6 t7 t8 t9 t10
  clear hb9 
  clear hn2
  obtain ⟨b3, o3, hA3, hlt3, hc3⟩ := HRV.out.2 (by omega)
  subst hA3
  have q0 := hc3 0 _ rfl 0 _ rfl; have q1 := hc3 0 _ rfl 1 _ rfl; have q2 := hc3 0 _ rfl 2 _ rfl
  have q3 := hc3 1 _ rfl 0 _ rfl; have q4 := hc3 1 _ rfl 1 _ rfl; have q5 := hc3 1 _ rfl 2 _ rfl
  have q6 := hc3 2 _ rfl 0 _ rfl; have q7 := hc3 2 _ rfl 1 _ rfl; have q8 := hc3 2 _ rfl 2 _ rfl
  simp at q0 q1 q2 q3 q4 q5 q6 q7 q8
  have heq := run_neq_rc2
  clear hc3
  go_upto_region 11 with fail
  clear q0 q1 q2 q3 q4 q5 q6 q7 q8 heq hlt3
  clear HR1 HR2 HRV
  have y1 := HX.out.cell 1
  have s3 := HS.out.cell 3; have f3 := HS.out.frozen 3
  simp at y1 s3
  go_upto_region 12 with fail
  have hz2 : wA.heap.size ≤ z + 1 + 1 := by have := HZA.out; omega
  clear HRQ
  clear y1 s3 f3
  have hgr := HGR.out
  have hb9 := HB.out.setCell (p := ⟨z + 1 + 1, 3, none⟩) (by simp; omega) (.int .i64 11)
  have hbz := HBZ.out.setCell (p := ⟨z + 1 + 1, 3, none⟩) hz2 (.int .i64 11)
  have h0 := HXL.out.far (p := ⟨z + 1 + 1, 3, none⟩) (by simp <;> omega) (.int .i64 11)
  have h1 := HF.out.far (p := ⟨z + 1 + 1, 3, none⟩) (by simp <;> omega) (.int .i64 11)
  have h2 : Blk _ _ _ #[.int .i64 0, .int .i64 0, .int .i64 0, .int .i64 11] := HS.out.set_ 3 (.int .i64 11)
  have h3 := HX.out.far (p := ⟨z + 1 + 1, 3, none⟩) (by simp <;> omega) (.int .i64 11)
  have h4 := HXR.out.far (p := ⟨z + 1 + 1, 3, none⟩) (by simp <;> omega) (.int .i64 11)
  clear HB HBZ HXL HF HS HX HXR hgr
  have HB := Lib.hid hb9; have HBZ := Lib.hid hbz; have HXL := Lib.hid h0; have HF := Lib.hid h1; have HS := Lib.hid h2; have HX := Lib.hid h3; have HXR := Lib.hid h4
  clear hb9 hbz h0 h1 h2 h3 h4
  revert HB HBZ HXL HF HS HX HXR
  generalize (World.setCell w1 ⟨z + 1 + 1, 3, none⟩ (.int .i64 11)) = w1
  intro HB HBZ HXL HF HS HX HXR
  obtain ⟨x0, x1, x2, x3, x4, x5, x6, x7, x8, x9⟩ := blk_lA HXL.out
  obtain ⟨y0, y1, y2, y3⟩ := blk_xA HX.out
  go_wp2_with fail
  go_at_call 39
  refine (nmF11_c (HRL0.out.below HBZ.out) (HRW0.out.below HBZ.out) (Rd.of_blkE enc1_len HF.out rfl rfl) (Rd.of_blkE enc1_len HS.out rfl rfl)).mono ?_
  rintro e w1 ⟨A4, n4, c4, rfl, hb9⟩
  have t0 := below_tr HB.out hb9; have t1 := HXL.out.below hb9 HXL.out.lt; have t2 := HX.out.below hb9 HX.out.lt; have t3 := HF.out.below hb9 HF.out.lt; have t4 := HS.out.below hb9 HS.out.lt; have t5 := below_tr HBZ.out hb9; have t6 := HXR.out.below hb9 HXR.out.lt
  clear HB HXL HX HF HS HBZ HXR
  have HB := Lib.hid t0; have HXL := Lib.hid t1; have HX := Lib.hid t2; have HF := Lib.hid t3; have HS := Lib.hid t4; have HBZ := Lib.hid t5; have HXR := Lib.hid t6
  clear t0 t1 t2 t3 t4 t5 t6
  clear hb9 
  clear x0 x1 x2 x3 x4 x5 x6 x7 x8 x9
  clear y0 y1 y2 y3
  clear HF HS HX
  obtain ⟨x0, x1, x2, x3, x4, x5, x6, x7, x8, x9⟩ := blk_lA HXL.out
  go_wp2_with fail
  have hal := (Below.refl w1.heap.size w1).alloc (Nat.le_refl _) (.cells #[.int .i64 0, .int .i64 1] 3)
  have hn2 := Blk.new w1 3 #[.int .i64 0, .int .i64 1]
  have t0 := below_tr HB.out hal; have t1 := HXL.out.below hal HXL.out.lt; have t2 := below_tr HBZ.out hal; have t3 := HXR.out.below hal HXR.out.lt
  clear HB HXL HBZ HXR
  have HB := Lib.hid t0; have HXL := Lib.hid t1; have HBZ := Lib.hid t2; have HXR := Lib.hid t3
  clear t0 t1 t2 t3
  clear hal
  go_at_call 33
  refine (nmB1_c (HRL0.out.below HBZ.out) (HRW0.out.below HBZ.out) (Rd.of_blkE enc1_len hn2 rfl rfl)).mono ?_
  rintro e w1 ⟨rfl, hb9⟩
  have t0 := below_tr HB.out hb9; have t1 := HXL.out.below hb9 HXL.out.lt; have t2 := below_tr HBZ.out hb9; have t3 := HXR.out.below hb9 HXR.out.lt
  clear HB HXL HBZ HXR
  have HB := Lib.hid t0; have HXL := Lib.hid t1; have HBZ := Lib.hid t2; have HXR := Lib.hid t3
  clear t0 t1 t2 t3
  clear hb9 
  clear hn2
  clear x0 x1 x2 x3 x4 x5 x6 x7 x8 x9
  obtain ⟨x0, x1, x2, x3, x4, x5, x6, x7, x8, x9⟩ := blk_lA HXL.out
  go_wp2_with fail
  have hal := (Below.refl w1.heap.size w1).alloc (Nat.le_refl _) (.cells #[.int .i64 1, .int .i64 0] 3)
  have hn2 := Blk.new w1 3 #[.int .i64 1, .int .i64 0]
  have t0 := below_tr HB.out hal; have t1 := HXL.out.below hal HXL.out.lt; have t2 := below_tr HBZ.out hal; have t3 := HXR.out.below hal HXR.out.lt
  clear HB HXL HBZ HXR
  have HB := Lib.hid t0; have HXL := Lib.hid t1; have HBZ := Lib.hid t2; have HXR := Lib.hid t3
  clear t0 t1 t2 t3
  clear hal
  go_at_call 32
  refine (nmR_c (HRL0.out.below HBZ.out) (HRW0.out.below HBZ.out) (Rd.of_blkE enc1_len hn2 rfl rfl)).mono ?_
  rintro e w1 ⟨A5, n5, c5, rfl, hb9⟩
  have t0 := below_tr HB.out hb9; have t1 := HXL.out.below hb9 HXL.out.lt; have t2 := below_tr HBZ.out hb9; have t3 := HXR.out.below hb9 HXR.out.lt
  clear HB HXL HBZ HXR
  have HB := Lib.hid t0; have HXL := Lib.hid t1; have HBZ := Lib.hid t2; have HXR := Lib.hid t3
  clear t0 t1 t2 t3
  clear hb9 
  clear hn2
  clear x0 x1 x2 x3 x4 x5 x6 x7 x8 x9
  go_upto_region 15 with fail
  refine wp_region_till [] (fun U => U.cell? ⟨z, 0, none⟩ = some (.slice VA 4 4) ∧ U.cell? ⟨z, 1, none⟩ = some (.int .i64 valL.crest) ∧ U.cell? ⟨z, 2, none⟩ = some (.int .i64 valL.weak) ∧ U.cell? ⟨z, 3, none⟩ = some (.int .i64 valL.soft.1) ∧ U.cell? ⟨z, 4, none⟩ = some (.int .i64 valL.soft.2) ∧ U.cell? ⟨z, 5, none⟩ = some (.int .i64 valL.start.1) ∧ U.cell? ⟨z, 6, none⟩ = some (.int .i64 valL.start.2) ∧ U.cell? ⟨z, 7, none⟩ = some (.int .i64 valL.seep.1) ∧ U.cell? ⟨z, 8, none⟩ = some (.int .i64 valL.seep.2) ∧ U.cell? ⟨z, 9, none⟩ = some (.slice IA 4 4)) (by kernel_rfl) (by exact blk_lA (show Blk w1.drew z _ _ from HXL.out)) (fun hHeld => ?_)
  have hb9 := (Below.refl w1.heap.size w1).drew
  have t0 := below_tr HB.out hb9; have t1 := HXL.out.below hb9 HXL.out.lt; have t2 := below_tr HBZ.out hb9; have t3 := HXR.out.below hb9 HXR.out.lt
  clear HB HXL HBZ HXR
  have HB := Lib.hid t0; have HXL := Lib.hid t1; have HBZ := Lib.hid t2; have HXR := Lib.hid t3
  clear t0 t1 t2 t3
  clear hb9
  revert hHeld HB HXL HBZ HXR
  generalize w1.drew = w0
  intro hHeld HB HXL HBZ HXR
  (refine wpAnyL_take (n := 0) (i := 0) (oi := ?ox1) (v := ?vx1) ?hix1 ?k1x1 ?k2x1 ?k3x1 ?k4x1 ?k5x1 ?k6x1 ?hQx1 ?hYx1 ?hSx1 ?restx1; (case hix1 => (simp only [List.getElem?_toArray, List.getElem?_cons_succ, List.getElem?_cons_zero]; exact rfl)); (case k1x1 => kernel_rfl); (case k2x1 => kernel_rfl); (case k3x1 => kernel_rfl); (case k4x1 => kernel_rfl); (case k5x1 => kernel_rfl); (case k6x1 => kernel_rfl); (case hSx1 => assumption); (case hYx1 => (refine Or.inl ⟨rfl, ?hyx1⟩; intro w hSw; (try dsimp only at hSw); go_simp; (try with_reducible rfl))); (case hQx1 => exact (fun _ _ _ h => h)); (try simp only [Act.put, List.setIfInBounds_toArray, List.set_cons_zero, List.set_cons_succ]))
  (refine wpAnyL_take (n := 0) (i := 1) (oi := ?ox2) (v := ?vx2) ?hix2 ?k1x2 ?k2x2 ?k3x2 ?k4x2 ?k5x2 ?k6x2 ?hQx2 ?hYx2 ?hSx2 ?restx2; (case hix2 => (simp only [List.getElem?_toArray, List.getElem?_cons_succ, List.getElem?_cons_zero]; exact rfl)); (case k1x2 => kernel_rfl); (case k2x2 => kernel_rfl); (case k3x2 => kernel_rfl); (case k4x2 => kernel_rfl); (case k5x2 => kernel_rfl); (case k6x2 => kernel_rfl); (case hSx2 => assumption); (case hYx2 => (refine Or.inl ⟨rfl, ?hyx2⟩; intro w hSw; (try dsimp only at hSw); go_simp; (try with_reducible rfl))); (case hQx2 => exact (fun _ _ _ h => h)); (try simp only [Act.put, List.setIfInBounds_toArray, List.set_cons_zero, List.set_cons_succ]))
  (refine wpAnyL_take (n := 0) (i := 2) (oi := ?ox3) (v := ?vx3) ?hix3 ?k1x3 ?k2x3 ?k3x3 ?k4x3 ?k5x3 ?k6x3 ?hQx3 ?hYx3 ?hSx3 ?restx3; (case hix3 => (simp only [List.getElem?_toArray, List.getElem?_cons_succ, List.getElem?_cons_zero]; exact rfl)); (case k1x3 => kernel_rfl); (case k2x3 => kernel_rfl); (case k3x3 => kernel_rfl); (case k4x3 => kernel_rfl); (case k5x3 => kernel_rfl); (case k6x3 => kernel_rfl); (case hSx3 => assumption); (case hYx3 => (refine Or.inl ⟨rfl, ?hyx3⟩; intro w hSw; (try dsimp only at hSw); go_simp; (try with_reducible rfl))); (case hQx3 => exact (fun _ _ _ h => h)); (try simp only [Act.put, List.setIfInBounds_toArray, List.set_cons_zero, List.set_cons_succ]))
  refine wpAnyL_ready (rs := [3]) (by kernel_rfl) (by simp) ?_
  refine AllReadyL.cons (o := ?o3x4) ?hi3x4 (fun K hK => ?_) AllReadyL.nil
  (case hi3x4 => (simp only [List.getElem?_toArray, List.getElem?_cons_succ, List.getElem?_cons_zero]; exact rfl))
  go_simp
  go_at_call 19
  refine (nmCh1_c (HRL0.out.below HBZ.out) (HRW0.out.below HBZ.out)).mono ?_
  rintro e w1 ⟨rfl, hb9⟩
  have t0 := below_tr HB.out hb9; have t1 := HXL.out.below hb9 HXL.out.lt; have t2 := below_tr HBZ.out hb9; have t3 := HXR.out.below hb9 HXR.out.lt
  clear HB HXL HBZ HXR
  have HB := Lib.hid t0; have HXL := Lib.hid t1; have HBZ := Lib.hid t2; have HXR := Lib.hid t3
  clear t0 t1 t2 t3
  clear hb9 
  (try go_wp2_with fail)
  (try clear hHeld)
  refine hK.out _ _ (by (try dsimp only); exact blk_lA HXL.out) (fun hHeld => ?_)
  clear hK K
  (try simp only [Act.put, List.setIfInBounds_toArray, List.set_cons_zero, List.set_cons_succ])
  (refine wpAnyL_take (n := 0) (i := 4) (oi := ?ox5) (v := ?vx5) ?hix5 ?k1x5 ?k2x5 ?k3x5 ?k4x5 ?k5x5 ?k6x5 ?hQx5 ?hYx5 ?hSx5 ?restx5; (case hix5 => (simp only [List.getElem?_toArray, List.getElem?_cons_succ, List.getElem?_cons_zero]; exact rfl)); (case k1x5 => kernel_rfl); (case k2x5 => kernel_rfl); (case k3x5 => kernel_rfl); (case k4x5 => kernel_rfl); (case k5x5 => kernel_rfl); (case k6x5 => kernel_rfl); (case hSx5 => assumption); (case hYx5 => (refine Or.inl ⟨rfl, ?hyx5⟩; intro w hSw; (try dsimp only at hSw); go_simp; (try with_reducible rfl))); (case hQx5 => exact (fun _ _ _ h => h)); (try simp only [Act.put, List.setIfInBounds_toArray, List.set_cons_zero, List.set_cons_succ]))
  (refine wpAnyL_take (n := 0) (i := 5) (oi := ?ox6) (v := ?vx6) ?hix6 ?k1x6 ?k2x6 ?k3x6 ?k4x6 ?k5x6 ?k6x6 ?hQx6 ?hYx6 ?hSx6 ?restx6; (case hix6 => (simp only [List.getElem?_toArray, List.getElem?_cons_succ, List.getElem?_cons_zero]; exact rfl)); (case k1x6 => kernel_rfl); (case k2x6 => kernel_rfl); (case k3x6 => kernel_rfl); (case k4x6 => kernel_rfl); (case k5x6 => kernel_rfl); (case k6x6 => kernel_rfl); (case hSx6 => assumption); (case hYx6 => (refine Or.inl ⟨rfl, ?hyx6⟩; intro w hSw; (try dsimp only at hSw); go_simp; (try with_reducible rfl))); (case hQx6 => exact (fun _ _ _ h => h)); (try simp only [Act.put, List.setIfInBounds_toArray, List.set_cons_zero, List.set_cons_succ]))
  (refine wpAnyL_take (n := 0) (i := 6) (oi := ?ox7) (v := ?vx7) ?hix7 ?k1x7 ?k2x7 ?k3x7 ?k4x7 ?k5x7 ?k6x7 ?hQx7 ?hYx7 ?hSx7 ?restx7; (case hix7 => (simp only [List.getElem?_toArray, List.getElem?_cons_succ, List.getElem?_cons_zero]; exact rfl)); (case k1x7 => kernel_rfl); (case k2x7 => kernel_rfl); (case k3x7 => kernel_rfl); (case k4x7 => kernel_rfl); (case k5x7 => kernel_rfl); (case k6x7 => kernel_rfl); (case hSx7 => assumption); (case hYx7 => (refine Or.inl ⟨rfl, ?hyx7⟩; intro w hSw; (try dsimp only at hSw); go_simp; (try with_reducible rfl))); (case hQx7 => exact (fun _ _ _ h => h)); (try simp only [Act.put, List.setIfInBounds_toArray, List.set_cons_zero, List.set_cons_succ]))
  (refine wpAnyL_take (n := 0) (i := 7) (oi := ?ox8) (v := ?vx8) ?hix8 ?k1x8 ?k2x8 ?k3x8 ?k4x8 ?k5x8 ?k6x8 ?hQx8 ?hYx8 ?hSx8 ?restx8; (case hix8 => (simp only [List.getElem?_toArray, List.getElem?_cons_succ, List.getElem?_cons_zero]; exact rfl)); (case k1x8 => kernel_rfl); (case k2x8 => kernel_rfl); (case k3x8 => kernel_rfl); (case k4x8 => kernel_rfl); (case k5x8 => kernel_rfl); (case k6x8 => kernel_rfl); (case hSx8 => assumption); (case hYx8 => (refine Or.inl ⟨rfl, ?hyx8⟩; intro w hSw; (try dsimp only at hSw); go_simp; (try with_reducible rfl))); (case hQx8 => exact (fun _ _ _ h => h)); (try simp only [Act.put, List.setIfInBounds_toArray, List.set_cons_zero, List.set_cons_succ]))
  (refine wpAnyL_take (n := 0) (i := 8) (oi := ?ox9) (v := ?vx9) ?hix9 ?k1x9 ?k2x9 ?k3x9 ?k4x9 ?k5x9 ?k6x9 ?hQx9 ?hYx9 ?hSx9 ?restx9; (case hix9 => (simp only [List.getElem?_toArray, List.getElem?_cons_succ, List.getElem?_cons_zero]; exact rfl)); (case k1x9 => kernel_rfl); (case k2x9 => kernel_rfl); (case k3x9 => kernel_rfl); (case k4x9 => kernel_rfl); (case k5x9 => kernel_rfl); (case k6x9 => kernel_rfl); (case hSx9 => assumption); (case hYx9 => (refine Or.inl ⟨rfl, ?hyx9⟩; intro w hSw; (try dsimp only at hSw); go_simp; (try with_reducible rfl))); (case hQx9 => exact (fun _ _ _ h => h)); (try simp only [Act.put, List.setIfInBounds_toArray, List.set_cons_zero, List.set_cons_succ]))
  (refine wpAnyL_take (n := 0) (i := 9) (oi := ?ox10) (v := ?vx10) ?hix10 ?k1x10 ?k2x10 ?k3x10 ?k4x10 ?k5x10 ?k6x10 ?hQx10 ?hYx10 ?hSx10 ?restx10; (case hix10 => (simp only [List.getElem?_toArray, List.getElem?_cons_succ, List.getElem?_cons_zero]; exact rfl)); (case k1x10 => kernel_rfl); (case k2x10 => kernel_rfl); (case k3x10 => kernel_rfl); (case k4x10 => kernel_rfl); (case k5x10 => kernel_rfl); (case k6x10 => kernel_rfl); (case hSx10 => assumption); (case hYx10 => (refine Or.inl ⟨rfl, ?hyx10⟩; intro w hSw; (try dsimp only at hSw); go_simp; (try with_reducible rfl))); (case hQx10 => exact (fun _ _ _ h => h)); (try simp only [Act.put, List.setIfInBounds_toArray, List.set_cons_zero, List.set_cons_succ]))
  (refine wpAnyL_take (n := 0) (i := 10) (oi := ?ox11) (v := ?vx11) ?hix11 ?k1x11 ?k2x11 ?k3x11 ?k4x11 ?k5x11 ?k6x11 ?hQx11 ?hYx11 ?hSx11 ?restx11; (case hix11 => (simp only [List.getElem?_toArray, List.getElem?_cons_succ, List.getElem?_cons_zero]; exact rfl)); (case k1x11 => kernel_rfl); (case k2x11 => kernel_rfl); (case k3x11 => kernel_rfl); (case k4x11 => kernel_rfl); (case k5x11 => kernel_rfl); (case k6x11 => kernel_rfl); (case hSx11 => assumption); (case hYx11 => (refine Or.inl ⟨rfl, ?hyx11⟩; intro w hSw; (try dsimp only at hSw); go_simp; (try with_reducible rfl))); (case hQx11 => exact (fun _ _ _ h => h)); (try simp only [Act.put, List.setIfInBounds_toArray, List.set_cons_zero, List.set_cons_succ]))
  (refine wpAnyL_done (by kernel_rfl) ?_ _)
  clear hHeld
  obtain ⟨x0, x1, x2, x3, x4, x5, x6, x7, x8, x9⟩ := blk_lA HXL.out
  go_wp2_with fail
  go_at_call 43
  refine (nmW61_c (HRL0.out.below HBZ.out) (HRW0.out.below HBZ.out)).mono ?_
  rintro e w1 ⟨rfl, hb9⟩
  have t0 := below_tr HB.out hb9; have t1 := HXL.out.below hb9 HXL.out.lt; have t2 := below_tr HBZ.out hb9; have t3 := HXR.out.below hb9 HXR.out.lt
  clear HB HXL HBZ HXR
  have HB := Lib.hid t0; have HXL := Lib.hid t1; have HBZ := Lib.hid t2; have HXR := Lib.hid t3
  clear t0 t1 t2 t3
  clear hb9 
  clear x0 x1 x2 x3 x4 x5 x6 x7 x8 x9
  have mk21 := mk_h9
  go_upto_region 17 with fail
  refine wp_region_till [] (fun U => U.cell? ⟨z, 0, none⟩ = some (.slice VA 4 4) ∧ U.cell? ⟨z, 1, none⟩ = some (.int .i64 valL.crest) ∧ U.cell? ⟨z, 2, none⟩ = some (.int .i64 valL.weak) ∧ U.cell? ⟨z, 3, none⟩ = some (.int .i64 valL.soft.1) ∧ U.cell? ⟨z, 4, none⟩ = some (.int .i64 valL.soft.2) ∧ U.cell? ⟨z, 5, none⟩ = some (.int .i64 valL.start.1) ∧ U.cell? ⟨z, 6, none⟩ = some (.int .i64 valL.start.2) ∧ U.cell? ⟨z, 7, none⟩ = some (.int .i64 valL.seep.1) ∧ U.cell? ⟨z, 8, none⟩ = some (.int .i64 valL.seep.2) ∧ U.cell? ⟨z, 9, none⟩ = some (.slice IA 4 4) ∧ U.cell? ⟨gR, 0, none⟩ = some (.int .i64 rivR.loss) ∧ U.cell? ⟨gR, 1, none⟩ = some (.int .i64 rivR.pace.1) ∧ U.cell? ⟨gR, 2, none⟩ = some (.int .i64 rivR.pace.2)) (by kernel_rfl) (by exact and10 (blk_lA (show Blk w1.drew z _ _ from HXL.out)) ⟨(show Blk w1.drew gR _ _ from HXR.out).cell 0, (show Blk w1.drew gR _ _ from HXR.out).cell 1, (show Blk w1.drew gR _ _ from HXR.out).cell 2⟩) (fun hHeld => ?_)
  have hb9 := (Below.refl w1.heap.size w1).drew
  have t0 := below_tr HB.out hb9; have t1 := HXL.out.below hb9 HXL.out.lt; have t2 := below_tr HBZ.out hb9; have t3 := HXR.out.below hb9 HXR.out.lt
  clear HB HXL HBZ HXR
  have HB := Lib.hid t0; have HXL := Lib.hid t1; have HBZ := Lib.hid t2; have HXR := Lib.hid t3
  clear t0 t1 t2 t3
  clear hb9
  revert hHeld HB HXL HBZ HXR
  generalize w1.drew = w0
  intro hHeld HB HXL HBZ HXR
  (refine wpAnyL_take (n := 0) (i := 0) (oi := ?ox12) (v := ?vx12) ?hix12 ?k1x12 ?k2x12 ?k3x12 ?k4x12 ?k5x12 ?k6x12 ?hQx12 ?hYx12 ?hSx12 ?restx12; (case hix12 => (simp only [List.getElem?_toArray, List.getElem?_cons_succ, List.getElem?_cons_zero]; exact rfl)); (case k1x12 => kernel_rfl); (case k2x12 => kernel_rfl); (case k3x12 => kernel_rfl); (case k4x12 => kernel_rfl); (case k5x12 => kernel_rfl); (case k6x12 => kernel_rfl); (case hSx12 => assumption); (case hYx12 => (refine Or.inl ⟨rfl, ?hyx12⟩; intro w hSw; (try dsimp only at hSw); go_simp; (try with_reducible rfl))); (case hQx12 => exact (fun _ _ _ h => h)); (try simp only [Act.put, List.setIfInBounds_toArray, List.set_cons_zero, List.set_cons_succ]))
  (refine wpAnyL_take (n := 0) (i := 1) (oi := ?ox13) (v := ?vx13) ?hix13 ?k1x13 ?k2x13 ?k3x13 ?k4x13 ?k5x13 ?k6x13 ?hQx13 ?hYx13 ?hSx13 ?restx13; (case hix13 => (simp only [List.getElem?_toArray, List.getElem?_cons_succ, List.getElem?_cons_zero]; exact rfl)); (case k1x13 => kernel_rfl); (case k2x13 => kernel_rfl); (case k3x13 => kernel_rfl); (case k4x13 => kernel_rfl); (case k5x13 => kernel_rfl); (case k6x13 => kernel_rfl); (case hSx13 => assumption); (case hYx13 => (refine Or.inl ⟨rfl, ?hyx13⟩; intro w hSw; (try dsimp only at hSw); go_simp; (try with_reducible rfl))); (case hQx13 => exact (fun _ _ _ h => h)); (try simp only [Act.put, List.setIfInBounds_toArray, List.set_cons_zero, List.set_cons_succ]))
  (refine wpAnyL_take (n := 0) (i := 2) (oi := ?ox14) (v := ?vx14) ?hix14 ?k1x14 ?k2x14 ?k3x14 ?k4x14 ?k5x14 ?k6x14 ?hQx14 ?hYx14 ?hSx14 ?restx14; (case hix14 => (simp only [List.getElem?_toArray, List.getElem?_cons_succ, List.getElem?_cons_zero]; exact rfl)); (case k1x14 => kernel_rfl); (case k2x14 => kernel_rfl); (case k3x14 => kernel_rfl); (case k4x14 => kernel_rfl); (case k5x14 => kernel_rfl); (case k6x14 => kernel_rfl); (case hSx14 => assumption); (case hYx14 => (refine Or.inl ⟨rfl, ?hyx14⟩; intro w hSw; (try dsimp only at hSw); go_simp; (try with_reducible rfl))); (case hQx14 => exact (fun _ _ _ h => h)); (try simp only [Act.put, List.setIfInBounds_toArray, List.set_cons_zero, List.set_cons_succ]))
  refine wpAnyL_ready (rs := [3]) (by kernel_rfl) (by simp) ?_
  refine AllReadyL.cons (o := ?o3x15) ?hi3x15 (fun K hK => ?_) AllReadyL.nil
  (case hi3x15 => (simp only [List.getElem?_toArray, List.getElem?_cons_succ, List.getElem?_cons_zero]; exact rfl))
  go_simp
  have hal := (Below.refl w0.heap.size w0).alloc (Nat.le_refl _) (.cells (madeCells #[.int .i64 0, .int .i64 0, .int .i64 0] (21 * 3)) 154)
  have hn := Blk.new w0 154 (madeCells #[.int .i64 0, .int .i64 0, .int .i64 0] (21 * 3))
  have t0 := below_tr HB.out hal; have t1 := HXL.out.below hal HXL.out.lt; have t2 := below_tr HBZ.out hal; have t3 := HXR.out.below hal HXR.out.lt
  clear HB HXL HBZ HXR
  have HB := Lib.hid t0; have HXL := Lib.hid t1; have HBZ := Lib.hid t2; have HXR := Lib.hid t3
  clear t0 t1 t2 t3
  have HM21 := Lib.hid hn
  clear hal hn
  (try clear hHeld)
  refine hK.out _ _ (by (try dsimp only); exact and10 (blk_lA HXL.out) ⟨HXR.out.cell 0, HXR.out.cell 1, HXR.out.cell 2⟩) (fun hHeld => ?_)
  clear hK K
  (try simp only [Act.put, List.setIfInBounds_toArray, List.set_cons_zero, List.set_cons_succ])
  revert hHeld HB HXL HBZ HXR HM21
  generalize hgM : w0.heap.size = gM
  generalize (World.alloc w0 (.cells (madeCells #[.int .i64 0, .int .i64 0, .int .i64 0] (21 * 3)) 154)) = w0
  intro HB HXL HBZ HXR HM21 hHeld
  clear hgM
  refine wpAnyL_ready (rs := [4]) (by kernel_rfl) (by simp) ?_
  refine AllReadyL.cons (o := ?o4x16) ?hi4x16 (fun K hK => ?_) AllReadyL.nil
  (case hi4x16 => (simp only [List.getElem?_toArray, List.getElem?_cons_succ, List.getElem?_cons_zero]; exact rfl))
  go_simp
  go_at_call 43
  refine (nmW21_c (HRL0.out.below HBZ.out) (HRW0.out.below HBZ.out) (rd_made (k := 3) (⟨0, 0, 0⟩ : Hou) rfl (by decide) rfl HM21.out)).mono ?_
  rintro e w1 ⟨rfl, hb9⟩
  have t0 := below_tr HB.out hb9; have t1 := HXL.out.below hb9 HXL.out.lt; have t2 := below_tr HBZ.out hb9; have t3 := HXR.out.below hb9 HXR.out.lt; have t4 := HM21.out.below hb9 HM21.out.lt
  clear HB HXL HBZ HXR HM21
  have HB := Lib.hid t0; have HXL := Lib.hid t1; have HBZ := Lib.hid t2; have HXR := Lib.hid t3; have HM21 := Lib.hid t4
  clear t0 t1 t2 t3 t4
  clear hb9 
  clear HM21
  (try go_wp2_with fail)
  (try clear hHeld)
  refine hK.out _ _ (by (try dsimp only); exact and10 (blk_lA HXL.out) ⟨HXR.out.cell 0, HXR.out.cell 1, HXR.out.cell 2⟩) (fun hHeld => ?_)
  clear hK K
  (try simp only [Act.put, List.setIfInBounds_toArray, List.set_cons_zero, List.set_cons_succ])
  (refine wpAnyL_take (n := 0) (i := 5) (oi := ?ox17) (v := ?vx17) ?hix17 ?k1x17 ?k2x17 ?k3x17 ?k4x17 ?k5x17 ?k6x17 ?hQx17 ?hYx17 ?hSx17 ?restx17; (case hix17 => (simp only [List.getElem?_toArray, List.getElem?_cons_succ, List.getElem?_cons_zero]; exact rfl)); (case k1x17 => kernel_rfl); (case k2x17 => kernel_rfl); (case k3x17 => kernel_rfl); (case k4x17 => kernel_rfl); (case k5x17 => kernel_rfl); (case k6x17 => kernel_rfl); (case hSx17 => assumption); (case hYx17 => (refine Or.inl ⟨rfl, ?hyx17⟩; intro w hSw; (try dsimp only at hSw); go_simp; (try with_reducible rfl))); (case hQx17 => exact (fun _ _ _ h => h)); (try simp only [Act.put, List.setIfInBounds_toArray, List.set_cons_zero, List.set_cons_succ]))
  (refine wpAnyL_take (n := 0) (i := 6) (oi := ?ox18) (v := ?vx18) ?hix18 ?k1x18 ?k2x18 ?k3x18 ?k4x18 ?k5x18 ?k6x18 ?hQx18 ?hYx18 ?hSx18 ?restx18; (case hix18 => (simp only [List.getElem?_toArray, List.getElem?_cons_succ, List.getElem?_cons_zero]; exact rfl)); (case k1x18 => kernel_rfl); (case k2x18 => kernel_rfl); (case k3x18 => kernel_rfl); (case k4x18 => kernel_rfl); (case k5x18 => kernel_rfl); (case k6x18 => kernel_rfl); (case hSx18 => assumption); (case hYx18 => (refine Or.inl ⟨rfl, ?hyx18⟩; intro w hSw; (try dsimp only at hSw); go_simp; (try with_reducible rfl))); (case hQx18 => exact (fun _ _ _ h => h)); (try simp only [Act.put, List.setIfInBounds_toArray, List.set_cons_zero, List.set_cons_succ]))
  (refine wpAnyL_take (n := 0) (i := 7) (oi := ?ox19) (v := ?vx19) ?hix19 ?k1x19 ?k2x19 ?k3x19 ?k4x19 ?k5x19 ?k6x19 ?hQx19 ?hYx19 ?hSx19 ?restx19; (case hix19 => (simp only [List.getElem?_toArray, List.getElem?_cons_succ, List.getElem?_cons_zero]; exact rfl)); (case k1x19 => kernel_rfl); (case k2x19 => kernel_rfl); (case k3x19 => kernel_rfl); (case k4x19 => kernel_rfl); (case k5x19 => kernel_rfl); (case k6x19 => kernel_rfl); (case hSx19 => assumption); (case hYx19 => (refine Or.inl ⟨rfl, ?hyx19⟩; intro w hSw; (try dsimp only at hSw); go_simp; (try with_reducible rfl))); (case hQx19 => exact (fun _ _ _ h => h)); (try simp only [Act.put, List.setIfInBounds_toArray, List.set_cons_zero, List.set_cons_succ]))
  (refine wpAnyL_take (n := 0) (i := 8) (oi := ?ox20) (v := ?vx20) ?hix20 ?k1x20 ?k2x20 ?k3x20 ?k4x20 ?k5x20 ?k6x20 ?hQx20 ?hYx20 ?hSx20 ?restx20; (case hix20 => (simp only [List.getElem?_toArray, List.getElem?_cons_succ, List.getElem?_cons_zero]; exact rfl)); (case k1x20 => kernel_rfl); (case k2x20 => kernel_rfl); (case k3x20 => kernel_rfl); (case k4x20 => kernel_rfl); (case k5x20 => kernel_rfl); (case k6x20 => kernel_rfl); (case hSx20 => assumption); (case hYx20 => (refine Or.inl ⟨rfl, ?hyx20⟩; intro w hSw; (try dsimp only at hSw); go_simp; (try with_reducible rfl))); (case hQx20 => exact (fun _ _ _ h => h)); (try simp only [Act.put, List.setIfInBounds_toArray, List.set_cons_zero, List.set_cons_succ]))
  (refine wpAnyL_take (n := 0) (i := 9) (oi := ?ox21) (v := ?vx21) ?hix21 ?k1x21 ?k2x21 ?k3x21 ?k4x21 ?k5x21 ?k6x21 ?hQx21 ?hYx21 ?hSx21 ?restx21; (case hix21 => (simp only [List.getElem?_toArray, List.getElem?_cons_succ, List.getElem?_cons_zero]; exact rfl)); (case k1x21 => kernel_rfl); (case k2x21 => kernel_rfl); (case k3x21 => kernel_rfl); (case k4x21 => kernel_rfl); (case k5x21 => kernel_rfl); (case k6x21 => kernel_rfl); (case hSx21 => assumption); (case hYx21 => (refine Or.inl ⟨rfl, ?hyx21⟩; intro w hSw; (try dsimp only at hSw); go_simp; (try with_reducible rfl))); (case hQx21 => exact (fun _ _ _ h => h)); (try simp only [Act.put, List.setIfInBounds_toArray, List.set_cons_zero, List.set_cons_succ]))
  (refine wpAnyL_done (by kernel_rfl) ?_ _)
  clear hHeld mk21
  have mk11 := mk_w9
  go_upto_region 18 with fail
  refine wp_region_till [] (fun U => U.cell? ⟨z, 0, none⟩ = some (.slice VA 4 4) ∧ U.cell? ⟨z, 1, none⟩ = some (.int .i64 valL.crest) ∧ U.cell? ⟨z, 2, none⟩ = some (.int .i64 valL.weak) ∧ U.cell? ⟨z, 3, none⟩ = some (.int .i64 valL.soft.1) ∧ U.cell? ⟨z, 4, none⟩ = some (.int .i64 valL.soft.2) ∧ U.cell? ⟨z, 5, none⟩ = some (.int .i64 valL.start.1) ∧ U.cell? ⟨z, 6, none⟩ = some (.int .i64 valL.start.2) ∧ U.cell? ⟨z, 7, none⟩ = some (.int .i64 valL.seep.1) ∧ U.cell? ⟨z, 8, none⟩ = some (.int .i64 valL.seep.2) ∧ U.cell? ⟨z, 9, none⟩ = some (.slice IA 4 4)) (by kernel_rfl) (by exact blk_lA (show Blk w1.drew z _ _ from HXL.out)) (fun hHeld => ?_)
  have hb9 := (Below.refl w1.heap.size w1).drew
  have t0 := below_tr HB.out hb9; have t1 := HXL.out.below hb9 HXL.out.lt; have t2 := below_tr HBZ.out hb9; have t3 := HXR.out.below hb9 HXR.out.lt
  clear HB HXL HBZ HXR
  have HB := Lib.hid t0; have HXL := Lib.hid t1; have HBZ := Lib.hid t2; have HXR := Lib.hid t3
  clear t0 t1 t2 t3
  clear hb9
  revert hHeld HB HXL HBZ HXR
  generalize w1.drew = w0
  intro hHeld HB HXL HBZ HXR
  (refine wpAnyL_take (n := 0) (i := 0) (oi := ?ox22) (v := ?vx22) ?hix22 ?k1x22 ?k2x22 ?k3x22 ?k4x22 ?k5x22 ?k6x22 ?hQx22 ?hYx22 ?hSx22 ?restx22; (case hix22 => (simp only [List.getElem?_toArray, List.getElem?_cons_succ, List.getElem?_cons_zero]; exact rfl)); (case k1x22 => kernel_rfl); (case k2x22 => kernel_rfl); (case k3x22 => kernel_rfl); (case k4x22 => kernel_rfl); (case k5x22 => kernel_rfl); (case k6x22 => kernel_rfl); (case hSx22 => assumption); (case hYx22 => (refine Or.inl ⟨rfl, ?hyx22⟩; intro w hSw; (try dsimp only at hSw); go_simp; (try with_reducible rfl))); (case hQx22 => exact (fun _ _ _ h => h)); (try simp only [Act.put, List.setIfInBounds_toArray, List.set_cons_zero, List.set_cons_succ]))
  refine wpAnyL_ready (rs := [1]) (by kernel_rfl) (by simp) ?_
  refine AllReadyL.cons (o := ?o1x23) ?hi1x23 (fun K hK => ?_) AllReadyL.nil
  (case hi1x23 => (simp only [List.getElem?_toArray, List.getElem?_cons_succ, List.getElem?_cons_zero]; exact rfl))
  go_simp
  have hal := (Below.refl w0.heap.size w0).alloc (Nat.le_refl _) (.cells (madeCells #[.int .i64 0, .int .i64 0, .int .i64 0] (11 * 3)) 71)
  have hn := Blk.new w0 71 (madeCells #[.int .i64 0, .int .i64 0, .int .i64 0] (11 * 3))
  have t0 := below_tr HB.out hal; have t1 := HXL.out.below hal HXL.out.lt; have t2 := below_tr HBZ.out hal; have t3 := HXR.out.below hal HXR.out.lt
  clear HB HXL HBZ HXR
  have HB := Lib.hid t0; have HXL := Lib.hid t1; have HBZ := Lib.hid t2; have HXR := Lib.hid t3
  clear t0 t1 t2 t3
  have HM11 := Lib.hid hn
  clear hal hn
  (try clear hHeld)
  refine hK.out _ _ (by (try dsimp only); exact blk_lA HXL.out) (fun hHeld => ?_)
  clear hK K
  (try simp only [Act.put, List.setIfInBounds_toArray, List.set_cons_zero, List.set_cons_succ])
  revert hHeld HB HXL HBZ HXR HM11
  generalize hgM : w0.heap.size = gM
  generalize (World.alloc w0 (.cells (madeCells #[.int .i64 0, .int .i64 0, .int .i64 0] (11 * 3)) 71)) = w0
  intro HB HXL HBZ HXR HM11 hHeld
  clear hgM
  refine wpAnyL_ready (rs := [2]) (by kernel_rfl) (by simp) ?_
  refine AllReadyL.cons (o := ?o2x24) ?hi2x24 (fun K hK => ?_) AllReadyL.nil
  (case hi2x24 => (simp only [List.getElem?_toArray, List.getElem?_cons_succ, List.getElem?_cons_zero]; exact rfl))
  go_simp
  go_at_call 19
  refine (nmC11_c (HRL0.out.below HBZ.out) (rd_made (k := 3) (⟨0, 0, 0⟩ : Wrk) rfl (by decide) rfl HM11.out)).mono ?_
  rintro e w1 ⟨rfl, hb9⟩
  have t0 := below_tr HB.out hb9; have t1 := HXL.out.below hb9 HXL.out.lt; have t2 := below_tr HBZ.out hb9; have t3 := HXR.out.below hb9 HXR.out.lt; have t4 := HM11.out.below hb9 HM11.out.lt
  clear HB HXL HBZ HXR HM11
  have HB := Lib.hid t0; have HXL := Lib.hid t1; have HBZ := Lib.hid t2; have HXR := Lib.hid t3; have HM11 := Lib.hid t4
  clear t0 t1 t2 t3 t4
  clear hb9 
  clear HM11
  (try go_wp2_with fail)
  (try clear hHeld)
  refine hK.out _ _ (by (try dsimp only); exact blk_lA HXL.out) (fun hHeld => ?_)
  clear hK K
  (try simp only [Act.put, List.setIfInBounds_toArray, List.set_cons_zero, List.set_cons_succ])
  (refine wpAnyL_take (n := 0) (i := 3) (oi := ?ox25) (v := ?vx25) ?hix25 ?k1x25 ?k2x25 ?k3x25 ?k4x25 ?k5x25 ?k6x25 ?hQx25 ?hYx25 ?hSx25 ?restx25; (case hix25 => (simp only [List.getElem?_toArray, List.getElem?_cons_succ, List.getElem?_cons_zero]; exact rfl)); (case k1x25 => kernel_rfl); (case k2x25 => kernel_rfl); (case k3x25 => kernel_rfl); (case k4x25 => kernel_rfl); (case k5x25 => kernel_rfl); (case k6x25 => kernel_rfl); (case hSx25 => assumption); (case hYx25 => (refine Or.inl ⟨rfl, ?hyx25⟩; intro w hSw; (try dsimp only at hSw); go_simp; (try with_reducible rfl))); (case hQx25 => exact (fun _ _ _ h => h)); (try simp only [Act.put, List.setIfInBounds_toArray, List.set_cons_zero, List.set_cons_succ]))
  (refine wpAnyL_take (n := 0) (i := 4) (oi := ?ox26) (v := ?vx26) ?hix26 ?k1x26 ?k2x26 ?k3x26 ?k4x26 ?k5x26 ?k6x26 ?hQx26 ?hYx26 ?hSx26 ?restx26; (case hix26 => (simp only [List.getElem?_toArray, List.getElem?_cons_succ, List.getElem?_cons_zero]; exact rfl)); (case k1x26 => kernel_rfl); (case k2x26 => kernel_rfl); (case k3x26 => kernel_rfl); (case k4x26 => kernel_rfl); (case k5x26 => kernel_rfl); (case k6x26 => kernel_rfl); (case hSx26 => assumption); (case hYx26 => (refine Or.inl ⟨rfl, ?hyx26⟩; intro w hSw; (try dsimp only at hSw); go_simp; (try with_reducible rfl))); (case hQx26 => exact (fun _ _ _ h => h)); (try simp only [Act.put, List.setIfInBounds_toArray, List.set_cons_zero, List.set_cons_succ]))
  (refine wpAnyL_take (n := 0) (i := 5) (oi := ?ox27) (v := ?vx27) ?hix27 ?k1x27 ?k2x27 ?k3x27 ?k4x27 ?k5x27 ?k6x27 ?hQx27 ?hYx27 ?hSx27 ?restx27; (case hix27 => (simp only [List.getElem?_toArray, List.getElem?_cons_succ, List.getElem?_cons_zero]; exact rfl)); (case k1x27 => kernel_rfl); (case k2x27 => kernel_rfl); (case k3x27 => kernel_rfl); (case k4x27 => kernel_rfl); (case k5x27 => kernel_rfl); (case k6x27 => kernel_rfl); (case hSx27 => assumption); (case hYx27 => (refine Or.inl ⟨rfl, ?hyx27⟩; intro w hSw; (try dsimp only at hSw); go_simp; (try with_reducible rfl))); (case hQx27 => exact (fun _ _ _ h => h)); (try simp only [Act.put, List.setIfInBounds_toArray, List.set_cons_zero, List.set_cons_succ]))
  (refine wpAnyL_take (n := 0) (i := 6) (oi := ?ox28) (v := ?vx28) ?hix28 ?k1x28 ?k2x28 ?k3x28 ?k4x28 ?k5x28 ?k6x28 ?hQx28 ?hYx28 ?hSx28 ?restx28; (case hix28 => (simp only [List.getElem?_toArray, List.getElem?_cons_succ, List.getElem?_cons_zero]; exact rfl)); (case k1x28 => kernel_rfl); (case k2x28 => kernel_rfl); (case k3x28 => kernel_rfl); (case k4x28 => kernel_rfl); (case k5x28 => kernel_rfl); (case k6x28 => kernel_rfl); (case hSx28 => assumption); (case hYx28 => (refine Or.inl ⟨rfl, ?hyx28⟩; intro w hSw; (try dsimp only at hSw); go_simp; (try with_reducible rfl))); (case hQx28 => exact (fun _ _ _ h => h)); (try simp only [Act.put, List.setIfInBounds_toArray, List.set_cons_zero, List.set_cons_succ]))
  (refine wpAnyL_take (n := 0) (i := 7) (oi := ?ox29) (v := ?vx29) ?hix29 ?k1x29 ?k2x29 ?k3x29 ?k4x29 ?k5x29 ?k6x29 ?hQx29 ?hYx29 ?hSx29 ?restx29; (case hix29 => (simp only [List.getElem?_toArray, List.getElem?_cons_succ, List.getElem?_cons_zero]; exact rfl)); (case k1x29 => kernel_rfl); (case k2x29 => kernel_rfl); (case k3x29 => kernel_rfl); (case k4x29 => kernel_rfl); (case k5x29 => kernel_rfl); (case k6x29 => kernel_rfl); (case hSx29 => assumption); (case hYx29 => (refine Or.inl ⟨rfl, ?hyx29⟩; intro w hSw; (try dsimp only at hSw); go_simp; (try with_reducible rfl))); (case hQx29 => exact (fun _ _ _ h => h)); (try simp only [Act.put, List.setIfInBounds_toArray, List.set_cons_zero, List.set_cons_succ]))
  (refine wpAnyL_take (n := 0) (i := 8) (oi := ?ox30) (v := ?vx30) ?hix30 ?k1x30 ?k2x30 ?k3x30 ?k4x30 ?k5x30 ?k6x30 ?hQx30 ?hYx30 ?hSx30 ?restx30; (case hix30 => (simp only [List.getElem?_toArray, List.getElem?_cons_succ, List.getElem?_cons_zero]; exact rfl)); (case k1x30 => kernel_rfl); (case k2x30 => kernel_rfl); (case k3x30 => kernel_rfl); (case k4x30 => kernel_rfl); (case k5x30 => kernel_rfl); (case k6x30 => kernel_rfl); (case hSx30 => assumption); (case hYx30 => (refine Or.inl ⟨rfl, ?hyx30⟩; intro w hSw; (try dsimp only at hSw); go_simp; (try with_reducible rfl))); (case hQx30 => exact (fun _ _ _ h => h)); (try simp only [Act.put, List.setIfInBounds_toArray, List.set_cons_zero, List.set_cons_succ]))
  (refine wpAnyL_take (n := 0) (i := 9) (oi := ?ox31) (v := ?vx31) ?hix31 ?k1x31 ?k2x31 ?k3x31 ?k4x31 ?k5x31 ?k6x31 ?hQx31 ?hYx31 ?hSx31 ?restx31; (case hix31 => (simp only [List.getElem?_toArray, List.getElem?_cons_succ, List.getElem?_cons_zero]; exact rfl)); (case k1x31 => kernel_rfl); (case k2x31 => kernel_rfl); (case k3x31 => kernel_rfl); (case k4x31 => kernel_rfl); (case k5x31 => kernel_rfl); (case k6x31 => kernel_rfl); (case hSx31 => assumption); (case hYx31 => (refine Or.inl ⟨rfl, ?hyx31⟩; intro w hSw; (try dsimp only at hSw); go_simp; (try with_reducible rfl))); (case hQx31 => exact (fun _ _ _ h => h)); (try simp only [Act.put, List.setIfInBounds_toArray, List.set_cons_zero, List.set_cons_succ]))
  (refine wpAnyL_done (by kernel_rfl) ?_ _)
  clear hHeld mk11
  obtain ⟨x0, x1, x2, x3, x4, x5, x6, x7, x8, x9⟩ := blk_lA HXL.out
  go_wp2_with fail
  have hal := (Below.refl w1.heap.size w1).alloc (Nat.le_refl _) (.cells #[.int .i64 0, .int .i64 (-1), .int .i64 0] 71)
  have hn2 := Blk.new w1 71 #[.int .i64 0, .int .i64 (-1), .int .i64 0]
  have t0 := below_tr HB.out hal; have t1 := HXL.out.below hal HXL.out.lt; have t2 := below_tr HBZ.out hal; have t3 := HXR.out.below hal HXR.out.lt
  clear HB HXL HBZ HXR
  have HB := Lib.hid t0; have HXL := Lib.hid t1; have HBZ := Lib.hid t2; have HXR := Lib.hid t3
  clear t0 t1 t2 t3
  clear hal
  go_at_call 19
  refine (nmCn_c (HRL0.out.below HBZ.out) (Rd.of_blkE encW_len hn2 rfl rfl)).mono ?_
  rintro e w1 ⟨rfl, hb9⟩
  have t0 := below_tr HB.out hb9; have t1 := HXL.out.below hb9 HXL.out.lt; have t2 := below_tr HBZ.out hb9; have t3 := HXR.out.below hb9 HXR.out.lt
  clear HB HXL HBZ HXR
  have HB := Lib.hid t0; have HXL := Lib.hid t1; have HBZ := Lib.hid t2; have HXR := Lib.hid t3
  clear t0 t1 t2 t3
  clear hb9 
  clear hn2
  clear x0 x1 x2 x3 x4 x5 x6 x7 x8 x9
  go_wp2_with fail
  go_at_call 53
  refine (valley_c _).mono ?_
  rintro e w1 ⟨VH, IH, rfl, hrl, hb9⟩
  have t0 := below_tr HB.out hb9; have t1 := HXL.out.below hb9 HXL.out.lt; have t2 := below_tr HBZ.out hb9; have t3 := HXR.out.below hb9 HXR.out.lt
  clear HB HXL HBZ HXR
  have HB := Lib.hid t0; have HXL := Lib.hid t1; have HBZ := Lib.hid t2; have HXR := Lib.hid t3
  clear t0 t1 t2 t3
  have HRH := Lib.hid hrl
  clear hb9 hrl
  go_upto_region 22 with fail
  have hfold : ∀ P : World → Prop, P (w1.alloc (.cells (lA VH 4 4 IH 4 4 highL) 38)) → P (w1.alloc (.cells #[.slice VH 4 4, .int .i64 valL.crest, .int .i64 valL.weak, .int .i64 valL.soft.1, .int .i64 valL.soft.2, .int .i64 valL.start.1, .int .i64 250, .int .i64 valL.seep.1, .int .i64 valL.seep.2, .slice IH 4 4] 38)) := fun P h => h
  refine hfold _ ?_
  clear hfold
  have hal := (Below.refl w1.heap.size w1).alloc (Nat.le_refl _) (.cells (lA VH 4 4 IH 4 4 highL) 38)
  have hn2 := Blk.new w1 38 (lA VH 4 4 IH 4 4 highL)
  have t0 := below_tr HB.out hal; have t1 := HXL.out.below hal HXL.out.lt; have t2 := below_tr HBZ.out hal; have t3 := HXR.out.below hal HXR.out.lt; have t4 := HRH.out.below hal
  clear HB HXL HBZ HXR HRH
  have HB := Lib.hid t0; have HXL := Lib.hid t1; have HBZ := Lib.hid t2; have HXR := Lib.hid t3; have HRH := Lib.hid t4
  clear t0 t1 t2 t3 t4
  have HXH := Lib.hid hn2
  clear hal hn2
  revert HB HXL HBZ HXR HRH HXH
  generalize hg2 : w1.heap.size = gH
  generalize (World.alloc w1 (.cells (lA VH 4 4 IH 4 4 highL) 38)) = w1
  intro HB HXL HBZ HXR HRH HXH
  clear hg2
  go_wp2_with fail
  go_at_call 53
  refine (valley_c _).mono ?_
  rintro e w1 ⟨VB, IB, rfl, hrl, hb9⟩
  have t0 := below_tr HB.out hb9; have t1 := HXL.out.below hb9 HXL.out.lt; have t2 := below_tr HBZ.out hb9; have t3 := HXR.out.below hb9 HXR.out.lt; have t4 := HRH.out.below hb9; have t5 := HXH.out.below hb9 HXH.out.lt
  clear HB HXL HBZ HXR HRH HXH
  have HB := Lib.hid t0; have HXL := Lib.hid t1; have HBZ := Lib.hid t2; have HXR := Lib.hid t3; have HRH := Lib.hid t4; have HXH := Lib.hid t5
  clear t0 t1 t2 t3 t4 t5
  have HRB := Lib.hid hrl
  clear hb9 hrl
  have mk31 : ∀ W : World, (Instr.makeSlice 22 (.int .i64 31) (.int .i64 31)).run Try.prog W = .ok (.slice (some ⟨W.heap.size, 0, none⟩) 31 31) (W.alloc (.cells (madeCells #[.int .i64 0] (31 * 1)) 3)) := fun W => mk_i9 31 (by omega) W
  go_upto_region 24 with fail
  clear mk31
  have hfold : ∀ P : World → Prop, P ((w1.alloc (.cells (lA (some ⟨w1.heap.size + 1, 0, none⟩) 31 31 IB 4 4 longL) 38)).alloc (.cells (madeCells #[.int .i64 0] 31) 3)) → P ((w1.alloc (.cells #[.slice (some ⟨w1.heap.size + 1, 0, none⟩) 31 31, .int .i64 valL.crest, .int .i64 valL.weak, .int .i64 valL.soft.1, .int .i64 valL.soft.2, .int .i64 valL.start.1, .int .i64 valL.start.2, .int .i64 valL.seep.1, .int .i64 valL.seep.2, .slice IB 4 4] 38)).alloc (.cells (madeCells #[.int .i64 0] 31) 3)) := fun P h => h
  refine hfold _ ?_
  clear hfold
  have hal := ((Below.refl w1.heap.size w1).alloc (Nat.le_refl _) (.cells (lA (some ⟨w1.heap.size + 1, 0, none⟩) 31 31 IB 4 4 longL) 38)).alloc (by simp) (.cells (madeCells #[.int .i64 0] 31) 3)
  have hn2 := (Blk.new w1 38 (lA (some ⟨w1.heap.size + 1, 0, none⟩) 31 31 IB 4 4 longL)).alloc (.cells (madeCells #[.int .i64 0] 31) 3)
  have hn3 := Blk.new (w1.alloc (.cells (lA (some ⟨w1.heap.size + 1, 0, none⟩) 31 31 IB 4 4 longL) 38)) 3 (madeCells #[.int .i64 0] 31)
  simp only [World.size_alloc] at hn3
  have t0 := below_tr HB.out hal; have t1 := HXL.out.below hal HXL.out.lt; have t2 := below_tr HBZ.out hal; have t3 := HXR.out.below hal HXR.out.lt; have t4 := HRH.out.below hal; have t5 := HXH.out.below hal HXH.out.lt; have t6 := HRB.out.below hal
  clear HB HXL HBZ HXR HRH HXH HRB
  have HB := Lib.hid t0; have HXL := Lib.hid t1; have HBZ := Lib.hid t2; have HXR := Lib.hid t3; have HRH := Lib.hid t4; have HXH := Lib.hid t5; have HRB := Lib.hid t6
  clear t0 t1 t2 t3 t4 t5 t6
  have HXG := Lib.hid hn2; have HM31 := Lib.hid hn3
  clear hal hn2 hn3
  revert HB HXL HBZ HXR HRH HXH HRB HXG HM31
  generalize hg2 : w1.heap.size = gG
  generalize (World.alloc (World.alloc w1 (.cells (lA (some ⟨gG + 1, 0, none⟩) 31 31 IB 4 4 longL) 38)) (.cells (madeCells #[.int .i64 0] 31) 3)) = w1
  intro HB HXL HBZ HXR HRH HXH HRB HXG HM31
  clear hg2
  obtain ⟨x0, x1, x2, x3, x4, x5, x6, x7, x8, x9⟩ := blk_lA HXH.out
  go_wp2_with fail
  go_at_call 31
  refine (nmKh_c HRH.out).mono ?_
  rintro e w1 ⟨rfl, hb9⟩
  have t0 := below_tr HB.out hb9; have t1 := HXL.out.below hb9 HXL.out.lt; have t2 := below_tr HBZ.out hb9; have t3 := HXR.out.below hb9 HXR.out.lt; have t4 := HRH.out.below hb9; have t5 := HXH.out.below hb9 HXH.out.lt; have t6 := HRB.out.below hb9; have t7 := HXG.out.below hb9 HXG.out.lt; have t8 := HM31.out.below hb9 HM31.out.lt
  clear HB HXL HBZ HXR HRH HXH HRB HXG HM31
  have HB := Lib.hid t0; have HXL := Lib.hid t1; have HBZ := Lib.hid t2; have HXR := Lib.hid t3; have HRH := Lib.hid t4; have HXH := Lib.hid t5; have HRB := Lib.hid t6; have HXG := Lib.hid t7; have HM31 := Lib.hid t8
  clear t0 t1 t2 t3 t4 t5 t6 t7 t8
  clear hb9 
  clear x0 x1 x2 x3 x4 x5 x6 x7 x8 x9
  obtain ⟨x0, x1, x2, x3, x4, x5, x6, x7, x8, x9⟩ := blk_lA HXG.out
  go_wp2_with fail
  go_at_call 31
  refine (nmKl_c (rd_made (n := 31) (k := 1) (0 : Int) rfl (by decide) rfl HM31.out) HRB.out.infl).mono ?_
  rintro e w1 ⟨rfl, hb9⟩
  have t0 := below_tr HB.out hb9; have t1 := HXL.out.below hb9 HXL.out.lt; have t2 := below_tr HBZ.out hb9; have t3 := HXR.out.below hb9 HXR.out.lt; have t4 := HRH.out.below hb9; have t5 := HXH.out.below hb9 HXH.out.lt; have t6 := HRB.out.below hb9; have t7 := HXG.out.below hb9 HXG.out.lt; have t8 := HM31.out.below hb9 HM31.out.lt
  clear HB HXL HBZ HXR HRH HXH HRB HXG HM31
  have HB := Lib.hid t0; have HXL := Lib.hid t1; have HBZ := Lib.hid t2; have HXR := Lib.hid t3; have HRH := Lib.hid t4; have HXH := Lib.hid t5; have HRB := Lib.hid t6; have HXG := Lib.hid t7; have HM31 := Lib.hid t8
  clear t0 t1 t2 t3 t4 t5 t6 t7 t8
  clear hb9 
  clear x0 x1 x2 x3 x4 x5 x6 x7 x8 x9
  go_wp2_with fail
  go_at_call 31
  refine (nmK0_c _).mono ?_
  rintro e w1 ⟨rfl, hb9⟩
  have t0 := below_tr HB.out hb9; have t1 := HXL.out.below hb9 HXL.out.lt; have t2 := below_tr HBZ.out hb9; have t3 := HXR.out.below hb9 HXR.out.lt; have t4 := HRH.out.below hb9; have t5 := HXH.out.below hb9 HXH.out.lt; have t6 := HRB.out.below hb9; have t7 := HXG.out.below hb9 HXG.out.lt; have t8 := HM31.out.below hb9 HM31.out.lt
  clear HB HXL HBZ HXR HRH HXH HRB HXG HM31
  have HB := Lib.hid t0; have HXL := Lib.hid t1; have HBZ := Lib.hid t2; have HXR := Lib.hid t3; have HRH := Lib.hid t4; have HXH := Lib.hid t5; have HRB := Lib.hid t6; have HXG := Lib.hid t7; have HM31 := Lib.hid t8
  clear t0 t1 t2 t3 t4 t5 t6 t7 t8
  clear hb9 
  obtain ⟨x0, x1, x2, x3, x4, x5, x6, x7, x8, x9⟩ := blk_lA HXL.out
  go_wp2_with fail
  have hal := (Below.refl w1.heap.size w1).alloc (Nat.le_refl _) (.cells #[.int .i64 0, .int .i64 1] 3)
  have hn2 := Blk.new w1 3 #[.int .i64 0, .int .i64 1]
  have t0 := below_tr HB.out hal; have t1 := HXL.out.below hal HXL.out.lt; have t2 := below_tr HBZ.out hal; have t3 := HXR.out.below hal HXR.out.lt; have t4 := HRH.out.below hal; have t5 := HXH.out.below hal HXH.out.lt; have t6 := HRB.out.below hal; have t7 := HXG.out.below hal HXG.out.lt; have t8 := HM31.out.below hal HM31.out.lt
  clear HB HXL HBZ HXR HRH HXH HRB HXG HM31
  have HB := Lib.hid t0; have HXL := Lib.hid t1; have HBZ := Lib.hid t2; have HXR := Lib.hid t3; have HRH := Lib.hid t4; have HXH := Lib.hid t5; have HRB := Lib.hid t6; have HXG := Lib.hid t7; have HM31 := Lib.hid t8
  clear t0 t1 t2 t3 t4 t5 t6 t7 t8
  clear hal
  go_at_call 26
  refine (nmP_c nm_p01 (by decide) (HRL0.out.below HBZ.out) (HRW0.out.below HBZ.out) (Rd.of_blkE enc1_len hn2 rfl rfl)).mono ?_
  rintro e w1 ⟨rfl, hb9⟩
  have t0 := below_tr HB.out hb9; have t1 := HXL.out.below hb9 HXL.out.lt; have t2 := below_tr HBZ.out hb9; have t3 := HXR.out.below hb9 HXR.out.lt; have t4 := HRH.out.below hb9; have t5 := HXH.out.below hb9 HXH.out.lt; have t6 := HRB.out.below hb9; have t7 := HXG.out.below hb9 HXG.out.lt; have t8 := HM31.out.below hb9 HM31.out.lt
  clear HB HXL HBZ HXR HRH HXH HRB HXG HM31
  have HB := Lib.hid t0; have HXL := Lib.hid t1; have HBZ := Lib.hid t2; have HXR := Lib.hid t3; have HRH := Lib.hid t4; have HXH := Lib.hid t5; have HRB := Lib.hid t6; have HXG := Lib.hid t7; have HM31 := Lib.hid t8
  clear t0 t1 t2 t3 t4 t5 t6 t7 t8
  clear hb9 
  clear hn2
  clear x0 x1 x2 x3 x4 x5 x6 x7 x8 x9
  obtain ⟨x0, x1, x2, x3, x4, x5, x6, x7, x8, x9⟩ := blk_lA HXL.out
  go_wp2_with fail
  have hal := (Below.refl w1.heap.size w1).alloc (Nat.le_refl _) (.cells #[.int .i64 0] 3)
  have hn2 := Blk.new w1 3 #[.int .i64 0]
  have t0 := below_tr HB.out hal; have t1 := HXL.out.below hal HXL.out.lt; have t2 := below_tr HBZ.out hal; have t3 := HXR.out.below hal HXR.out.lt; have t4 := HRH.out.below hal; have t5 := HXH.out.below hal HXH.out.lt; have t6 := HRB.out.below hal; have t7 := HXG.out.below hal HXG.out.lt; have t8 := HM31.out.below hal HM31.out.lt
  clear HB HXL HBZ HXR HRH HXH HRB HXG HM31
  have HB := Lib.hid t0; have HXL := Lib.hid t1; have HBZ := Lib.hid t2; have HXR := Lib.hid t3; have HRH := Lib.hid t4; have HXH := Lib.hid t5; have HRB := Lib.hid t6; have HXG := Lib.hid t7; have HM31 := Lib.hid t8
  clear t0 t1 t2 t3 t4 t5 t6 t7 t8
  clear hal
  go_at_call 26
  refine (nmP_c nm_p0 (by decide) (HRL0.out.below HBZ.out) (HRW0.out.below HBZ.out) (Rd.of_blkE enc1_len hn2 rfl rfl)).mono ?_
  rintro e w1 ⟨rfl, hb9⟩
  have t0 := below_tr HB.out hb9; have t1 := HXL.out.below hb9 HXL.out.lt; have t2 := below_tr HBZ.out hb9; have t3 := HXR.out.below hb9 HXR.out.lt; have t4 := HRH.out.below hb9; have t5 := HXH.out.below hb9 HXH.out.lt; have t6 := HRB.out.below hb9; have t7 := HXG.out.below hb9 HXG.out.lt; have t8 := HM31.out.below hb9 HM31.out.lt
  clear HB HXL HBZ HXR HRH HXH HRB HXG HM31
  have HB := Lib.hid t0; have HXL := Lib.hid t1; have HBZ := Lib.hid t2; have HXR := Lib.hid t3; have HRH := Lib.hid t4; have HXH := Lib.hid t5; have HRB := Lib.hid t6; have HXG := Lib.hid t7; have HM31 := Lib.hid t8
  clear t0 t1 t2 t3 t4 t5 t6 t7 t8
  clear hb9 
  clear hn2
  clear x0 x1 x2 x3 x4 x5 x6 x7 x8 x9
  obtain ⟨x0, x1, x2, x3, x4, x5, x6, x7, x8, x9⟩ := blk_lA HXL.out
  go_wp2_with fail
  have hal := (Below.refl w1.heap.size w1).alloc (Nat.le_refl _) (.cells #[.int .i64 1] 3)
  have hn2 := Blk.new w1 3 #[.int .i64 1]
  have t0 := below_tr HB.out hal; have t1 := HXL.out.below hal HXL.out.lt; have t2 := below_tr HBZ.out hal; have t3 := HXR.out.below hal HXR.out.lt; have t4 := HRH.out.below hal; have t5 := HXH.out.below hal HXH.out.lt; have t6 := HRB.out.below hal; have t7 := HXG.out.below hal HXG.out.lt; have t8 := HM31.out.below hal HM31.out.lt
  clear HB HXL HBZ HXR HRH HXH HRB HXG HM31
  have HB := Lib.hid t0; have HXL := Lib.hid t1; have HBZ := Lib.hid t2; have HXR := Lib.hid t3; have HRH := Lib.hid t4; have HXH := Lib.hid t5; have HRB := Lib.hid t6; have HXG := Lib.hid t7; have HM31 := Lib.hid t8
  clear t0 t1 t2 t3 t4 t5 t6 t7 t8
  clear hal
  go_at_call 26
  refine (nmP_c nm_p1 (by decide) (HRL0.out.below HBZ.out) (HRW0.out.below HBZ.out) (Rd.of_blkE enc1_len hn2 rfl rfl)).mono ?_
  rintro e w1 ⟨rfl, hb9⟩
  have t0 := below_tr HB.out hb9; have t1 := HXL.out.below hb9 HXL.out.lt; have t2 := below_tr HBZ.out hb9; have t3 := HXR.out.below hb9 HXR.out.lt; have t4 := HRH.out.below hb9; have t5 := HXH.out.below hb9 HXH.out.lt; have t6 := HRB.out.below hb9; have t7 := HXG.out.below hb9 HXG.out.lt; have t8 := HM31.out.below hb9 HM31.out.lt
  clear HB HXL HBZ HXR HRH HXH HRB HXG HM31
  have HB := Lib.hid t0; have HXL := Lib.hid t1; have HBZ := Lib.hid t2; have HXR := Lib.hid t3; have HRH := Lib.hid t4; have HXH := Lib.hid t5; have HRB := Lib.hid t6; have HXG := Lib.hid t7; have HM31 := Lib.hid t8
  clear t0 t1 t2 t3 t4 t5 t6 t7 t8
  clear hb9 
  clear hn2
  clear x0 x1 x2 x3 x4 x5 x6 x7 x8 x9
  go_wp2_with fail
  go_at_call 18
  refine (HAW.out _).mono ?_
  rintro e w1 ⟨rfl, hb9⟩
  have t0 := below_tr HB.out hb9; have t1 := HXL.out.below hb9 HXL.out.lt; have t2 := below_tr HBZ.out hb9; have t3 := HXR.out.below hb9 HXR.out.lt; have t4 := HRH.out.below hb9; have t5 := HXH.out.below hb9 HXH.out.lt; have t6 := HRB.out.below hb9; have t7 := HXG.out.below hb9 HXG.out.lt; have t8 := HM31.out.below hb9 HM31.out.lt
  clear HB HXL HBZ HXR HRH HXH HRB HXG HM31
  have HB := Lib.hid t0; have HXL := Lib.hid t1; have HBZ := Lib.hid t2; have HXR := Lib.hid t3; have HRH := Lib.hid t4; have HXH := Lib.hid t5; have HRB := Lib.hid t6; have HXG := Lib.hid t7; have HM31 := Lib.hid t8
  clear t0 t1 t2 t3 t4 t5 t6 t7 t8
  clear hb9 
  go_wp2_with fail
  go_ret
  exact ⟨rfl, HB.out⟩
end Go.Proofs.Ytpijmfbpdglchaa
