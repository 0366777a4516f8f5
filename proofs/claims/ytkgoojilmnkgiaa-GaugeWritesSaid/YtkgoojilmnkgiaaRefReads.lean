/- THE CONTRACT of the reference's Reads: the reading of a string of sixteen bytes, and whether it is its record. -/
import Derived.Test.YtkgoojilmnkgiaaRefRec
import Derived.Test.YtkgoojilmnkgiaaReading
import Derived.Test.YtkgoojilmnkgiaaFault
namespace Go.Proofs.Ytkgoojilmnkgiaa
open Go.RowKit Go.Proofs
attribute [local go_sem ↓] Go.wp_at_zero Go.wp_at_succ

theorem str_slice (bs : List UInt8) (W : World) {i j : Nat} {a b : Int} (ha : a = (i : Int)) (hb : b = (j : Int)) (hij : i ≤ j) (hj : j ≤ bs.length) :
    (Instr.slice 9 (str bs) (some (.int .i64 a)) (some (.int .i64 b)) none).run Try.prog W = .ok (str ((bs.drop i).take (j - i))) W := by
  subst ha; subst hb
  unfold str
  rw [run_slice_string _ _ _ _ _ _ _ Try.underlying9 (by omega) (by omega) (by show (j : Int) ≤ ((bs.toArray.size : Nat) : Int); simp; omega)]
  congr 2
  apply ByteArray.ext
  simp [List.take_drop]
theorem str_index (bs : List UInt8) (W : World) {k : Nat} {a : Int} {x : UInt8} (ha : a = (k : Int)) (hx : bs[k]? = some x) :
    (Instr.index 9 (str bs) (.int .i64 a)).run Try.prog W = .ok (.int .u8 (x.toNat : Int)) W := by
  subst ha
  have hk : k < bs.length := (List.getElem?_eq_some_iff.1 hx).1
  unfold str
  rw [run_index_string _ _ _ _ _ Try.underlying9, dif_pos ⟨by omega, by show (k : Int) < ((bs.toArray.size : Nat) : Int); simp; omega⟩]
  have h1 : bs[k] = x := by rw [List.getElem?_eq_getElem hk] at hx; exact Option.some.inj hx
  rw [← h1]
  rfl
theorem str_eql (a b : List UInt8) (W : World) : (binOp .eql 9 (str a) (str b)).run Try.prog W = .ok (.bool (decide (a = b))) W := by
  unfold str
  rw [binOp_string_eql, Sem.run_pure, ByteArray.toList_eq, ByteArray.toList_eq]
  show Result.ok (Value.bool (a == b)) W = _
  rw [show (a == b) = decide (a = b) from by rw [Bool.eq_iff_iff]; simp]
theorem str_neq (a b : List UInt8) (W : World) : (binOp .neq 9 (str a) (str b)).run Try.prog W = .ok (.bool (!decide (a = b))) W := by
  unfold str
  rw [binOp_string_neq, Sem.run_pure, ByteArray.toList_eq, ByteArray.toList_eq]
  show Result.ok (Value.bool (!(a == b))) W = _
  rw [show (a == b) = decide (a = b) from by rw [Bool.eq_iff_iff]; simp]
theorem str_guard (a b : List UInt8) (op : BinOp) (x y : Operand) (W : World) : (eqGuard op 9 x y (str a) (str b)).run Try.prog W = .ok () W := by
  unfold str
  simp [go_sem, eqGuard]
theorem blk2r (w : World) (X Y : Array Value) (a b : TypeId) : Blk ((w.alloc (.cells X a)).alloc (.cells Y b)).drew (w.heap.size + 1) b Y ∧
    Blk ((w.alloc (.cells X a)).alloc (.cells Y b)).drew w.heap.size a X ∧ Below w.heap.size w ((w.alloc (.cells X a)).alloc (.cells Y b)).drew := by
  refine ⟨?_, ?_, ?_⟩
  · have := Blk.new (w.alloc (.cells X a)) b Y
    simp only [World.size_alloc] at this
    exact this
  · exact ((Blk.new w a X).alloc _).drewN 1
  · exact (((Below.refl _ _).alloc (Nat.le_refl _) _).alloc (by simp) _).drew

set_option maxRecDepth 100000 in
set_option maxHeartbeats 8000000 in
theorem rreads_c (bs : List UInt8) (w : World) (hl : bs.length = 16) :
    Calls Try.prog 60 #[str bs] w fun e w' => (e = .returned (.tuple #[.agg #[.int .i64 (rdgOf bs).ins, .int .i64 (rdgOf bs).num, .int .i64 (rdgOf bs).tim, .int .i64 (rdgOf bs).val], .bool (isRec bs)])) ∧ Below w.heap.size w w' := by
  have HL := Lib.hid hl
  obtain ⟨b1, hb1⟩ : ∃ b : UInt8, bs[1]? = some b := ⟨_, List.getElem?_eq_getElem (by rw [HL.out]; omega)⟩
  have q1 := fun W => str_index (a := 1) bs W rfl hb1
  have q2 := fun W => str_slice (i := 2) (j := 4) (a := 2) (b := 4) bs W rfl rfl (by omega) (by omega)
  have q4 := fun W => str_slice (i := 4) (j := 8) (a := 4) (b := 8) bs W rfl rfl (by omega) (by omega)
  have q8 := fun W => str_slice (i := 8) (j := 12) (a := 8) (b := 12) bs W rfl rfl (by omega) (by omega)
  have n2 := Lib.hid (fun W => rnumber_c (l := (bs.drop 2).take (4 - 2)) (by rw [List.length_take]; omega) W)
  have n4 := Lib.hid (fun W => rnumber_c (l := (bs.drop 4).take (8 - 4)) (by rw [List.length_take]; omega) W)
  have n8 := Lib.hid (fun W => rnumber_c (l := (bs.drop 8).take (12 - 8)) (by rw [List.length_take]; omega) W)
  have h8 := numB_bd' (l := (bs.drop 8).take (12 - 8)) (by rw [List.length_take]; omega)
  have e1 : IntKind.i64.wrap (b1.toNat : Int) = (rdgOf bs).ins := by
    rw [wi (by have := b1.toNat_lt; omega)]; exact (ins_of hb1).symm
  have HN2 : numB ((bs.drop 2).take (4 - 2)) = (rdgOf bs).num := rfl
  have HN4 : numB ((bs.drop 4).take (8 - 4)) = (rdgOf bs).tim := rfl
  have HN8 := Lib.hid (show (rdgOf bs).val = signed (numB ((bs.drop 8).take (12 - 8))) from rfl)
  rw [HN2] at n2
  rw [HN4] at n4
  obtain ⟨raw, hraw⟩ : ∃ x, x = numB ((bs.drop 8).take (12 - 8)) := ⟨_, rfl⟩
  rw [← hraw] at n8 h8 HN8
  generalize (bs.drop 2).take (4 - 2) = s2 at *
  generalize (bs.drop 4).take (8 - 4) = s4 at *
  generalize (bs.drop 8).take (12 - 8) = s8 at *
  clear hb1 hl HN2 HN4 hraw
  go_enter Try.func60, Try.ntmps60
  go_upto_region 1 with fail
  go_cut [4] (fun u4 wx => u4 = .pointer (some ⟨w.heap.size + 1, 0, none⟩) ∧ Blk wx (w.heap.size + 1) 55 #[.int .i64 (rdgOf bs).ins, .int .i64 (rdgOf bs).num, .int .i64 (rdgOf bs).tim, .int .i64 raw] ∧
    Blk wx w.heap.size 55 #[.int .i64 0, .int .i64 0, .int .i64 0, .int .i64 0] ∧ Below w.heap.size w wx)
  case first =>
    go_region_held3 (fun w' => True) (trivial)
      ((go_at_call 88; (first | (with_reducible refine (n2.out _).mono ?_) | (with_reducible refine (n4.out _).mono ?_) | (with_reducible refine (n8.out _).mono ?_)); rintro e w' ⟨rfl, rfl⟩))
    all_goals
      go_wp2_with fail
      go_meet
      exact ⟨rfl, blk2r _ _ _ _ _⟩
  case rest =>
  obtain ⟨rfl, hG, hR, hbel⟩ := hcut
  clear q1 q2 q4 q8 n2 n4 n8 e1
  have HR := Lib.hid hR; have HBel := Lib.hid hbel; have HG := Lib.hid hG
  clear hR hbel
  have g3 := hG.cell 3; have f3 := hG.frozen 3
  simp at g3
  go_upto_if 20 with fail
  go_cut [25] (fun _ wx => Blk wx (w.heap.size + 1) 55 #[.int .i64 (rdgOf bs).ins, .int .i64 (rdgOf bs).num, .int .i64 (rdgOf bs).tim, .int .i64 (rdgOf bs).val] ∧
    Blk wx w.heap.size 55 #[.int .i64 0, .int .i64 0, .int .i64 0, .int .i64 0] ∧ Below w.heap.size w wx)
  case first =>
    by_cases hr : raw < 2147483648
    · have hr1 : ¬ (2147483648 : Int) ≤ raw := by omega
      go_wp2_with fail
      go_meet
      exact ⟨by have := HN8.out; rw [signed, if_pos hr] at this; rw [this]; exact HG.out, HR.out, HBel.out⟩
    · have hr1 : (2147483648 : Int) ≤ raw := by omega
      have hw : IntKind.i64.wrap (raw - 4294967296) = (rdgOf bs).val := by rw [wi (by omega), HN8.out, signed, if_neg hr]
      go_wp2_with fail
      go_meet
      refine ⟨?_, HR.out.far (by simp) _, HBel.out.setCell (by simp) _⟩
      have := HG.out.set_ 3 (.int .i64 (rdgOf bs).val)
      exact this
  case rest =>
  obtain ⟨hG, hR, hbel⟩ := hcut
  clear HG HR HBel HN8 g3 f3 h8 HL
  have hlR := hR.lt
  have hlG := hG.lt
  have r0 := hR.cell 0; have r1 := hR.cell 1; have r2 := hR.cell 2; have r3 := hR.cell 3
  simp at r0 r1 r2 r3
  have f0 := hR.frozen 0; have f1 := hR.frozen 1; have f2 := hR.frozen 2; have f3 := hR.frozen 3
  have hkeep : ∀ W : World, Below wc.heap.size wc W →
      (W.cell? ⟨w.heap.size + 1, 0, none⟩ = some (.int .i64 (rdgOf bs).ins) ∧ W.cell? ⟨w.heap.size + 1, 1, none⟩ = some (.int .i64 (rdgOf bs).num) ∧ W.cell? ⟨w.heap.size + 1, 2, none⟩ = some (.int .i64 (rdgOf bs).tim) ∧
      W.cell? ⟨w.heap.size + 1, 3, none⟩ = some (.int .i64 (rdgOf bs).val)) ∧
      (W.cell? ⟨w.heap.size, 0, none⟩ = some (.int .i64 0) ∧ W.cell? ⟨w.heap.size, 1, none⟩ = some (.int .i64 0) ∧ W.cell? ⟨w.heap.size, 2, none⟩ = some (.int .i64 0) ∧ W.cell? ⟨w.heap.size, 3, none⟩ = some (.int .i64 0)) ∧
      (W.frozen? ⟨w.heap.size, 0, none⟩ = false ∧ W.frozen? ⟨w.heap.size, 1, none⟩ = false ∧ W.frozen? ⟨w.heap.size, 2, none⟩ = false ∧ W.frozen? ⟨w.heap.size, 3, none⟩ = false) := fun W hW => by
    have hk := hG.below hW hlG
    exact ⟨⟨hk.cell 0, hk.cell 1, hk.cell 2, hk.cell 3⟩,
     ⟨(hW.cell (p := ⟨_, 0, none⟩) hlR).trans r0, (hW.cell (p := ⟨_, 1, none⟩) hlR).trans r1, (hW.cell (p := ⟨_, 2, none⟩) hlR).trans r2, (hW.cell (p := ⟨_, 3, none⟩) hlR).trans r3⟩,
     ⟨(hW.frozen (p := ⟨_, 0, none⟩) hlR).trans f0, (hW.frozen (p := ⟨_, 1, none⟩) hlR).trans f1, (hW.frozen (p := ⟨_, 2, none⟩) hlR).trans f2, (hW.frozen (p := ⟨_, 3, none⟩) hlR).trans f3⟩⟩
  have HK := Lib.hid hkeep; clear hkeep
  have hkeep2 : ∀ W : World, Below wc.heap.size wc W → ∀ W', W' = (((W.setCell ⟨w.heap.size, 0, none⟩ (.int .i64 (rdgOf bs).ins)).setCell ⟨w.heap.size, 1, none⟩ (.int .i64 (rdgOf bs).num)).setCell ⟨w.heap.size, 2, none⟩ (.int .i64 (rdgOf bs).tim)).setCell ⟨w.heap.size, 3, none⟩ (.int .i64 (rdgOf bs).val) →
      (W'.cell? ⟨w.heap.size + 1, 0, none⟩ = some (.int .i64 (rdgOf bs).ins) ∧ W'.cell? ⟨w.heap.size + 1, 1, none⟩ = some (.int .i64 (rdgOf bs).num) ∧ W'.cell? ⟨w.heap.size + 1, 2, none⟩ = some (.int .i64 (rdgOf bs).tim) ∧
      W'.cell? ⟨w.heap.size + 1, 3, none⟩ = some (.int .i64 (rdgOf bs).val)) := by
    rintro W hW _ rfl
    have hk := ((((hG.below hW hlG).far (p := ⟨w.heap.size, 0, none⟩) (by simp) (.int .i64 (rdgOf bs).ins)).far (p := ⟨w.heap.size, 1, none⟩) (by simp) (.int .i64 (rdgOf bs).num)).far (p := ⟨w.heap.size, 2, none⟩) (by simp) (.int .i64 (rdgOf bs).tim)).far (p := ⟨w.heap.size, 3, none⟩) (by simp) (.int .i64 (rdgOf bs).val)
    exact ⟨hk.cell 0, hk.cell 1, hk.cell 2, hk.cell 3⟩
  have HK2 := Lib.hid hkeep2; clear hkeep2
  have hfin : ∀ W : World, Below wc.heap.size wc W → (loadVar 55 ⟨w.heap.size, 0, none⟩).run Try.prog ((((W.setCell ⟨w.heap.size, 0, none⟩ (.int .i64 (rdgOf bs).ins)).setCell ⟨w.heap.size, 1, none⟩ (.int .i64 (rdgOf bs).num)).setCell ⟨w.heap.size, 2, none⟩ (.int .i64 (rdgOf bs).tim)).setCell ⟨w.heap.size, 3, none⟩ (.int .i64 (rdgOf bs).val)) =
      .ok (.agg #[.int .i64 (rdgOf bs).ins, .int .i64 (rdgOf bs).num, .int .i64 (rdgOf bs).tim, .int .i64 (rdgOf bs).val]) ((((W.setCell ⟨w.heap.size, 0, none⟩ (.int .i64 (rdgOf bs).ins)).setCell ⟨w.heap.size, 1, none⟩ (.int .i64 (rdgOf bs).num)).setCell ⟨w.heap.size, 2, none⟩ (.int .i64 (rdgOf bs).tim)).setCell ⟨w.heap.size, 3, none⟩ (.int .i64 (rdgOf bs).val)) := by
    intro W hW
    have hk := ((((hR.below hW hlR).set_ 0 (.int .i64 (rdgOf bs).ins)).set_ 1 (.int .i64 (rdgOf bs).num)).set_ 2 (.int .i64 (rdgOf bs).tim)).set_ 3 (.int .i64 (rdgOf bs).val)
    exact run_loadVar_mid _ _ _ _ [.int .i64 (rdgOf bs).ins, .int .i64 (rdgOf bs).num, .int .i64 (rdgOf bs).tim, .int .i64 (rdgOf bs).val] _ (fun j v hv => by rw [Nat.zero_add, hk.cell]; simpa using hv) Try.underlying55 rfl (by kernel_rfl)
  have HF := Lib.hid hfin; clear hfin
  have hbelow : ∀ W : World, Below wc.heap.size wc W → Below w.heap.size w ((((W.setCell ⟨w.heap.size, 0, none⟩ (.int .i64 (rdgOf bs).ins)).setCell ⟨w.heap.size, 1, none⟩ (.int .i64 (rdgOf bs).num)).setCell ⟨w.heap.size, 2, none⟩ (.int .i64 (rdgOf bs).tim)).setCell ⟨w.heap.size, 3, none⟩ (.int .i64 (rdgOf bs).val)) := fun W hW =>
    ((((hbel.trans (hW.mono hbel.size)).setCell (p := ⟨w.heap.size, 0, none⟩) (by simp) _).setCell (p := ⟨w.heap.size, 1, none⟩) (by simp) _).setCell (p := ⟨w.heap.size, 2, none⟩) (by simp) _).setCell (p := ⟨w.heap.size, 3, none⟩) (by simp) _
  have HBe := Lib.hid hbelow; clear hbelow
  have g0 := hG.cell 0; have g1 := hG.cell 1; have g2 := hG.cell 2; have g3 := hG.cell 3
  simp at g0 g1 g2 g3
  clear hbel
  cases hv : validB (rdgOf bs)
  · have HI := Lib.hid (isRec_no hv)
    have hvc := fun W => rright_c (rdgOf bs) W
    rw [hv] at hvc
    have HV := Lib.hid hvc; clear hvc
    go_wp2_with fail
    first | (go_region_with (go_at_call 56; refine (HV.out _).mono ?_; rintro e w1 ⟨rfl, hb1⟩; have hbb : Below wc.heap.size wc w1 := ((Below.refl _ wc).drew.trans hb1); obtain ⟨⟨b0, b1, b2, b3⟩, ⟨a0, a1, a2, a3⟩, ⟨a4, a5, a6, a7⟩⟩ := HK.out _ hbb)) | fail
    all_goals go_wp2_with fail
    all_goals
      refine bodyPost_ret (v := .tuple #[.agg #[.int .i64 (rdgOf bs).ins, .int .i64 (rdgOf bs).num, .int .i64 (rdgOf bs).tim, .int .i64 (rdgOf bs).val], .bool false]) ?_ rfl ⟨by rw [HI.out], ?_⟩
      · rw [results_cell_tmp Try.results60]; exact res_two rfl rfl (HF.out _ hbb)
      · exact HBe.out _ hbb
  · have HI := Lib.hid (isRec_yes hv)
    have HRec := Lib.hid (fun W => rrecord_c hv W)
    have hvc := fun W => rright_c (rdgOf bs) W
    rw [hv] at hvc
    have HV := Lib.hid hvc; clear hvc
    have heq := fun W => str_eql (recB (rdgOf bs)) bs W
    have hgd := fun W => str_guard (recB (rdgOf bs)) bs .eql (.tmp 30) (.tmp 31) W
    go_wp2_with fail
    go_region_held3 (fun w' => w'.cell? ⟨w.heap.size + 1, 0, none⟩ = some (.int .i64 (rdgOf bs).ins) ∧ w'.cell? ⟨w.heap.size + 1, 1, none⟩ = some (.int .i64 (rdgOf bs).num) ∧ w'.cell? ⟨w.heap.size + 1, 2, none⟩ = some (.int .i64 (rdgOf bs).tim) ∧
        w'.cell? ⟨w.heap.size + 1, 3, none⟩ = some (.int .i64 (rdgOf bs).val))
      (first | (exact (HK.out _ (by assumption)).1) | (exact (HK.out _ ((Below.refl _ _).drew)).1) | (exact HK2.out _ (by assumption) _ rfl) | (go_keep_ranges; done))
      (first | (go_at_call 56; refine (HV.out _).mono ?_; rintro e w1 ⟨rfl, hb1⟩; have hbb : Below wc.heap.size wc w1 := ((Below.refl _ wc).drew.trans hb1)) | (go_at_call 57; refine (HRec.out _).mono ?_; rintro e w2 ⟨rfl, hb2⟩; have hbb2 : Below wc.heap.size wc w2 := Below.trans (by assumption) (hb2.mono (Below.size (by assumption : Below wc.heap.size wc _))); obtain ⟨_, ⟨a0, a1, a2, a3⟩, ⟨a4, a5, a6, a7⟩⟩ := HK.out _ hbb2))
    all_goals go_wp2_with fail
    all_goals
      refine bodyPost_ret (v := .tuple #[.agg #[.int .i64 (rdgOf bs).ins, .int .i64 (rdgOf bs).num, .int .i64 (rdgOf bs).tim, .int .i64 (rdgOf bs).val], .bool (decide (recB (rdgOf bs) = bs))]) ?_ rfl ⟨by rw [HI.out], ?_⟩
      · rw [results_cell_tmp Try.results60]; exact res_two rfl rfl (HF.out _ (by assumption))
      · exact HBe.out _ (by assumption)
end Go.Proofs.Ytkgoojilmnkgiaa
