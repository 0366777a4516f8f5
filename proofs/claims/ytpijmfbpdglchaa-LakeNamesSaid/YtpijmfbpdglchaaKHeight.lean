/- CONTRACT: the height of a wave at a house. -/
import Derived.Test.YtpijmfbpdglchaaKBase
import Derived.Test.YtpijmfbpdglchaaKStep
set_option linter.unusedVariables false
set_option linter.unusedSimpArgs false
namespace Go.Proofs.Ytpijmfbpdglchaa
open Go.RowKit Go.Proofs
attribute [local go_sem ↓] Go.wp_at_zero Go.wp_at_succ

/-- the cells of a river -/
abbrev rA (r : Riv) : Array Value := #[.int .i64 r.loss, .int .i64 r.pace.1, .int .i64 r.pace.2]
set_option maxRecDepth 100000 in
set_option maxHeartbeats 1000000 in
theorem height_c {r : Riv} {x : Hou} {v : Int} (hr : okRi r = true) (hx : okH x = true) (hv : 0 ≤ v ∧ v ≤ 1000000000) (w : World) :
    Calls Try.prog 82 #[.agg (rA r), .agg #[.int .i64 x.far, .int .i64 x.high, .int .i64 x.wide], .int .i64 v] w fun e w' => e = .returned (.int .i64 (hgt r x v)) ∧ Below w.heap.size w w' := by
  have hr' := okRi_iff.1 hr; have hx' := okH_iff.1 hx
  have hm1 : 0 ≤ r.loss * x.far := Int.mul_nonneg hr'.1.1 hx'.1.1
  have hm2 : r.loss * x.far ≤ 1000000 * 200 := Int.mul_le_mul hr'.1.2 hx'.1.2 hx'.1.1 (by omega)
  have hE : hgt r x v = (max 0 (v - r.loss * x.far) + x.wide - 1) / x.wide := rfl
  obtain ⟨H, hH⟩ : ∃ H, H = hgt r x v := ⟨_, rfl⟩
  rw [← hH] at hE ⊢
  obtain ⟨M, hM⟩ : ∃ M, M = r.loss * x.far := ⟨_, rfl⟩
  rw [← hM] at hm1 hm2 hE
  obtain ⟨W, hW⟩ : ∃ W, W = ((w.alloc (.cells (rA r) 90)).alloc (.cells #[.int .i64 x.far, .int .i64 x.high, .int .i64 x.wide] 154)) := ⟨_, rfl⟩
  have hb : Below w.heap.size w W := by rw [hW]; exact ((Below.refl _ _).alloc (Nat.le_refl _) _).alloc (by simp) _
  have hR := (Blk.new w 90 (rA r)).alloc (.cells #[.int .i64 x.far, .int .i64 x.high, .int .i64 x.wide] 154)
  have hX := Blk.new (w.alloc (.cells (rA r) 90)) 154 #[.int .i64 x.far, .int .i64 x.high, .int .i64 x.wide]
  simp only [World.size_alloc] at hX
  rw [← hW] at hR hX
  have c0 := hR.cell 0; have d0 := hX.cell 0; have d2 := hX.cell 2
  simp at c0 d0 d2
  have HS := Lib.hid (fun (U : World) (hU : Below W.heap.size W U) => show U.cell? ⟨w.heap.size, 0, none⟩ = some (.int .i64 r.loss) ∧ U.cell? ⟨w.heap.size + 1, 0, none⟩ = some (.int .i64 x.far) ∧ U.cell? ⟨w.heap.size + 1, 2, none⟩ = some (.int .i64 x.wide) from ⟨bel_keep hU c0, bel_keep hU d0, bel_keep hU d2⟩)
  have HB := Lib.hid hb; have HW := Lib.hid hW; have HE := Lib.hid hE
  have hw1 : IntKind.i64.wrap (r.loss * x.far) = M := by rw [← hM]; exact wi (by omega)
  have hw2 : IntKind.i64.wrap (v - M) = v - M := wi (by omega)
  have hw3 : IntKind.i64.wrap (max 0 (v - M) + x.wide) = max 0 (v - M) + x.wide := wi (by omega)
  have hw4 : IntKind.i64.wrap (max 0 (v - M) + x.wide - 1) = max 0 (v - M) + x.wide - 1 := wi (by omega)
  have hd0 : ¬ x.wide = 0 := by omega
  have hpos : 0 ≤ max 0 (v - M) + x.wide - 1 := by omega
  have hq : (max 0 (v - M) + x.wide - 1).tdiv x.wide = H := by rw [hE]; exact Int.tdiv_eq_ediv_of_nonneg hpos
  have hq0 : 0 ≤ H ∧ H ≤ 1000010000 := by
    rw [hE]
    exact ⟨Int.ediv_nonneg hpos (by omega), Int.le_trans (Int.ediv_le_self _ hpos) (by omega)⟩
  have hw5 : IntKind.i64.wrap H = H := wi (by omega)
  have hq' : (max 0 (v - M) + x.wide - 1) / x.wide = H := hE.symm
  clear hm1 hm2 hE hH hM hb hW hR hX hr hx hr' hv
  go_enter Try.func82, Try.ntmps82
  go_wp2_with fail
  rw [← HW.out]
  go_region_held3 (fun U => U.cell? ⟨w.heap.size, 0, none⟩ = some (.int .i64 r.loss) ∧ U.cell? ⟨w.heap.size + 1, 0, none⟩ = some (.int .i64 x.far) ∧ U.cell? ⟨w.heap.size + 1, 2, none⟩ = some (.int .i64 x.wide))
    (first | exact HS.out _ (Below.refl _ _) | exact HS.out _ (Below.refl _ _).drew | exact HS.out _ ((Below.refl _ _).alloc (Nat.le_refl _) _) | exact HS.out _ ((Below.refl _ _).drew.alloc (Nat.le_refl _) _) | exact HS.out _ ((Below.refl _ _).alloc (Nat.le_refl _) _).drew)
    (first | (go_at_call 76; first | (with_reducible refine (greatest_c (rd_two W 0 _ rfl)).mono ?_; rintro e w5 ⟨rfl, rfl⟩) | (with_reducible refine (greatest_c (rd_two W.drew 0 _ rfl)).mono ?_; rintro e w5 ⟨rfl, rfl⟩) | (with_reducible refine (greatest_c (rd_drew (rd_two W 0 _ rfl))).mono ?_; rintro e w5 ⟨rfl, rfl⟩)))
  all_goals
    go_wp2_with fail
    go_ret
    first | exact ⟨rfl, HB.out.trans (((Below.refl W.heap.size W).alloc (Nat.le_refl _) _).mono HB.out.size)⟩ | exact ⟨rfl, HB.out.trans (((Below.refl W.heap.size W).drew.alloc (Nat.le_refl _) _).mono HB.out.size)⟩ | exact ⟨rfl, HB.out.trans (((Below.refl W.heap.size W).alloc (Nat.le_refl _) _).drew.mono HB.out.size)⟩
end Go.Proofs.Ytpijmfbpdglchaa
