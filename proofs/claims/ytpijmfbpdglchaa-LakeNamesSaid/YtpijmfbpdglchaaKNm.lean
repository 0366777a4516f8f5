/- The chapter's river, and what the examples come to. -/
import Derived.Test.YtpijmfbpdglchaaKAwake
import Derived.Test.YtpijmfbpdglchaaKWavesE
import Derived.Test.YtpijmfbpdglchaaKValid
import Derived.Test.YtpijmfbpdglchaaKFill
import Derived.Test.YtpijmfbpdglchaaKReal
set_option linter.unusedVariables false
set_option linter.unusedSimpArgs false
namespace Go.Proofs.Ytpijmfbpdglchaa
open Go.RowKit Go.Proofs
attribute [local go_sem ↓] Go.wp_at_zero Go.wp_at_succ
def rivR : Riv := ⟨5, (3, 4)⟩
def housL : List Hou := [⟨10, 5, 20⟩, ⟨70, 1, 100⟩, ⟨60, 0, 100⟩]
def nmX (s : List Int) (f : Int) : Rel := ⟨[120, 100, 60, 100], s, 60, f⟩
theorem nm_fits2 : fitsB valL (nmX [0, 0, 0, 0] 2) = true := by decide +kernel
theorem nm_fits3 : fitsB valL (nmX [0, 0, 0, 0] 3) = true := by decide +kernel
theorem nm_fill2 : fillN valL pumW [] (nmX [0, 0, 0, 0] 2) = 3 ∧ fillB valL pumW [] (nmX [0, 0, 0, 0] 2) = 2 ∧ fillV valL pumW [] (nmX [0, 0, 0, 0] 2) = [180, 280, 340] := by decide +kernel
theorem nm_fill3 : fillN valL pumW [] (nmX [0, 0, 0, 0] 3) = 4 ∧ fillB valL pumW [] (nmX [0, 0, 0, 0] 3) = 3 ∧ fillV valL pumW [] (nmX [0, 0, 0, 0] 3) = [180, 280, 340, 440] := by decide +kernel
theorem nm_fill11 : fillE valL pumW [] (nmX [0, 0, 0, 11] 3) = 2 := by decide +kernel
theorem nm_brk0 : brkRes valL pumW [] = (2, -1, 0) := by decide +kernel
theorem nm_brk1 : brkRes valL pumW [0, 1] = (0, 0, 7) := by decide +kernel
theorem nm_cho : errA valL pumW [1, 0] = 2 := by decide +kernel
theorem nm_hok : errH rivR housL = 0 := by decide +kernel
theorem nm_waves : (housL.map fun x => rchOf rivR x (aftL valL (netL valL pumW []))) = [⟨true, 20, 150⟩, ⟨false, 1, 0⟩, ⟨true, 2, 300⟩] := by decide +kernel
theorem nm_one (c : List Int) (h : choB 1 c = true) : enB valL [⟨1, 60, 7⟩] c = false := by
  have h2 : ∀ c ∈ treeC 1 1 [], enB valL [⟨1, 60, 7⟩] c = false := by decide +kernel
  exact h2 c (treeC_mem.2 h)
theorem nm_w11 : errA valL (List.replicate 11 ⟨0, 0, 0⟩) [] = 3 := by decide +kernel
theorem nm_wneg : errA valL [⟨0, -1, 0⟩] [] = 1 := by decide +kernel
theorem nm_riv61 : (1 : Int) = if errA valL pumW [] ≠ 0 then errA valL pumW [] else errH ⟨0, (0, 61)⟩ [] := by decide +kernel
theorem nm_h21 : (3 : Int) = if errA valL pumW [] ≠ 0 then errA valL pumW [] else errH rivR (List.replicate 21 ⟨0, 0, 0⟩) := by decide +kernel
def highL : Lak := ⟨[0, 100, 250, 450], 3, 2, (2, 3), (50, 250), (0, 10), [(100, 120), (80, 100), (0, 60), (0, 100)]⟩
def longL : Lak := ⟨List.replicate 31 0, 3, 2, (2, 3), (50, 60), (0, 10), [(100, 120), (80, 100), (0, 60), (0, 100)]⟩
def noL : Lak := ⟨[], 0, 0, (0, 0), (0, 0), (0, 0), []⟩
theorem nm_high : errL highL = 1 := by decide +kernel
theorem nm_long : errL longL = 3 := by decide +kernel
theorem nm_no : errL noL = 1 := by decide +kernel
theorem nm_p01 : proveB valL pumW [0, 1] = true := by decide +kernel
theorem nm_p0 : proveB valL pumW [0] = false := by decide +kernel
theorem nm_p1 : proveB valL pumW [1] = false := by decide +kernel
set_option maxRecDepth 100000 in
set_option maxHeartbeats 1000000 in
theorem river_c (w : World) : Calls Try.prog 55 #[] w fun e w' => ∃ A, e = .returned (.tuple #[.agg (rA rivR), .slice A 3 3]) ∧ Rd encH 3 w' A 3 housL ∧ Below w.heap.size w w' := by
  obtain ⟨W, hW⟩ : ∃ W, W = ((w.alloc (.cells #[.int .i64 5, .int .i64 3, .int .i64 4] 90)).alloc (.cells #[.int .i64 10, .int .i64 5, .int .i64 20, .int .i64 70, .int .i64 1, .int .i64 100, .int .i64 60, .int .i64 0, .int .i64 100] 154)) := ⟨_, rfl⟩
  have hb : Below w.heap.size w W := by rw [hW]; exact ((Below.refl _ _).alloc (Nat.le_refl _) _).alloc (by simp) _
  have h0 := (Blk.new w 90 #[.int .i64 5, .int .i64 3, .int .i64 4]).alloc (.cells #[.int .i64 10, .int .i64 5, .int .i64 20, .int .i64 70, .int .i64 1, .int .i64 100, .int .i64 60, .int .i64 0, .int .i64 100] 154)
  have h1 := Blk.new (w.alloc (.cells #[.int .i64 5, .int .i64 3, .int .i64 4] 90)) 154 #[.int .i64 10, .int .i64 5, .int .i64 20, .int .i64 70, .int .i64 1, .int .i64 100, .int .i64 60, .int .i64 0, .int .i64 100]
  simp only [World.size_alloc] at h1
  rw [← hW] at h0 h1
  have HW := Lib.hid hW; have HB := Lib.hid hb; have H0 := Lib.hid h0; have H1 := Lib.hid h1
  have p0 := h0.cell 0; have p1 := h0.cell 1; have p2 := h0.cell 2
  simp at p0 p1 p2
  clear hW hb h0 h1
  go_enter Try.func55, Try.ntmps55
  go_wp2_with fail
  rw [← HW.out]
  exact bodyPost_ret (v := .tuple #[.agg (rA rivR), .slice (some ⟨w.heap.size + 1, 0, none⟩) 3 3]) (by simp [results, Try.results55, go_sem, p0, p1, p2, rivR]) rfl ⟨_, rfl, Rd.of_blkE encH_len H1.out rfl rfl, HB.out⟩
end Go.Proofs.Ytpijmfbpdglchaa
