/- THE CONTRACTS of writer.put and record.set. -/
import Derived.Test.YtkgoojilmnkgiaaProg
import Derived.Test.YtkgoojilmnkgiaaBytes
import Derived.StillTailTactics
namespace Go.Proofs.Ytkgoojilmnkgiaa
open Go.RowKit Go.Proofs

set_option maxRecDepth 100000 in
theorem set_c (g i : Nat) (b : Int) (u : Value) (w : World) (hi : i < 16) (hc : w.cell? ⟨g, i, none⟩ = some u) (hf : w.frozen? ⟨g, i, none⟩ = false) :
    Calls Try.prog 106 #[.pointer (some ⟨g, 0, none⟩), .int .i64 i, .int .u8 b] w fun e w' => e = .returned (.tuple #[]) ∧ w.setCell ⟨g, i, none⟩ (.int .u8 b) = w' := by
  have h16 : (i : Int) < 16 := by omega
  go_enter Try.func106, Try.ntmps106
  go_wp2
  go_end0
  exact ⟨rfl, rfl⟩

set_option maxRecDepth 100000 in
theorem put_c (g i m : Nat) (n : Int) (bs : List UInt8) (w : World) (hb : Blk w g 145 (w17 bs i)) (hl : bs.length = 16) (hm : i + m ≤ 16) (h4 : m ≤ 4) :
    Calls Try.prog 84 #[.pointer (some ⟨g, 0, none⟩), .int .i64 n, .int .i64 m] w fun e w' => e = .returned (.tuple #[]) ∧
      (∃ bs' : List UInt8, bs'.length = 16 ∧ bs'.take (i + m) = bs.take i ++ beB n m ∧ Blk w' g 145 (w17 bs' (i + m))) ∧ w.grownBy w' (some g) := by
  have HL := Lib.hid hl; clear hl
  go_enter Try.func84, Try.ntmps84
  go_wp2_with fail
  go_loopw [6] (fun k wr => ∃ (r j : Nat) (bs' : List UInt8), r ≤ 4 ∧ k = .int .i64 ((r : Int) - 1) ∧ bs'.length = 16 ∧ j + r = i + m ∧ bs'.take j ++ beB n r = bs.take i ++ beB n m ∧ Blk wr g 145 (w17 bs' j) ∧ w.grownBy wr (some g)) (fun k _ => (intOf k + 1).toNat)
  case atStart => exact ⟨m, i, bs, h4, rfl, HL.out, rfl, rfl, hb, World.grownBy.refl w _⟩
  case round =>
    obtain ⟨r, j, bs', hr4, rfl, hl', hj, heq, hblk, hg⟩ := hrel
    have HL' := Lib.hid hl'; have HJ := Lib.hid hj; have HE := Lib.hid heq; have HB := Lib.hid hblk; have HG := Lib.hid hg
    clear hl' heq hblk hg
    have hj16 : j + r ≤ 16 := by omega
    clear hj
    rcases r with _ | r
    · go_wp2
      go_end0
      have hje : j = i + m := by have := HJ.out; omega
      exact ⟨rfl, ⟨bs', HL'.out, by have := HE.out; rw [hje] at this; simpa [beB] using this, by have := HB.out; rwa [hje] at this⟩, HG.out⟩
    · have c1 : wr.cell? ⟨g, 16, none⟩ = some (.int .i64 (j : Int)) := by rw [HB.out.cell]; exact w17_at HL'.out
      have c2 := HB.out.frozen 16
      have hj16' : j < 16 := by omega
      have cj : wr.cell? ⟨g, j, none⟩ = some (.int .u8 ((bs'[j]'(by rw [HL'.out]; exact hj16')).toNat : Int)) := by rw [HB.out.cell]; exact w17_byte _
      have cf := HB.out.frozen j
      have w0 : IntKind.i64.wrap 0 = 0 := by decide
      have w8 : IntKind.i64.wrap 8 = 8 := by decide
      have w16 : IntKind.i64.wrap 16 = 16 := by decide
      have w24 : IntKind.i64.wrap 24 = 24 := by decide
      have hstep : ∀ (q : Int), q = n / 256 ^ r → Hid (∃ bs2 : List UInt8, bs2.length = 16 ∧ bs2.take (j + 1) ++ beB n r = bs.take i ++ beB n m ∧ Blk ((wr.drew.setCell ⟨g, j, none⟩ (.int .u8 (q % 256))).setCell ⟨g, 16, none⟩ (.int .i64 ((j : Int) + 1))) g 145 (w17 bs2 (j + 1)) ∧
          w.grownBy ((wr.drew.setCell ⟨g, j, none⟩ (.int .u8 (q % 256))).setCell ⟨g, 16, none⟩ (.int .i64 ((j : Int) + 1))) (some g)) := by
        rintro q rfl
        refine ⟨bs'.set j (byteOf (n / 256 ^ r)), by simpa using HL'.out, ?_, ?_, ?_⟩
        · rw [take_set_snoc (by rw [HL'.out]; exact hj16'), ← HE.out, beB_succ]; simp
        · have h1 := (show Blk wr.drew g 145 (w17 bs' j) from HB.out).set_ j (.int .u8 ((n / 256 ^ r) % 256))
          rw [← byteOf_toNat, w17_set _ (by rw [HL'.out]; exact hj16')] at h1
          have h2 := h1.set_ 16 (.int .i64 (((j + 1 : Nat)) : Int))
          rw [w17_move _ (by simpa using HL'.out)] at h2
          rw [← byteOf_toNat]
          simpa using h2
        · exact only_setCell (p := ⟨g, 16, none⟩) (only_setCell (p := ⟨g, j, none⟩) (only_drewN HG.out 1) (.inl rfl) _) (.inl rfl) _
      have HS := Lib.hid hstep; clear hstep
      rcases r with _ | _ | _ | _ | r
      case zero =>
        have H := HS.out n (by simp)
        go_wp2
        go_still_tail 12, (by kernel_rfl)
        change wpList _ _ _ _ _ wr.drew
        go_wp2_with (go_at_call 106; refine (set_c _ _ _ _ _ hj16' (by simpa using cj) (by simpa using cf)).mono ?_; rintro e w' ⟨rfl, rfl⟩)
        go_roundw
        case rel =>
          obtain ⟨bs2, a1, a2, a3, a4⟩ := H.out
          exact ⟨_, j + 1, bs2, by omega, by simp, a1, by have := HJ.out; omega, a2, a3, a4⟩
        case measure => simp [intOf] <;> omega
      case succ.zero =>
        have H := HS.out (n / 256) (by rw [show (256 : Int) ^ (0 + 1) = 256 from by decide])
        go_wp2
        go_still_tail 12, (by kernel_rfl)
        change wpList _ _ _ _ _ wr.drew
        go_wp2_with (go_at_call 106; refine (set_c _ _ _ _ _ hj16' (by simpa using cj) (by simpa using cf)).mono ?_; rintro e w' ⟨rfl, rfl⟩)
        go_roundw
        case rel =>
          obtain ⟨bs2, a1, a2, a3, a4⟩ := H.out
          exact ⟨_, j + 1, bs2, by omega, by simp, a1, by have := HJ.out; omega, a2, a3, a4⟩
        case measure => simp [intOf] <;> omega
      case succ.succ.zero =>
        have H := HS.out (n / 65536) (by rw [show (256 : Int) ^ (0 + 1 + 1) = 65536 from by decide])
        go_wp2
        go_still_tail 12, (by kernel_rfl)
        change wpList _ _ _ _ _ wr.drew
        go_wp2_with (go_at_call 106; refine (set_c _ _ _ _ _ hj16' (by simpa using cj) (by simpa using cf)).mono ?_; rintro e w' ⟨rfl, rfl⟩)
        go_roundw
        case rel =>
          obtain ⟨bs2, a1, a2, a3, a4⟩ := H.out
          exact ⟨_, j + 1, bs2, by omega, by simp, a1, by have := HJ.out; omega, a2, a3, a4⟩
        case measure => simp [intOf] <;> omega
      case succ.succ.succ.zero =>
        have H := HS.out (n / 16777216) (by rw [show (256 : Int) ^ (0 + 1 + 1 + 1) = 16777216 from by decide])
        go_wp2
        go_still_tail 12, (by kernel_rfl)
        change wpList _ _ _ _ _ wr.drew
        go_wp2_with (go_at_call 106; refine (set_c _ _ _ _ _ hj16' (by simpa using cj) (by simpa using cf)).mono ?_; rintro e w' ⟨rfl, rfl⟩)
        go_roundw
        case rel =>
          obtain ⟨bs2, a1, a2, a3, a4⟩ := H.out
          exact ⟨_, j + 1, bs2, by omega, by simp, a1, by have := HJ.out; omega, a2, a3, a4⟩
        case measure => simp [intOf] <;> omega
      case succ.succ.succ.succ => omega
end Go.Proofs.Ytkgoojilmnkgiaa
