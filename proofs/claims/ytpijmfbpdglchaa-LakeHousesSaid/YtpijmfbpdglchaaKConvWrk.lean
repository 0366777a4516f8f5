/- THE CONTRACT of the law's Works: a new slice that reads as the old one. Written by mkconvk.py. -/
import Derived.Test.YtpijmfbpdglchaaKLeaf
import Derived.Deep.RegionHeld3
import Derived.Deep.AppendLies
import Derived.Deep.DrawnRows
namespace Go.Proofs.Ytpijmfbpdglchaa
open Go.RowKit Go.Proofs
attribute [local go_sem ↓] Go.wp_at_zero Go.wp_at_succ

theorem infoWork : (Try.prog.info? 71).map (fun i => (i.zero, i.size, i.bytes)) = some (some (.agg #[.int .i64 0, .int .i64 0, .int .i64 0]), 3, 24) := by kernel_rfl
set_option maxRecDepth 100000 in
set_option maxHeartbeats 400000 in
theorem Works_c {l : List Wrk} {A : Option Addr} {n c : Nat} {w : World} (h : Rd encW 3 w A n l) (hn : n ≤ 1000000) :
    Calls Try.prog 21 #[.slice A n c] w fun e w' => ∃ A' c', e = .returned (.slice A' n c') ∧ n ≤ c' ∧ w'.ownsRow w.heap.size 71 3 (.slice A' n c') n (l.flatMap encW) ∧ Below w.heap.size w w' := by
  obtain ⟨i0, hi0, hz0, hz1, hz2⟩ := info_parts infoWork
  have hl := h.len
  have HL := Lib.hid hl; clear hl
  have HI := Lib.hid hi0; have HZ0 := Lib.hid hz0; have HZ1 := Lib.hid hz1; have HZ2 := Lib.hid hz2
  clear hi0 hz0 hz1 hz2
  go_enter Try.func21, Try.ntmps21
  go_wp2_with fail
  go_loopw [3, 4] (fun v i wr => ∃ k : Nat, k ≤ n ∧ i = .int .i64 k ∧ wr.ownsRow w.heap.size 71 3 v k ((l.take k).flatMap encW) ∧ Below w.heap.size w wr) (fun _ i _ => n - (intOf i).toNat)
  case atStart => exact ⟨0, Nat.zero_le _, rfl, World.ownsRow_nil _ _ _ _, Below.refl _ _⟩
  case round =>
    obtain ⟨k, hk, rfl, hown, hb⟩ := hrel
    by_cases hlt : k < n
    · obtain ⟨b, o, x, hA, hbl, hx, h0', h1', h2'⟩ := h.atW hlt
      subst hA
      have h0 := (hb.cell (p := ⟨b, o + k * 3, none⟩) hbl).trans h0'
      have h1 := (hb.cell (p := ⟨b, o + k * 3 + 1, none⟩) hbl).trans h1'
      have h2 := (hb.cell (p := ⟨b, o + k * 3 + 2, none⟩) hbl).trans h2'
      clear h0' h1' h2'
      have HX := Lib.hid hx; clear hx
      have hblr : b < wr.heap.size := Nat.lt_of_lt_of_le hbl hb.size
      have hne : u3.ownBlock ≠ some b := fun e => by have := (hown.lt b e).1; omega
      have HO := Lib.hid hown; clear hown
      have hi1 : (k : Int) < (n : Int) := by omega
      have hi0' : (0 : Int) ≤ (k : Int) := by omega
      go_wp2
      go_region_held3 (fun w' => w'.cell? ⟨b, o + k * 3, none⟩ = some (.int .i64 x.frm) ∧ w'.cell? ⟨b, o + k * 3 + 1, none⟩ = some (.int .i64 x.flow) ∧ w'.cell? ⟨b, o + k * 3 + 2, none⟩ = some (.int .i64 x.price))
        (first
          | go_keep
          | (go_split_ands
             refine ⟨?_, ?_, ?_⟩
             · (rw [hgrow.cell_far _ (by simp; omega) (Ne.symm hne)]; exact (World.cell?_alloc_lt _ _ _ hblr).trans h0)
             · (rw [hgrow.cell_far _ (by simp; omega) (Ne.symm hne)]; exact (World.cell?_alloc_lt _ _ _ hblr).trans h1)
             · (rw [hgrow.cell_far _ (by simp; omega) (Ne.symm hne)]; exact (World.cell?_alloc_lt _ _ _ hblr).trans h2)))
        ((refine step_append_lies _ (by rfl) _ _ _ (by rfl) w.heap.size 71 i0 _ 3 24 Try.underlying40 HI.out HZ0.out HZ1.out HZ2.out rfl (by omega) _ k ((l.take k).flatMap encW) (by rfl) ((HO.out.alloc _).drew) ⟨wr.heap.size, 0, none⟩ 1 1 [.int .i64 x.frm, .int .i64 x.flow, .int .i64 x.price] (by rfl) (by rfl) (World.news_of_block (cs := #[.int .i64 x.frm, .int .i64 x.flow, .int .i64 x.price]) (t := 71) (fr := (0, 0)) (heap_alloc_new wr _)) (by simp [Value.oneCell']) (by omega) (by unfold maxLen; omega) (by omega) (by have := hb.size; simp; omega) (wr.heap.size + 1) (by simp) ?_; intro gg cap w1 hown1 hgrow hat hlt1))
      have hown2 : Hid (w1.ownsRow w.heap.size 71 3 (.slice (some ⟨gg, 0, none⟩) (k + 1) cap) (k + 1) ((l.take (k + 1)).flatMap encW)) := by
        rw [List.take_add_one, HX.out]
        have := hown1
        simp [encW] at this ⊢
        exact this
      have hb2 : Hid (Below w.heap.size w w1) := (hb.drew.alloc hb.size _).grown hgrow (by have := hb.size; simp; omega) (fun g hg => (HO.out.lt g hg).1)
      clear hown1 hgrow
      go_wp2
      go_roundw
      case rel => exact ⟨k + 1, by omega, by go_num, hown2.out, hb2.out⟩
      case measure => simp [intOf] <;> omega
    · obtain rfl : k = n := by omega
      obtain ⟨A', c', rfl, hc'⟩ := own_form hown
      have HO := Lib.hid hown; clear hown
      go_wp2
      go_ret
      refine ⟨A', c', rfl, hc', ?_, hb⟩
      have := HO.out
      rwa [List.take_of_length_le (by rw [HL.out]; exact Nat.le_refl _)] at this
end Go.Proofs.Ytpijmfbpdglchaa
