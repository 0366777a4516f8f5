/- THE CONTRACTS of the law's conversion of Readings: a new slice that reads as the old one. -/
import Derived.Test.YtkgoojilmnkgiaaSmall
namespace Go.Proofs.Ytkgoojilmnkgiaa
open Go.RowKit Go.Proofs

set_option maxRecDepth 100000 in
theorem to_c (r : Rdg) (w : World) : Calls Try.prog 31 #[vR r] w fun e w' => e = .returned (vR r) ∧ Below w.heap.size w w' := by
  have hbl : Below w.heap.size w ((w.alloc (.cells #[.int .i64 r.ins, .int .i64 r.num, .int .i64 r.tim, .int .i64 r.val] 55)).alloc (.cells #[.int .i64 r.ins, .int .i64 r.num, .int .i64 r.tim, .int .i64 r.val] 53)) := ((Below.refl _ _).alloc (Nat.le_refl _) _).alloc (by simp) _
  have HB := Lib.hid hbl; clear hbl
  go_enter Try.func31, Try.ntmps31
  go_wp2_with fail
  refine bodyPost_ret (v := vR r) ?_ rfl ⟨rfl, HB.out⟩
  simp [results, Try.f31, go_sem]

theorem infoRdg : (Try.prog.info? 53).map (fun i => (i.zero, i.size, i.bytes)) = some (some (.agg #[.int .i64 0, .int .i64 0, .int .i64 0, .int .i64 0]), 4, 32) := by kernel_rfl

set_option maxRecDepth 100000 in
set_option maxHeartbeats 400000 in
theorem Readings_c {l : List Rdg} {A : Option Addr} {n c : Nat} {w : World} (h : Rd encR 4 w A n l) (hn : n ≤ 1000000) :
    Calls Try.prog 19 #[.slice A n c] w fun e w' => ∃ A' c', e = .returned (.slice A' n c') ∧ n ≤ c' ∧ Rd encR 4 w' A' n l ∧ Below w.heap.size w w' := by
  obtain ⟨i0, hi0, hz0, hz1, hz2⟩ := info_parts infoRdg
  have hl := h.len
  have HL := Lib.hid hl; clear hl
  have HI := Lib.hid hi0; have HZ0 := Lib.hid hz0; have HZ1 := Lib.hid hz1; have HZ2 := Lib.hid hz2
  clear hi0 hz0 hz1 hz2
  go_enter Try.func19, Try.ntmps19
  go_wp2_with fail
  go_loopw [3, 4] (fun v i wr => ∃ k : Nat, k ≤ n ∧ i = .int .i64 k ∧ wr.ownsRow w.heap.size 53 4 v k ((l.take k).flatMap encR) ∧ Below w.heap.size w wr) (fun _ i _ => n - (intOf i).toNat)
  case atStart => exact ⟨0, Nat.zero_le _, rfl, World.ownsRow_nil _ _ _ _, Below.refl _ _⟩
  case round =>
    obtain ⟨k, hk, rfl, hown, hb⟩ := hrel
    have HO := Lib.hid hown; clear hown
    by_cases hlt : k < n
    · obtain ⟨b, o, x, hA, _, hx, h0, h1, h2, h3⟩ := (h.below hb).at4 hlt
      subst hA
      have HX := Lib.hid hx; clear hx
      have HB := Lib.hid hb
      have hsz := hb.size
      clear hb
      go_wp2_with fail
      refine (to_c x _).mono ?_
      rintro e w2 ⟨rfl, hb2⟩
      have HO2 := Lib.hid (own_mono HO.out hb2)
      have hsz2 := hb2.size
      have HB2 := Lib.hid (below_tr HB.out hb2); clear hb2
      go_wp2_with (at_builtin; go_must (refine wpList_append_own_at _ rfl _ _ 28 rfl w.heap.size 53 i0 _ 4 32 Try.underlying28 HI.out HZ0.out HZ1.out HZ2.out rfl (by decide) _ _ _ rfl (HO2.out.alloc _) ⟨w2.heap.size, 0, none⟩ 1 1 (encR x) rfl rfl (fun j u hj => World.news_of_block (cs := #[.int .i64 x.ins, .int .i64 x.num, .int .i64 x.tim, .int .i64 x.val]) (t := 53) (fr := (0, 0)) (heap_alloc_new w2 _) j u hj) (by simp [Value.oneCell', encR]) (by unfold maxLen; omega) (by omega) (by simp; omega) ?_; intro v' w1 hown' hgrow _ _))
      have hown2 : Hid (w1.ownsRow w.heap.size 53 4 v' (k + 1) ((l.take (k + 1)).flatMap encR)) := by
        have := hown'
        rw [List.take_add_one, HX.out, List.flatMap_append]
        simp only [Option.toList_some, List.flatMap_cons, List.flatMap_nil, List.append_nil]
        exact this
      have hb2 : Hid (Below w.heap.size w w1) := (HB2.out.alloc HB2.out.size _).grown hgrow (by simp; omega) (fun g hg => (HO2.out.lt g hg).1)
      clear hown' hgrow
      go_roundw
      case rel => exact ⟨k + 1, by omega, by go_num, hown2.out, hb2.out⟩
      case measure => simp [intOf] <;> omega
    · obtain rfl : k = n := by omega
      obtain ⟨A', c', rfl, hc'⟩ := own_form HO.out
      go_wp2_with fail
      go_ret
      refine ⟨A', c', rfl, hc', ?_, hb⟩
      have := HO.out
      rw [List.take_of_length_le (by rw [HL.out]; exact Nat.le_refl _)] at this
      exact Rd.of_own encR_len this HL.out
end Go.Proofs.Ytkgoojilmnkgiaa
