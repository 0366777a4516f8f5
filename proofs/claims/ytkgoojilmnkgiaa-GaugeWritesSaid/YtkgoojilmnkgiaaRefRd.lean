/- THE CONTRACT of the reference's Read. -/
import Derived.Test.YtkgoojilmnkgiaaRefReads
import Derived.Test.YtkgoojilmnkgiaaRead
import Derived.Test.YtkgoojilmnkgiaaLawNoise
namespace Go.Proofs.Ytkgoojilmnkgiaa
open Go.RowKit Go.Proofs

theorem infoRR : (Try.prog.info? 55).map (fun i => (i.zero, i.size, i.bytes)) = some (some (.agg #[.int .i64 0, .int .i64 0, .int .i64 0, .int .i64 0]), 4, 32) := by kernel_rfl
theorem natV_flat1 (l : List Nat) : natV l = (l.map Int.ofNat).flatMap enc1 := by
  induction l with
  | nil => rfl
  | cons x l ih => rw [List.map_cons, List.flatMap_cons, ← ih]; rfl
/-- what has been read and lost, and what is still to come -/
def RS (bs : List UInt8) (base : Nat) (k : Nat) (vo vl : Value) (pr : List Rdg) (pl : List Nat) (w : World) : Prop :=
  w.ownsRow base 55 4 vo pr.length (pr.flatMap encR) ∧ w.ownsRow base 3 1 vl pl.length (natV pl) ∧ (pr ++ (refRead bs k).1, pl ++ (refRead bs k).2) = refRead bs 0 ∧ pr.length ≤ k ∧ pl.length ≤ k

set_option maxRecDepth 100000 in
set_option maxHeartbeats 1000000 in
theorem rread_c (bs : List UInt8) (w : World) (hl : bs.length ≤ 10000) :
    Calls Try.prog 23 #[str bs] w fun e w' => ∃ A1 n1 c1 A2 n2 c2, e = .returned (.tuple #[.slice A1 n1 c1, .slice A2 n2 c2]) ∧ n1 ≤ c1 ∧ n2 ≤ c2 ∧ n1 ≤ 10000 ∧ n2 ≤ 10000 ∧
      Rd encR 4 w' A1 n1 (readOf bs) ∧ Rd enc1 1 w' A2 n2 ((lostOf bs).map Int.ofNat) ∧ Below w.heap.size w w' := by
  obtain ⟨i0, hi0, hz0, hz1, hz2⟩ := info_parts infoRR
  obtain ⟨j0, hj0, hy0, hy1, hy2⟩ := info_parts infoI
  have HI := Lib.hid hi0; have HZ0 := Lib.hid hz0; have HZ1 := Lib.hid hz1; have HZ2 := Lib.hid hz2
  have HJ := Lib.hid hj0; have HY0 := Lib.hid hy0; have HY1 := Lib.hid hy1; have HY2 := Lib.hid hy2
  clear hi0 hz0 hz1 hz2 hj0 hy0 hy1 hy2
  rw [show str bs = Value.string ⟨bs.toArray⟩ from rfl]
  go_enter Try.func23, Try.ntmps23
  go_wp2_with fail
  go_loopw [4, 5, 6] (fun vo vl i wr => ∃ (k : Nat) (pr : List Rdg) (pl : List Nat), k ≤ bs.length ∧ i = .int .i64 k ∧ RS bs w.heap.size k vo vl pr pl wr ∧ Below w.heap.size w wr) (fun _ _ i _ => bs.length - (intOf i).toNat)
  case atStart => exact ⟨0, [], [], Nat.zero_le _, rfl, ⟨World.ownsRow_nil _ _ _ _, World.ownsRow_nil _ _ _ _, rfl, Nat.le_refl _, Nat.le_refl _⟩, Below.refl _ _⟩
  case round =>
    obtain ⟨k, pr, pl, hk, rfl, ⟨hO, hL, hE, hp, hq⟩, hb⟩ := hrel
    have HO := Lib.hid hO; have HL := Lib.hid hL; have HE := Lib.hid hE; have HB := Lib.hid hb
    have hsz := hb.size
    clear hO hL hE hb
    by_cases hlt : k < bs.length
    · have hkn : (k : Int) < (bs.length : Int) := by omega
      have k0 : (0 : Int) ≤ (k : Int) := by omega
      have w1 : IntKind.i64.wrap ((k : Int) + 16) = (k : Int) + 16 := wi (by omega)
      by_cases h16 : k + 16 ≤ bs.length
      · have h16' : (k : Int) + 16 ≤ (bs.length : Int) := by omega
        have hsl : ∀ W, (Instr.slice 9 (.string ⟨bs.toArray⟩) (some (.int .i64 (k : Int))) (some (.int .i64 ((k : Int) + 16))) none).run Try.prog W = .ok (str (win bs k)) W := fun W => by
          have := str_slice bs W (i := k) (j := k + 16) (a := k) (b := (k : Int) + 16) rfl (by omega) (by omega) h16
          rwa [Nat.add_sub_cancel_left] at this
        have HR := Lib.hid (fun W => rreads_c (win bs k) W (win_len h16))
        cases hr : isRec (win bs k)
        · rw [hr] at HR
          have HE2 : Hid ((pr ++ (refRead bs (k + 1)).1, (pl ++ [k]) ++ (refRead bs (k + 1)).2) = refRead bs 0) := by
            have := HE.out
            rw [refRead_no hlt (by rw [hr]; simp)] at this
            show _ = _
            rw [← this]; simp
          clear HE
          clear hr
          go_wp2_with fail
          refine (HR.out _).mono ?_
          rintro e w2 ⟨rfl, hb2⟩
          obtain ⟨w3, hw3⟩ : ∃ w3 : World, w3 = w2.alloc (.cells #[.int .i64 (rdgOf (win bs k)).ins, .int .i64 (rdgOf (win bs k)).num, .int .i64 (rdgOf (win bs k)).tim, .int .i64 (rdgOf (win bs k)).val] 55) := ⟨_, rfl⟩
          have hb3 : Below wr.heap.size wr w3 := by rw [hw3]; exact hb2.alloc hb2.size _
          have HO3 := Lib.hid (own_mono HO.out hb3); have HL3 := Lib.hid (own_mono HL.out hb3); have HB3 := Lib.hid (below_tr HB.out hb3)
          have hsz3 := Nat.le_trans hsz hb3.size
          have HW3 := Lib.hid hw3
          clear hb2 hb3 HO HL hw3 HB HR
          go_upto_region 7 with fail
          rw [← HW3.out]
          clear HW3
          go_wp2_with (at_builtin; go_must (refine wpList_append_own_at _ rfl _ _ 33 rfl w.heap.size 3 j0 (.int .i64 0) 1 8 Try.underlying33 HJ.out HY0.out HY1.out HY2.out rfl (by decide) _ _ _ rfl (HL3.out.alloc _) ⟨w3.heap.size, 0, none⟩ 1 1 [.int .i64 (k : Int)] rfl rfl (cell_one_new _ _ _) (by simp [Value.oneCell']) (by unfold maxLen; omega) (by omega) (by simp; omega) ?_; intro v2 w4 hown2 hgrow2 _ _))
          have HB4 : Hid (Below w.heap.size w w4) := (HB3.out.alloc HB3.out.size _).grown hgrow2 (by simp; omega) (fun g hg => (HL3.out.lt g hg).1)
          have HO4 := Lib.hid (own_grown (HO3.out.alloc _) (HL3.out.alloc _) (by decide) hgrow2)
          have HL4 : Hid (w4.ownsRow w.heap.size 3 1 v2 (pl ++ [k]).length (natV (pl ++ [k]))) := by
            show World.ownsRow _ _ _ _ _ _ _
            rw [List.length_append, natV_append]; exact hown2
          clear hown2 hgrow2 HO3 HL3 HB3
          go_wp2_with fail
          go_roundw
          case rel => exact ⟨k + 1, pr, pl ++ [k], by omega, by go_num, ⟨HO4.out, HL4.out, HE2.out, by omega, by simp; omega⟩, HB4.out⟩
          case measure => simp [intOf] <;> omega
        · rw [hr] at HR
          have HE2 : Hid (((pr ++ [rdgOf (win bs k)]) ++ (refRead bs (k + 16)).1, pl ++ (refRead bs (k + 16)).2) = refRead bs 0) := by
            have := HE.out
            rw [refRead_yes h16 hr] at this
            show _ = _
            rw [← this]; simp
          clear HE hr
          go_wp2_with fail
          refine (HR.out _).mono ?_
          rintro e w2 ⟨rfl, hb2⟩
          generalize rdgOf (win bs k) = r at *
          obtain ⟨w3, hw3⟩ : ∃ w3 : World, w3 = w2.alloc (.cells #[.int .i64 r.ins, .int .i64 r.num, .int .i64 r.tim, .int .i64 r.val] 55) := ⟨_, rfl⟩
          have hk3 := Blk.new w2 55 #[.int .i64 r.ins, .int .i64 r.num, .int .i64 r.tim, .int .i64 r.val]
          rw [← hw3] at hk3
          have x0 := hk3.cell 0; have x1 := hk3.cell 1; have x2 := hk3.cell 2; have x3 := hk3.cell 3
          simp at x0 x1 x2 x3
          have hb3 : Below wr.heap.size wr w3 := by rw [hw3]; exact hb2.alloc hb2.size _
          have HO3 := Lib.hid (own_mono HO.out hb3); have HL3 := Lib.hid (own_mono HL.out hb3); have HB3 := Lib.hid (below_tr HB.out hb3)
          have hsz3 := Nat.le_trans hsz hb3.size
          have HW3 := Lib.hid hw3
          clear hb2 hb3 HO HL hw3 HB HR hk3
          go_upto_region 7 with fail
          rw [← HW3.out]
          clear HW3
          go_wp2_with (at_builtin; go_must (refine wpList_append_own_at _ rfl _ _ 22 rfl w.heap.size 55 i0 _ 4 32 Try.underlying22 HI.out HZ0.out HZ1.out HZ2.out rfl (by decide) _ _ _ rfl (HO3.out.alloc _) ⟨w3.heap.size, 0, none⟩ 1 1 (encR r) rfl rfl (fun j u hj => World.news_of_block (cs := #[.int .i64 r.ins, .int .i64 r.num, .int .i64 r.tim, .int .i64 r.val]) (t := 55) (fr := (0, 0)) (heap_alloc_new w3 _) j u hj) (by simp [Value.oneCell', encR]) (by unfold maxLen; omega) (by omega) (by simp; omega) ?_; intro v2 w4 hown2 hgrow2 _ _))
          have HB4 : Hid (Below w.heap.size w w4) := (HB3.out.alloc HB3.out.size _).grown hgrow2 (by simp; omega) (fun g hg => (HO3.out.lt g hg).1)
          have HL4 := Lib.hid (own_grown (HL3.out.alloc _) (HO3.out.alloc _) (by decide) hgrow2)
          have HO4 : Hid (w4.ownsRow w.heap.size 55 4 v2 (pr ++ [r]).length ((pr ++ [r]).flatMap encR)) := by
            show World.ownsRow _ _ _ _ _ _ _
            rw [List.length_append, List.flatMap_append]; simpa using hown2
          clear hown2 hgrow2 HO3 HL3 HB3
          go_wp2_with fail
          go_roundw
          case rel => exact ⟨k + 16, pr ++ [r], pl, by omega, by go_num, ⟨HO4.out, HL4.out, HE2.out, by simp; omega, by omega⟩, HB4.out⟩
          case measure => simp [intOf] <;> omega
      · have h16' : ¬ (k : Int) + 16 ≤ (bs.length : Int) := by omega
        have HE2 : Hid ((pr ++ (refRead bs (k + 1)).1, (pl ++ [k]) ++ (refRead bs (k + 1)).2) = refRead bs 0) := by
          have := HE.out
          rw [refRead_no hlt (by exact fun h => h16 h.1)] at this
          show _ = _
          rw [← this]; simp
        clear HE
        obtain ⟨w3, rfl⟩ : ∃ w3 : World, w3 = wr := ⟨_, rfl⟩
        have HO3 := HO; have HL3 := HL; have HB3 := HB
        clear HO HL HB
        go_wp2_with (at_builtin; go_must (refine wpList_append_own_at _ rfl _ _ 33 rfl w.heap.size 3 j0 (.int .i64 0) 1 8 Try.underlying33 HJ.out HY0.out HY1.out HY2.out rfl (by decide) _ _ _ rfl (HL3.out.alloc _) ⟨w3.heap.size, 0, none⟩ 1 1 [.int .i64 (k : Int)] rfl rfl (cell_one_new _ _ _) (by simp [Value.oneCell']) (by unfold maxLen; omega) (by omega) (by simp; omega) ?_; intro v2 w4 hown2 hgrow2 _ _))
        have HB4 : Hid (Below w.heap.size w w4) := (HB3.out.alloc HB3.out.size _).grown hgrow2 (by simp; omega) (fun g hg => (HL3.out.lt g hg).1)
        have HO4 := Lib.hid (own_grown (HO3.out.alloc _) (HL3.out.alloc _) (by decide) hgrow2)
        have HL4 : Hid (w4.ownsRow w.heap.size 3 1 v2 (pl ++ [k]).length (natV (pl ++ [k]))) := by
          show World.ownsRow _ _ _ _ _ _ _
          rw [List.length_append, natV_append]; exact hown2
        clear hown2 hgrow2 HO3 HL3 HB3
        go_wp2_with fail
        go_roundw
        case rel => exact ⟨k + 1, pr, pl ++ [k], by omega, by go_num, ⟨HO4.out, HL4.out, HE2.out, by omega, by simp; omega⟩, HB4.out⟩
        case measure => simp [intOf] <;> omega
    · obtain rfl : k = bs.length := by omega
      obtain ⟨A1, c1, rfl, hc1⟩ := own_form HO.out
      obtain ⟨A2, c2, rfl, hc2⟩ := own_form HL.out
      go_wp2_with fail
      go_ret2
      have hE2 := HE.out
      rw [refRead_end (by omega), refRead_eq] at hE2
      simp only [List.append_nil, Prod.mk.injEq] at hE2
      refine ⟨A1, _, c1, A2, _, c2, rfl, hc1, hc2, by omega, by omega, ?_, ?_, HB.out⟩
      · rw [← hE2.1]; exact Rd.of_own encR_len HO.out rfl
      · rw [← hE2.2]
        have := HL.out
        rw [natV_flat1] at this
        exact Rd.of_own enc1_len this (by simp)
end Go.Proofs.Ytkgoojilmnkgiaa
