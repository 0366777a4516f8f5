/- THE CONTRACT of the reference's Gaps. -/
import Derived.Test.YtkgoojilmnkgiaaRSorted
import Derived.Deep.AppendLies
namespace Go.Proofs.Ytkgoojilmnkgiaa
open Go.RowKit Go.Proofs

theorem infoRG : (Try.prog.info? 89).map (fun i => (i.zero, i.size, i.bytes)) = some (some (.agg #[.int .i64 0, .int .i64 0, .int .i64 0]), 3, 24) := by kernel_rfl
theorem gapStep_yes {x y : Rdg} (h : y.ins = x.ins) (h' : 1 < y.num - x.num) : gapStep x y = [(y.ins, x.num + 1, y.num - 1)] := by
  unfold gapStep; rw [if_pos ⟨h.symm, by omega⟩, h]
theorem gapStep_no {x y : Rdg} (h : ¬ (y.ins = x.ins ∧ 1 < y.num - x.num)) : gapStep x y = [] := by
  unfold gapStep; rw [if_neg (by omega)]

set_option maxRecDepth 100000 in
set_option maxHeartbeats 2000000 in
theorem RGaps_c {l : List Rdg} {A : Option Addr} {n c : Nat} {w : World} (h : Rd encR 4 w A n l) (hn : n ≤ 100000) (hv : allB validB l = true) :
    Calls Try.prog 45 #[.slice A n c] w fun e w' => ∃ A' n' c', e = .returned (.slice A' n' c') ∧ n' ≤ c' ∧ n' ≤ n ∧ Rd encG 3 w' A' n' (gapsTo (sortedR l) ((sortedR l).length - 1)) ∧ Below w.heap.size w w' := by
  obtain ⟨i0, hi0, hz0, hz1, hz2⟩ := info_parts infoRG
  have HI := Lib.hid hi0; have HZ0 := Lib.hid hz0; have HZ1 := Lib.hid hz1; have HZ2 := Lib.hid hz2
  have HVal : Hid (∀ (i : Nat) (x : Rdg), (sortedR l)[i]? = some x → validB x = true) := Lib.hid (fun i x hx => by
    have := (sortedR_ok l).2 x |>.1 (List.mem_of_getElem? hx)
    obtain ⟨j, hj⟩ := List.getElem?_of_mem this
    exact allB_iff.1 hv j x hj)
  clear hi0 hz0 hz1 hz2 hv
  go_enter Try.func45, Try.ntmps45
  go_wp2_with fail
  refine (RSorted_c h hn).mono ?_
  rintro e w1 ⟨A1, m, c1, rfl, hc1, hmn, hr1, hb1⟩
  have HR1 := Lib.hid hr1; have HB1 := Lib.hid hb1
  have HLm := Lib.hid hr1.len
  clear hr1 hb1
  obtain ⟨S, hS⟩ : ∃ S, S = sortedR l := ⟨_, rfl⟩
  rw [← hS] at HR1 HLm HVal
  have HS := Lib.hid hS
  clear hS
  go_wp2_with fail
  go_loopw [4, 5] (fun v i wr => ∃ p : Nat, (p + 1 ≤ m ∨ p = 0) ∧ i = .int .i64 ((p : Int) + 1) ∧ wr.ownsRow w1.heap.size 89 3 v (gapsTo S p).length ((gapsTo S p).flatMap encG) ∧ Below w1.heap.size w1 wr) (fun _ i _ => m + 1 - (intOf i).toNat)
  case atStart => exact ⟨0, .inr rfl, rfl, World.ownsRow_nil _ _ _ _, Below.refl _ _⟩
  case round =>
    obtain ⟨p, hp, rfl, hown, hb⟩ := hrel
    have HO := Lib.hid hown; have HB := Lib.hid hb
    have hsz := hb.size
    have hgl := gapsTo_len S p
    by_cases hlt : p + 1 < m
    · obtain ⟨b, o, x, hA, hbl, hx, hcx⟩ := rd4 (HR1.out.below hb) (i := p) (by omega)
      subst hA
      obtain ⟨b', o', y, hA, _, hy, hcy⟩ := rd4 (HR1.out.below hb) (i := p + 1) hlt
      cases hA
      have hne : u4.ownBlock ≠ some b := fun e => by
        have h1 := (hown.lt b e).1
        obtain ⟨b2, o2, e2, hb2, _⟩ := HR1.out.2 (by omega)
        cases e2; omega
      clear hown hb
      have hvx := validB_iff.1 (HVal.out p x hx); have hvy := validB_iff.1 (HVal.out (p + 1) y hy)
      have HG : Hid (gapsTo S (p + 1) = gapsTo S p ++ gapStep x y) := by
        show _ = _
        rw [gapsTo_succ, gapAt_of hx hy]
      clear hx hy
      obtain ⟨x0, x1, x2, x3⟩ := hcx _ (Below.refl _ _)
      obtain ⟨y0, y1, y2, y3⟩ := hcy _ (Below.refl _ _)
      have hi1 : (p : Int) + 1 < (m : Int) := by omega
      have hi0 : (0 : Int) ≤ (p : Int) + 1 := by omega
      have hi2 : (0 : Int) ≤ (p : Int) := by omega
      have hi3 : (p : Int) < (m : Int) := by omega
      have ht : ((p : Int) + 1).toNat = p + 1 := by omega
      have hw1 : IntKind.i64.wrap ((p : Int) + 1 - 1) = (p : Int) := by rw [wi (by omega)]; omega
      have hw2 : IntKind.i64.wrap (p : Int) = (p : Int) := wi (by omega)
      have hw3 : IntKind.i64.wrap (y.num - x.num) = y.num - x.num := wi (by omega)
      have hw4 : IntKind.i64.wrap (x.num + 1) = x.num + 1 := wi (by omega)
      have hw5 : IntKind.i64.wrap (y.num - 1) = y.num - 1 := wi (by omega)
      generalize gapsTo S p = G at *
      by_cases hins : y.ins = x.ins
      · have e1 : (y.ins == x.ins) = true := by simpa using hins
        by_cases hnum : 1 < y.num - x.num
        · have e2 : decide (1 < y.num - x.num) = true := decide_eq_true hnum
          rw [gapStep_yes hins hnum] at HG
          clear hins
          go_wp2_with fail
          go_quiet (fail)
          have d0 := (Below.refl wr.heap.size wr)
          go_wp2
          go_region_held3 (fun w' => w'.cell? ⟨b, o + (p + 1) * 4, none⟩ = some (.int .i64 y.ins) ∧ w'.cell? ⟨b, o + p * 4 + 1, none⟩ = some (.int .i64 x.num) ∧ w'.cell? ⟨b, o + (p + 1) * 4 + 1, none⟩ = some (.int .i64 y.num))
            (first
              | go_keep
              | (go_split_ands
                 refine ⟨?_, ?_, ?_⟩
                 · (rw [hgrow.cell_far _ (by simp; omega) (Ne.symm hne)]; exact (World.cell?_alloc_lt _ _ _ hbl).trans y0)
                 · (rw [hgrow.cell_far _ (by simp; omega) (Ne.symm hne)]; exact (World.cell?_alloc_lt _ _ _ hbl).trans x1)
                 · (rw [hgrow.cell_far _ (by simp; omega) (Ne.symm hne)]; exact (World.cell?_alloc_lt _ _ _ hbl).trans y1)))
            ((refine step_append_lies _ (by rfl) _ _ _ (by rfl) w1.heap.size 89 i0 _ 3 24 Try.underlying85 HI.out HZ0.out HZ1.out HZ2.out rfl (by omega) _ G.length (G.flatMap encG) (by rfl) (own_mono HO.out ((below_drewN (Below.refl _ wr) _).alloc (by simp) _)) ⟨wr.heap.size, 0, none⟩ 1 1 [.int .i64 y.ins, .int .i64 (x.num + 1), .int .i64 (y.num - 1)] (by rfl) (by rfl) (World.news_of_block (cs := #[.int .i64 y.ins, .int .i64 (x.num + 1), .int .i64 (y.num - 1)]) (t := 89) (fr := (0, 0)) (heap_alloc_new _ _)) (by simp [Value.oneCell']) (by omega) (by unfold maxLen; omega) (by omega) (by simp; omega) (wr.heap.size + 1) (by simp) ?_; intro gg cap w5 hown1 hgrow hat hlt1))
          have HO2 : Hid (w5.ownsRow w1.heap.size 89 3 (.slice (some ⟨gg, 0, none⟩) (G.length + 1) cap) (gapsTo S (p + 1)).length ((gapsTo S (p + 1)).flatMap encG)) := by
            show World.ownsRow _ _ _ _ _ _ _
            rw [HG.out, List.flatMap_append, List.length_append]
            have := hown1
            simp [encG] at this ⊢
            exact this
          have HB2 : Hid (Below w1.heap.size w1 w5) := ((below_drewN HB.out (_ + 1)).alloc hsz _).grown hgrow (by simp; omega) (fun g hg => (HO.out.lt g hg).1)
          clear hown1 hgrow hat
          go_wp2
          go_roundw
          case rel => exact ⟨p + 1, by omega, by go_num, HO2.out, HB2.out⟩
          case measure => simp [intOf] <;> omega
        · have e2 : decide (1 < y.num - x.num) = false := decide_eq_false hnum
          rw [gapStep_no (fun h => hnum h.2), List.append_nil] at HG
          clear hins hne
          go_wp2_with fail
          go_quiet (fail)
          go_wp2
          go_roundw
          case rel => exact ⟨p + 1, by omega, by go_num, by rw [HG.out]; exact own_mono HO.out (below_drewN (Below.refl _ _) _), below_drewN HB.out _⟩
          case measure => simp [intOf] <;> omega
      · have e1 : (y.ins == x.ins) = false := by simpa using hins
        rw [gapStep_no (fun h => hins h.1), List.append_nil] at HG
        clear hne
        go_wp2_with fail
        go_quiet (fail)
        go_wp2
        go_roundw
        case rel => exact ⟨p + 1, by omega, by go_num, by rw [HG.out]; exact own_mono HO.out (below_drewN (Below.refl _ _) _), below_drewN HB.out _⟩
        case measure => simp [intOf] <;> omega
    · have hpm : S.length - 1 = p := by have := HLm.out; omega
      obtain ⟨A', c', rfl, hc'⟩ := own_form HO.out
      have hlt' : ¬ (p : Int) + 1 < (m : Int) := by omega
      clear hown hb
      go_wp2_with fail
      go_ret
      refine ⟨A', _, c', rfl, hc', by omega, ?_, below_tr HB1.out HB.out⟩
      rw [← HS.out, hpm]
      exact Rd.of_own encG_len HO.out rfl
end Go.Proofs.Ytkgoojilmnkgiaa
