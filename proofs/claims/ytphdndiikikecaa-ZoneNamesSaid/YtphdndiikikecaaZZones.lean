/- THE CONTRACTS of Valley.zone, Valley.zones and zone.ranges. -/
import Derived.Test.YtphdndiikikecaaZInts
import Derived.Deep.AppendLies
set_option linter.unusedVariables false
set_option linter.unusedSimpArgs false
namespace Go.Proofs.Ytphdndiikikecaa
open Go.RowKit Go.Proofs

def stepAt (v : Vly) : Nat → Int
  | 0 => v.s0
  | 1 => v.s1
  | _ => v.s2
def zTo (v : Vly) (d : Int) : Nat → Int
  | 0 => 0
  | k + 1 => zTo v d k + (if stepAt v k ≤ d then 1 else 0)
theorem zTo_three (v : Vly) (d : Int) : zTo v d 3 = zoneOf v d := by simp [zTo, stepAt, zoneOf]
theorem zTo_bd (v : Vly) (d : Int) : ∀ k, 0 ≤ zTo v d k ∧ zTo v d k ≤ k
  | 0 => by simp [zTo]
  | k + 1 => by have := zTo_bd v d k; simp only [zTo]; split <;> omega
theorem zTo_succ (v : Vly) (d : Int) (k : Nat) : zTo v d (k + 1) = zTo v d k + (if stepAt v k ≤ d then 1 else 0) := rfl
theorem infoIn : (Try.prog.info? 3).map (fun i => (i.zero, i.size, i.bytes)) = some (some (.int .i64 0), 1, 8) := by kernel_rfl
theorem infoRg : (Try.prog.info? 67).map (fun i => (i.zero, i.size, i.bytes)) = some (some (.agg #[.int .i64 0, .int .i64 0]), 2, 16) := by kernel_rfl

set_option maxRecDepth 100000 in
set_option maxHeartbeats 400000 in
theorem zone_c (PA SA : Option Addr) (pn pc sn sc : Nat) (v : Vly) (d : Int) (w : World) :
    Calls Try.prog 82 #[.agg #[.slice PA pn pc, .slice SA sn sc, .int .i64 v.s0, .int .i64 v.s1, .int .i64 v.s2], .int .i64 d] w
      fun e w' => e = .returned (.int .i64 (zoneOf v d)) ∧ Below w.heap.size w w' := by
  have HZ := Lib.hid (zTo_three v d)
  have HB := Lib.hid (zTo_bd v d)
  have j0 : ∀ w : World, (Instr.index 24 (.agg #[.int .i64 v.s0, .int .i64 v.s1, .int .i64 v.s2]) (.int .i64 0)).run Try.prog w = .ok (.int .i64 v.s0) w := fun _ => by kernel_rfl
  have j1 : ∀ w : World, (Instr.index 24 (.agg #[.int .i64 v.s0, .int .i64 v.s1, .int .i64 v.s2]) (.int .i64 1)).run Try.prog w = .ok (.int .i64 v.s1) w := fun _ => by kernel_rfl
  have j2 : ∀ w : World, (Instr.index 24 (.agg #[.int .i64 v.s0, .int .i64 v.s1, .int .i64 v.s2]) (.int .i64 2)).run Try.prog w = .ok (.int .i64 v.s2) w := fun _ => by kernel_rfl
  have e0 : stepAt v 0 = v.s0 := rfl
  have e1 : stepAt v 1 = v.s1 := rfl
  have e2 : stepAt v 2 = v.s2 := rfl
  go_enter Try.func82, Try.ntmps82
  go_wp2_with fail
  go_loopw [4, 9] (fun n i wr => ∃ k : Nat, k ≤ 3 ∧ i = .int .i64 k ∧ n = .int .i64 (zTo v d k) ∧ Below w.heap.size w wr) (fun _ i _ => 3 - (intOf i).toNat)
  case atStart => exact ⟨0, by omega, rfl, rfl, (Below.refl _ w).alloc (Nat.le_refl _) _⟩
  case round =>
    obtain ⟨k, hk, rfl, rfl, hb⟩ := hrel
    have HBL := Lib.hid hb; clear hb
    have hbd := HB.out k
    have hst := zTo_succ v d k
    obtain ⟨z, hz⟩ : ∃ z, z = zTo v d k := ⟨_, rfl⟩
    rw [← hz] at hbd hst ⊢
    have hw1 : IntKind.i64.wrap (z + 1) = z + 1 := wi (by omega)
    by_cases h3 : k = 3
    · subst h3
      rw [hz, HZ.out]
      clear hst hbd hw1 hz
      go_wp2_with fail
      go_ret
      exact ⟨rfl, HBL.out⟩
    · have hk3 : k = 0 ∨ k = 1 ∨ k = 2 := by omega
      clear hz h3 hk
      rcases hk3 with rfl | rfl | rfl
      · rw [e0] at hst
        by_cases hc : v.s0 ≤ d
        · rw [if_pos hc] at hst
          have HT := Lib.hid hst; clear hst
          go_wp2_with fail
          go_roundw
          case rel => exact ⟨1, by omega, by go_num, by rw [HT.out], HBL.out⟩
          case measure => simp [intOf]
        · rw [if_neg hc] at hst
          have HT := Lib.hid hst; clear hst
          have hc' : d < v.s0 := by omega
          go_wp2_with fail
          go_roundw
          case rel => exact ⟨1, by omega, by go_num, by rw [HT.out, Int.add_zero], HBL.out⟩
          case measure => simp [intOf]
      · rw [e1] at hst
        by_cases hc : v.s1 ≤ d
        · rw [if_pos hc] at hst
          have HT := Lib.hid hst; clear hst
          go_wp2_with fail
          go_roundw
          case rel => exact ⟨2, by omega, by go_num, by rw [HT.out], HBL.out⟩
          case measure => simp [intOf]
        · rw [if_neg hc] at hst
          have HT := Lib.hid hst; clear hst
          have hc' : d < v.s1 := by omega
          go_wp2_with fail
          go_roundw
          case rel => exact ⟨2, by omega, by go_num, by rw [HT.out, Int.add_zero], HBL.out⟩
          case measure => simp [intOf]
      · rw [e2] at hst
        by_cases hc : v.s2 ≤ d
        · rw [if_pos hc] at hst
          have HT := Lib.hid hst; clear hst
          go_wp2_with fail
          go_roundw
          case rel => exact ⟨3, by omega, by go_num, by rw [HT.out], HBL.out⟩
          case measure => simp [intOf]
        · rw [if_neg hc] at hst
          have HT := Lib.hid hst; clear hst
          have hc' : d < v.s2 := by omega
          go_wp2_with fail
          go_roundw
          case rel => exact ⟨3, by omega, by go_num, by rw [HT.out, Int.add_zero], HBL.out⟩
          case measure => simp [intOf]

set_option maxRecDepth 100000 in
set_option maxHeartbeats 1000000 in
theorem zones_c (PA SA : Option Addr) (pn pc sn sc : Nat) (v : Vly) {l : List Int} {A : Option Addr} {n c : Nat} {w : World} (h : Rd enc1 1 w A n l) (hn : n ≤ 1000000) :
    Calls Try.prog 58 #[.agg #[.slice PA pn pc, .slice SA sn sc, .int .i64 v.s0, .int .i64 v.s1, .int .i64 v.s2], .slice A n c] w
      fun e w' => ∃ A' c', e = .returned (.slice A' n c') ∧ n ≤ c' ∧ Rd enc1 1 w' A' n (l.map (zoneOf v)) ∧ Below w.heap.size w w' := by
  obtain ⟨i0, hi0, hz0, hz1, hz2⟩ := info_parts infoIn
  have HL := Lib.hid h.len
  have HI := Lib.hid hi0; have HZ0 := Lib.hid hz0; have HZ1 := Lib.hid hz1; have HZ2 := Lib.hid hz2
  clear hi0 hz0 hz1 hz2
  have hb0 : Below w.heap.size w (w.alloc (.cells #[.slice PA pn pc, .slice SA sn sc, .int .i64 v.s0, .int .i64 v.s1, .int .i64 v.s2] 36)) := (Below.refl _ w).alloc (Nat.le_refl _) _
  have HB0 := Lib.hid hb0; clear hb0
  have hmf : ∀ (fn : Fn) (first cap : Array Value) (w : World), (Instr.makeFunc fn first cap).run Try.prog w = .ok (.func fn first cap) w := fun _ _ _ _ => rfl
  go_enter Try.func58, Try.ntmps58
  go_wp2_with fail
  go_loopw [4, 12] (fun o i wr => ∃ k : Nat, k ≤ n ∧ i = .int .i64 k ∧ wr.ownsRow w.heap.size 3 1 o k (((l.take k).map (zoneOf v)).flatMap enc1) ∧ Below w.heap.size w wr) (fun _ i _ => n - (intOf i).toNat)
  case atStart => exact ⟨0, Nat.zero_le _, rfl, World.ownsRow_nil _ _ _ _, HB0.out⟩
  case round =>
    obtain ⟨k, hk, rfl, hown, hb⟩ := hrel
    have HO := Lib.hid hown; clear hown
    by_cases hlt : k < n
    · obtain ⟨b, o, x, hA, _, hx, h0⟩ := (h.below hb).at1 hlt
      subst hA
      have HX := Lib.hid hx; clear hx
      have HB := Lib.hid hb
      have hsz := hb.size
      clear hb
      go_wp2_with fail
      refine (zone_c PA SA pn pc sn sc v x _).mono ?_
      rintro e w2 ⟨rfl, hb2⟩
      have HO2 := Lib.hid (own_mono HO.out hb2)
      have hsz2 := hb2.size
      have HB2 := Lib.hid (below_tr HB.out hb2); clear hb2
      go_wp2_with (at_builtin; go_must (refine wpList_append_own_at _ rfl _ _ 39 rfl w.heap.size 3 i0 _ 1 8 Try.underlying39 HI.out HZ0.out HZ1.out HZ2.out rfl (by decide) _ _ _ rfl (HO2.out.alloc _) ⟨w2.heap.size, 0, none⟩ 1 1 [.int .i64 (zoneOf v x)] rfl rfl (fun j u hj => World.news_of_block (cs := #[.int .i64 (zoneOf v x)]) (t := 3) (fr := (0, 0)) (heap_alloc_new w2 _) j u hj) (by simp [Value.oneCell']) (by unfold maxLen; omega) (by omega) (by simp; omega) ?_; intro v' w1 hown' hgrow _ _))
      have hown2 : Hid (w1.ownsRow w.heap.size 3 1 v' (k + 1) (((l.take (k + 1)).map (zoneOf v)).flatMap enc1)) := by
        have := hown'
        rw [List.take_add_one, HX.out, List.map_append, List.flatMap_append]
        simp only [Option.toList_some, List.map_cons, List.map_nil, List.flatMap_cons, List.flatMap_nil, List.append_nil]
        exact this
      have hb2 : Hid (Below w.heap.size w w1) := (HB2.out.alloc HB2.out.size _).grown hgrow (by simp; omega) (fun g hg => (HO2.out.lt g hg).1)
      clear hown' hgrow
      go_roundw
      case rel => exact ⟨k + 1, by omega, by go_num, hown2.out, hb2.out⟩
      case measure => simp [intOf] <;> omega
    · obtain rfl : k = n := by omega
      obtain ⟨A', c', rfl, hc'⟩ := own_form HO.out
      go_wp2_with fail
      go_ret
      refine ⟨A', c', rfl, hc', ?_, hb⟩
      have := HO.out
      rw [List.take_of_length_le (by rw [HL.out]; exact Nat.le_refl _)] at this
      exact Rd.of_own enc1_len this (by rw [List.length_map, HL.out])

set_option maxRecDepth 100000 in
set_option maxHeartbeats 1000000 in
theorem rangesZ_c {l l' : List Int} {A A' : Option Addr} {n c c0 : Nat} {w : World} (h : Rd enc1 1 w A n l) (h' : Rd enc1 1 w A' n l') (hn : n ≤ 1000000) :
    Calls Try.prog 57 #[.slice A n c, .slice A' n c0] w
      fun e w' => ∃ B c', e = .returned (.slice B n c') ∧ n ≤ c' ∧ Rd enc2 2 w' B n (l.zip l') ∧ Below w.heap.size w w' := by
  obtain ⟨i0, hi0, hz0, hz1, hz2⟩ := info_parts infoRg
  have HL := Lib.hid h.len; have HL' := Lib.hid h'.len
  have HI := Lib.hid hi0; have HZ0 := Lib.hid hz0; have HZ1 := Lib.hid hz1; have HZ2 := Lib.hid hz2
  clear hi0 hz0 hz1 hz2
  go_enter Try.func57, Try.ntmps57
  go_wp2_with fail
  go_loopw [4, 9] (fun o i wr => ∃ k : Nat, k ≤ n ∧ i = .int .i64 k ∧ wr.ownsRow w.heap.size 67 2 o k (((l.zip l').take k).flatMap enc2) ∧ Below w.heap.size w wr) (fun _ i _ => n - (intOf i).toNat)
  case atStart => exact ⟨0, Nat.zero_le _, rfl, World.ownsRow_nil _ _ _ _, Below.refl _ _⟩
  case round =>
    obtain ⟨k, hk, rfl, hown, hb⟩ := hrel
    have HO := Lib.hid hown; clear hown
    by_cases hlt : k < n
    · obtain ⟨b, o, x, hA, _, hx, h0⟩ := (h.below hb).at1 hlt
      obtain ⟨b', o', x', hA', _, hx', h0'⟩ := (h'.below hb).at1 hlt
      subst hA hA'
      have hz : (l.zip l')[k]? = some (x, x') := by rw [List.getElem?_zip_eq_some]; exact ⟨hx, hx'⟩
      have HX := Lib.hid hz; clear hx hx' hz
      have HB := Lib.hid hb
      have hsz := hb.size
      have hi1 : (k : Int) < (n : Int) := by omega
      have hi0 : (0 : Int) ≤ (k : Int) := by omega
      clear hb
      go_wp2_with (at_builtin; go_must (refine wpList_append_own_at _ rfl _ _ 29 rfl w.heap.size 67 i0 _ 2 16 Try.underlying29 HI.out HZ0.out HZ1.out HZ2.out rfl (by decide) _ _ _ rfl (HO.out.alloc _) ⟨wr.heap.size, 0, none⟩ 1 1 [.int .i64 x, .int .i64 x'] rfl rfl (fun j u hj => World.news_of_block (cs := #[.int .i64 x, .int .i64 x']) (t := 67) (fr := (0, 0)) (heap_alloc_new wr _) j u hj) (by simp [Value.oneCell']) (by unfold maxLen; omega) (by omega) (by simp; omega) ?_; intro v' w1 hown' hgrow _ _))
      have hown2 : Hid (w1.ownsRow w.heap.size 67 2 v' (k + 1) (((l.zip l').take (k + 1)).flatMap enc2)) := by
        have := hown'
        rw [List.take_add_one, HX.out, List.flatMap_append]
        simp only [Option.toList_some, List.flatMap_cons, List.flatMap_nil, List.append_nil]
        exact this
      have hb2 : Hid (Below w.heap.size w w1) := (HB.out.alloc HB.out.size _).grown hgrow (by simp; omega) (fun g hg => (HO.out.lt g hg).1)
      clear hown' hgrow
      go_roundw
      case rel => exact ⟨k + 1, by omega, by go_num, hown2.out, hb2.out⟩
      case measure => simp [intOf] <;> omega
    · obtain rfl : k = n := by omega
      obtain ⟨B, c', rfl, hc'⟩ := own_form HO.out
      go_wp2_with fail
      go_ret
      refine ⟨B, c', rfl, hc', ?_, hb⟩
      have hlz : (l.zip l').length = k := by rw [List.length_zip, HL.out, HL'.out]; omega
      have := HO.out
      rw [List.take_of_length_le (by rw [hlz]; exact Nat.le_refl _)] at this
      exact Rd.of_own enc2_len this hlz
end Go.Proofs.Ytphdndiikikecaa
