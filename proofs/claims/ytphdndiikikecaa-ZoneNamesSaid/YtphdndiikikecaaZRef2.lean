/- CONTRACTS of the reference's and the law's small functions on valleys: list, upTo, Hits, Zone, Ends, Danger. -/
import Derived.Test.YtphdndiikikecaaZHitLaw
import Derived.Test.YtphdndiikikecaaZFits
import Derived.BigQuiet
set_option linter.unusedVariables false
set_option linter.unusedSimpArgs false
namespace Go.Proofs.Ytphdndiikikecaa
open Go.RowKit Go.Proofs

set_option maxHeartbeats 400000 in
theorem list_c {l : List Int} {A : Option Addr} {n c : Nat} {w : World} (h : Rd enc1 1 w A n l) (hn : n ≤ 1000000) :
    Calls Try.prog 32 #[.slice A n c] w fun e w' => ∃ v, e = .returned v ∧ w'.ownsRow w.heap.size 3 1 v n (l.flatMap enc1) ∧ Below w.heap.size w w' := by
  obtain ⟨i0, hi0, hz0, hz1, hz2⟩ := info_parts infoZ
  have HI := Lib.hid hi0; have HZ0 := Lib.hid hz0; have HZ1 := Lib.hid hz1; have HZ2 := Lib.hid hz2
  clear hi0 hz0 hz1 hz2
  go_enter Try.func32, Try.ntmps32
  go_wp2_with (at_builtin; go_must (refine wpList_append_rd rfl _ _ 39 rfl w.heap.size 3 i0 (.int .i64 0) 1 8 Try.underlying39 HI.out HZ0.out HZ1.out HZ2.out rfl (by decide) _ _ _ rfl (own_empty w 3 1) enc1_len oneZ A n c l rfl (h.below ((Below.refl _ w).alloc (Nat.le_refl _) _)) (by unfold maxLen; omega) (by omega) (by simp) ?_; intro v1 w1 hown hgrow))
  have HB := Lib.hid (((Below.refl _ w).alloc (Nat.le_refl _) _).grown hgrow (by simp) (fun g hg => ((own_empty w 3 1).lt g hg).1))
  rw [Nat.zero_add, List.nil_append] at hown
  have HO := Lib.hid hown
  clear hown hgrow
  go_wp2_with fail
  go_ret
  exact ⟨_, rfl, HO.out, HB.out⟩
theorem upTo_c (lo hi most : Int) (w : World) :
    Calls Try.prog 68 #[.agg #[.int .i64 lo, .int .i64 hi], .int .i64 most] w fun e w' => e = .returned (.bool (upB lo hi most)) ∧ Below w.heap.size w w' := by
  by_cases h : 0 ≤ lo
  · by_cases h2 : lo ≤ hi
    · go_enter Try.func68, Try.ntmps68
      go_wp2
      go_ret
      exact ⟨ret_bool (by simp [upB, h, h2]), (Below.refl _ _).alloc (Nat.le_refl _) _⟩
    · have h3 : hi < lo := by omega
      go_enter Try.func68, Try.ntmps68
      go_wp2
      go_ret
      exact ⟨ret_bool (by simp [upB]; omega), (Below.refl _ _).alloc (Nat.le_refl _) _⟩
  · have h' : lo < 0 := by omega
    go_enter Try.func68, Try.ntmps68
    go_wp2
    go_ret
    exact ⟨ret_bool (by simp [upB]; omega), (Below.refl _ _).alloc (Nat.le_refl _) _⟩
set_option maxRecDepth 100000 in
set_option maxHeartbeats 400000 in
theorem Hits_c {way : List Int} {A : Option Addr} {n c m : Nat} (rate lo hi p : Int) {w : World} (h : Rd enc1 1 w A n way) (hn : n ≤ 1000000) (hm : m ≤ 1000000) :
    Calls Try.prog 77 #[.agg #[.slice A n c, .int .i64 rate, .int .i64 lo, .int .i64 hi], .int .i64 (m : Int), .int .i64 p] w fun e w' => e = .returned (.bool (decide (p ∈ way.take m))) ∧ Below w.heap.size w w' := by
  have HL := Lib.hid h.len
  obtain ⟨R, hR⟩ : ∃ R, R = decide (p ∈ way.take m) := ⟨_, rfl⟩
  rw [← hR]
  have HR := Lib.hid hR
  clear hR
  have hb0 : Below w.heap.size w (w.alloc (.cells #[.slice A n c, .int .i64 rate, .int .i64 lo, .int .i64 hi] 62)) := (Below.refl _ w).alloc (Nat.le_refl _) _
  have HB0 := Lib.hid hb0
  have HH := Lib.hid (h.below hb0)
  clear hb0 h
  go_enter Try.func77, Try.ntmps77
  go_wp2_with fail
  go_loopw [7] (fun i wr => ∃ k : Nat, k ≤ m ∧ k ≤ n ∧ i = .int .i64 k ∧ (p ∉ way.take k) ∧ wr = w.alloc (.cells #[.slice A n c, .int .i64 rate, .int .i64 lo, .int .i64 hi] 62)) (fun i _ => n - (intOf i).toNat)
  case atStart => exact ⟨0, Nat.zero_le _, Nat.zero_le _, rfl, by simp, rfl⟩
  case round =>
    obtain ⟨k, hk, hk', rfl, hno, rfl⟩ := hrel
    have HN := Lib.hid hno; clear hno
    by_cases hkm : k < m
    · have hkm' : (k : Int) < (m : Int) := by omega
      by_cases hkn : k < n
      · obtain ⟨b, o, x, hA, hbl, hx, h0⟩ := HH.out.at1 hkn
        subst hA
        have hkn' : (k : Int) < (n : Int) := by omega
        have hk0 : (0 : Int) ≤ (k : Int) := by omega
        have HX := Lib.hid hx
        clear hx
        by_cases hxp : x = p
        · subst hxp
          have hin : decide (x ∈ way.take m) = true := decide_eq_true (List.mem_of_getElem? (i := k) (by rw [List.getElem?_take, if_pos hkm]; exact HX.out))
          have HIN := Lib.hid hin; clear hin
          go_wp2_with fail
          go_ret
          exact ⟨ret_bool (by rw [HR.out, HIN.out]), HB0.out⟩
        · have hne : (x == p) = false := by rw [beq_eq_false_iff_ne]; exact hxp
          have hno : p ∉ way.take (k + 1) := by
            rw [List.take_add_one, HX.out]
            simp only [Option.toList_some, List.mem_append, List.mem_singleton, not_or]
            exact ⟨HN.out, fun e => hxp e.symm⟩
          have HNO := Lib.hid hno; clear hno
          go_wp2_with fail
          go_roundw
          case rel => exact ⟨k + 1, by omega, by omega, by go_num, HNO.out, trivial⟩
          case measure => simp [intOf] <;> omega
      · obtain rfl : k = n := by omega
        have hfin : decide (p ∈ way.take m) = false := decide_eq_false (fun hh => HN.out (by
          rw [List.take_of_length_le (by rw [HL.out]; omega)] at hh
          rw [List.take_of_length_le (by rw [HL.out]; exact Nat.le_refl _)]; exact hh))
        have HFN := Lib.hid hfin; clear hfin
        go_wp2_with fail
        go_ret
        exact ⟨ret_bool (by rw [HR.out, HFN.out]), HB0.out⟩
    · obtain rfl : k = m := by omega
      have hfin : decide (p ∈ way.take k) = false := decide_eq_false HN.out
      have HFN := Lib.hid hfin; clear hfin
      go_wp2_with fail
      go_ret
      exact ⟨ret_bool (by rw [HR.out, HFN.out]), HB0.out⟩
end Go.Proofs.Ytphdndiikikecaa

namespace Go.Proofs.Ytphdndiikikecaa
open Go.RowKit Go.Proofs
attribute [local go_sem ↓] Go.wp_at_zero Go.wp_at_succ

set_option maxRecDepth 100000 in
set_option maxHeartbeats 1000000 in
theorem refZone_c (PA SA : Option Addr) (pn pc sn sc : Nat) {v : Vly} (d : Int) {w : World} (hs : v.s0 < v.s1 ∧ v.s1 < v.s2) :
    Calls Try.prog 60 #[.agg #[.slice PA pn pc, .slice SA sn sc, .int .i64 v.s0, .int .i64 v.s1, .int .i64 v.s2], .int .i64 d] w fun e w' => e = .returned (.int .i64 (zoneOf v d)) ∧ Below w.heap.size w w' := by
  obtain ⟨R, hR⟩ : ∃ R, R = zoneOf v d := ⟨_, rfl⟩
  have HR := Lib.hid hR
  rw [← hR]
  have hb0 : Below w.heap.size w (w.alloc (.cells #[.slice PA pn pc, .slice SA sn sc, .int .i64 v.s0, .int .i64 v.s1, .int .i64 v.s2] 26)) := (Below.refl _ w).alloc (Nat.le_refl _) _
  have HB := Lib.hid hb0
  clear hR hb0
  go_enter Try.func60, Try.ntmps60
  go_wp2_with fail
  go_loopw [5] (fun i wr => ((i = .int .i64 0) ∨ (i = .int .i64 1 ∧ v.s0 ≤ d) ∨ (i = .int .i64 2 ∧ v.s1 ≤ d) ∨ (i = .int .i64 3 ∧ v.s2 ≤ d)) ∧ wr = w.alloc (.cells #[.slice PA pn pc, .slice SA sn sc, .int .i64 v.s0, .int .i64 v.s1, .int .i64 v.s2] 26)) (fun i _ => 3 - (intOf i).toNat)
  case atStart => exact ⟨.inl rfl, rfl⟩
  case round =>
    obtain ⟨hi, rfl⟩ := hrel
    rcases hi with rfl | ⟨rfl, h0⟩ | ⟨rfl, h1⟩ | ⟨rfl, h2⟩
    · by_cases hc : v.s0 ≤ d
      · go_wp2_with fail
        go_roundw
        case rel => exact ⟨.inr (.inl ⟨rfl, hc⟩), trivial⟩
        case measure => simp [intOf]
      · have hc2 : decide (v.s0 ≤ d) = false := decide_eq_false hc
        go_wp2_with fail
        go_ret
        exact ⟨ret_int (by rw [HR.out]; unfold zoneOf; rw [if_neg (by omega), if_neg (by omega), if_neg (by omega)]; rfl), HB.out⟩
    · by_cases hc : v.s1 ≤ d
      · go_wp2_with fail
        go_roundw
        case rel => exact ⟨.inr (.inr (.inl ⟨rfl, hc⟩)), trivial⟩
        case measure => simp [intOf]
      · have hc2 : decide (v.s1 ≤ d) = false := decide_eq_false hc
        go_wp2_with fail
        go_ret
        exact ⟨ret_int (by rw [HR.out]; unfold zoneOf; rw [if_pos (by omega), if_neg (by omega), if_neg (by omega)]; rfl), HB.out⟩
    · by_cases hc : v.s2 ≤ d
      · go_wp2_with fail
        go_roundw
        case rel => exact ⟨.inr (.inr (.inr ⟨rfl, hc⟩)), trivial⟩
        case measure => simp [intOf]
      · have hc2 : decide (v.s2 ≤ d) = false := decide_eq_false hc
        go_wp2_with fail
        go_ret
        exact ⟨ret_int (by rw [HR.out]; unfold zoneOf; rw [if_pos (by omega), if_pos (by omega), if_neg (by omega)]; rfl), HB.out⟩
    · go_wp2_with fail
      go_ret
      exact ⟨ret_int (by rw [HR.out]; unfold zoneOf; rw [if_pos (by omega), if_pos (by omega), if_pos (by omega)]; rfl), HB.out⟩

set_option maxRecDepth 100000 in
set_option maxHeartbeats 1000000 in
theorem Ends_c {v : Vly} (hi : Bool) {PA SA : Option Addr} {pn pc sn sc : Nat} {w : World} (h : RdV w PA pn SA sn v) (hsn : sn ≤ 1000000) :
    Calls Try.prog 23 #[.agg #[.slice PA pn pc, .slice SA sn sc, .int .i64 v.s0, .int .i64 v.s1, .int .i64 v.s2], .bool hi] w fun e w' => ∃ A c, e = .returned (.slice A sn c) ∧ Rd enc1 1 w' A sn (endsT v hi) ∧ Below w.heap.size w w' := by
  obtain ⟨i0, hi0, hz0, hz1, hz2⟩ := info_parts infoZ
  have HI := Lib.hid hi0; have HZ0 := Lib.hid hz0; have HZ1 := Lib.hid hz1; have HZ2 := Lib.hid hz2
  clear hi0 hz0 hz1 hz2
  have HLS := Lib.hid h.sls.len
  have hb0 : Below w.heap.size w (w.alloc (.cells #[.slice PA pn pc, .slice SA sn sc, .int .i64 v.s0, .int .i64 v.s1, .int .i64 v.s2] 26)) := (Below.refl _ w).alloc (Nat.le_refl _) _
  have HB := Lib.hid hb0
  have HX := Lib.hid (Blk.new w 26 #[.slice PA pn pc, .slice SA sn sc, .int .i64 v.s0, .int .i64 v.s1, .int .i64 v.s2])
  have HV := Lib.hid h
  have HT := Lib.hid (fun k s => @endsT_take v hi k s)
  obtain ⟨T, hT⟩ : ∃ T, T = endsT v hi := ⟨_, rfl⟩
  have HTL := Lib.hid (show T.length = sn by rw [hT, endsT_len, h.sls.len])
  rw [← hT] at HT ⊢
  clear h hT hb0
  go_enter Try.func23, Try.ntmps23
  go_wp2_with fail
  go_loopw [5, 6] (fun o i wr => ∃ k : Nat, k ≤ sn ∧ i = .int .i64 k ∧ wr.ownsRow (w.heap.size + 1) 3 1 o k ((T.take k).flatMap enc1) ∧ Blk wr w.heap.size 26 #[.slice PA pn pc, .slice SA sn sc, .int .i64 v.s0, .int .i64 v.s1, .int .i64 v.s2] ∧ Below w.heap.size w wr ∧ w.heap.size + 1 ≤ wr.heap.size) (fun _ i _ => sn - (intOf i).toNat)
  case atStart => exact ⟨0, Nat.zero_le _, rfl, World.ownsRow_nil _ _ _ _, HX.out, HB.out, by simp⟩
  case round =>
    obtain ⟨k, hk, rfl, hown, hbx, hb, hsz⟩ := hrel
    have HO := Lib.hid hown; have HBX := Lib.hid hbx; have HB2 := Lib.hid hb
    have c1 := hbx.cell 1
    simp at c1
    clear hown hbx
    by_cases hlt : k < sn
    · obtain ⟨b, o, x, hA, hblt, hx, h0, h1, h2, h3⟩ := (HV.out.sls.below hb).atS hlt
      subst hA
      have HTK := Lib.hid (HT.out k x hx)
      have hkn : (k : Int) < (sn : Int) := by omega
      have hk0 : (0 : Int) ≤ (k : Int) := by omega
      clear hx hb
      cases hi
      · go_wp2_with (at_builtin; go_must (refine wpList_append_own_at _ rfl _ _ 39 rfl (w.heap.size + 1) 3 i0 _ 1 8 Try.underlying39 HI.out HZ0.out HZ1.out HZ2.out rfl (by decide) _ _ _ rfl (HO.out.alloc _) ⟨wr.heap.size, 0, none⟩ 1 1 [.int .i64 x.lo] rfl rfl (fun j u hj => World.news_of_block (cs := #[.int .i64 x.lo]) (t := 3) (fr := (0, 0)) (heap_alloc_new wr _) j u hj) (by simp [Value.oneCell']) (by unfold maxLen; omega) (by omega) (by simp; omega) ?_; intro v' w1 hown' hgrow _ _))
        have H1 : Hid (w1.ownsRow (w.heap.size + 1) 3 1 v' (k + 1) ((T.take (k + 1)).flatMap enc1)) := by
          have := hown'
          rw [HTK.out, List.flatMap_append]
          exact this
        have H2 : Hid (Below w.heap.size w w1) := (HB2.out.alloc HB2.out.size _).grown hgrow (by simp; omega) (fun g hg => by have := (HO.out.lt g hg).1; omega)
        have H3 := Lib.hid ((HBX.out.alloc (.cells #[.int .i64 x.lo] 3)).grown hgrow (fun e => own_ge HO.out (by omega : w.heap.size < w.heap.size + 1) e))
        have hsz1 : w.heap.size + 1 ≤ w1.heap.size := by have := hgrow.size; simp at this; omega
        clear hown' hgrow
        go_wp2_with fail
        go_roundw
        case rel => exact ⟨k + 1, by omega, by go_num, H1.out, H3.out, H2.out, hsz1⟩
        case measure => simp [intOf] <;> omega
      · go_wp2_with (at_builtin; go_must (refine wpList_append_own_at _ rfl _ _ 39 rfl (w.heap.size + 1) 3 i0 _ 1 8 Try.underlying39 HI.out HZ0.out HZ1.out HZ2.out rfl (by decide) _ _ _ rfl (HO.out.alloc _) ⟨wr.heap.size, 0, none⟩ 1 1 [.int .i64 x.hi] rfl rfl (fun j u hj => World.news_of_block (cs := #[.int .i64 x.hi]) (t := 3) (fr := (0, 0)) (heap_alloc_new wr _) j u hj) (by simp [Value.oneCell']) (by unfold maxLen; omega) (by omega) (by simp; omega) ?_; intro v' w1 hown' hgrow _ _))
        have H1 : Hid (w1.ownsRow (w.heap.size + 1) 3 1 v' (k + 1) ((T.take (k + 1)).flatMap enc1)) := by
          have := hown'
          rw [HTK.out, List.flatMap_append]
          exact this
        have H2 : Hid (Below w.heap.size w w1) := (HB2.out.alloc HB2.out.size _).grown hgrow (by simp; omega) (fun g hg => by have := (HO.out.lt g hg).1; omega)
        have H3 := Lib.hid ((HBX.out.alloc (.cells #[.int .i64 x.hi] 3)).grown hgrow (fun e => own_ge HO.out (by omega : w.heap.size < w.heap.size + 1) e))
        have hsz1 : w.heap.size + 1 ≤ w1.heap.size := by have := hgrow.size; simp at this; omega
        clear hown' hgrow
        go_wp2_with fail
        go_roundw
        case rel => exact ⟨k + 1, by omega, by go_num, H1.out, H3.out, H2.out, hsz1⟩
        case measure => simp [intOf] <;> omega
    · obtain rfl : k = sn := by omega
      have h5 := HO.out
      rw [List.take_of_length_le (by rw [HTL.out]; exact Nat.le_refl _)] at h5
      obtain ⟨A', c', rfl, hc'⟩ := own_form h5
      have H5 := Lib.hid (Rd.of_own enc1_len h5 HTL.out)
      clear h5 hb
      go_wp2_with fail
      go_ret
      exact ⟨A', c', rfl, H5.out, HB2.out⟩
end Go.Proofs.Ytphdndiikikecaa
