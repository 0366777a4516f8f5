/- THE CONTRACT of zone.share. -/
import Derived.Test.YtphdndiikikecaaZShareLaw
import Derived.Deep.AppendLies
import Derived.Deep.DrawnRows
set_option linter.unusedVariables false
set_option linter.unusedSimpArgs false
namespace Go.Proofs.Ytphdndiikikecaa
open Go.RowKit Go.Proofs

theorem infoPt : (Try.prog.info? 135).map (fun i => (i.zero, i.size, i.bytes)) = some (some (.agg #[.int .i64 0, .int .i64 0]), 2, 16) := by kernel_rfl
theorem own_tyne {W : World} {base base' : Nat} {e e' : TypeId} {size size' n n' : Nat} {v v' : Value} {xs xs' : List Value} (h : W.ownsRow base e size v n xs) (h' : W.ownsRow base' e' size' v' n' xs') (hne : e ≠ e') : ∀ g, v.ownBlock = some g → v'.ownBlock ≠ some g := by
  intro g hg hg'
  rcases h.2 with ⟨rfl, _⟩ | ⟨g1, cap, cur, rfl, _, hb, _⟩
  · simp [Value.ownBlock] at hg
  · rcases h'.2 with ⟨rfl, _⟩ | ⟨g2, cap', cur', rfl, _, hb', _⟩
    · simp [Value.ownBlock] at hg'
    · simp [Value.ownBlock] at hg hg'
      subst hg; subst hg'
      rw [hb] at hb'; injection hb' with hb'; injection hb' with _ hb'; exact hne hb'
theorem own_kept {w w' : World} {base : Nat} {e : TypeId} {k n : Nat} {v : Value} {xs : List Value} {row : Option Nat} (h : w.ownsRow base e k v n xs) (hg : w.grownBy w' row) (hne : ∀ g, v.ownBlock = some g → row ≠ some g) : w'.ownsRow base e k v n xs := by
  refine ⟨h.1, ?_⟩
  rcases h.2 with h0 | ⟨g, cap, cur, hv, hbase, hb, hrest⟩
  · exact .inl h0
  · have hlt : g < w.heap.size := (Array.getElem?_eq_some_iff.1 hb).1
    exact .inr ⟨g, cap, cur, hv, hbase, (hg.block g hlt (fun e => hne g (by rw [hv]; rfl) e.symm)).trans hb, hrest⟩

theorem own_pos {w : World} {base : Nat} {e : TypeId} {k n : Nat} {v : Value} {xs : List Value} (h : w.ownsRow base e k v n xs) (hn : 0 < n) : ∃ g c, v = .slice (some ⟨g, 0, none⟩) n c ∧ n ≤ c := by
  rcases h.2 with ⟨rfl, rfl⟩ | ⟨g, cap, cur, rfl, _, _, hnc, _⟩
  · omega
  · exact ⟨g, cap, rfl, hnc⟩
theorem flat_enc1 (l : List Int) : l.flatMap enc1 = l.map fun n => Value.int .i64 n := by
  induction l with
  | nil => rfl
  | cons a l ih => simp only [List.flatMap_cons, ih, List.map_cons]; rfl
theorem flat_set1 (l : List Int) (i : Nat) (n : Int) : (l.flatMap enc1).set i (.int .i64 n) = (l.set i n).flatMap enc1 := by
  rw [flat_enc1, flat_enc1, List.map_set]
theorem Rd.of_own2 {w : World} {base : Nat} {e : TypeId} {v : Value} {n : Nat} {l : List Int} (h : w.ownsRow base e 1 v n (l.flatMap enc1)) (hl : l.length = n) : ∃ A c, v = .slice A n c ∧ n ≤ c ∧ Rd enc1 1 w A n l := by
  obtain ⟨A, c, rfl, hc⟩ := own_form h
  exact ⟨A, c, rfl, hc, Rd.of_own enc1_len h hl⟩

set_option maxRecDepth 100000 in
set_option maxHeartbeats 1000000 in
theorem share_c {coins : Int} {ws : List Int} {A : Option Addr} {n c : Nat} {w : World} (h : Rd enc1 1 w A n ws) (hn : n ≤ 30) (hc : 0 ≤ coins ∧ coins ≤ 100000000) (hws : ∀ x ∈ ws, 0 ≤ x ∧ x ≤ 1000000000) (hpos : 0 < sumL ws) :
    Calls Try.prog 63 #[.int .i64 coins, .slice A n c] w fun e w' => ∃ v, e = .returned v ∧ w'.ownsRow w.heap.size 3 1 v n ((shareL coins ws).flatMap enc1) ∧ Below w.heap.size w w' := by
  obtain ⟨i0, hi0, hz0, hz1, hz2⟩ := info_parts infoZ
  obtain ⟨j0, hj0, hy0, hy1, hy2⟩ := info_parts infoPt
  have HL := Lib.hid h.len
  have HI := Lib.hid hi0; have HZ0 := Lib.hid hz0; have HZ1 := Lib.hid hz1; have HZ2 := Lib.hid hz2
  have HJ := Lib.hid hj0; have HY0 := Lib.hid hy0; have HY1 := Lib.hid hy1; have HY2 := Lib.hid hy2
  have hsum := sumL_bd (M := 1000000000) (by omega) hws
  have hsok := SumOk.of (M := 1000000000) (by omega) hws (by rw [h.len]; omega)
  rw [h.len] at hsum
  have HSUM := Lib.hid (sum_c (c := c) h (by omega) hsok)
  have HWS := Lib.hid hws
  clear hi0 hz0 hz1 hz2 hj0 hy0 hy1 hy2 hws hsok
  obtain ⟨S, hS⟩ : ∃ S, S = sumL ws := ⟨_, rfl⟩
  have HQ := Lib.hid (show quos coins ws = ws.map (fun w => coins * w / S) by rw [hS]; rfl)
  have HR := Lib.hid (show rems coins ws = ws.map (fun w => coins * w % S) by rw [hS]; rfl)
  have HLB := Lib.hid (left_bd (c := coins) hpos)
  rw [← hS] at hsum hpos HSUM
  clear hS
  have hS0 : (S == 0) = false := by rw [beq_eq_false_iff_ne]; omega
  go_enter Try.func63, Try.ntmps63
  go_wp2_with (go_at_call 62; refine HSUM.out.mono ?_; rintro e w' ⟨rfl, rfl⟩)
  go_loopw [6, 7, 15] (fun o p i wr => ∃ k : Nat, k ≤ n ∧ i = .int .i64 k ∧ wr.ownsRow w.heap.size 3 1 o k (((quos coins ws).take k).flatMap enc1) ∧ wr.ownsRow w.heap.size 135 2 p k ((partsL (rems coins ws) k).flatMap enc2) ∧ Below w.heap.size w wr) (fun _ _ i _ => n - (intOf i).toNat)
  case atStart => exact ⟨0, Nat.zero_le _, rfl, World.ownsRow_nil _ _ _ _, World.ownsRow_nil _ _ _ _, Below.refl _ _⟩
  case round =>
    obtain ⟨k, hk, rfl, hown, hown2, hb⟩ := hrel
    have HO := Lib.hid hown; have HP := Lib.hid hown2
    clear hown hown2
    by_cases hlt : k < n
    · obtain ⟨b, o, x, hA, _, hx, h0⟩ := (h.below hb).at1 hlt
      subst hA
      have hx1 := HWS.out x (List.mem_of_getElem? hx)
      have hmul : 0 ≤ coins * x ∧ coins * x ≤ 100000000000000000 := by
        constructor
        · exact Int.mul_nonneg hc.1 hx1.1
        · calc coins * x ≤ 100000000 * x := Int.mul_le_mul_of_nonneg_right hc.2 hx1.1
            _ ≤ 100000000 * 1000000000 := Int.mul_le_mul_of_nonneg_left hx1.2 (by omega)
      have hq : (quos coins ws)[k]? = some (coins * x / S) := by rw [HQ.out, List.getElem?_map, hx]; rfl
      have hr : (rems coins ws)[k]? = some (coins * x % S) := by rw [HR.out, List.getElem?_map, hx]; rfl
      have HQK := Lib.hid hq; have HRK := Lib.hid hr; have HB := Lib.hid hb
      have hw1 : IntKind.i64.wrap (coins * x) = coins * x := wi (by omega)
      have hsz := hb.size
      clear hx hq hr hb
      go_wp2_with (first
        | (at_builtin; refine wpList_append_own_at _ rfl _ _ 39 rfl w.heap.size 3 i0 _ 1 8 Try.underlying39 HI.out HZ0.out HZ1.out HZ2.out rfl (by decide) _ _ _ rfl (HO.out.alloc _) ⟨wr.heap.size, 0, none⟩ 1 1 [.int .i64 (coins * x / S)] rfl rfl (fun j u hj => World.news_of_block (cs := #[.int .i64 (coins * x / S)]) (t := 3) (fr := (0, 0)) (heap_alloc_new wr _) j u hj) (by simp [Value.oneCell']) (by unfold maxLen; omega) (by omega) (by simp; omega) ?_; intro v' w1 hown' hgrow _ _; have HO1 := Lib.hid hown'; have HP1 := Lib.hid (own_kept (HP.out.alloc (.cells #[.int .i64 (coins * x / S)] 3)) hgrow (fun g hg e => own_tyne (HO.out.alloc (.cells #[.int .i64 (coins * x / S)] 3)) (HP.out.alloc (.cells #[.int .i64 (coins * x / S)] 3)) (by decide) g e hg)); have HB1 := Lib.hid ((HB.out.alloc hsz _).grown hgrow (by simp; omega) (fun g hg => (HO.out.lt g hg).1)); have hsz1 := HB1.out.size; clear hown' hgrow)
        | (at_builtin; refine wpList_append_own_at _ rfl _ _ 133 rfl w.heap.size 135 j0 _ 2 16 Try.underlying133 HJ.out HY0.out HY1.out HY2.out rfl (by decide) _ _ _ rfl (HP1.out.alloc _) ⟨w1.heap.size, 0, none⟩ 1 1 [.int .i64 (k : Int), .int .i64 (coins * x % S)] rfl rfl (fun j u hj => World.news_of_block (cs := #[.int .i64 (k : Int), .int .i64 (coins * x % S)]) (t := 135) (fr := (0, 0)) (heap_alloc_new w1 _) j u hj) (by simp [Value.oneCell']) (by unfold maxLen; omega) (by omega) (by simp; omega) ?_; intro v2 w2 hown' hgrow _ _; have HP2 := Lib.hid hown'; have HO2 := Lib.hid (own_kept (HO1.out.alloc (.cells #[.int .i64 (k : Int), .int .i64 (coins * x % S)] 135)) hgrow (fun g hg e => own_tyne (HP1.out.alloc (.cells #[.int .i64 (k : Int), .int .i64 (coins * x % S)] 135)) (HO1.out.alloc (.cells #[.int .i64 (k : Int), .int .i64 (coins * x % S)] 135)) (by decide) g e hg)); have HB2 := Lib.hid ((HB1.out.alloc hsz1 _).grown hgrow (by simp; omega) (fun g hg => (HP1.out.lt g hg).1)); clear hown' hgrow))
      go_roundw
      case rel =>
        refine ⟨k + 1, by omega, by go_num, ?_, ?_, HB2.out⟩
        · have := HO2.out
          rw [List.take_add_one, HQK.out, List.flatMap_append]
          simp only [Option.toList_some, List.flatMap_cons, List.flatMap_nil, List.append_nil]
          exact this
        · have := HP2.out
          rw [partsL_succ HRK.out, List.flatMap_append]
          simp only [List.flatMap_cons, List.flatMap_nil, List.append_nil]
          exact this
      case measure => simp [intOf] <;> omega
    · obtain rfl : k = n := by omega
      have hq := HO.out
      rw [List.take_of_length_le (by rw [quos_len, HL.out]; exact Nat.le_refl _)] at hq
      have HO2 := Lib.hid hq
      have hpb : ∀ x ∈ partsL (rems coins ws) k, partB x := fun x hx => by
        obtain ⟨i, hi, h1, h2⟩ := partsL_mem hx
        rw [HR.out, List.getElem?_map, Option.map_eq_some_iff] at h2
        obtain ⟨y, _, h3⟩ := h2
        have h4 := Int.emod_nonneg (coins * y) (by omega : S ≠ 0)
        have h5 := Int.emod_lt_of_pos (coins * y) hpos
        unfold partB
        omega
      have HSO := Lib.hid (sortFunc_c HP.out (by rw [partsL_len _ (by rw [rems_len, HL.out]; omega)]) (by omega) hpb)
      have hqb : ∀ y ∈ quos coins ws, 0 ≤ y ∧ y ≤ 100000000000000000 := fun y hy => by
        rw [HQ.out] at hy
        obtain ⟨x, hx, rfl⟩ := List.mem_map.1 hy
        have hx1 := HWS.out x hx
        have h1 : 0 ≤ coins * x := Int.mul_nonneg hc.1 hx1.1
        have h2 : coins * x ≤ 100000000000000000 := by
          calc coins * x ≤ 100000000 * x := Int.mul_le_mul_of_nonneg_right hc.2 hx1.1
            _ ≤ 100000000 * 1000000000 := Int.mul_le_mul_of_nonneg_left hx1.2 (by omega)
        exact ⟨Int.ediv_nonneg h1 (by omega), Int.le_trans (Int.ediv_le_self S h1) h2⟩
      have hqok := SumOk.of (M := 100000000000000000) (by omega) hqb (by rw [quos_len, HL.out]; omega)
      have hk0 : 0 < k := by omega
      obtain ⟨g6, c6, rfl, hc6⟩ := own_pos HO2.out hk0
      obtain ⟨g7, c7, rfl, hc7⟩ := own_pos HP.out hk0
      have HB := Lib.hid hb; have HQO := Lib.hid hqok; have HQB := Lib.hid hqb
      obtain ⟨T, hT⟩ : ∃ T : Nat, coins - sumL (quos coins ws) = (T : Int) := ⟨(coins - sumL (quos coins ws)).toNat, by have := HLB.out.1; omega⟩
      have hTk : T ≤ k := by have := HLB.out.2; have := HL.out; omega
      have HTT := Lib.hid hT
      have hw2 : IntKind.i64.wrap (coins - sumL (quos coins ws)) = (T : Int) := by rw [hT]; exact wi (by omega)
      clear hq hpb hb hT hqok hqb hk
      go_wp2_with fail
      refine HSO.out.mono ?_
      rintro e w3 ⟨rfl, s, hs, hp, hown3, hg3⟩
      have HO3 := Lib.hid (own_kept HO2.out hg3 (fun g hg e => own_tyne HP.out HO2.out (by decide) g e hg))
      have HP3 := Lib.hid hown3
      have HB3 := Lib.hid (HB.out.grown hg3 HB.out.size (fun g hg => (HP.out.lt g hg).1))
      have HS := Lib.hid hs; have HPM := Lib.hid hp
      have hsl : s.length = k := by rw [hp.length_eq, partsL_len _ (by rw [rems_len, HL.out]; omega)]
      have HSM := Lib.hid (sum_c (c := c6) (Rd.of_own enc1_len HO3.out (by rw [quos_len, HL.out])) (by omega) HQO.out)
      clear hown3 hg3 hs hp HSO
      go_wp2_with (go_at_call 62; refine HSM.out.mono ?_; rintro e w' ⟨rfl, rfl⟩)
      go_loopw [45] (fun i wr => ∃ t : Nat, t ≤ T ∧ i = .int .i64 t ∧ wr.ownsRow w.heap.size 3 1 (.slice (some ⟨g6, 0, none⟩) k c6) k ((outsAt coins ws t).flatMap enc1) ∧ wr.ownsRow w.heap.size 135 2 (.slice (some ⟨g7, 0, none⟩) k c7) k (s.flatMap enc2) ∧ Below w.heap.size w wr) (fun i _ => T - (intOf i).toNat)
      case atStart => exact ⟨0, Nat.zero_le _, rfl, by rw [outsAt_zero]; exact HO3.out, HP3.out, HB3.out⟩
      case round =>
        obtain ⟨t, ht, rfl, hown, hown2, hb⟩ := hrel
        have HO4 := Lib.hid hown; have HP4 := Lib.hid hown2; have HB4 := Lib.hid hb
        clear hb
        by_cases htT : t < T
        · have hst : s[t]? = some (s[t]'(by omega)) := List.getElem?_eq_getElem (by omega)
          obtain ⟨i, he, hi, hget, hset⟩ := outsAt_succ HS.out (show s.Perm (partsL (rems coins ws) ws.length) from by rw [HL.out]; exact HPM.out) hst
          obtain ⟨b7, o7, x, hA7, _, hx, m1, _⟩ := (Rd.of_own enc2_len hown2 hsl).at2 (i := t) (by omega)
          cases hA7
          rw [hst] at hx
          cases hx
          rw [he, Nat.zero_add] at m1
          obtain ⟨b6, o6, y, hA6, _, hy, m3⟩ := (Rd.of_own enc1_len hown (by rw [outsAt_len, HL.out])).at1 (i := i) (by rw [← HL.out]; exact hi)
          cases hA6
          rw [hget] at hy
          cases hy
          rw [Nat.zero_add] at m3
          have hgb : 0 ≤ gAt (quos coins ws) i ∧ gAt (quos coins ws) i ≤ 100000000000000000 := by
            have hiq : i < (quos coins ws).length := by rw [quos_len]; exact hi
            rw [gAt_of (List.getElem?_eq_getElem hiq)]
            exact HQB.out _ (List.getElem_mem hiq)
          generalize gAt (quos coins ws) i = z at hset m3 hgb
          have hw3 : IntKind.i64.wrap (z + 1) = z + 1 := wi (by omega)
          have hfz := hown.frozenAt i
          have hsto := hown.stored i (.int .i64 (z + 1))
          rw [flat_set1, ← hset] at hsto
          have hp5 := own_kept hown2 hsto.2 (fun g hg e => own_tyne hown2 hown (by decide) g hg e)
          have hb5 := HB4.out.grown hsto.2 HB4.out.size (fun g hg => (hown.lt g hg).1)
          have HO5 := Lib.hid hsto.1; have HP5 := Lib.hid hp5; have HB5 := Lib.hid hb5
          have hi0 : (0 : Int) ≤ (i : Int) := by omega
          have hik : (i : Int) < (k : Int) := by have := HL.out; omega
          have ht0 : (0 : Int) ≤ (t : Int) := by omega
          have htk : (t : Int) < (k : Int) := by omega
          have htT2 : (t : Int) < (T : Int) := by omega
          clear hsto hp5 hb5 hset hst he hget hown hown2
          go_wp2_with fail
          go_roundw
          case rel => exact ⟨t + 1, by omega, by go_num, HO5.out, HP5.out, HB5.out⟩
          case measure => simp [intOf] <;> omega
        · obtain rfl : t = T := by omega
          clear hown hown2
          go_wp2_with fail
          go_ret
          refine ⟨_, rfl, ?_, HB4.out⟩
          have := HO4.out
          unfold shareL
          rw [HTT.out]
          simpa using this
end Go.Proofs.Ytphdndiikikecaa
