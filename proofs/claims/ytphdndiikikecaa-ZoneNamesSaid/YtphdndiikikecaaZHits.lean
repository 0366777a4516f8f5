/- THE CONTRACT of look.hits: the iterator over the parcels that the slides hit. -/
import Derived.Test.YtphdndiikikecaaZHitLaw
import Derived.Test.YtphdndiikikecaaZInts
import Derived.RangeFuncNested
import Derived.RangeFuncBound
import Derived.RangeFuncCalls
import Derived.RangeFuncLeaves
import Derived.RangeFuncBox
import Derived.Shelf.Abstract
import Derived.Shelf.RegionOpen
import Derived.OwnWalkIn
import Derived.TacticsInMore
import Derived.LoopNIn
import Derived.LoopIn
set_option linter.unusedVariables false
set_option linter.unusedSimpArgs false
namespace Go.Proofs.Ytphdndiikikecaa
open Go.RowKit Go.Proofs Go.Shelf
attribute [local go_sem] Oper.semAt_some

/-- a hit, as it may come -/
abbrev Hit (K P : Nat) := { x : Nat × Nat // x.1 < K ∧ x.2 < P }
abbrev encH {K P : Nat} (x : Hit K P) : Array Value := #[.int .i64 (x.1.1 : Int), .int .i64 (x.1.2 : Int)]
def hitOf {K P : Nat} (x : Hit K P) : Nat × Int := (x.1.1, (x.1.2 : Int))

theorem run_sliceBounds_to {P : Program} {len cap hi : Nat} (W : World) (h : hi ≤ cap) :
    (Instr.sliceBounds true len cap none (some (.int .i64 (hi : Int))) none).run P W = .ok (0, hi, cap) W := by
  simp [Instr.sliceBounds, Instr.sliceBound, asIntOf, h]
theorem rd_take {α : Type} {enc : α → List Value} {k : Nat} {w : World} {A : Option Addr} {n b : Nat} {l : List α} (h : Rd enc k w A n l) (hb : b ≤ n) : Rd enc k w A b (l.take b) := by
  refine ⟨by rw [List.length_take, h.1]; omega, fun h0 => ?_⟩
  obtain ⟨bl, o, e, hlt, hc⟩ := h.2 (by omega)
  refine ⟨bl, o, e, hlt, fun i x hx => hc i x ?_⟩
  rw [List.getElem?_take] at hx
  split at hx
  · exact hx
  · cases hx
theorem cut_to_gen {t e : TypeId} {size : Nat} (ht : Try.prog.underlying t = some (.slice e)) (hs : ∀ W, (sizeOf e).run Try.prog W = .ok size W) (A : Option Addr) {n c k : Nat} (hk : k ≤ c) (W : World) :
    (Instr.slice t (.slice A n c) none (some (.int .i64 (k : Int))) none).run Try.prog W = .ok (.slice A k c) W := by
  have hm : A.map (fun a => a.add 0) = A := by cases A <;> simp [Addr.add]
  by_cases h0 : c = 0
  · subst h0
    obtain rfl : k = 0 := by omega
    simp [Instr.slice, run_underlying ht, hs, Instr.sliceBounds, Instr.sliceBound, asIntOf]
  · simp [Instr.slice, run_underlying ht, run_sliceBounds_to W hk, hs, h0, hm]

/-- what a round of a loop over the hits keeps: what lay below n₀, and the box of the look -/
def KpL (n₀ Bs : Nat) (W W' : World) : Prop := Below n₀ W W' ∧ ∀ cs, Blk W Bs 105 cs → Blk W' Bs 105 cs
theorem kpL_t {n₀ Bs : Nat} {A B C : World} (h : KpL n₀ Bs A B) (k : KpL n₀ Bs B C) : KpL n₀ Bs A C := ⟨h.1.trans k.1, fun v hv => k.2 v (h.2 v hv)⟩
theorem kpL_b {n₀ Bs : Nat} {w : World} (hn : n₀ ≤ w.heap.size) (W : World) (l : Nat) (o o' : Obj) (hl : w.heap.size ≤ l) (h : W.heap[l]? = some o) (hc : o.isCells = false) (hw : o.isWalk = false) : KpL n₀ Bs W (W.putObj l o') :=
  ⟨belowK_b hn W l o o' hl h hc hw, fun v hv => Blk.grown hv (grownBy_putObj' W l o') (fun e => by cases e; rw [show W.heap[Bs]? = _ from hv] at h; cases h; cases hc)⟩
abbrev lookA (PA : Option Addr) (pn pc : Nat) (SA : Option Addr) (sn sc : Nat) (v : Vly) (TA : Option Addr) (tn tc : Nat) : Array Value := #[.slice PA pn pc, .slice SA sn sc, .int .i64 v.s0, .int .i64 v.s1, .int .i64 v.s2, .slice TA tn tc]

set_option maxRecDepth 100000 in
set_option maxHeartbeats 2000000 in
theorem hits1_in (n : Nat) (hn : 2 ≤ n) (l Bs : Nat) {v : Vly} {tr : List Int} {PA SA TA : Option Addr} {pn pc sn sc tn tc : Nat} {w0 : World} (hok : VOk v) (hfit : Fits v tr) (hV : RdV w0 PA pn SA sn v) (hT : Rd enc1 1 w0 TA tn tr) (J Jx : List (Hit v.sls.length v.pars.length) → World → Prop) (B : Nat) (hJ : AbidesFrom B J)
    (hY : ∀ pre x W, J pre W → pre.length < 120 → YieldAt Fence.wide (n - 1) Try.prog l (encH x) W fun e W' =>
      (e = .returned (.bool true) ∧ J (pre ++ [x]) W' ∧ KpL w0.heap.size Bs W W') ∨ (e = .returned (.bool false) ∧ Jx (pre ++ [x]) W'))
    (W : World) (hW : Below w0.heap.size w0 W) (hBs : Blk W Bs 105 (lookA PA pn pc SA sn sc v TA tn tc)) (h0 : J [] W) :
    CallsIn Fence.wide n Try.prog 93 #[.func (.yield l) #[] #[], .pointer (some ⟨Bs, 0, none⟩)] W fun e W' => (∃ v, e = .returned v) ∧
      ((∃ ys, ys.map hitOf = hitsTo v.sls tr tr.length ∧ J ys W') ∨ (∃ pre, Jx pre W')) := by
  have h1 : 1 ≤ n := by omega
  refine callsIn_of_wp Try.func93 rfl trivial ?_ rfl
  simp only [Try.ntmps93, List.size_toArray, List.length_cons, List.length_nil, Nat.reduceAdd, Nat.reduceSub, Array.replicate_succ, Array.replicate_zero, List.push_toArray, List.append_toArray, List.nil_append, List.cons_append]
  have HOK := Lib.hid hok; have HF := Lib.hid hfit; have HV := Lib.hid hV; have HT := Lib.hid hT; have HY := Lib.hid hY; have HBS := Lib.hid hBs; have HW := Lib.hid hW
  clear hok hfit hV hT hY
  have c5 := hBs.cell 5
  simp at c5
  clear hBs hW
  gi_wp2
  gi_loopw [10] (fun i wr => ∃ (k : Nat) (pre : List (Hit v.sls.length v.pars.length)), i = .int .i64 k ∧ k ≤ tn ∧ pre.map hitOf = hitsTo v.sls tr k ∧ J pre wr ∧ Below w0.heap.size w0 wr ∧ Blk wr Bs 105 (lookA PA pn pc SA sn sc v TA tn tc)) (fun i _ => tn - (intOf i).toNat)
  case atStart => exact ⟨0, [], rfl, Nat.zero_le _, rfl, h0, HW.out, HBS.out⟩
  case round =>
    obtain ⟨k, pre, rfl, hk, hpre, hJs, hnx, hbx⟩ := hrel
    have HP := Lib.hid hpre; have HBX := Lib.hid hbx; have HNX := Lib.hid hnx
    clear hpre hnx
    have htl := HT.out.len
    have hsl := HF.out.1
    by_cases hlt : k < tn
    · have hkl : k < v.sls.length := by omega
      obtain ⟨b, o, x, hA, hb, hx, e0, e1, e2, e3⟩ := ((HV.out.below HNX.out).sls).atS (i := k) (by rw [← (HV.out.below HNX.out).sls.len]; exact hkl)
      obtain ⟨b', o', m, hA', hb', hm, e0'⟩ := (HT.out.below HNX.out).at1 hlt
      subst hA hA'
      have hway := (HV.out.below HNX.out).way k x hx
      have hsl := HOK.out.slide hx
      have hfm := HF.out.2 k x m hx hm
      obtain ⟨M, rfl⟩ : ∃ M : Nat, m = (M : Int) := ⟨m.toNat, by omega⟩
      have hMn : M ≤ x.n := by have := hway.1.len; omega
      have hM12 : M ≤ 12 := by have := wayTo_len hsl.1; have := HOK.out.pn; omega
      have htn10 : tn ≤ 10 := by have := HOK.out.sn; omega
      have hcut := cut_to_gen (t := 39) (e := 3) (size := 1) Try.underlying39 Try.sizeOf3 x.A (n := x.n) (c := x.c) (k := M) (by omega)
      have HX := Lib.hid hx; have HM := Lib.hid hm; have HWY := Lib.hid (rd_take hway.1 hMn); have HSL := Lib.hid hsl
      have HFM := Lib.hid hfm
      have b1 := hbx.cell 1
      simp at b1
      have hkt : (k : Int) < (tn : Int) := by omega
      have hk0 : (0 : Int) ≤ (k : Int) := by omega
      have hks : (k : Int) < (sn : Int) := by have := HV.out.sls.len; omega
      clear hbx hx hm hway hsl hfm
      gi_wp2
      obtain ⟨w1, hw1⟩ : ∃ w1 : World, w1 = wr := ⟨_, rfl⟩
      gi_loopw [25] (fun i w2 => ∃ (j : Nat) (pre2 : List (Hit v.sls.length v.pars.length)), i = .int .i64 j ∧ j ≤ M ∧ pre2.map hitOf = hitsTo v.sls tr k ++ (x.way.take j).map (fun p => (k, p)) ∧ J pre2 w2 ∧ Below w0.heap.size w0 w2 ∧ Blk w2 Bs 105 (lookA PA pn pc (some ⟨b, o, none⟩) sn sc v (some ⟨b', o', none⟩) tn tc)) (fun i _ => M - (intOf i).toNat)
      case atStart => exact ⟨0, pre, rfl, Nat.zero_le _, by rw [HP.out]; simp, hJs, HNX.out, HBX.out⟩
      case round =>
        obtain ⟨j, pre2, rfl, hj, hpre2, hJ2, hn2, hbx2⟩ := hrel
        have HP2 := Lib.hid hpre2; have HBX2 := Lib.hid hbx2; have HN2 := Lib.hid hn2
        clear hpre2 hbx2 e0 e1 e2 e3 e0' b1
        by_cases hjm : j < M
        · obtain ⟨b3, o3, p, hA3, hb3, hp, e3⟩ := (rd_take ((HV.out.below hn2).way k x HX.out).1 hMn).at1 hjm
          clear hn2
          have hpw : x.way[j]? = some p := by
            rwa [List.getElem?_take, if_pos hjm] at hp
          have hp0 : 0 ≤ p ∧ p < v.pars.length := by
            have := HSL.out.1.1
            rw [List.take_of_length_le (Nat.le_refl _)] at this
            exact this p (List.mem_of_getElem? hpw)
          obtain ⟨q, rfl⟩ : ∃ q : Nat, p = (q : Int) := ⟨p.toNat, by omega⟩
          have hlen2 : pre2.length < 120 := by
            have h2 := congrArg List.length HP2.out
            rw [List.length_map, List.length_append, List.length_map, List.length_take] at h2
            have h3 := hitsTo_len HOK.out tr k
            have h4 := wayTo_len HSL.out.1
            have h5 := HOK.out.pn
            have h6 := HOK.out.sn
            have h7 := lt_of_get hpw
            omega
          have hnew : (pre2 ++ [(⟨(k, q), hkl, by omega⟩ : Hit v.sls.length v.pars.length)]).map hitOf = hitsTo v.sls tr k ++ (x.way.take (j + 1)).map (fun p => (k, p)) := by
            rw [hitsTo_step hpw, List.map_append, HP2.out]; rfl
          have HNEW := Lib.hid hnew
          have hjm' : (j : Int) < (M : Int) := by omega
          have hj0 : (0 : Int) ≤ (j : Int) := by omega
          obtain ⟨fn, tmps, assign, body, hy, hR⟩ := HY.out pre2 ⟨(k, q), hkl, by omega⟩ _ hJ2 hlen2
          dsimp only [encH] at hy
          rw [hA3]
          clear hA3
          clear hp hpw hnew
          gi_wp2
          refine hR.mono ?_
          rintro e W3 (⟨rfl, hJ3, hk3⟩ | ⟨rfl, hJx3⟩)
          · gi_wp2
            go_roundw
            case rel => exact ⟨j + 1, _, by go_num, hjm, HNEW.out, hJ3, HN2.out.trans hk3.1, hk3.2 _ HBX2.out⟩
            case measure => simp [intOf]; omega
          · gi_wp2
            refine bodyPost_ret (results_none rfl _ _ _) rfl ?_
            exact ⟨⟨_, rfl⟩, .inr ⟨_, hJx3⟩⟩
        · obtain rfl : j = M := by omega
          have hend : pre2.map hitOf = hitsTo v.sls tr (k + 1) := by
            rw [HP2.out, hitsTo, hitsAt_of HX.out HM.out]; simp
          have HEND := Lib.hid hend
          clear hend hn2
          gi_wp2
          go_roundw
          case rel => exact ⟨k + 1, pre2, by go_num, hlt, HEND.out, hJ2, HN2.out, HBX2.out⟩
          case measure => simp [intOf]; omega
    · obtain rfl : k = tn := by omega
      clear hbx
      gi_wp2
      go_end0
      exact ⟨⟨_, rfl⟩, .inl ⟨pre, by rw [htl]; exact HP.out, hJs⟩⟩

/-- The iterator gives the hits of the truth, in their order. -/
theorem hits_stops (n : Nat) (hn : 2 ≤ n) (Bs : Nat) {v : Vly} {tr : List Int} {PA SA TA : Option Addr} {pn pc sn sc tn tc : Nat} {w0 w : World} (hok : VOk v) (hfit : Fits v tr) (hV : RdV w0 PA pn SA sn v) (hT : Rd enc1 1 w0 TA tn tr) (hw : Below w0.heap.size w0 w)
    (hc : Blk w Bs 105 (lookA PA pn pc SA sn sc v TA tn tc)) :
    SeqStopsK Fence.wide n Try.prog 93 #[.pointer (some ⟨Bs, 0, none⟩)] (encH (K := v.sls.length) (P := v.pars.length)) (KpL w0.heap.size Bs) (fun ys => ys.map hitOf = hitsTo v.sls tr tr.length) (fun _ => True) 120 w := fun l J Jx W hW hJ _ hY h0 =>
  (hits1_in n hn l Bs hok hfit hV hT J Jx _ hJ hY W (hw.trans (hW.mono hw.size)) (hc.below hW hc.lt) h0).mono fun _ _ ⟨he, h⟩ => ⟨he, by
    rcases h with h | ⟨pre, h⟩
    · exact .inl h
    · exact .inr ⟨pre, trivial, h⟩⟩

/-- hits itself: the look is boxed; the function value captures the box. -/
theorem hits_c (n : Nat) (PA SA TA : Option Addr) (pn pc sn sc tn tc : Nat) (s0 s1 s2 : Int) (w : World) :
    CallsIn Fence.wide n Try.prog 81 #[.agg #[.slice PA pn pc, .slice SA sn sc, .int .i64 s0, .int .i64 s1, .int .i64 s2, .slice TA tn tc]] w fun e w' => e = .returned (.func (.func 93) #[] #[.pointer (some ⟨w.heap.size, 0, none⟩)]) ∧
      w' = w.alloc (.cells #[.slice PA pn pc, .slice SA sn sc, .int .i64 s0, .int .i64 s1, .int .i64 s2, .slice TA tn tc] 105) := by
  refine callsIn_of_wp Try.func81 rfl trivial ?_ rfl
  simp only [Try.ntmps81, List.size_toArray, List.length_cons, List.length_nil, Nat.reduceAdd, Nat.reduceSub, Array.replicate_succ, Array.replicate_zero, List.push_toArray, List.append_toArray, List.nil_append, List.cons_append]
  gi_wp2
  go_ret
  exact ⟨rfl, rfl⟩
end Go.Proofs.Ytphdndiikikecaa
