/- CONTRACTS: the level of a volume; the first hour of the break; IndexFunc at Break's literal. -/
import Derived.Test.YtpijmfbpdglchaaKHours
import Derived.Test.YtpijmfbpdglchaaKMay
import Derived.Test.YtpijmfbpdglchaaKBase
set_option linter.unusedVariables false
set_option linter.unusedSimpArgs false
namespace Go.Proofs.Ytpijmfbpdglchaa
open Go.RowKit Go.Proofs
attribute [local go_sem ↓] Go.wp_at_zero Go.wp_at_succ

theorem levTo_yes {vs : List Int} {v x : Int} {k : Nat} (hx : vs[k]? = some x) (h : x ≤ v) : levTo vs v (k + 1) = (k : Int) := by simp [levTo, hx, h]
theorem levTo_no {vs : List Int} {v x : Int} {k : Nat} (hx : vs[k]? = some x) (h : ¬ x ≤ v) : levTo vs v (k + 1) = levTo vs v k := by simp [levTo, hx, h]
theorem levTo_all {vs : List Int} {v : Int} {n : Nat} (h : vs.length = n) : levTo vs v n = levOf vs v := by rw [levOf, h]
section
variable {VA IA WA CA : Option Addr} {nV nI nW nC cV cI cW cC : Nat} {l : Lak} {ws : List Wrk} {c : List Int} {w : World}

set_option maxRecDepth 100000 in
set_option maxHeartbeats 1000000 in
theorem level_c (h : RdL w VA nV IA nI l) (hn : nV ≤ 1000) (v : Int) :
    Calls Try.prog 67 #[.agg (lA VA nV cV IA nI cI l), .int .i64 v] w fun e w' => e = .returned (.int .i64 (levOf l.vols v)) ∧ Below w.heap.size w w' := by
  have HE := Lib.hid (levTo_all (v := v) h.vols.len)
  have HB0 := Lib.hid ((Below.refl w.heap.size w).alloc (Nat.le_refl _) (.cells (lA VA nV cV IA nI cI l) 38))
  have HH := Lib.hid h
  have HY := Lib.hid (fun (k : Nat) (x : Int) => levTo_yes (vs := l.vols) (v := v) (x := x) (k := k)); have HN := Lib.hid (fun (k : Nat) (x : Int) => levTo_no (vs := l.vols) (v := v) (x := x) (k := k))
  obtain ⟨F, hF⟩ : ∃ F, F = levTo l.vols v := ⟨_, rfl⟩
  rw [← hF] at HE HY HN
  have hF0 : F 0 = 0 := by rw [hF]; rfl
  have HF0 := Lib.hid hF0.symm
  clear h hF hF0
  go_enter Try.func67, Try.ntmps67
  go_wp2_with fail
  go_loopw [4, 10] (fun s i wr => ∃ k : Nat, k ≤ nV ∧ i = .int .i64 k ∧ s = .int .i64 (F k) ∧ wr = w.alloc (.cells #[.slice VA nV cV, .int .i64 l.crest, .int .i64 l.weak, .int .i64 l.soft.1, .int .i64 l.soft.2, .int .i64 l.start.1, .int .i64 l.start.2, .int .i64 l.seep.1, .int .i64 l.seep.2, .slice IA nI cI] 38)) (fun _ i _ => nV - (intOf i).toNat)
  case atStart => exact ⟨0, Nat.zero_le _, rfl, congrArg _ HF0.out, by first | rfl | trivial⟩
  case round =>
    obtain ⟨k, hk, rfl, rfl, rfl⟩ := hrel
    by_cases hlt : k < nV
    · obtain ⟨b, o, x, rfl, hbl, hx, e0⟩ := (HH.out.vols.below HB0.out).at1 hlt
      have hkn : (k : Int) < (nV : Int) := by omega
      have hk0 : (0 : Int) ≤ (k : Int) := by omega
      by_cases hle : x ≤ v
      · have hs := HY.out k x hx hle
        have HS := Lib.hid hs.symm
        clear hs hx
        go_wp2_with fail
        go_roundw
        case rel => exact ⟨k + 1, by omega, by go_num, by rw [HS.out], by first | rfl | trivial⟩
        case measure => simp [intOf] <;> omega
      · have hs := HN.out k x hx (by omega)
        have HS := Lib.hid hs.symm
        have hle' : v < x := by omega
        clear hs hx hle
        go_wp2_with fail
        go_roundw
        case rel => exact ⟨k + 1, by omega, by go_num, by rw [HS.out], by first | rfl | trivial⟩
        case measure => simp [intOf] <;> omega
    · obtain rfl : k = nV := by omega
      go_wp2_with fail
      go_ret
      exact ⟨ret_int HE.out, HB0.out⟩

set_option maxRecDepth 100000 in
set_option maxHeartbeats 2000000 in
theorem first_c (hP : RdP w VA nV IA nI l WA nW ws CA nC c) (hok : LOk l) (hwk : WOk ws) (hch : choB ws.length c = true) :
    Calls Try.prog 68 #[.agg (pA VA nV cV IA nI cI l WA nW cW CA nC cC)] w fun e w' => e = .returned (.int .i64 (brkF (aftL l (netL l ws c)))) ∧ Below w.heap.size w w' := by
  have hb := (Below.refl w.heap.size w).alloc (Nat.le_refl _) (.cells (pA VA nV cV IA nI cI l WA nW cW CA nC cC) 126)
  have HC := Lib.hid (hours_c (cV := cV) (cI := cI) (cW := cW) (cC := cC) (hP.below hb) hok hwk hch)
  have HB := Lib.hid hb
  have h60 := hok.h
  have hil := hP.l.infl.len
  obtain ⟨L, hL⟩ : ∃ L, L = aftL l (netL l ws c) := ⟨_, rfl⟩
  rw [← hL] at HC ⊢
  obtain ⟨R, hR⟩ : ∃ R, R = brkF L := ⟨_, rfl⟩
  rw [← hR]
  have HR := Lib.hid hR
  clear hb hP hok hwk hch hL hR
  go_enter Try.func68, Try.ntmps68
  go_wp2
  go_step3
  go_wp2_with fail
  go_step3
  go_wp2_with fail
  refine HC.out.mono ?_
  rintro e w1 ⟨A, n, cp, rfl, rfl, hrd, hb1⟩
  have HRD := Lib.hid hrd
  have HB1 := Lib.hid (below_tr HB.out hb1)
  clear hb1 hrd HC
  go_wp2_with fail
  go_loopw [3, 9] (fun s i wr => ∃ k : Nat, k ≤ n ∧ i = .int .i64 k ∧ s = .int .i64 (-1) ∧ Below w1.heap.size w1 wr ∧ ∀ (j : Nat) (x : Aft), j < k → L[j]? = some x → x.brk < 0) (fun _ i _ => n - (intOf i).toNat)
  case atStart => exact ⟨0, Nat.zero_le _, rfl, rfl, Below.refl _ _, fun j _ hj => absurd hj (by omega)⟩
  case round =>
    obtain ⟨k, hk, rfl, rfl, hbr, hall⟩ := hrel
    have HBR := Lib.hid hbr; have HA := Lib.hid hall
    clear hall
    by_cases hlt : k < n
    · obtain ⟨b, o, x, rfl, hbl, hx, e0, e1, e2, e3, e4⟩ := (HRD.out.below hbr).atA hlt
      have HX := Lib.hid hx
      have hkn : (k : Int) < (n : Int) := by omega
      have hk0 : (0 : Int) ≤ (k : Int) := by omega
      have HBX := Lib.hid (below_tr HB1.out (hbr.alloc hbr.size (.cells #[.int .i64 x.hard.1, .int .i64 x.hard.2, .int .i64 x.soft.1, .int .i64 x.soft.2, .int .i64 x.brk] 140)))
      have HBY := Lib.hid (hbr.alloc hbr.size (.cells #[.int .i64 x.hard.1, .int .i64 x.hard.2, .int .i64 x.soft.1, .int .i64 x.soft.2, .int .i64 x.brk] 140))
      clear hx hbr
      by_cases hge : 0 ≤ x.brk
      · have hRk : R = (k : Int) := by rw [HR.out]; exact firstL_at HX.out (by simpa using hge) fun j y hj hy => by have := HA.out j y hj hy; simp; omega
        have HRK := Lib.hid hRk
        clear hRk
        go_wp2_with fail
        (try rw [Exit.noGoto_ret])
        go_ret
        exact ⟨ret_int HRK.out.symm, HBX.out⟩
      · have hlt0 : x.brk < 0 := by omega
        clear hge
        go_wp2_with fail
        go_roundw
        case rel => exact ⟨k + 1, by omega, by go_num, rfl, HBY.out, fun j y hj hy => by
          rcases Nat.lt_or_ge j k with hjk | hjk
          · exact HA.out j y hjk hy
          · obtain rfl : j = k := by omega
            rw [HX.out] at hy; cases hy; exact hlt0⟩
        case measure => simp [intOf] <;> omega
    · obtain rfl : k = n := by omega
      have hRk : R = -1 := by rw [HR.out]; exact firstL_none fun j y hy => by have := HA.out j y (by have := lt_of_get hy; have := HRD.out.len; omega) hy; simp; omega
      have HRK := Lib.hid hRk
      clear hRk hbr
      go_wp2_with fail
      (try rw [Exit.noGoto_ret])
      go_ret
      exact ⟨ret_int HRK.out.symm, below_tr HB1.out HBR.out⟩
theorem enough_c (hP : RdP w VA nV IA nI l WA nW ws CA nC c) (hok : LOk l) (hwk : WOk ws) (hch : choB ws.length c = true) :
    Calls Try.prog 60 #[.agg (pA VA nV cV IA nI cI l WA nW cW CA nC cC)] w fun e w' => e = .returned (.bool (decide (brkF (aftL l (netL l ws c)) < 0))) ∧ Below w.heap.size w w' := by
  have hb := (Below.refl w.heap.size w).alloc (Nat.le_refl _) (.cells (pA VA nV cV IA nI cI l WA nW cW CA nC cC) 126)
  have HC := Lib.hid (first_c (cV := cV) (cI := cI) (cW := cW) (cC := cC) (hP.below hb) hok hwk hch)
  have HB := Lib.hid hb
  obtain ⟨R, hR⟩ : ∃ R, R = brkF (aftL l (netL l ws c)) := ⟨_, rfl⟩
  rw [← hR] at HC ⊢
  clear hb hP hok hwk hch hR
  go_enter Try.func60, Try.ntmps60
  go_wp2_with (go_at_call 68; refine HC.out.mono ?_; rintro e w1 ⟨rfl, hb1⟩)
  go_ret
  exact ⟨rfl, below_tr HB.out hb1⟩

/-- Is nothing left of an hour? -/
def endB (x : Aft) : Bool := decide (x.hard = noneR) && decide (x.soft = noneR)
theorem endB_eq (x : Aft) : decide ((x.hard.1 = 1 ∧ x.hard.2 = 0) ∧ x.soft.1 = 1 ∧ x.soft.2 = 0) = endB x := by
  obtain ⟨⟨a, b⟩, ⟨c, d⟩, e⟩ := x
  simp [endB, noneR, Prod.ext_iff]
set_option maxRecDepth 100000 in
set_option maxHeartbeats 1000000 in
theorem brk1_c (x : Aft) (w : World) :
    Calls Try.prog 70 #[.agg #[.int .i64 x.hard.1, .int .i64 x.hard.2, .int .i64 x.soft.1, .int .i64 x.soft.2, .int .i64 x.brk]] w fun e w' => e = .returned (.bool (endB x)) ∧ Below w.heap.size w w' := by
  have heq := fun W => run_eql_may x.hard.1 x.hard.2 x.soft.1 x.soft.2 1 0 1 0 W
  rw [endB_eq] at heq
  have HB := Lib.hid ((Below.refl w.heap.size w).alloc (Nat.le_refl _) (.cells #[.int .i64 x.hard.1, .int .i64 x.hard.2, .int .i64 x.soft.1, .int .i64 x.soft.2, .int .i64 x.brk] 140))
  have HN := Lib.hid none_c
  go_enter Try.func70, Try.ntmps70
  go_wp2_with fail
  refine wp_region_ext (by kernel_rfl) (by kernel_rfl) ?_
  repeat (go_big_quiet_step ((go_at_call 66; exact ext_call (HN.out _))))
  refine wpQuiet_nil ?_
  rintro _ ⟨q, rfl⟩
  go_wp2
  go_ret
  exact ⟨rfl, below_tr HB.out q.below⟩
theorem idxA_c {L : List Aft} {A : Option Addr} {n cp : Nat} (h : Rd encA 5 w A n L) (hn : n ≤ maxLen) :
    Calls Try.prog 69 #[.slice A n cp, .func (.func 70) #[] #[]] w fun e w' => e = .returned (.int .i64 (brkE L)) ∧ Below w.heap.size w w' := by
  unfold maxLen at hn
  obtain ⟨R, hR⟩ : ∃ R, R = brkE L := ⟨_, rfl⟩
  rw [← hR]
  have HR := Lib.hid hR
  clear hR
  go_enter Try.func69, Try.ntmps69
  go_wp2_with fail
  go_loopw [5, 8] (fun _ i wr => ∃ k : Nat, k ≤ n ∧ i = .int .i64 k ∧ Below w.heap.size w wr ∧ ∀ (j : Nat) (x : Aft), j < k → L[j]? = some x → endB x = false) (fun _ i _ => n - (intOf i).toNat)
  case atStart => exact ⟨0, Nat.zero_le _, rfl, Below.refl _ _, fun j x hj => absurd hj (by omega)⟩
  case round =>
    obtain ⟨k, hk, rfl, hb, hall⟩ := hrel
    have HA := Lib.hid hall; clear hall
    by_cases hlt : k < n
    · obtain ⟨b, o, x, rfl, hbl, hx, h0, h1, h2, h3, h4⟩ := (h.below hb).atA hlt
      have HX := Lib.hid hx; clear hx
      have HC := Lib.hid (brk1_c x)
      have HB := Lib.hid hb
      clear hb
      cases hm : endB x
      · rw [hm] at HC
        have HM := Lib.hid hm; clear hm
        go_wp2_with (go_at_call 70; refine (HC.out _).mono ?_; rintro e w' ⟨rfl, hb'⟩)
        go_roundw
        case rel => exact ⟨k + 1, by omega, by go_num, below_tr HB.out hb', fun j y hj hy => by
          rcases Nat.lt_or_ge j k with hjk | hjk
          · exact HA.out j y hjk hy
          · obtain rfl : j = k := by omega
            rw [HX.out] at hy; cases hy; exact HM.out⟩
        case measure => simp [intOf] <;> omega
      · rw [hm] at HC
        have HRK := Lib.hid (show (k : Int) = R by rw [HR.out]; exact (firstL_at HX.out hm HA.out).symm)
        clear hm
        go_wp2_with (go_at_call 70; refine (HC.out _).mono ?_; rintro e w' ⟨rfl, hb'⟩)
        go_ret
        exact ⟨ret_int HRK.out, below_tr HB.out hb'⟩
    · have HRK := Lib.hid (show (-1 : Int) = R by rw [HR.out]; exact (firstL_none fun j y hy => HA.out j y (by have := lt_of_get hy; have := h.len; omega) hy).symm)
      go_wp2
      go_ret
      exact ⟨ret_int HRK.out, hb⟩
end
end Go.Proofs.Ytpijmfbpdglchaa
