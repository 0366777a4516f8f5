/- THE WALK of the law GaugeGaps. -/
import Derived.Test.YtkgoojilmnkgiaaGapsC
import Derived.Test.YtkgoojilmnkgiaaRGaps
import Derived.Test.YtkgoojilmnkgiaaWakes
import Derived.Test.YtkgoojilmnkgiaaFault
namespace Go.Proofs.Ytkgoojilmnkgiaa
open Go.RowKit Go.Proofs

theorem run_neq_gap (a b : Int × Int × Int) (W : World) : (binOp .neq 88 (.agg #[.int .i64 a.1, .int .i64 a.2.1, .int .i64 a.2.2]) (.agg #[.int .i64 b.1, .int .i64 b.2.1, .int .i64 b.2.2])).run Try.prog W = .ok (.bool (!decide (a = b))) W := by
  rw [run_neq_struct]
  have : (Op.equalIn 10000 88 (.agg #[.int .i64 a.1, .int .i64 a.2.1, .int .i64 a.2.2]) (.agg #[.int .i64 b.1, .int .i64 b.2.1, .int .i64 b.2.2])).run Try.prog W = .ok (decide (a = b)) W := by
    simp [go_sem, Try.underlying88]
    obtain ⟨a1, a2, a3⟩ := a
    obtain ⟨b1, b2, b3⟩ := b
    by_cases h1 : a1 = b1 <;> by_cases h2 : a2 = b2 <;> by_cases h3 : a3 = b3 <;> simp [h1, h2, h3]
  rw [this]; rfl
theorem Rd.at3 {w : World} {A : Option Addr} {n : Nat} {l : List (Int × Int × Int)} (h : Rd encG 3 w A n l) {i : Nat} (hi : i < n) :
    ∃ b o x, A = some ⟨b, o, none⟩ ∧ b < w.heap.size ∧ l[i]? = some x ∧ w.cell? ⟨b, o + i * 3, none⟩ = some (.int .i64 x.1) ∧ w.cell? ⟨b, o + i * 3 + 1, none⟩ = some (.int .i64 x.2.1) ∧ w.cell? ⟨b, o + i * 3 + 2, none⟩ = some (.int .i64 x.2.2) := by
  obtain ⟨b, o, x, e, hb, hx, hc⟩ := h.at_ hi
  exact ⟨b, o, x, e, hb, hx, hc 0 _ rfl, hc 1 _ rfl, hc 2 _ rfl⟩

set_option maxRecDepth 100000 in
set_option maxHeartbeats 2000000 in
theorem GaugeGaps_w {rs : List Rdg} {A : Option Addr} {n c : Nat} {w : World} (h : Rd encR 4 w A n rs) (hc : n ≤ c) :
    Calls Try.prog 12 #[.slice A n c] w fun e w' => e = .returned (.bool true) ∧ Below w.heap.size w w' := by
  by_cases hn : 205 < n
  · have hn' : 205 < (n : Int) := by omega
    go_enter Try.func12, Try.ntmps12
    go_wp2_with fail
    refine (wakes_ok _).mono ?_
    rintro e w2 ⟨rfl, hb2⟩
    go_wp2_with fail
    go_ret
    exact ⟨rfl, hb2⟩
  · have hn' : ¬ 205 < (n : Int) := by omega
    have HLEN := Lib.hid h.len
    go_enter Try.func12, Try.ntmps12
    go_wp2_with fail
    refine (Readings_c h (by omega)).mono ?_
    rintro e w1 ⟨A1, c1, rfl, hc1, hr1, hb1⟩
    have HB1 := Lib.hid hb1
    have HGC := Lib.hid (Gaps_c hr1 (by omega) hc1)
    clear hb1 hr1
    go_wp2_with fail
    refine HGC.out.mono ?_
    rintro e w2 ⟨⟨A2, n2, c2, rfl, hc2, hn2, hz, hok⟩, hb⟩
    have HB2 := Lib.hid (below_tr HB1.out hb)
    clear hb HGC
    have h2 := h.below HB2.out
    have hll : RdLL (w2.alloc (.cells #[.slice A n c] 22)) (some ⟨w2.heap.size, 0, none⟩) 1 [⟨A, n, c, rs⟩] := by
      refine ⟨Rd.of_blk encL_len (heap_alloc_new w2 _) (fun (j : Nat) (v : Value) hv => by simpa [encL] using hv) rfl, fun i x hx => ?_⟩
      have hxe : x = ⟨A, n, c, rs⟩ := by have := List.mem_of_getElem? hx; simpa using this
      subst hxe
      exact ⟨h2.below ((Below.refl _ w2).alloc (Nat.le_refl _) _), (show n ≤ maxLen by unfold maxLen; omega), hc⟩
    have hfc := Fault_c (c := 1) hll (by unfold maxLen; omega)
    rw [errL_one HLEN.out] at hfc
    obtain ⟨E, hE⟩ : ∃ E, E = errR rs := ⟨_, rfl⟩
    obtain ⟨F, hF⟩ : ∃ F, F = errG rs := ⟨_, rfl⟩
    rw [← hE] at hfc
    rw [← hF] at hz hok ⊢
    have HE := Lib.hid hE; have HF := Lib.hid hF
    have HFC := Lib.hid hfc; have HZ := Lib.hid hz; have HOK := Lib.hid hok
    clear hfc hll hE hF hz hok h2
    go_wp2_with fail
    refine HFC.out.mono ?_
    rintro e w3 ⟨rfl, hb3⟩
    have hb23 : Below w2.heap.size w2 w3 := below_tr ((Below.refl _ w2).alloc (Nat.le_refl _) _) hb3
    have HB3 := Lib.hid (below_tr HB2.out hb23)
    have HB23 := Lib.hid hb23
    clear hb3 hb23 HFC
    by_cases he : E = 0
    · have hF0 : F = if twiceB rs = true then 6 else 0 := by
        rw [HF.out]; unfold errG; rw [if_pos (by rw [← HE.out]; exact he)]
      have hall := (errR_zero.1 (by rw [← HE.out]; exact he)).2
      have HALL := Lib.hid hall
      have HTC := Lib.hid (Twice_c (c := c) (h.below HB3.out) (by omega))
      subst he
      clear hall
      cases htw : twiceB rs
      · rw [htw] at hF0 HTC
        simp only [Bool.false_eq_true, if_false] at hF0
        subst hF0
        have HTW := Lib.hid htw
        clear htw
        go_wp2_with fail
        refine HTC.out.mono ?_
        rintro e w4 ⟨rfl, hb4⟩
        have HB4 := Lib.hid (below_tr HB3.out hb4)
        have HB24 := Lib.hid (below_tr HB23.out hb4)
        clear hb4 HTC
        have HRG := Lib.hid (RGaps_c (c := c) (h.below HB4.out) (by omega) HALL.out)
        go_wp2_with fail
        refine HRG.out.mono ?_
        rintro e w5 ⟨A5, n5, c5, rfl, hc5, hn5, hr5, hb5⟩
        obtain ⟨s, hord, hperm, hr2⟩ := HOK.out (by first | exact rfl | trivial)
        have hnames : Names rs := by
          have := HTW.out
          unfold twiceB at this
          simpa using this
        rw [sortedR_eq hnames.nodup hord hperm] at hr5
        have hr2' := hr2.below (below_tr HB24.out hb5)
        obtain ⟨G, hG⟩ : ∃ G, G = gapsTo s (s.length - 1) := ⟨_, rfl⟩
        rw [← hG] at hr5 hr2'
        have hn25 : n2 = n5 := by rw [← hr2'.len]; exact hr5.len
        subst hn25
        have HR5 := Lib.hid hr5; have HR2 := Lib.hid hr2'
        have HB5 := Lib.hid (below_tr HB4.out hb5)
        have hbn1 : ((n2 : Int) != (n2 : Int)) = false := by simp
        have hbn2 : ((n2 : Int) == (n2 : Int)) = true := by simp
        clear hord hperm hr2 hnames hG hr5 hr2' hb5 HOK HZ HRG hc1 hc2 hc5
        go_wp2_with fail
        go_loopw [7] (fun i wr => ∃ k : Nat, k ≤ n2 ∧ i = .int .i64 k ∧ Below w5.heap.size w5 wr) (fun i _ => n2 - (intOf i).toNat)
        case atStart => exact ⟨0, Nat.zero_le _, rfl, Below.refl _ _⟩
        case round =>
          obtain ⟨k, hk, rfl, hb⟩ := hrel
          have HB := Lib.hid hb
          by_cases hlt : k < n2
          · obtain ⟨b, o, x, hA, _, hx, x0, x1, x2⟩ := (HR2.out.below hb).at3 hlt
            subst hA
            obtain ⟨b', o', y, hA, _, hy, y0, y1, y2⟩ := (HR5.out.below hb).at3 hlt
            subst hA
            have hxy : x = y := by rw [hx] at hy; exact Option.some.inj hy
            subst hxy
            have hq := fun W => run_neq_gap x x W
            rw [decide_eq_true rfl] at hq
            have hkn : (k : Int) < (n2 : Int) := by omega
            have hk0 : (0 : Int) ≤ (k : Int) := by omega
            clear hx hy hb
            go_wp2_with fail
            go_quiet (fail)
            go_wp2
            go_roundw
            case rel => exact ⟨k + 1, by omega, by go_num, below_drewN HB.out _⟩
            case measure => simp [intOf] <;> omega
          · obtain rfl : k = n2 := by omega
            clear hb
            go_wp2_with fail
            refine (wakes_ok _).mono ?_
            rintro e w9 ⟨rfl, hb9⟩
            go_wp2_with fail
            go_ret
            exact ⟨rfl, below_tr (below_tr HB5.out HB.out) hb9⟩
      · rw [htw] at hF0 HTC
        simp only [if_true] at hF0
        subst hF0
        clear htw
        obtain rfl := HZ.out (by omega)
        go_wp2_with fail
        refine HTC.out.mono ?_
        rintro e w4 ⟨rfl, hb4⟩
        have HB4 := Lib.hid (below_tr HB3.out hb4)
        clear hb4 HTC
        go_wp2_with fail
        refine (wakes_ok _).mono ?_
        rintro e w9 ⟨rfl, hb9⟩
        go_wp2_with fail
        go_ret
        exact ⟨rfl, below_tr HB4.out hb9⟩
    · have hF0 : F = E := by
        rw [HF.out]; unfold errG; rw [if_neg (by rw [← HE.out]; exact he), HE.out]
      subst hF0
      have e1 : (F == 0) = false := by rw [beq_eq_false_iff_ne]; exact he
      have e2 : (F != 0) = true := by rw [bne_iff_ne]; exact he
      have e3 : (F == F) = true := by simp
      obtain rfl := HZ.out he
      go_wp2_with fail
      refine (wakes_ok _).mono ?_
      rintro e w9 ⟨rfl, hb9⟩
      go_wp2_with fail
      go_ret
      exact ⟨rfl, below_tr HB3.out hb9⟩
end Go.Proofs.Ytkgoojilmnkgiaa
