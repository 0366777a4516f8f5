/- THE WALK of the law GaugeMissing. -/
import Derived.Test.YtkgoojilmnkgiaaLawGaps
import Derived.Test.YtkgoojilmnkgiaaMissLaw
namespace Go.Proofs.Ytkgoojilmnkgiaa
open Go.RowKit Go.Proofs

theorem any_succ {α : Type} {l : List α} {k : Nat} {x : α} (hx : l[k]? = some x) (p : α → Bool) : (l.take (k + 1)).any p = ((l.take k).any p || p x) := by
  rw [List.take_add_one, hx]; simp
theorem count_succ {α : Type} {l : List α} {k : Nat} {x : α} (hx : l[k]? = some x) (p : α → Bool) : (l.take (k + 1)).countP p = (l.take k).countP p + (if p x = true then 1 else 0) := by
  rw [List.take_add_one, hx, List.countP_append]; simp [List.countP_cons]

set_option maxRecDepth 100000 in
set_option maxHeartbeats 4000000 in
theorem GaugeMissing_w {rs : List Rdg} {A : Option Addr} {n c : Nat} {at' num : Int} {w : World} (h : Rd encR 4 w A n rs) (hc : n ≤ c) (h1 : 0 ≤ at' ∧ at' ≤ 255) (h2 : 0 ≤ num ∧ num ≤ 65535) :
    Calls Try.prog 13 #[.slice A n c, .int .u8 at', .int .u16 num] w fun e w' => e = .returned (.bool true) ∧ Below w.heap.size w w' := by
  by_cases hbad : n = 0 ∨ 100 < n
  · have hor : (n : Int) = 0 ∨ (((n : Int) == 0) = false ∧ 100 < (n : Int)) := by
      rcases hbad with h0 | h0
      · exact .inl (by omega)
      · exact .inr ⟨by rw [beq_eq_false_iff_ne]; omega, by omega⟩
    clear hbad
    rcases hor with e1 | ⟨e1, e2⟩
    all_goals
      go_enter Try.func13, Try.ntmps13
      go_wp2_with fail
      refine (wakes_ok _).mono ?_
      rintro e w2 ⟨rfl, hb2⟩
      go_wp2_with fail
      go_ret
      exact ⟨rfl, hb2⟩
  · have e1 : ((n : Int) == 0) = false := by rw [beq_eq_false_iff_ne]; omega
    have e2 : ¬ 100 < (n : Int) := by omega
    have hn0 : 0 < n := by omega
    have hn1 : n ≤ 100 := by omega
    clear hbad
    have HLEN := Lib.hid h.len
    have hll : RdLL (w.alloc (.cells #[.slice A n c] 22)) (some ⟨w.heap.size, 0, none⟩) 1 [⟨A, n, c, rs⟩] := by
      refine ⟨Rd.of_blk encL_len (heap_alloc_new w _) (fun (j : Nat) (v : Value) hv => by simpa [encL] using hv) rfl, fun i x hx => ?_⟩
      have hxe : x = ⟨A, n, c, rs⟩ := by have := List.mem_of_getElem? hx; simpa using this
      subst hxe
      exact ⟨h.below ((Below.refl _ w).alloc (Nat.le_refl _) _), (show n ≤ maxLen by unfold maxLen; omega), hc⟩
    have hfc := Fault_c (c := 1) hll (by unfold maxLen; omega)
    rw [errL_one HLEN.out] at hfc
    obtain ⟨E, hE⟩ : ∃ E, E = errR rs := ⟨_, rfl⟩
    rw [← hE] at hfc
    have HE := Lib.hid hE
    have HFC := Lib.hid hfc
    clear hfc hll hE
    by_cases he : E = 0
    · subst he
      have hall := (errR_zero.1 HE.out.symm).2
      have HALL := Lib.hid (fun x hx => by obtain ⟨i, hi⟩ := List.getElem?_of_mem hx; exact allB_iff.1 hall i x hi : ∀ x ∈ rs, validB x = true)
      clear hall
      go_enter Try.func13, Try.ntmps13
      go_wp2_with fail
      refine HFC.out.mono ?_
      rintro e w1 ⟨rfl, hb1⟩
      have HB1 := Lib.hid (below_tr ((Below.refl _ w).alloc (Nat.le_refl _) (.cells #[.slice A n c] 22)) hb1)
      have HTC := Lib.hid (Twice_c (c := c) (h.below HB1.out) (by omega))
      clear hb1 HFC
      cases htw : twiceB rs
      · rw [htw] at HTC
        have hnames : Names rs := by
          unfold twiceB at htw
          simpa using htw
        have HN := Lib.hid hnames
        have HF : Hid (errG rs = 0) := by
          show _ = _
          unfold errG; rw [if_pos HE.out.symm, if_neg (by rw [htw]; simp)]
        clear hnames htw
        go_wp2_with fail
        refine HTC.out.mono ?_
        rintro e w2 ⟨rfl, hb2⟩
        have HB2 := Lib.hid (below_tr HB1.out hb2)
        clear hb2 HTC
        go_wp2_with fail
        refine (Readings_c (h.below HB2.out) (by omega)).mono ?_
        rintro e w3 ⟨A3, c3, rfl, hc3, hr3, hb3⟩
        have HB3 := Lib.hid (below_tr HB2.out hb3)
        have HGC := Lib.hid (Gaps_c hr3 (by omega) hc3)
        clear hb3 hr3
        go_wp2_with fail
        refine HGC.out.mono ?_
        rintro e w4 ⟨⟨A4, n4, c4, rfl, hc4, hn4, _, hok⟩, hb⟩
        have HB4 := Lib.hid (below_tr HB3.out hb)
        obtain ⟨s, hord, hperm, hr4⟩ := hok HF.out
        have HG := Lib.hid (fun g hg => gap_law hord hperm HN.out hg : ∀ g ∈ gapsTo s (s.length - 1), _)
        obtain ⟨j, hj⟩ : ∃ j : Nat, j = (at' % (n : Int)).toNat := ⟨_, rfl⟩
        have hmod : 0 ≤ at' % (n : Int) ∧ at' % (n : Int) < (n : Int) := ⟨Int.emod_nonneg _ (by omega), Int.emod_lt_of_pos _ (by omega)⟩
        have hjn : j < n := by omega
        have hq : at'.tmod (n : Int) = (j : Int) := by rw [Int.tmod_eq_emod_of_nonneg h1.1]; omega
        obtain ⟨b, o, z, hA, hbl, hz, hcz⟩ := rd4 (h.below HB4.out) hjn
        subst hA
        have HML := Lib.hid (miss_law hord hperm z.ins num)
        have HR4 := Lib.hid hr4
        have HL4 := Lib.hid hr4.len
        obtain ⟨G, hG⟩ : ∃ G, G = gapsTo s (s.length - 1) := ⟨_, rfl⟩
        rw [← hG] at HG HML HR4 HL4
        rw [HF.out]
        obtain ⟨z0, z1, z2, z3⟩ := hcz _ (Below.refl _ _)
        have hj0 : (0 : Int) ≤ (j : Int) := by omega
        have hj1 : (j : Int) < (n : Int) := by omega
        have hw1 : IntKind.i64.wrap at' = at' := wi (by omega)
        have hw2 : IntKind.i64.wrap num = num := wi (by omega)
        have hw3 : IntKind.i64.wrap (j : Int) = (j : Int) := wi (by omega)
        have hvz := HALL.out z (List.mem_of_getElem? hz)
        clear hord hperm hr4 hG hb hok hz hmod hj hvz hcz HGC HF
        go_wp2_with fail
        obtain ⟨u, hu⟩ : ∃ u, u = z.ins := ⟨_, rfl⟩
        rw [← hu] at HML ⊢
        clear hu z0 z1 z2 z3
        go_loopw [11, 12, 13, 14] (fun t1 t2 t3 i wr => ∃ k : Nat, k ≤ n ∧ i = .int .i64 k ∧ t1 = .bool ((rs.take k).any (thereB u num)) ∧ t2 = .bool ((rs.take k).any (lessB u num)) ∧ t3 = .bool ((rs.take k).any (moreB u num)) ∧ Below w4.heap.size w4 wr) (fun _ _ _ i _ => n - (intOf i).toNat)
        case atStart => exact ⟨0, Nat.zero_le _, rfl, rfl, rfl, rfl, Below.refl _ _⟩
        case round =>
          obtain ⟨k, hk, rfl, rfl, rfl, rfl, hb⟩ := hrel
          have HB := Lib.hid hb
          by_cases hlt : k < n
          · obtain ⟨b', o', x, hA, _, hx, hcx⟩ := rd4 ((h.below HB4.out).below hb) hlt
            cases hA
            have H1 := Lib.hid (any_succ hx (thereB u num)); have H2 := Lib.hid (any_succ hx (lessB u num)); have H3 := Lib.hid (any_succ hx (moreB u num))
            obtain ⟨x0, x1, x2, x3⟩ := hcx _ (Below.refl _ _)
            have hkn : (k : Int) < (n : Int) := by omega
            have hk0 : (0 : Int) ≤ (k : Int) := by omega
            clear hx hcx hb
            obtain ⟨b1, hb1⟩ : ∃ b1, b1 = (rs.take k).any (thereB u num) := ⟨_, rfl⟩
            obtain ⟨b2, hb2⟩ : ∃ b2, b2 = (rs.take k).any (lessB u num) := ⟨_, rfl⟩
            obtain ⟨b3, hb3⟩ : ∃ b3, b3 = (rs.take k).any (moreB u num) := ⟨_, rfl⟩
            rw [← hb1] at H1; rw [← hb2] at H2; rw [← hb3] at H3
            rw [← hb1, ← hb2, ← hb3]
            clear hb1 hb2 hb3
            by_cases hu : x.ins = u
            · have d1 : (x.ins == u) = true := by simpa using hu
              have d2 : (x.ins != u) = false := by simpa using hu
              have H1' : Hid ((rs.take (k + 1)).any (thereB u num) = (b1 || decide (x.num = num))) := by
                show _ = _
                rw [H1.out]; simp [thereB, hu]
              have H2' : Hid ((rs.take (k + 1)).any (lessB u num) = (b2 || decide (x.num < num))) := by
                show _ = _
                rw [H2.out]; simp [lessB, hu]
              have H3' : Hid ((rs.take (k + 1)).any (moreB u num) = (b3 || decide (num < x.num))) := by
                show _ = _
                rw [H3.out]; simp [moreB, hu]
              clear H1 H2 H3 hu
              obtain ⟨wo, rfl⟩ : ∃ wo : World, wo = wr := ⟨_, rfl⟩
              go_upto_region 12 with fail
              go_cut [11] (fun t wx => t = .bool (b1 || decide (x.num = num)) ∧ wx = wo)
              case first =>
                cases b1
                · by_cases hv : x.num = num
                  · have v1 : (x.num == num) = true := by simpa using hv
                    have HV := Lib.hid hv
                    clear hv
                    go_wp2_with fail
                    go_meet
                    exact ⟨by simp [HV.out], rfl⟩
                  · have v1 : (x.num == num) = false := by simpa using hv
                    have HV := Lib.hid hv
                    go_wp2_with fail
                    go_meet
                    exact ⟨by simp [HV.out], rfl⟩
                · go_wp2_with fail
                  go_meet
                  exact ⟨by simp, rfl⟩
              case rest =>
              obtain ⟨rfl, hwc⟩ := hcut
              rw [hwc]
              clear hwc wc
              go_upto_region 13 with fail
              go_cut [12] (fun t wx => t = .bool (b2 || decide (x.num < num)) ∧ wx = wo)
              case first =>
                cases b2
                · by_cases hv : x.num < num
                  · have HV := Lib.hid hv
                    go_wp2_with fail
                    go_meet
                    exact ⟨by simp [HV.out], rfl⟩
                  · have HV := Lib.hid hv
                    go_wp2_with fail
                    go_meet
                    exact ⟨by simp; have := HV.out; omega, rfl⟩
                · go_wp2_with fail
                  go_meet
                  exact ⟨by simp, rfl⟩
              case rest =>
              obtain ⟨rfl, hwc⟩ := hcut
              rw [hwc]
              clear hwc wc
              rw [← H1'.out, ← H2'.out]
              cases b3
              · by_cases hv : num < x.num
                · have HV := Lib.hid hv
                  go_wp2_with fail
                  go_roundw
                  case rel => exact ⟨k + 1, by omega, by go_num, rfl, rfl, by rw [H3'.out]; simp [HV.out], HB.out⟩
                  case measure => simp [intOf] <;> omega
                · have HV := Lib.hid hv
                  go_wp2_with fail
                  go_roundw
                  case rel => exact ⟨k + 1, by omega, by go_num, rfl, rfl, by rw [H3'.out]; simp; have := HV.out; omega, HB.out⟩
                  case measure => simp [intOf] <;> omega
              · go_wp2_with fail
                go_roundw
                case rel => exact ⟨k + 1, by omega, by go_num, rfl, rfl, by rw [H3'.out]; simp, HB.out⟩
                case measure => simp [intOf] <;> omega
            · have d1 : (x.ins == u) = false := by simpa using hu
              have d2 : (x.ins != u) = true := by simpa using hu
              have H1' : Hid ((rs.take (k + 1)).any (thereB u num) = b1) := by
                show _ = _
                rw [H1.out]; simp [thereB, hu]
              have H2' : Hid ((rs.take (k + 1)).any (lessB u num) = b2) := by
                show _ = _
                rw [H2.out]; simp [lessB, hu]
              have H3' : Hid ((rs.take (k + 1)).any (moreB u num) = b3) := by
                show _ = _
                rw [H3.out]; simp [moreB, hu]
              clear H1 H2 H3 hu
              go_wp2_with fail
              go_roundw
              case rel => exact ⟨k + 1, by omega, by go_num, by rw [H1'.out], by rw [H2'.out], by rw [H3'.out], HB.out⟩
              case measure => simp [intOf] <;> omega
          · obtain rfl : n = k := by omega
            rw [List.take_of_length_le (by rw [HLEN.out]; exact Nat.le_refl _)]
            have HB5 := Lib.hid (below_tr HB4.out HB.out)
            have HR5 := Lib.hid (HR4.out.below HB.out)
            obtain ⟨M, hM⟩ : ∃ M : Bool, M = (!rs.any (thereB u num) && rs.any (lessB u num) && rs.any (moreB u num)) := ⟨_, rfl⟩
            have HM := Lib.hid hM
            rw [← hM] at HML
            clear hM hb HB
            obtain ⟨wo, rfl⟩ : ∃ wo : World, wo = wr := ⟨_, rfl⟩
            go_wp2_with fail
            go_loopw [15, 16] (fun ic j wr => ∃ q : Nat, q ≤ n4 ∧ j = .int .i64 q ∧ ic = .int .i64 (((G.take q).countP (hitB u num) : Nat) : Int) ∧ Below wo.heap.size wo wr) (fun _ j _ => n4 - (intOf j).toNat)
            case atStart => exact ⟨0, Nat.zero_le _, rfl, rfl, Below.refl _ _⟩
            case round =>
              obtain ⟨q, hq4, rfl, rfl, hb⟩ := hrel
              have HB6 := Lib.hid hb
              by_cases hlt : q < n4
              · obtain ⟨bg, og, g, hA, hblg, hg, hcg⟩ := (HR5.out.below hb).at_ hlt
                subst hA
                have hgl := HG.out g (List.mem_of_getElem? hg)
                obtain ⟨hbes, hle, hgap, xx, hxx, yy, hyy, hgeq⟩ := hgl
                have hvx := validB_iff.1 (HALL.out xx hxx); have hvy := validB_iff.1 (HALL.out yy hyy)
                have hga : 0 ≤ g.2.1 ∧ g.2.1 ≤ 65536 := by rw [hgeq]; simp only; omega
                have hgb : -1 ≤ g.2.2 ∧ g.2.2 ≤ 65535 := by rw [hgeq]; simp only; omega
                have HBES := Lib.hid hbes; have HGAP := Lib.hid hgap
                have HCT := Lib.hid (count_succ hg (hitB u num))
                have HCL : Hid ((G.take q).countP (hitB u num) ≤ q) := Lib.hid (by
                  have := List.countP_le_length (p := hitB u num) (l := G.take q)
                  rw [List.length_take] at this; omega)
                have HCG : Hid (∀ W : World, Below wr.heap.size wr W → W.cell? ⟨bg, og + q * 3, none⟩ = some (.int .i64 g.1) ∧ W.cell? ⟨bg, og + q * 3 + 1, none⟩ = some (.int .i64 g.2.1) ∧ W.cell? ⟨bg, og + q * 3 + 2, none⟩ = some (.int .i64 g.2.2)) := Lib.hid (fun W hW =>
                  ⟨(hW.cell (p := ⟨bg, _, none⟩) hblg).trans (hcg 0 _ rfl), (hW.cell (p := ⟨bg, _, none⟩) hblg).trans (hcg 1 _ rfl), (hW.cell (p := ⟨bg, _, none⟩) hblg).trans (hcg 2 _ rfl)⟩)
                obtain ⟨c0, hc0⟩ : ∃ c0, c0 = (G.take q).countP (hitB u num) := ⟨_, rfl⟩
                rw [← hc0] at HCT HCL
                rw [← hc0]
                obtain ⟨gi, ga, gb⟩ := g
                simp only at hle hga hgb
                have HLE := Lib.hid hle
                have HGAP' : Hid (∀ r ∈ rs, r.ins = gi → r.num < ga ∨ gb < r.num) := HGAP
                have HCG' : Hid (∀ W : World, Below wr.heap.size wr W → W.cell? ⟨bg, og + q * 3, none⟩ = some (.int .i64 gi) ∧ W.cell? ⟨bg, og + q * 3 + 1, none⟩ = some (.int .i64 ga) ∧ W.cell? ⟨bg, og + q * 3 + 2, none⟩ = some (.int .i64 gb)) := HCG
                obtain ⟨k0, k1, k2⟩ := HCG'.out _ (Below.refl _ _)
                have hqn : (q : Int) < (n4 : Int) := by omega
                have hq0 : (0 : Int) ≤ (q : Int) := by omega
                have hge : ¬ gb < ga := by omega
                have hged : decide (gb < ga) = false := decide_eq_false hge
                have hw4 : IntKind.i64.wrap (ga - 1) = ga - 1 := wi (by omega)
                have hw5 : IntKind.i64.wrap (gb + 1) = gb + 1 := wi (by omega)
                clear hg hcg hbes hle hgap hxx hyy hgeq hvx hvy hc0 hb HCG HGAP
                go_wp2_with fail
                go_quiet (fail)
                obtain ⟨wp, hwp⟩ : ∃ wp : World, wp = wr.drewN nq := ⟨_, rfl⟩
                have hbp : Below wr.heap.size wr wp := by rw [hwp]; exact below_drewN (Below.refl _ _) _
                rw [← hwp]
                have HBP := Lib.hid hbp
                clear hwp hbp k0 k1 k2
                go_wp2
                have HBX := Lib.hid (below_tr HB5.out (below_tr HB6.out HBP.out))
                go_loopw [17, 18] (fun bs j w7 => ∃ m : Nat, m ≤ n ∧ j = .int .i64 m ∧ bs = .int .i64 (((rs.take m).countP (besB (gi, ga, gb)) : Nat) : Int) ∧ Below wp.heap.size wp w7) (fun _ j _ => n - (intOf j).toNat)
                case atStart => exact ⟨0, Nat.zero_le _, rfl, rfl, Below.refl _ _⟩
                case round =>
                  obtain ⟨m, hm, rfl, rfl, hb⟩ := hrel
                  have HB7 := Lib.hid hb
                  by_cases hltm : m < n
                  · obtain ⟨b', o', r, hA, _, hr, hcr⟩ := rd4 ((h.below HBX.out).below hb) hltm
                    cases hA
                    have HCB := Lib.hid (count_succ hr (besB (gi, ga, gb)))
                    have hbd := validB_iff.1 (HALL.out r (List.mem_of_getElem? hr))
                    have hnb := HGAP'.out r (List.mem_of_getElem? hr)
                    have HB0 : Hid ((rs.take m).countP (besB (gi, ga, gb)) ≤ m) := Lib.hid (by
                      have := List.countP_le_length (p := besB (gi, ga, gb)) (l := rs.take m)
                      rw [List.length_take] at this; omega)
                    obtain ⟨b0, hb0⟩ : ∃ b0, b0 = (rs.take m).countP (besB (gi, ga, gb)) := ⟨_, rfl⟩
                    rw [← hb0] at HCB HB0
                    rw [← hb0]
                    obtain ⟨r0, r1, r2, r3⟩ := hcr _ (Below.refl _ _)
                    obtain ⟨k0, k1, k2⟩ := HCG'.out _ (below_tr HBP.out hb)
                    have hmn : (m : Int) < (n : Int) := by omega
                    have hm0 : (0 : Int) ≤ (m : Int) := by omega
                    have hle := HLE.out
                    have hw6 : IntKind.i64.wrap ((b0 : Int) + 1) = (b0 : Int) + 1 := wi (by have := HB0.out; omega)
                    clear hr hcr hb0 hb
                    by_cases hri : r.ins = gi
                    · have d1 : (r.ins == gi) = true := by simpa using hri
                      have d2 : (r.ins != gi) = false := by simpa using hri
                      by_cases hlo : r.num < ga
                      · have a1 : ¬ ga ≤ r.num := by omega
                        have a2 : decide (ga ≤ r.num) = false := decide_eq_false a1
                        by_cases heq : r.num = ga - 1
                        · have a3 : (r.num == ga - 1) = true := by simpa using heq
                          have HC' : Hid ((rs.take (m + 1)).countP (besB (gi, ga, gb)) = b0 + 1) := by
                            show _ = _
                            rw [HCB.out]; rw [if_pos (by simp [besB]; omega)]
                          clear HCB hbd hnb
                          clear heq hri
                          go_wp2_with fail
                          go_quiet (fail)
                          go_wp2
                          go_quiet (fail)
                          go_wp2
                          go_quiet (fail)
                          go_wp2
                          go_roundw
                          case rel => exact ⟨m + 1, by omega, by go_num, by rw [HC'.out]; go_num, below_drewN HB7.out _⟩
                          case measure => simp [intOf] <;> omega
                        · have a3 : (r.num == ga - 1) = false := by simpa using heq
                          have a4 : (r.num == gb + 1) = false := by rw [beq_eq_false_iff_ne]; omega
                          have HC' : Hid ((rs.take (m + 1)).countP (besB (gi, ga, gb)) = b0) := by
                            show _ = _
                            rw [HCB.out]; rw [if_neg (by simp [besB]; omega), Nat.add_zero]
                          clear HCB hbd hnb
                          clear heq hri
                          go_wp2_with fail
                          go_quiet (fail)
                          go_wp2
                          go_quiet (fail)
                          go_wp2
                          go_quiet (fail)
                          go_wp2
                          go_roundw
                          case rel => exact ⟨m + 1, by omega, by go_num, by rw [HC'.out], below_drewN HB7.out _⟩
                          case measure => simp [intOf] <;> omega
                      · have hhi : gb < r.num := by rcases hnb hri with h' | h' <;> omega
                        have a1 : ga ≤ r.num := by omega
                        have a2 : decide (ga ≤ r.num) = true := decide_eq_true a1
                        have a5 : ¬ r.num ≤ gb := by omega
                        have a6 : decide (r.num ≤ gb) = false := decide_eq_false a5
                        have a3 : (r.num == ga - 1) = false := by rw [beq_eq_false_iff_ne]; omega
                        by_cases heq : r.num = gb + 1
                        · have a4 : (r.num == gb + 1) = true := by simpa using heq
                          have HC' : Hid ((rs.take (m + 1)).countP (besB (gi, ga, gb)) = b0 + 1) := by
                            show _ = _
                            rw [HCB.out]; rw [if_pos (by simp [besB]; omega)]
                          clear HCB hbd hnb
                          clear heq hri
                          go_wp2_with fail
                          go_quiet (fail)
                          go_wp2
                          go_quiet (fail)
                          go_wp2
                          go_quiet (fail)
                          go_wp2
                          go_roundw
                          case rel => exact ⟨m + 1, by omega, by go_num, by rw [HC'.out]; go_num, below_drewN HB7.out _⟩
                          case measure => simp [intOf] <;> omega
                        · have a4 : (r.num == gb + 1) = false := by simpa using heq
                          have HC' : Hid ((rs.take (m + 1)).countP (besB (gi, ga, gb)) = b0) := by
                            show _ = _
                            rw [HCB.out]; rw [if_neg (by simp [besB]; omega), Nat.add_zero]
                          clear HCB hbd hnb
                          clear heq hri
                          go_wp2_with fail
                          go_quiet (fail)
                          go_wp2
                          go_quiet (fail)
                          go_wp2
                          go_quiet (fail)
                          go_wp2
                          go_roundw
                          case rel => exact ⟨m + 1, by omega, by go_num, by rw [HC'.out], below_drewN HB7.out _⟩
                          case measure => simp [intOf] <;> omega
                    · have d1 : (r.ins == gi) = false := by simpa using hri
                      have d2 : (r.ins != gi) = true := by simpa using hri
                      have HC' : Hid ((rs.take (m + 1)).countP (besB (gi, ga, gb)) = b0) := by
                        show _ = _
                        rw [HCB.out]; rw [if_neg (by simp [besB]; omega), Nat.add_zero]
                      clear HCB hbd hnb
                      clear hri
                      go_wp2_with fail
                      go_quiet (fail)
                      go_wp2
                      go_roundw
                      case rel => exact ⟨m + 1, by omega, by go_num, by rw [HC'.out], below_drewN HB7.out _⟩
                      case measure => simp [intOf] <;> omega
                  · obtain rfl : n = m := by omega
                    rw [List.take_of_length_le (by rw [HLEN.out]; exact Nat.le_refl _), HBES.out]
                    obtain ⟨k0, k1, k2⟩ := HCG'.out _ (below_tr HBP.out hb)
                    have HBY := Lib.hid (below_tr HB6.out (below_tr HBP.out HB7.out))
                    have hw6 : IntKind.i64.wrap ((c0 : Int) + 1) = (c0 : Int) + 1 := wi (by have := HCL.out; omega)
                    clear hb
                    by_cases hgi : gi = u
                    · have d1 : (gi == u) = true := by simpa using hgi
                      by_cases hna : ga ≤ num
                      · by_cases hnb : num ≤ gb
                        · have HC' : Hid ((G.take (q + 1)).countP (hitB u num) = c0 + 1) := by
                            show _ = _
                            rw [HCT.out, if_pos (by simp [hitB]; omega)]
                          clear hgi HCT
                          go_wp2_with fail
                          go_roundw
                          case rel => exact ⟨q + 1, by omega, by go_num, by rw [HC'.out]; go_num, HBY.out⟩
                          case measure => simp [intOf] <;> omega
                        · have HC' : Hid ((G.take (q + 1)).countP (hitB u num) = c0) := by
                            show _ = _
                            rw [HCT.out, if_neg (by simp [hitB]; omega), Nat.add_zero]
                          clear hgi HCT
                          go_wp2_with fail
                          go_roundw
                          case rel => exact ⟨q + 1, by omega, by go_num, by rw [HC'.out], HBY.out⟩
                          case measure => simp [intOf] <;> omega
                      · have HC' : Hid ((G.take (q + 1)).countP (hitB u num) = c0) := by
                          show _ = _
                          rw [HCT.out, if_neg (by simp [hitB]; omega), Nat.add_zero]
                        clear hgi HCT
                        go_wp2_with fail
                        go_roundw
                        case rel => exact ⟨q + 1, by omega, by go_num, by rw [HC'.out], HBY.out⟩
                        case measure => simp [intOf] <;> omega
                    · have d1 : (gi == u) = false := by simpa using hgi
                      have HC' : Hid ((G.take (q + 1)).countP (hitB u num) = c0) := by
                        show _ = _
                        rw [HCT.out, if_neg (by simp [hitB]; omega), Nat.add_zero]
                      clear hgi HCT
                      go_wp2_with fail
                      go_roundw
                      case rel => exact ⟨q + 1, by omega, by go_num, by rw [HC'.out], HBY.out⟩
                      case measure => simp [intOf] <;> omega
              · obtain rfl : q = n4 := by omega
                rw [List.take_of_length_le (by rw [HL4.out]; exact Nat.le_refl _)]
                have HBZ := Lib.hid (below_tr HB5.out HB6.out)
                obtain ⟨C, hC⟩ : ∃ C, C = G.countP (hitB u num) := ⟨_, rfl⟩
                obtain ⟨b1, hb1⟩ : ∃ b1, b1 = rs.any (thereB u num) := ⟨_, rfl⟩
                obtain ⟨b2, hb2⟩ : ∃ b2, b2 = rs.any (lessB u num) := ⟨_, rfl⟩
                obtain ⟨b3, hb3⟩ : ∃ b3, b3 = rs.any (moreB u num) := ⟨_, rfl⟩
                have hm1 := HML.out.1; have hm2 := HML.out.2; have hm3 := HM.out
                rw [← hC] at hm1 hm2 ⊢
                rw [← hb1, ← hb2, ← hb3] at hm3
                rw [← hb1, ← hb2, ← hb3]
                clear hC hb1 hb2 hb3 hb HML HM
                have hC01 : (M = true ∧ C = 1) ∨ (M = false ∧ C = 0) := by
                  cases M
                  · right; simp at hm2; exact ⟨rfl, by omega⟩
                  · left; simp at hm2; exact ⟨rfl, by omega⟩
                rcases hC01 with ⟨rfl, rfl⟩ | ⟨rfl, rfl⟩
                all_goals
                  clear hm1 hm2
                  cases b1 <;> cases b2 <;> cases b3 <;> first
                    | (exfalso; simp at hm3; done)
                    | (clear hm3
                       go_wp2_with fail
                       refine (wakes_ok _).mono ?_
                       rintro e w9 ⟨rfl, hb9⟩
                       go_wp2_with fail
                       go_ret
                       exact ⟨rfl, below_tr HBZ.out hb9⟩)
      · go_wp2_with fail
        rw [htw] at HTC
        refine HTC.out.mono ?_
        rintro e w2 ⟨rfl, hb2⟩
        have HB2 := Lib.hid (below_tr HB1.out hb2)
        clear hb2 HTC
        go_wp2_with fail
        refine (wakes_ok _).mono ?_
        rintro e w9 ⟨rfl, hb9⟩
        go_wp2_with fail
        go_ret
        exact ⟨rfl, below_tr HB2.out hb9⟩
    · have d1 : (E == 0) = false := by rw [beq_eq_false_iff_ne]; exact he
      have d2 : (E != 0) = true := by rw [bne_iff_ne]; exact he
      go_enter Try.func13, Try.ntmps13
      go_wp2_with fail
      refine HFC.out.mono ?_
      rintro e w1 ⟨rfl, hb1⟩
      have HB1 := Lib.hid (below_tr ((Below.refl _ w).alloc (Nat.le_refl _) (.cells #[.slice A n c] 22)) hb1)
      clear hb1 HFC
      go_wp2_with fail
      refine (wakes_ok _).mono ?_
      rintro e w9 ⟨rfl, hb9⟩
      go_wp2_with fail
      go_ret
      exact ⟨rfl, below_tr HB1.out hb9⟩
end Go.Proofs.Ytkgoojilmnkgiaa
