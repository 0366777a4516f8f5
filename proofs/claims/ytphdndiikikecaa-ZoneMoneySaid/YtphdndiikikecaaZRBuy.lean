/- THE CONTRACT of the reference's Buy. -/
import Derived.Test.YtphdndiikikecaaZProve
namespace Go.Proofs.Ytphdndiikikecaa
open Go.RowKit Go.Proofs
attribute [local go_sem ↓] Go.wp_at_zero Go.wp_at_succ

theorem bit_at (b k : Nat) : (((b : Int) + 1) / (2 : Int) ^ k).tmod 2 = (((b + 1) / 2 ^ k % 2 : Nat) : Int) := by
  have h1 : ((b : Int) + 1) / (2 : Int) ^ k = (((b + 1) / 2 ^ k : Nat) : Int) := by
    rw [show ((b : Int) + 1) = ((b + 1 : Nat) : Int) by omega, show (2 : Int) ^ k = ((2 ^ k : Nat) : Int) by simp]
    exact (Int.natCast_ediv _ _).symm
  rw [h1]
  generalize (b + 1) / 2 ^ k = t
  rw [Int.tmod_eq_emod_of_nonneg (by omega)]
  omega
theorem asc_bd {n : Nat} {l : List Int} (h : AscB 0 n l) : ∀ x ∈ l, 0 ≤ x ∧ x < (n : Int) := fun x hx => by have := h.2 x hx; omega

/-- how the reference's Buy ends -/
def RBuyP (G P : List Int) (pn N : Nat) (B : Int) (w : World) (e : Ending) (w' : World) : Prop := ∃ A n c, e = .returned (.slice A n c) ∧ n ≤ pn ∧ Rd enc1 1 w' A n (refTo G P pn B (N - 1)) ∧ Below w.heap.size w w'
theorem RBuyP.mk {G P : List Int} {pn N : Nat} {B : Int} {w w' : World} {A : Option Addr} {n c : Nat} (hn : n ≤ pn) (hr : Rd enc1 1 w' A n (refTo G P pn B (N - 1))) (hb : Below w.heap.size w w') : RBuyP G P pn N B w (.returned (.slice A n c)) w' := ⟨A, n, c, rfl, hn, hr, hb⟩
def betterT (x1 x2 y1 y2 B z : Int) : Bool := decide (y1 ≤ B) && (decide (0 < x1 - x2) || (decide (x1 - x2 = 0) && decide (y1 - y2 < 0)) || (decide (x1 - x2 = 0) && decide (y1 - y2 = 0) && decide (z < 0)))

set_option maxRecDepth 100000 in
set_option maxHeartbeats 2000000 in
theorem rBuy_c {v : Vly} {B : Int} {PA SA : Option Addr} {pn pc sn sc : Nat} {w : World} (hok : VOk v) (h : RdV w PA pn SA sn v) (hB : 0 ≤ B ∧ B ≤ 100000000) (hp7 : pn ≤ 7) :
    Calls Try.prog 36 #[.agg #[.slice PA pn pc, .slice SA sn sc, .int .i64 v.s0, .int .i64 v.s1, .int .i64 v.s2], .int .i64 B] w (RBuyP (gainsL v) (pricesL v) pn (2 ^ pn) B w) := by
  obtain ⟨i0, hi0, hz0, hz1, hz2⟩ := info_parts infoZ
  have HI := Lib.hid hi0; have HZ0 := Lib.hid hz0; have HZ1 := Lib.hid hz1; have HZ2 := Lib.hid hz2
  clear hi0 hz0 hz1 hz2
  have HSW := Lib.hid (SW.new w (vA PA pn pc SA sn sc v))
  have HV := Lib.hid h
  obtain ⟨N, hN⟩ : ∃ N : Nat, N = 2 ^ pn := ⟨_, rfl⟩
  have hN1 : 1 ≤ N := by rw [hN]; exact Nat.two_pow_pos pn
  have hN2 : N ≤ 128 := by rw [hN]; exact Nat.pow_le_pow_right (by omega) hp7
  have HWN := Lib.hid (show wrap64 ((2 : Int) ^ pn) = (N : Int) by
    have h1 : ((2 : Int) ^ pn) = (N : Int) := by rw [hN]; simp
    rw [h1]
    unfold wrap64
    omega)
  have HGN := Lib.hid (fun W (A : Option Addr) (n c : Nat) (l : List Int) (hW : RdV W PA pn SA sn v) (hA : Rd enc1 1 W A n l) (hn : n ≤ 1000) (hl : ∀ x ∈ l, 0 ≤ x ∧ x < (pn : Int)) => Gains_c (pc := pc) (sc := sc) (c := c) hok hW hA hn hl)
  have HCS := Lib.hid (fun W (A : Option Addr) (n c : Nat) (l : List Int) (hW : RdV W PA pn SA sn v) (hA : Rd enc1 1 W A n l) (hn : n ≤ 1000) (hl : ∀ x ∈ l, 0 ≤ x ∧ x < (pn : Int)) => Costs_c (pc := pc) (sc := sc) (c := c) hok hW hA hn hl)
  obtain ⟨G, hG⟩ : ∃ G, G = gainsL v := ⟨_, rfl⟩
  obtain ⟨P, hP⟩ : ∃ P, P = pricesL v := ⟨_, rfl⟩
  have HGB := Lib.hid (show ∀ i, 0 ≤ gAt G i ∧ gAt G i ≤ 10000000 by rw [hG]; exact gAt_bd (by omega) (gainsL_bd hok))
  have HPB := Lib.hid (show ∀ i, 0 ≤ gAt P i ∧ gAt P i ≤ 100000 by rw [hP]; exact gAt_bd (by omega) (pricesL_bd hok))
  rw [← hG] at HGN ⊢
  rw [← hP] at HCS ⊢
  rw [← hN]
  have HRS := Lib.hid (fun b => refTo_spec (gs := G) (ps := P) (n := pn) hB.1 b)
  have HN := Lib.hid hN
  clear h hok hG hP hN
  go_enter Try.func36, Try.ntmps36
  go_wp2_with fail
  go_loopw [5, 6, 7, 8, 9, 10] (fun bs bi _ _ _ _ wr => ∃ (b : Nat) (A : Option Addr) (n c : Nat), b ≤ N - 1 ∧ bi = .int .i64 ((b : Int) + 1) ∧ bs = .slice A n c ∧ Rd enc1 1 wr A n (refTo G P pn B b) ∧ SW w w.heap.size (vA PA pn pc SA sn sc v) wr) (fun _ bi _ _ _ _ _ => N - (intOf bi).toNat)
  case atStart => exact ⟨0, none, 0, 0, Nat.zero_le _, rfl, rfl, Rd.nil _ _ _ _, HSW.out⟩
  case round =>
    obtain ⟨b, A, n, c, hb, rfl, rfl, hrd, hsw⟩ := hrel
    have HS1 := Lib.hid hsw; have HR1 := Lib.hid hrd
    obtain ⟨c0, c1, c2, c3, c4⟩ := hsw.cells
    have hrs := HRS.out b
    have hnl := hrd.len
    have hnp : n ≤ pn := by have := hrs.1.2; omega
    by_cases hlt : b + 1 < N
    · have hd : decide ((b : Int) + 1 < (N : Int)) = true := decide_eq_true (by omega)
      have hlt' : (b : Int) + 1 < (N : Int) := by omega
      obtain ⟨wo, rfl⟩ : ∃ wo : World, wo = wr := ⟨_, rfl⟩
      have hwN := HWN.out
      clear hsw hrd hrs hnl
      go_wp2_with fail
      clear hwN
      go_loopw [7, 8] (fun o i wr => ∃ k : Nat, k ≤ pn ∧ i = .int .i64 k ∧ wr.ownsRow wo.heap.size 3 1 o (bitsL (b + 1) k).length ((bitsL (b + 1) k).flatMap enc1) ∧ Below wo.heap.size wo wr) (fun _ i _ => pn - (intOf i).toNat)
      case atStart => exact ⟨0, Nat.zero_le _, rfl, World.ownsRow_nil _ _ _ _, Below.refl _ _⟩
      case round =>
        obtain ⟨k, hk, rfl, hown, hbl⟩ := hrel
        have HS2 := Lib.hid (HS1.out.below hbl)
        have HO := Lib.hid hown; have HBr := Lib.hid hbl
        clear c0 c1 c2 c3 c4
        obtain ⟨c0, c1, c2, c3, c4⟩ := HS2.out.cells
        by_cases hlt2 : k < pn
        · have hkn : (k : Int) < (pn : Int) := by omega
          have hk0 : (0 : Int) ≤ (k : Int) := by omega
          have hll := bitsL_len (b + 1) k
          have hsucc : bitsL (b + 1) (k + 1) = bitsL (b + 1) k ++ (if (b + 1) / 2 ^ k % 2 = 1 then [(k : Int)] else []) := rfl
          have hbit := bit_at b k
          have hksz := HBr.out.size
          by_cases hb1 : (b + 1) / 2 ^ k % 2 = 1
          · rw [hb1] at hbit
            rw [if_pos hb1] at hsucc
            have hbt : ((((b : Int) + 1) / (2 : Int) ^ k).tmod 2 == 1) = true := by rw [hbit]; rfl
            have HSC := Lib.hid hsucc
            clear hsucc hbit hown hbl hb1
            go_wp2_with (at_builtin; go_must (refine wpList_append_own_at _ rfl _ _ 39 rfl wo.heap.size 3 i0 _ 1 8 Try.underlying39 HI.out HZ0.out HZ1.out HZ2.out rfl (by decide) _ _ _ rfl (HO.out.alloc _) ⟨wr.heap.size, 0, none⟩ 1 1 [.int .i64 (k : Int)] rfl rfl (fun j u hj => World.news_of_block (cs := #[.int .i64 (k : Int)]) (t := 3) (fr := (0, 0)) (heap_alloc_new wr _) j u hj) (by simp [Value.oneCell']) (by unfold maxLen; omega) (by omega) (by simp; omega) ?_; intro v' w1 hown' hgrow _ _))
            have H1 : Hid (w1.ownsRow wo.heap.size 3 1 v' (bitsL (b + 1) (k + 1)).length ((bitsL (b + 1) (k + 1)).flatMap enc1)) := by
              rw [HSC.out, List.flatMap_append, List.length_append]
              exact hown'
            have H2 := Lib.hid ((HBr.out.alloc HBr.out.size _).grown hgrow (by simp; omega) (fun g hg => (HO.out.lt g hg).1))
            clear hown' hgrow
            go_wp2_with fail
            go_roundw
            case rel => exact ⟨k + 1, by omega, by go_num, H1.out, H2.out⟩
            case measure => simp [intOf] <;> omega
          · have hb0 : (b + 1) / 2 ^ k % 2 = 0 := by omega
            rw [hb0] at hbit
            rw [if_neg hb1, List.append_nil] at hsucc
            have hbt : ((((b : Int) + 1) / (2 : Int) ^ k).tmod 2 == 1) = false := by rw [hbit]; rfl
            have HSC := Lib.hid hsucc
            clear hsucc hbit hown hbl hb1 hb0
            go_wp2_with fail
            go_roundw
            case rel => exact ⟨k + 1, by omega, by go_num, by rw [HSC.out]; exact HO.out, HBr.out⟩
            case measure => simp [intOf] <;> omega
        · obtain rfl : k = pn := by omega
          obtain ⟨A2, C2, rfl, hc2⟩ := own_form hown
          have hrl := Rd.of_own enc1_len hown rfl
          obtain ⟨L, hL⟩ : ∃ L, L = bitsL (b + 1) k := ⟨_, rfl⟩
          have HLA := Lib.hid (show AscB 0 k L by rw [hL]; exact bitsL_asc _ _)
          have hLn : L.length ≤ k := by rw [hL]; exact bitsL_len _ _
          have HLL7 := Lib.hid (show L.length ≤ 7 by omega)
          obtain ⟨Q, hQ⟩ : ∃ Q, Q = refTo G P k B b := ⟨_, rfl⟩
          have HQA := Lib.hid (show AscB 0 k Q by rw [hQ]; exact (HRS.out b).1.1)
          have HQN := Lib.hid (show refTo G P k B (b + 1) = if betterR G P B L Q = true then L else Q by rw [hL, hQ]; rfl)
          obtain ⟨m2, hm2⟩ : ∃ m, m = (bitsL (b + 1) k).length := ⟨_, rfl⟩
          rw [← hm2] at hrl ⊢
          rw [← hL] at hrl hm2
          have hm2k : m2 ≤ k := by omega
          rw [← hQ] at HR1
          have HRL := Lib.hid hrl
          have HRQ := Lib.hid (HR1.out.below hbl)
          obtain ⟨wi', rfl⟩ : ∃ wi' : World, wi' = wr := ⟨_, rfl⟩
          clear hown hrl hL hQ hbl hlt2 HO HBr hm2
          have hqn : n ≤ 1000 := by omega
          have hln : m2 ≤ 1000 := by omega
          have hlq := gL_bd HGB.out L; have hlq2 := gL_bd HGB.out Q; have hlp := gL_bd HPB.out L; have hlp2 := gL_bd HPB.out Q
          have hQn : Q.length ≤ 7 := by have := HR1.out.len; omega
          obtain ⟨x1, hx1⟩ : ∃ x, x = gL G L := ⟨_, rfl⟩
          obtain ⟨x2, hx2⟩ : ∃ x, x = gL G Q := ⟨_, rfl⟩
          obtain ⟨y1, hy1⟩ : ∃ x, x = gL P L := ⟨_, rfl⟩
          obtain ⟨y2, hy2⟩ : ∃ x, x = gL P Q := ⟨_, rfl⟩
          have HBT := Lib.hid (show betterR G P B L Q = betterT x1 x2 y1 y2 B (cmpL L Q) by rw [hx1, hx2, hy1, hy2]; rfl)
          have HGL := Lib.hid (fun W (hW : Below w.heap.size w W) (c : Nat) (hr : Rd enc1 1 W A2 m2 L) => HGN.out W A2 m2 c L (HV.out.below hW) hr hln (asc_bd HLA.out))
          have HGQ := Lib.hid (fun W (hW : Below w.heap.size w W) (c : Nat) (hr : Rd enc1 1 W A n Q) => HGN.out W A n c Q (HV.out.below hW) hr hqn (asc_bd HQA.out))
          have HCL := Lib.hid (fun W (hW : Below w.heap.size w W) (c : Nat) (hr : Rd enc1 1 W A2 m2 L) => HCS.out W A2 m2 c L (HV.out.below hW) hr hln (asc_bd HLA.out))
          have HCQ := Lib.hid (fun W (hW : Below w.heap.size w W) (c : Nat) (hr : Rd enc1 1 W A n Q) => HCS.out W A n c Q (HV.out.below hW) hr hqn (asc_bd HQA.out))
          simp only [← hx1] at HGL
          simp only [← hx2] at HGQ
          simp only [← hy1] at HCL
          simp only [← hy2] at HCQ
          rw [← hx1] at hlq; rw [← hx2] at hlq2; rw [← hy1] at hlp; rw [← hy2] at hlp2
          have hwg : IntKind.i64.wrap (x1 - x2) = x1 - x2 := wi (by omega)
          have hwc : IntKind.i64.wrap (y1 - y2) = y1 - y2 := wi (by omega)
          clear hx1 hx2 hy1 hy2
          have HRW := Lib.hid (fun W (hW : SW wi' w.heap.size (vA PA k pc SA sn sc v) W) => And.intro (HRL.out.below hW.bel) (HRQ.out.below hW.bel))
          have HSR := Lib.hid (SW.refl HS2.out.2)
          go_upto_region 11 with fail
          go_cut [9, 10] (fun a c wx => a = .int .i64 (x1 - x2) ∧ c = .int .i64 (y1 - y2) ∧ SW wi' w.heap.size (vA PA k pc SA sn sc v) wx)
          case first =>
            go_region_held3 (fun w' => w'.cell? ⟨w.heap.size, 0, none⟩ = some (.slice PA k pc) ∧ w'.cell? ⟨w.heap.size, 1, none⟩ = some (.slice SA sn sc) ∧ w'.cell? ⟨w.heap.size, 2, none⟩ = some (.int .i64 v.s0) ∧ w'.cell? ⟨w.heap.size, 3, none⟩ = some (.int .i64 v.s1) ∧ w'.cell? ⟨w.heap.size, 4, none⟩ = some (.int .i64 v.s2))
              (first | exact HSR.out.drew.cells | exact HSR.out.cells | exact hs5.cells | assumption)
              (first
                | (go_at_call 38; (first | with_reducible refine (HGL.out _ (by exact below_tr HS2.out.bel (by first | exact hs5.bel | exact HSR.out.drew.bel)) _ (by exact (HRW.out _ (by first | exact hs5 | exact HSR.out.drew)).1)).mono ?_ | with_reducible refine (HGQ.out _ (by exact below_tr HS2.out.bel (by first | exact hs5.bel | exact HSR.out.drew.bel)) _ (by exact (HRW.out _ (by first | exact hs5 | exact HSR.out.drew)).2)).mono ?_); rintro e w5 ⟨rfl, hb5⟩; (first | replace hs5 := hs5.below hb5 | have hs5 := HSR.out.drew.below hb5))
                | (go_at_call 39; (first | with_reducible refine (HCL.out _ (by exact below_tr HS2.out.bel (by first | exact hs5.bel | exact HSR.out.drew.bel)) _ (by exact (HRW.out _ (by first | exact hs5 | exact HSR.out.drew)).1)).mono ?_ | with_reducible refine (HCQ.out _ (by exact below_tr HS2.out.bel (by first | exact hs5.bel | exact HSR.out.drew.bel)) _ (by exact (HRW.out _ (by first | exact hs5 | exact HSR.out.drew)).2)).mono ?_); rintro e w5 ⟨rfl, hb5⟩; (first | replace hs5 := hs5.below hb5 | have hs5 := HSR.out.drew.below hb5)))
            all_goals
              go_wp2_with fail
              go_meet
              exact ⟨rfl, rfl, hs5⟩
          case rest =>
            obtain ⟨rfl, rfl, hs5⟩ := hcut
            obtain ⟨W5, hW5⟩ : ∃ W5, W5 = wc := ⟨_, rfl⟩
            rw [← hW5] at hs5 ⊢
            have HS5 := Lib.hid hs5
            have HC5 := Lib.hid (HCL.out _ (below_tr HS2.out.bel hs5.bel) C2 (HRW.out _ hs5).1)
            have HS6 := Lib.hid (show SW w w.heap.size (vA PA k pc SA sn sc v) W5 from ⟨below_tr HS2.out.bel hs5.bel, hs5.2⟩)
            have HR5 := Lib.hid (HRW.out _ hs5)
            have HLS := Lib.hid (fun W (hW : Below W5.heap.size W5 W) => Less_c (c := C2) (d := c) (HR5.out.1.below hW) (HR5.out.2.below hW) (by omega) (by omega))
            clear hs5 hW5 c0 c1 c2 c3 c4
            obtain ⟨c0, c1, c2, c3, c4⟩ := HS6.out.cells
            obtain ⟨z, hz⟩ : ∃ z, z = cmpL L Q := ⟨_, rfl⟩
            rw [← hz] at HBT HLS
            clear hz
            obtain ⟨T, hT⟩ : ∃ T, T = betterT x1 x2 y1 y2 B z := ⟨_, rfl⟩
            have HT := Lib.hid hT
            rw [← hT] at HBT
            clear hT
            go_upto_region 12 with fail
            go_cut [80] (fun r wx => r = .bool T ∧ Below W5.heap.size W5 wx)
            case first =>
              by_cases k1 : y1 ≤ B
              · by_cases k2 : 0 < x1 - x2
                · have HBE := Lib.hid (show T = true by rw [HT.out]; unfold betterT; simp only [decide_eq_true k1, decide_eq_true k2, Bool.true_or, Bool.and_true])
                  have d1 : decide (y1 ≤ B) = true := decide_eq_true k1
                  have d2 : decide (0 < x1 - x2) = true := decide_eq_true k2
                  go_wp2_with (go_at_call 39; refine HC5.out.mono ?_; rintro e w6 ⟨rfl, hb6⟩)
                  go_meet
                  exact ⟨by rw [HBE.out]; try rfl, hb6⟩
                · have d1 : decide (y1 ≤ B) = true := decide_eq_true k1
                  have d2 : decide (0 < x1 - x2) = false := decide_eq_false k2
                  have f2 : decide (x2 < x1) = false := decide_eq_false (by omega)
                  by_cases k3 : x1 - x2 = 0
                  · have d3 : decide (x1 - x2 = 0) = true := decide_eq_true k3
                    have e3 : (x1 - x2 == 0) = true := by rw [beq_iff_eq]; exact k3
                    by_cases k4 : y1 - y2 < 0
                    · have d4 : decide (y1 - y2 < 0) = true := decide_eq_true k4
                      have HBE := Lib.hid (show T = true by rw [HT.out]; unfold betterT; rw [d1, d2, d3, d4]; rfl)
                      clear k3
                      go_wp2_with (go_at_call 39; refine HC5.out.mono ?_; rintro e w6 ⟨rfl, hb6⟩)
                      go_meet
                      exact ⟨by rw [HBE.out]; try rfl, hb6⟩
                    · have d4 : decide (y1 - y2 < 0) = false := decide_eq_false k4
                      by_cases k5 : y1 - y2 = 0
                      · have d5 : decide (y1 - y2 = 0) = true := decide_eq_true k5
                        have e5 : (y1 - y2 == 0) = true := by rw [beq_iff_eq]; exact k5
                        have HBE := Lib.hid (show T = decide (z < 0) by rw [HT.out]; unfold betterT; rw [d1, d2, d3, d4, d5]; simp)
                        clear k3 k5
                        go_wp2_with (first
                          | (go_at_call 39; refine HC5.out.mono ?_; rintro e w6 ⟨rfl, hb6⟩)
                          | (go_at_call 70; refine (HLS.out w6 hb6).mono ?_; rintro e w7 ⟨rfl, hb7⟩))
                        go_meet
                        exact ⟨by rw [HBE.out]; try rfl, below_tr hb6 hb7⟩
                      · have d5 : decide (y1 - y2 = 0) = false := decide_eq_false k5
                        have e5 : (y1 - y2 == 0) = false := by rw [beq_eq_false_iff_ne]; exact k5
                        have HBE := Lib.hid (show T = false by rw [HT.out]; unfold betterT; rw [d1, d2, d3, d4, d5]; simp)
                        clear k3 k5
                        go_wp2_with (go_at_call 39; refine HC5.out.mono ?_; rintro e w6 ⟨rfl, hb6⟩)
                        go_meet
                        exact ⟨by rw [HBE.out]; try rfl, hb6⟩
                  · have d3 : decide (x1 - x2 = 0) = false := decide_eq_false k3
                    have e3 : (x1 - x2 == 0) = false := by rw [beq_eq_false_iff_ne]; exact k3
                    have HBE := Lib.hid (show T = false by rw [HT.out]; unfold betterT; rw [d1, d2, d3]; simp)
                    clear k3
                    go_wp2_with (go_at_call 39; refine HC5.out.mono ?_; rintro e w6 ⟨rfl, hb6⟩)
                    go_meet
                    exact ⟨by rw [HBE.out]; try rfl, hb6⟩
              · have d1 : decide (y1 ≤ B) = false := decide_eq_false k1
                have HBE := Lib.hid (show T = false by rw [HT.out]; unfold betterT; rw [d1]; rfl)
                go_wp2_with (go_at_call 39; refine HC5.out.mono ?_; rintro e w6 ⟨rfl, hb6⟩)
                go_meet
                exact ⟨by rw [HBE.out]; try rfl, hb6⟩
            case rest =>
              obtain ⟨rfl, hb6⟩ := hcut
              have HS7 := Lib.hid (HS6.out.below hb6)
              have HR7 := Lib.hid (And.intro (HR5.out.1.below hb6) (HR5.out.2.below hb6))
              clear hb6 c0 c1 c2 c3 c4
              cases hTT : T
              · rw [hTT] at HBT
                have HQE := Lib.hid (show refTo G P k B (b + 1) = Q by rw [HQN.out, HBT.out]; simp)
                clear hTT
                go_wp2_with fail
                go_roundw
                case rel => exact ⟨b + 1, A, n, c, by omega, by go_num, rfl, by rw [HQE.out]; exact HR7.out.2, HS7.out⟩
                case measure => simp [intOf] <;> omega
              · rw [hTT] at HBT
                have HQE := Lib.hid (show refTo G P k B (b + 1) = L by rw [HQN.out, HBT.out]; simp)
                clear hTT
                go_wp2_with fail
                go_roundw
                case rel => exact ⟨b + 1, A2, m2, C2, by omega, by go_num, rfl, by rw [HQE.out]; exact HR7.out.1, HS7.out⟩
                case measure => simp [intOf] <;> omega
    · obtain rfl : b = N - 1 := by omega
      have hd : decide (((N - 1 : Nat) : Int) + 1 < (N : Int)) = false := decide_eq_false (by omega)
      have hge : ¬ (((N - 1 : Nat) : Int) + 1 < (N : Int)) := by omega
      have hwN := HWN.out
      clear hsw hrd hrs hnl
      go_wp2_with fail
      go_ret
      exact RBuyP.mk hnp HR1.out HS1.out.bel
end Go.Proofs.Ytphdndiikikecaa
