/- THE WALK of ZoneBest. -/
import Derived.Test.YtphdndiikikecaaZLawBuys
import Derived.Test.YtphdndiikikecaaZMoneyLaw
namespace Go.Proofs.Ytphdndiikikecaa
open Go.RowKit Go.Proofs
attribute [local go_sem ↓] Go.wp_at_zero Go.wp_at_succ

theorem asc_at {n : Nat} {l : List Int} (h : AscB 0 n l) {i : Nat} {x y : Int} (hx : l[i]? = some x) (hy : l[i + 1]? = some y) : x < y := by
  have hp := List.pairwise_iff_getElem.1 h.1
  have h1 := lt_of_get hx; have h2 := lt_of_get hy
  have := hp i (i + 1) h1 h2 (by omega)
  rw [List.getElem?_eq_getElem h1] at hx; rw [List.getElem?_eq_getElem h2] at hy
  cases hx; cases hy; exact this

theorem bit_n (b k : Nat) : ((b : Int) / (2 : Int) ^ k).tmod 2 = ((b / 2 ^ k % 2 : Nat) : Int) := by
  have h1 : (b : Int) / (2 : Int) ^ k = ((b / 2 ^ k : Nat) : Int) := by
    rw [show (2 : Int) ^ k = ((2 ^ k : Nat) : Int) by simp]
    exact (Int.natCast_ediv _ _).symm
  rw [h1]
  generalize b / 2 ^ k = t
  rw [Int.tmod_eq_emod_of_nonneg (by omega)]
  omega

set_option maxRecDepth 100000 in
set_option maxHeartbeats 4000000 in
theorem ZoneBest_w {v : Vly} {c b r t : Int} {PA SA : Option Addr} {pn pc sn sc : Nat} {w : World} (h : RdV w PA pn SA sn v) (hpn : pn ≤ maxLen) (hsn : sn ≤ maxLen) (hc : 0 ≤ c ∧ c ≤ 4294967295) (hb : 0 ≤ b ∧ b ≤ 4294967295) (hr : 0 ≤ r ∧ r ≤ 4294967295) (ht : 0 ≤ t ∧ t ≤ 4294967295) :
    Calls Try.prog 9 #[.agg #[.slice PA pn pc, .slice SA sn sc, .int .i64 v.s0, .int .i64 v.s1, .int .i64 v.s2], .int .u32 c, .int .u32 b, .int .u32 r, .int .u32 t] w fun e w' => e = .returned (.bool true) ∧ Below w.heap.size w w' := by
  have hlp := h.pars.len; have hls := h.sls.len
  obtain ⟨i0, hi0, hz0, hz1, hz2⟩ := info_parts infoZ
  have HI := Lib.hid hi0; have HZ0 := Lib.hid hz0; have HZ1 := Lib.hid hz1; have HZ2 := Lib.hid hz2
  clear hi0 hz0 hz1 hz2
  have HS0 := Lib.hid (SW.new w (vA PA pn pc SA sn sc v))
  have HRY := Lib.hid (ready_c (pc := pc) (sc := sc) (h.below HS0.out.bel) hpn hsn)
  have HV := Lib.hid h
  cases hrd : readyB v
  · rw [hrd] at HRY
    clear h hrd
    go_enter Try.func9, Try.ntmps9
    go_wp2_with fail
    refine HRY.out.mono ?_
    rintro e w1 ⟨rfl, hb⟩
    have HB1 := Lib.hid (below_tr HS0.out.bel hb)
    clear hb
    go_wp2_with (go_at_call 18; refine (wakes_ok _).mono ?_; rintro e w2 ⟨rfl, hb2⟩)
    go_ret
    exact ⟨rfl, below_tr HB1.out hb2⟩
  · rw [hrd] at HRY
    obtain ⟨hth, hok⟩ := readyB_iff.1 hrd
    have htt := thinB_iff.1 hth
    have hpn12 : pn ≤ 12 := by have := hok.pn; omega
    have hsn10 : sn ≤ 10 := by have := hok.sn; omega
    have HWY := Lib.hid (fun (s : Sli) (hs : s ∈ v.sls) => show s.way.length ≤ 1000 from by have := htt.1 s hs; omega)
    have HVW := Lib.hid (fun W (hW : Below w.heap.size w W) => Valley_c (pc := pc) (sc := sc) (HV.out.below hW) (by omega) (by omega) HWY.out)
    obtain ⟨bn, rfl⟩ : ∃ bn : Nat, b = (bn : Int) := ⟨b.toNat, by omega⟩
    have hF0 := modc hc
    have hR0 := modc hr
    obtain ⟨F, hF⟩ : ∃ F, F = c.tmod 100000001 := ⟨_, rfl⟩
    obtain ⟨R, hR⟩ : ∃ R, R = r.tmod 100000001 := ⟨_, rfl⟩
    rw [← hF] at hF0
    rw [← hR] at hR0
    have hfu : inB F 0 100000000 = true := inB_iff.2 hF0
    have hru : inB R 0 100000000 = true := inB_iff.2 hR0
    have hwc : IntKind.i64.wrap c = c := wi (by omega)
    have hwr : IntKind.i64.wrap r = r := wi (by omega)
    have hwt : IntKind.i64.wrap t = t := wi (by omega)
    have hwF : IntKind.i64.wrap F = F := wi (by omega)
    have hwR : IntKind.i64.wrap R = R := wi (by omega)
    have hFm : c.tmod 100000001 = F := hF.symm
    have hRm : r.tmod 100000001 = R := hR.symm
    clear hF hR
    have hspec := bestB_spec (gs := gainsL v) (ps := pricesL v) (B := F) (fun i => (gAt_bd (by omega) (pricesL_bd hok) i).1) hF0.1
    rw [gainsL_len, hlp] at hspec
    have HBY := Lib.hid (fun (v' : Vly) (A3 A4 : Option Addr) (p1 p2 : Nat) (W : World) (hal2 : VAlike v v') (hv : RdV W A3 pn A4 sn v') => Buy_okA (pc := p1) (sc := p2) hok hal2 hv hfu)
    have HPA := Lib.hid (fun (v'' : Vly) (A3 A4 : Option Addr) (p1 p2 : Nat) (W : World) (q : Int) (hal2 : VAlike v v'') (hv : RdV W A3 pn A4 sn v'') => Prove_A (pc := p1) (sc := p2) (B := F) (r := R) (t := q) hok hal2 hv hfu hru)
    have HBN := Lib.hid (fun W (hW : Below w.heap.size w W) => Bound_c (pc := pc) (sc := sc) hok (HV.out.below hW) hF0 hR0)
    have HGN := Lib.hid (fun W (A : Option Addr) (n c : Nat) (l : List Int) (hW : Below w.heap.size w W) (hA : Rd enc1 1 W A n l) (hn : n ≤ 1000) (hl : ∀ x ∈ l, 0 ≤ x ∧ x < (pn : Int)) => Gains_c (pc := pc) (sc := sc) (c := c) hok (HV.out.below hW) hA hn hl)
    have HCS := Lib.hid (fun W (A : Option Addr) (n c : Nat) (l : List Int) (hW : Below w.heap.size w W) (hA : Rd enc1 1 W A n l) (hn : n ≤ 1000) (hl : ∀ x ∈ l, 0 ≤ x ∧ x < (pn : Int)) => Costs_c (pc := pc) (sc := sc) (c := c) hok (HV.out.below hW) hA hn hl)
    obtain ⟨X, hX⟩ : ∃ X, X = bestB (gainsL v) (pricesL v) F := ⟨_, rfl⟩
    rw [← hX] at hspec
    simp only [← hX] at HBY
    obtain ⟨G, hG⟩ : ∃ G, G = gainsL v := ⟨_, rfl⟩
    obtain ⟨P, hP⟩ : ∃ P, P = pricesL v := ⟨_, rfl⟩
    have HGB := Lib.hid (show ∀ i, 0 ≤ gAt G i ∧ gAt G i ≤ 10000000 by rw [hG]; exact gAt_bd (by omega) (gainsL_bd hok))
    have HPB := Lib.hid (show ∀ i, 0 ≤ gAt P i ∧ gAt P i ≤ 100000 by rw [hP]; exact gAt_bd (by omega) (pricesL_bd hok))
    rw [← hG, ← hP] at hspec
    rw [← hG] at HGN
    rw [← hP] at HCS
    rw [← hG, ← hP] at HPA HBN
    have hgbd : X.gain ≤ boundL G P pn F R := by
      rw [hspec.is_gain]
      exact bound_ge hR0.1 hspec.asc hspec.cost
    obtain ⟨bd, hbd⟩ : ∃ bd, bd = boundL G P pn F R := ⟨_, rfl⟩
    rw [← hbd] at hgbd
    simp only [← hbd] at HPA HBN
    have HSP := Lib.hid hspec
    obtain ⟨Q, hQ⟩ : ∃ Q, Q = X.set := ⟨_, rfl⟩
    obtain ⟨g, hg⟩ : ∃ g, g = X.gain := ⟨_, rfl⟩
    have HQA := Lib.hid (show AscB 0 pn Q by rw [hQ]; exact hspec.asc)
    have HQG := Lib.hid (show gL G Q = g by rw [hQ, hg]; exact hspec.is_gain.symm)
    have HQC := Lib.hid (show gL P Q ≤ F by rw [hQ]; exact hspec.cost)
    have HBE := Lib.hid (fun (e : List Int) (he : AscB 0 pn e) (hce : gL P e ≤ F) => show gL G e ≤ g ∧ (gL G e = g → gL P Q ≤ gL P e) from by
      have h1 := hspec.best e he hce
      have h2 : X = bst G P X.set := hspec.is
      rw [h2] at h1
      unfold geB bst at h1
      simp only at h1
      have h3 : X.gain = gL G X.set := hspec.is_gain
      rw [hQ, hg, h3]
      omega)
    simp only [← hQ, ← hg] at HBY
    rw [← hg] at hgbd
    clear h hrd hok hth htt hspec hX hG hP hbd hQ hg hfu hru hlp hls
    go_enter Try.func9, Try.ntmps9
    go_wp2_with fail
    refine HRY.out.mono ?_
    rintro e w1 ⟨rfl, hb⟩
    have HS1 := Lib.hid (HS0.out.below hb)
    obtain ⟨c0, c1, c2, c3, c4⟩ := HS1.out.cells
    have HVL := Lib.hid (HVW.out _ HS1.out.bel)
    clear hb HRY HS0
    go_wp2_with fail
    refine HVL.out.mono ?_
    rintro e w3 ⟨A1, d1, A2, d2, v', rfl, hv', hal, hb⟩
    have HS3 := Lib.hid (HS1.out.below hb)
    have HBU := Lib.hid (HBY.out v' A1 A2 d1 d2 w3 hal hv')
    clear c0 c1 c2 c3 c4 hb hal hv' HVL HS1 HBY
    go_wp2_with fail
    refine HBU.out.mono ?_
    rintro e w4 ⟨A5, n5, c5, rfl, hn5, hr5, hb⟩
    have HS4 := Lib.hid (HS3.out.below hb)
    have HR4 := Lib.hid hr5
    have HQL := Lib.hid hr5.len
    clear hb hr5 HBU HS3
    obtain ⟨c0, c1, c2, c3, c4⟩ := HS4.out.cells
    go_wp2_with fail
    go_loopw [15] (fun i wr => ∃ k : Nat, k ≤ n5 ∧ i = .int .i64 k ∧ Below w4.heap.size w4 wr) (fun i _ => n5 - (intOf i).toNat)
    case atStart => exact ⟨0, Nat.zero_le _, rfl, Below.refl _ _⟩
    case round =>
      obtain ⟨k, hk, rfl, hb⟩ := hrel
      have HS5 := Lib.hid (HS4.out.below hb)
      have HBr := Lib.hid hb
      clear c0 c1 c2 c3 c4
      obtain ⟨c0, c1, c2, c3, c4⟩ := HS5.out.cells
      by_cases hlt : k < n5
      · obtain ⟨b1, o1, x, hA1, hl1, hx, x0⟩ := (HR4.out.below hb).at1 hlt
        subst hA1
        have hxb := asc_bd HQA.out x (List.mem_of_getElem? hx)
        have n1 : decide (x < 0) = false := decide_eq_false (by omega)
        have n2 : decide ((pn : Int) ≤ x) = false := decide_eq_false (by omega)
        have hkn : (k : Int) < (n5 : Int) := by omega
        have hk0 : (0 : Int) ≤ (k : Int) := by omega
        rcases Nat.eq_zero_or_pos k with hkz | hkp
        · subst hkz
          rw [Nat.add_zero] at x0
          clear hb hx
          go_wp2_with fail
          go_quiet (fail)
          go_wp2_with fail
          go_roundw
          case rel => exact ⟨1, by omega, by go_num, below_drewN HBr.out _⟩
          case measure => simp [intOf] <;> omega
        · obtain ⟨k', hk'⟩ : ∃ k', k = k' + 1 := ⟨k - 1, by omega⟩
          obtain ⟨b2, o2, y, hA2, hl2, hy, y0⟩ := (HR4.out.below hb).at1 (show k' < n5 by omega)
          cases hA2
          have hyx := asc_at HQA.out hy (by rw [← hk']; exact hx)
          have n3 : decide ((0 : Int) < (k : Int)) = true := decide_eq_true (by omega)
          have n3' : decide (0 < k) = true := decide_eq_true hkp
          have n4 : decide (x ≤ y) = false := decide_eq_false (by omega)
          have hkt : ((k : Int) - 1).toNat = k' := by omega
          have hwk : IntKind.i64.wrap ((k : Int) - 1) = (k : Int) - 1 := wi (by omega)
          have hk1 : (0 : Int) ≤ (k : Int) - 1 := by omega
          have hk2 : (k : Int) - 1 < (n5 : Int) := by omega
          clear hb hx hy hk'
          go_wp2_with fail
          go_quiet (fail)
          go_wp2_with fail
          go_roundw
          case rel => exact ⟨k + 1, by omega, by go_num, below_drewN HBr.out _⟩
          case measure => simp [intOf] <;> omega
      · obtain rfl : k = n5 := by omega
        clear hb
        have HR5 := Lib.hid (HR4.out.below HBr.out)
        obtain ⟨W5, hW5⟩ : ∃ W5, W5 = wr := ⟨_, rfl⟩
        rw [← hW5] at HS5 HR5 c0 c1 c2 c3 c4 ⊢
        clear hW5 HBr HR4 HS4
        go_wp2_with fail
        go_loopw [16, 17] (fun o i wr => ∃ q : Nat, q ≤ pn ∧ i = .int .i64 q ∧ wr.ownsRow W5.heap.size 3 1 o (bitsL bn q).length ((bitsL bn q).flatMap enc1) ∧ Below W5.heap.size W5 wr) (fun _ i _ => pn - (intOf i).toNat)
        case atStart => exact ⟨0, Nat.zero_le _, rfl, World.ownsRow_nil _ _ _ _, Below.refl _ _⟩
        case round =>
          obtain ⟨q, hq, rfl, hown, hbl⟩ := hrel
          have HS6 := Lib.hid (HS5.out.below hbl)
          have HO := Lib.hid hown; have HBr := Lib.hid hbl
          clear c0 c1 c2 c3 c4
          obtain ⟨c0, c1, c2, c3, c4⟩ := HS6.out.cells
          by_cases hlt2 : q < pn
          · have hqn : (q : Int) < (pn : Int) := by omega
            have hq0 : (0 : Int) ≤ (q : Int) := by omega
            have hll := bitsL_len bn q
            have hsucc : bitsL bn (q + 1) = bitsL bn q ++ (if bn / 2 ^ q % 2 = 1 then [(q : Int)] else []) := rfl
            have hbit := bit_n bn q
            have hksz := HBr.out.size
            by_cases hb1 : bn / 2 ^ q % 2 = 1
            · rw [hb1] at hbit
              rw [if_pos hb1] at hsucc
              have hbt : (((bn : Int) / (2 : Int) ^ q).tmod 2 == 1) = true := by rw [hbit]; rfl
              have HSC := Lib.hid hsucc
              clear hsucc hbit hown hbl hb1
              go_wp2_with (at_builtin; go_must (refine wpList_append_own_at _ rfl _ _ 39 rfl W5.heap.size 3 i0 _ 1 8 Try.underlying39 HI.out HZ0.out HZ1.out HZ2.out rfl (by decide) _ _ _ rfl (HO.out.alloc _) ⟨wr.heap.size, 0, none⟩ 1 1 [.int .i64 (q : Int)] rfl rfl (fun j u hj => World.news_of_block (cs := #[.int .i64 (q : Int)]) (t := 3) (fr := (0, 0)) (heap_alloc_new wr _) j u hj) (by simp [Value.oneCell']) (by unfold maxLen; omega) (by omega) (by simp; omega) ?_; intro v' w1 hown' hgrow _ _))
              have H1 : Hid (w1.ownsRow W5.heap.size 3 1 v' (bitsL bn (q + 1)).length ((bitsL bn (q + 1)).flatMap enc1)) := by
                rw [HSC.out, List.flatMap_append, List.length_append]
                exact hown'
              have H2 := Lib.hid ((HBr.out.alloc HBr.out.size _).grown hgrow (by simp; omega) (fun g hg => (HO.out.lt g hg).1))
              clear hown' hgrow
              go_wp2_with fail
              go_roundw
              case rel => exact ⟨q + 1, by omega, by go_num, H1.out, H2.out⟩
              case measure => simp [intOf] <;> omega
            · have hb0 : bn / 2 ^ q % 2 = 0 := by omega
              rw [hb0] at hbit
              rw [if_neg hb1, List.append_nil] at hsucc
              have hbt : (((bn : Int) / (2 : Int) ^ q).tmod 2 == 1) = false := by rw [hbit]; rfl
              have HSC := Lib.hid hsucc
              clear hsucc hbit hown hbl hb1 hb0
              go_wp2_with fail
              go_roundw
              case rel => exact ⟨q + 1, by omega, by go_num, by rw [HSC.out]; exact HO.out, HBr.out⟩
              case measure => simp [intOf] <;> omega
          · obtain rfl : q = pn := by omega
            obtain ⟨A6, C6, rfl, hc6⟩ := own_form hown
            have hrl := Rd.of_own enc1_len hown rfl
            obtain ⟨L, hL⟩ : ∃ L, L = bitsL bn q := ⟨_, rfl⟩
            have HLA := Lib.hid (show AscB 0 q L by rw [hL]; exact bitsL_asc _ _)
            have hLn : L.length ≤ q := by rw [hL]; exact bitsL_len _ _
            obtain ⟨m6, hm6⟩ : ∃ m, m = (bitsL bn q).length := ⟨_, rfl⟩
            rw [← hm6] at hrl ⊢
            rw [← hL] at hrl hm6
            have hm6k : m6 ≤ 1000 := by omega
            have hn5k : k ≤ 1000 := by omega
            have HRL := Lib.hid hrl
            have HRQ := Lib.hid (HR5.out.below hbl)
            obtain ⟨W6, hW6⟩ : ∃ W6, W6 = wr := ⟨_, rfl⟩
            rw [← hW6] at HRL HRQ HS6 c0 c1 c2 c3 c4 ⊢
            have HBS := Lib.hid (fun hce => HBE.out L HLA.out hce)
            have hlg := gL_bd HGB.out L; have hlp := gL_bd HPB.out L
            obtain ⟨x1, hx1⟩ : ∃ x, x = gL G L := ⟨_, rfl⟩
            obtain ⟨y1, hy1⟩ : ∃ x, x = gL P L := ⟨_, rfl⟩
            obtain ⟨y2, hy2⟩ : ∃ x, x = gL P Q := ⟨_, rfl⟩
            have HGL := Lib.hid (fun W (hW : Below w.heap.size w W) (c : Nat) (hr : Rd enc1 1 W A6 m6 L) => HGN.out W A6 m6 c L hW hr hm6k (asc_bd HLA.out))
            have HGQ := Lib.hid (fun W (hW : Below w.heap.size w W) (A : Option Addr) (c : Nat) (hr : Rd enc1 1 W A k Q) => HGN.out W A k c Q hW hr hn5k (asc_bd HQA.out))
            have HCL := Lib.hid (fun W (hW : Below w.heap.size w W) (c : Nat) (hr : Rd enc1 1 W A6 m6 L) => HCS.out W A6 m6 c L hW hr hm6k (asc_bd HLA.out))
            have HCQ := Lib.hid (fun W (hW : Below w.heap.size w W) (A : Option Addr) (c : Nat) (hr : Rd enc1 1 W A k Q) => HCS.out W A k c Q hW hr hn5k (asc_bd HQA.out))
            simp only [← hx1] at HGL
            simp only [HQG.out] at HGQ
            simp only [← hy1] at HCL
            simp only [← hy2] at HCQ
            have hyc : y2 ≤ F := by rw [hy2]; exact HQC.out
            have hbs : y1 ≤ F → x1 ≤ g ∧ (x1 = g → y2 ≤ y1) := by rw [hx1, hy1, hy2]; exact HBS.out
            rw [← hx1] at hlg; rw [← hy1] at hlp
            clear hown hrl hL hbl hlt2 HO HBr hm6 hx1 hy1 hy2 hW6
            have HSR := Lib.hid (SW.refl HS6.out.2)
            go_upto_region 18 with fail
            go_cut [18, 19] (fun a c wx => a = .int .i64 y1 ∧ c = .int .i64 x1 ∧ SW W6 w.heap.size (vA PA q pc SA sn sc v) wx)
            case first =>
              go_region_held3 (fun w' => w'.cell? ⟨w.heap.size, 0, none⟩ = some (.slice PA q pc) ∧ w'.cell? ⟨w.heap.size, 1, none⟩ = some (.slice SA sn sc) ∧ w'.cell? ⟨w.heap.size, 2, none⟩ = some (.int .i64 v.s0) ∧ w'.cell? ⟨w.heap.size, 3, none⟩ = some (.int .i64 v.s1) ∧ w'.cell? ⟨w.heap.size, 4, none⟩ = some (.int .i64 v.s2))
                (first | exact HSR.out.drew.cells | exact HSR.out.cells | exact hs5.cells | assumption)
                (first
                  | (go_at_call 38; with_reducible refine (HGL.out _ (by exact below_tr HS6.out.bel (by first | exact hs5.bel | exact HSR.out.drew.bel)) _ (by exact HRL.out.below (by first | exact hs5.bel | exact HSR.out.drew.bel))).mono ?_; rintro e w5 ⟨rfl, hb5⟩; (first | replace hs5 := hs5.below hb5 | have hs5 := HSR.out.drew.below hb5))
                  | (go_at_call 39; with_reducible refine (HCL.out _ (by exact below_tr HS6.out.bel (by first | exact hs5.bel | exact HSR.out.drew.bel)) _ (by exact HRL.out.below (by first | exact hs5.bel | exact HSR.out.drew.bel))).mono ?_; rintro e w5 ⟨rfl, hb5⟩; (first | replace hs5 := hs5.below hb5 | have hs5 := HSR.out.drew.below hb5)))
              all_goals
                go_wp2_with fail
                go_meet
                exact ⟨rfl, rfl, hs5⟩
            case rest =>
              obtain ⟨rfl, rfl, hs5⟩ := hcut
              obtain ⟨W7, hW7⟩ : ∃ W7, W7 = wc := ⟨_, rfl⟩
              rw [← hW7] at hs5 ⊢
              have HS7 := Lib.hid (show SW w w.heap.size (vA PA q pc SA sn sc v) W7 from ⟨below_tr HS6.out.bel hs5.bel, hs5.2⟩)
              have HR7 := Lib.hid (HRQ.out.below hs5.bel)
              have HGC := Lib.hid (HGQ.out _ HS7.out.bel _ c5 HR7.out)
              clear hs5 hW7 c0 c1 c2 c3 c4 HS6 HRQ HRL HSR
              obtain ⟨c0, c1, c2, c3, c4⟩ := HS7.out.cells
              have k0 : decide (F < y2) = false := decide_eq_false (by omega)
              have k0' : ¬ F < y2 := by omega
              go_upto_region 19 with fail
              go_cut [130] (fun z wx => z = .bool false ∧ SW W7 w.heap.size (vA PA q pc SA sn sc v) wx)
              case first =>
                by_cases k1 : y1 ≤ F
                · have d1 : decide (y1 ≤ F) = true := decide_eq_true k1
                  have hxg := hbs k1
                  have d2 : decide (g < x1) = false := decide_eq_false (by omega)
                  by_cases k2 : x1 = g
                  · have hyy := hxg.2 k2
                    have d3 : decide (y1 < y2) = false := decide_eq_false (by omega)
                    have e3 : (x1 == g) = true := by rw [beq_iff_eq]; exact k2
                    clear k2 hxg hbs
                    go_wp2_with fail
                    refine HGC.out.mono ?_
                    rintro e w8 ⟨rfl, hb8⟩
                    have hs8 := (SW.refl HS7.out.2).below hb8
                    have HSR8 := Lib.hid hs8
                    have HR8 := Lib.hid (HR7.out.below hb8)
                    have HCC := Lib.hid (HCQ.out _ (below_tr HS7.out.bel hs8.bel) _ c5 HR8.out)
                    clear hb8 c0 c1 c2 c3 c4
                    obtain ⟨c0, c1, c2, c3, c4⟩ := hs8.cells
                    clear hs8
                    go_wp2_with fail
                    refine HCC.out.mono ?_
                    rintro e w9 ⟨rfl, hb9⟩
                    have hs9 := HSR8.out.below hb9
                    have HSR9 := Lib.hid hs9
                    have HR9 := Lib.hid (HR8.out.below hb9)
                    have HCD := Lib.hid (HCQ.out _ (below_tr HS7.out.bel hs9.bel) _ c5 HR9.out)
                    clear hb9 c0 c1 c2 c3 c4
                    obtain ⟨c0, c1, c2, c3, c4⟩ := hs9.cells
                    clear hs9
                    go_wp2_with fail
                    refine HCD.out.mono ?_
                    rintro e wa ⟨rfl, hba⟩
                    go_wp2_with fail
                    go_meet
                    exact ⟨rfl, HSR9.out.below hba⟩
                  · have e3 : (x1 == g) = false := by rw [beq_eq_false_iff_ne]; exact k2
                    clear k2 hxg hbs
                    go_wp2_with fail
                    refine HGC.out.mono ?_
                    rintro e w8 ⟨rfl, hb8⟩
                    have hs8 := (SW.refl HS7.out.2).below hb8
                    have HSR8 := Lib.hid hs8
                    have HR8 := Lib.hid (HR7.out.below hb8)
                    have HCC := Lib.hid (HCQ.out _ (below_tr HS7.out.bel hs8.bel) _ c5 HR8.out)
                    clear hb8 c0 c1 c2 c3 c4
                    obtain ⟨c0, c1, c2, c3, c4⟩ := hs8.cells
                    clear hs8
                    go_wp2_with fail
                    refine HCC.out.mono ?_
                    rintro e w9 ⟨rfl, hb9⟩
                    have hs9 := HSR8.out.below hb9
                    have HSR9 := Lib.hid hs9
                    have HR9 := Lib.hid (HR8.out.below hb9)
                    have HCD := Lib.hid (HCQ.out _ (below_tr HS7.out.bel hs9.bel) _ c5 HR9.out)
                    clear hb9 c0 c1 c2 c3 c4
                    obtain ⟨c0, c1, c2, c3, c4⟩ := hs9.cells
                    clear hs9
                    go_wp2_with fail
                    go_meet
                    exact ⟨rfl, HSR9.out⟩
                · have d1 : decide (y1 ≤ F) = false := decide_eq_false k1
                  clear hbs
                  go_wp2_with fail
                  refine HGC.out.mono ?_
                  rintro e w8 ⟨rfl, hb8⟩
                  have hs8 := (SW.refl HS7.out.2).below hb8
                  have HSR8 := Lib.hid hs8
                  have HR8 := Lib.hid (HR7.out.below hb8)
                  have HCC := Lib.hid (HCQ.out _ (below_tr HS7.out.bel hs8.bel) _ c5 HR8.out)
                  clear hb8 c0 c1 c2 c3 c4
                  obtain ⟨c0, c1, c2, c3, c4⟩ := hs8.cells
                  clear hs8
                  go_wp2_with fail
                  refine HCC.out.mono ?_
                  rintro e w9 ⟨rfl, hb9⟩
                  have hs9 := HSR8.out.below hb9
                  have HSR9 := Lib.hid hs9
                  have HR9 := Lib.hid (HR8.out.below hb9)
                  have HCD := Lib.hid (HCQ.out _ (below_tr HS7.out.bel hs9.bel) _ c5 HR9.out)
                  clear hb9 c0 c1 c2 c3 c4
                  obtain ⟨c0, c1, c2, c3, c4⟩ := hs9.cells
                  clear hs9
                  go_wp2_with fail
                  go_meet
                  exact ⟨rfl, HSR9.out⟩
              case rest =>
                obtain ⟨rfl, hs5⟩ := hcut
                obtain ⟨W8, hW8⟩ : ∃ W8, W8 = wc := ⟨_, rfl⟩
                rw [← hW8] at hs5 ⊢
                have HS8 := Lib.hid (show SW w w.heap.size (vA PA q pc SA sn sc v) W8 from ⟨below_tr HS7.out.bel hs5.bel, hs5.2⟩)
                clear hs5 hW8 HS7 HR7 HGC c0 c1 c2 c3 c4 hbs
                have HSR := Lib.hid (SW.refl HS8.out.2)
                have HPT := Lib.hid (fun (v'' : Vly) (A3 A4 : Option Addr) (p1 p2 : Nat) (W : World) (hal2 : VAlike v v'') (hv : RdV W A3 q A4 sn v'') => HPA.out v'' A3 A4 p1 p2 W t hal2 hv)
                have HPD := Lib.hid (fun (v'' : Vly) (A3 A4 : Option Addr) (p1 p2 : Nat) (W : World) (hal2 : VAlike v v'') (hv : RdV W A3 q A4 sn v'') => show Calls Try.prog 35 #[.agg #[.slice A3 q p1, .slice A4 sn p2, .int .i64 v''.s0, .int .i64 v''.s1, .int .i64 v''.s2], .int .i64 F, .int .i64 R, .int .i64 bd] W fun e w' => e = .returned (.bool true) ∧ Below W.heap.size W w' from by
                  have := HPA.out v'' A3 A4 p1 p2 W bd hal2 hv
                  rw [decide_eq_true rfl] at this
                  exact this)
                by_cases ktb : t = bd
                · have dt : decide (g ≤ t) = true := decide_eq_true (by omega)
                  have dt' : g ≤ t := by omega
                  simp only [decide_eq_true ktb] at HPT
                  clear ktb
                  go_wp2_with fail
                  first | (go_region_held3 (fun w' => w'.cell? ⟨w.heap.size, 0, none⟩ = some (.slice PA q pc) ∧ w'.cell? ⟨w.heap.size, 1, none⟩ = some (.slice SA sn sc) ∧ w'.cell? ⟨w.heap.size, 2, none⟩ = some (.int .i64 v.s0) ∧ w'.cell? ⟨w.heap.size, 3, none⟩ = some (.int .i64 v.s1) ∧ w'.cell? ⟨w.heap.size, 4, none⟩ = some (.int .i64 v.s2))
                    (first | exact HSR.out.drew.cells | exact HSR.out.cells | exact hs5.cells | assumption)
                    (first
                      | (go_at_call 20; with_reducible refine (HVW.out _ (by exact below_tr HS8.out.bel (by first | exact hs5.bel | exact HSR.out.drew.bel))).mono ?_; rintro e w5 ⟨A3, d3, A4, d4, v'', rfl, rv, hal, hb5⟩; (first | replace hs5 := hs5.below hb5 | have hs5 := HSR.out.drew.below hb5))
                      | (go_at_call 35; (first | with_reducible refine (HPT.out v'' A3 A4 d3 d4 _ hal rv).mono ?_ | with_reducible refine (HPD.out v'' A3 A4 d3 d4 _ hal rv).mono ?_); rintro e w5 ⟨rfl, hb5⟩; (try replace rv := rv.below hb5); (first | replace hs5 := hs5.below hb5 | have hs5 := HSR.out.drew.below hb5))
                      | (go_at_call 37; with_reducible refine (HBN.out _ (by exact below_tr HS8.out.bel (by first | exact hs5.bel | exact HSR.out.drew.bel))).mono ?_; rintro e w5 ⟨rfl, hb5⟩; (try replace rv := rv.below hb5); (first | replace hs5 := hs5.below hb5 | have hs5 := HSR.out.drew.below hb5))
                      | (go_at_call 18; refine (wakes_ok _).mono ?_; rintro e w5 ⟨rfl, hb5⟩; (first | replace hs5 := hs5.below hb5 | have hs5 := HSR.out.drew.below hb5)))) | fail
                  all_goals
                    go_wp2_with fail
                    go_ret
                    exact ⟨rfl, below_tr HS8.out.bel hs5.bel⟩
                · simp only [decide_eq_false ktb] at HPT
                  clear ktb
                  go_wp2_with fail
                  refine wp_region_held_drew (S := (fun w' => w'.cell? ⟨w.heap.size, 0, none⟩ = some (.slice PA q pc) ∧ w'.cell? ⟨w.heap.size, 1, none⟩ = some (.slice SA sn sc) ∧ w'.cell? ⟨w.heap.size, 2, none⟩ = some (.int .i64 v.s0) ∧ w'.cell? ⟨w.heap.size, 3, none⟩ = some (.int .i64 v.s1) ∧ w'.cell? ⟨w.heap.size, 4, none⟩ = some (.int .i64 v.s2))) (by kernel_rfl) (by (first | exact HSR.out.drew.cells | exact HSR.out.cells | exact hs5.cells | assumption)) (fun hHeld => ?_)
                  (refine wpAnyH_take (i := 0) (oi := ?ox1) (v := ?vx1) ?hix1 ?k1x1 ?k2x1 ?k3x1 ?hQx1 ?hYx1 ?hSx1 ?restx1; (case hix1 => (simp only [List.getElem?_toArray, List.getElem?_cons_succ, List.getElem?_cons_zero]; exact rfl)); (case k1x1 => kernel_rfl); (case k2x1 => kernel_rfl); (case k3x1 => kernel_rfl); (case hSx1 => assumption); (case hYx1 => (refine Or.inl ⟨rfl, ?hyx1⟩; intro w hSw; (try dsimp only at hSw); go_simp; (try with_reducible rfl))); (case hQx1 => exact (fun _ _ _ h => h)); (try simp only [Act.put, List.setIfInBounds_toArray, List.set_cons_zero, List.set_cons_succ]))
                  (refine wpAnyH_take (i := 2) (oi := ?ox2) (v := ?vx2) ?hix2 ?k1x2 ?k2x2 ?k3x2 ?hQx2 ?hYx2 ?hSx2 ?restx2; (case hix2 => (simp only [List.getElem?_toArray, List.getElem?_cons_succ, List.getElem?_cons_zero]; exact rfl)); (case k1x2 => kernel_rfl); (case k2x2 => kernel_rfl); (case k3x2 => kernel_rfl); (case hSx2 => assumption); (case hYx2 => (refine Or.inl ⟨rfl, ?hyx2⟩; intro w hSw; (try dsimp only at hSw); go_simp; (try with_reducible rfl))); (case hQx2 => exact (fun _ _ _ h => h)); (try simp only [Act.put, List.setIfInBounds_toArray, List.set_cons_zero, List.set_cons_succ]))
                  (refine wpAnyH_take (i := 3) (oi := ?ox3) (v := ?vx3) ?hix3 ?k1x3 ?k2x3 ?k3x3 ?hQx3 ?hYx3 ?hSx3 ?restx3; (case hix3 => (simp only [List.getElem?_toArray, List.getElem?_cons_succ, List.getElem?_cons_zero]; exact rfl)); (case k1x3 => kernel_rfl); (case k2x3 => kernel_rfl); (case k3x3 => kernel_rfl); (case hSx3 => assumption); (case hYx3 => (refine Or.inl ⟨rfl, ?hyx3⟩; intro w hSw; (try dsimp only at hSw); go_simp; (try with_reducible rfl))); (case hQx3 => exact (fun _ _ _ h => h)); (try simp only [Act.put, List.setIfInBounds_toArray, List.set_cons_zero, List.set_cons_succ]))
                  (refine wpAnyH_take (i := 4) (oi := ?ox4) (v := ?vx4) ?hix4 ?k1x4 ?k2x4 ?k3x4 ?hQx4 ?hYx4 ?hSx4 ?restx4; (case hix4 => (simp only [List.getElem?_toArray, List.getElem?_cons_succ, List.getElem?_cons_zero]; exact rfl)); (case k1x4 => kernel_rfl); (case k2x4 => kernel_rfl); (case k3x4 => kernel_rfl); (case hSx4 => assumption); (case hYx4 => (refine Or.inl ⟨rfl, ?hyx4⟩; intro w hSw; (try dsimp only at hSw); go_simp; (try with_reducible rfl))); (case hQx4 => exact (fun _ _ _ h => h)); (try simp only [Act.put, List.setIfInBounds_toArray, List.set_cons_zero, List.set_cons_succ]))
                  (refine wpAnyH_take (i := 5) (oi := ?ox5) (v := ?vx5) ?hix5 ?k1x5 ?k2x5 ?k3x5 ?hQx5 ?hYx5 ?hSx5 ?restx5; (case hix5 => (simp only [List.getElem?_toArray, List.getElem?_cons_succ, List.getElem?_cons_zero]; exact rfl)); (case k1x5 => kernel_rfl); (case k2x5 => kernel_rfl); (case k3x5 => kernel_rfl); (case hSx5 => assumption); (case hYx5 => (refine Or.inl ⟨rfl, ?hyx5⟩; intro w hSw; (try dsimp only at hSw); go_simp; (try with_reducible rfl))); (case hQx5 => exact (fun _ _ _ h => h)); (try simp only [Act.put, List.setIfInBounds_toArray, List.set_cons_zero, List.set_cons_succ]))
                  (refine wpAnyH_take (i := 6) (oi := ?ox6) (v := ?vx6) ?hix6 ?k1x6 ?k2x6 ?k3x6 ?hQx6 ?hYx6 ?hSx6 ?restx6; (case hix6 => (simp only [List.getElem?_toArray, List.getElem?_cons_succ, List.getElem?_cons_zero]; exact rfl)); (case k1x6 => kernel_rfl); (case k2x6 => kernel_rfl); (case k3x6 => kernel_rfl); (case hSx6 => assumption); (case hYx6 => (refine Or.inl ⟨rfl, ?hyx6⟩; intro w hSw; (try dsimp only at hSw); go_simp; (try with_reducible rfl))); (case hQx6 => exact (fun _ _ _ h => h)); (try simp only [Act.put, List.setIfInBounds_toArray, List.set_cons_zero, List.set_cons_succ]))
                  (refine wpAnyH_take (i := 7) (oi := ?ox7) (v := ?vx7) ?hix7 ?k1x7 ?k2x7 ?k3x7 ?hQx7 ?hYx7 ?hSx7 ?restx7; (case hix7 => (simp only [List.getElem?_toArray, List.getElem?_cons_succ, List.getElem?_cons_zero]; exact rfl)); (case k1x7 => kernel_rfl); (case k2x7 => kernel_rfl); (case k3x7 => kernel_rfl); (case hSx7 => assumption); (case hYx7 => (refine Or.inl ⟨rfl, ?hyx7⟩; intro w hSw; (try dsimp only at hSw); go_simp; (try with_reducible rfl))); (case hQx7 => exact (fun _ _ _ h => h)); (try simp only [Act.put, List.setIfInBounds_toArray, List.set_cons_zero, List.set_cons_succ]))
                  refine wpAnyH_ready (rs := [1]) (by kernel_rfl) (by simp) ?_
                  refine AllReadyH.cons (o := ?o0x8) ?hi0x8 (fun K hK => ?_) AllReadyH.nil
                  (case hi0x8 => (simp only [List.getElem?_toArray, List.getElem?_cons_succ, List.getElem?_cons_zero]; exact rfl))
                  go_simp
                  (go_at_call 20; with_reducible refine (HVW.out _ (by exact below_tr HS8.out.bel (by first | exact hs5.bel | exact HSR.out.drew.bel))).mono ?_; rintro e w5 ⟨A3, d3, A4, d4, v'', rfl, rv, hal, hb5⟩; (first | replace hs5 := hs5.below hb5 | have hs5 := HSR.out.drew.below hb5))
                  (try go_wp2_with fail)
                  refine hK.out _ _ (by (try dsimp only) <;> (first | exact HSR.out.drew.cells | exact HSR.out.cells | exact hs5.cells | assumption)) (fun hHeld => ?_)
                  clear hK K
                  (try simp only [Act.put, List.setIfInBounds_toArray, List.set_cons_zero, List.set_cons_succ])
                  refine wpAnyH_ready (rs := [8]) (by kernel_rfl) (by simp) ?_
                  refine AllReadyH.cons (o := ?o0x9) ?hi0x9 (fun K hK => ?_) AllReadyH.nil
                  (case hi0x9 => (simp only [List.getElem?_toArray, List.getElem?_cons_succ, List.getElem?_cons_zero]; exact rfl))
                  go_simp
                  (go_at_call 35; (first | with_reducible refine (HPT.out v'' A3 A4 d3 d4 _ hal rv).mono ?_ | with_reducible refine (HPD.out v'' A3 A4 d3 d4 _ hal rv).mono ?_); rintro e w5 ⟨rfl, hb5⟩; (try replace rv := rv.below hb5); (first | replace hs5 := hs5.below hb5 | have hs5 := HSR.out.drew.below hb5))
                  (try go_wp2_with fail)
                  refine hK.out _ _ (by (try dsimp only) <;> (first | exact HSR.out.drew.cells | exact HSR.out.cells | exact hs5.cells | assumption)) (fun hHeld => ?_)
                  clear hK K
                  (try simp only [Act.put, List.setIfInBounds_toArray, List.set_cons_zero, List.set_cons_succ])
                  (refine wpAnyH_take (i := 9) (oi := ?ox10) (v := ?vx10) ?hix10 ?k1x10 ?k2x10 ?k3x10 ?hQx10 ?hYx10 ?hSx10 ?restx10; (case hix10 => (simp only [List.getElem?_toArray, List.getElem?_cons_succ, List.getElem?_cons_zero]; exact rfl)); (case k1x10 => kernel_rfl); (case k2x10 => kernel_rfl); (case k3x10 => kernel_rfl); (case hSx10 => assumption); (case hYx10 => (refine Or.inl ⟨rfl, ?hyx10⟩; intro w hSw; (try dsimp only at hSw); go_simp; (try with_reducible rfl))); (case hQx10 => exact (fun _ _ _ h => h)); (try simp only [Act.put, List.setIfInBounds_toArray, List.set_cons_zero, List.set_cons_succ]))
                  (refine wpAnyH_take (i := 10) (oi := ?ox11) (v := ?vx11) ?hix11 ?k1x11 ?k2x11 ?k3x11 ?hQx11 ?hYx11 ?hSx11 ?restx11; (case hix11 => (simp only [List.getElem?_toArray, List.getElem?_cons_succ, List.getElem?_cons_zero]; exact rfl)); (case k1x11 => kernel_rfl); (case k2x11 => kernel_rfl); (case k3x11 => kernel_rfl); (case hSx11 => assumption); (case hYx11 => (refine Or.inl ⟨rfl, ?hyx11⟩; intro w hSw; (try dsimp only at hSw); go_simp; (try with_reducible rfl))); (case hQx11 => exact (fun _ _ _ h => h)); (try simp only [Act.put, List.setIfInBounds_toArray, List.set_cons_zero, List.set_cons_succ]))
                  (refine wpAnyH_take (i := 11) (oi := ?ox12) (v := undef) ?hix12 ?k1x12 ?k2x12 ?k3x12 ?hQx12 ?hYx12 ?hSx12 ?restx12; (case hix12 => (simp only [List.getElem?_toArray, List.getElem?_cons_succ, List.getElem?_cons_zero]; exact rfl)); (case k1x12 => kernel_rfl); (case k2x12 => kernel_rfl); (case k3x12 => kernel_rfl); (case hSx12 => assumption); (case hYx12 => (refine Or.inr ⟨?hyx12, rfl⟩; (first | rfl | kernel_rfl | (go_simp; done)))); (case hQx12 => exact (fun _ _ _ h => h)); (try simp only [Act.put, List.setIfInBounds_toArray, List.set_cons_zero, List.set_cons_succ]))
                  (refine wpAnyH_take (i := 12) (oi := ?ox13) (v := undef) ?hix13 ?k1x13 ?k2x13 ?k3x13 ?hQx13 ?hYx13 ?hSx13 ?restx13; (case hix13 => (simp only [List.getElem?_toArray, List.getElem?_cons_succ, List.getElem?_cons_zero]; exact rfl)); (case k1x13 => kernel_rfl); (case k2x13 => kernel_rfl); (case k3x13 => kernel_rfl); (case hSx13 => assumption); (case hYx13 => (refine Or.inr ⟨?hyx13, rfl⟩; (first | rfl | kernel_rfl | (go_simp; done)))); (case hQx13 => exact (fun _ _ _ h => h)); (try simp only [Act.put, List.setIfInBounds_toArray, List.set_cons_zero, List.set_cons_succ]))
                  (refine wpAnyH_take (i := 13) (oi := ?ox14) (v := undef) ?hix14 ?k1x14 ?k2x14 ?k3x14 ?hQx14 ?hYx14 ?hSx14 ?restx14; (case hix14 => (simp only [List.getElem?_toArray, List.getElem?_cons_succ, List.getElem?_cons_zero]; exact rfl)); (case k1x14 => kernel_rfl); (case k2x14 => kernel_rfl); (case k3x14 => kernel_rfl); (case hSx14 => assumption); (case hYx14 => (refine Or.inr ⟨?hyx14, rfl⟩; (first | rfl | kernel_rfl | (go_simp; done)))); (case hQx14 => exact (fun _ _ _ h => h)); (try simp only [Act.put, List.setIfInBounds_toArray, List.set_cons_zero, List.set_cons_succ]))
                  (refine wpAnyH_take (i := 14) (oi := ?ox15) (v := undef) ?hix15 ?k1x15 ?k2x15 ?k3x15 ?hQx15 ?hYx15 ?hSx15 ?restx15; (case hix15 => (simp only [List.getElem?_toArray, List.getElem?_cons_succ, List.getElem?_cons_zero]; exact rfl)); (case k1x15 => kernel_rfl); (case k2x15 => kernel_rfl); (case k3x15 => kernel_rfl); (case hSx15 => assumption); (case hYx15 => (refine Or.inr ⟨?hyx15, rfl⟩; (first | rfl | kernel_rfl | (go_simp; done)))); (case hQx15 => exact (fun _ _ _ h => h)); (try simp only [Act.put, List.setIfInBounds_toArray, List.set_cons_zero, List.set_cons_succ]))
                  (refine wpAnyH_take (i := 15) (oi := ?ox16) (v := ?vx16) ?hix16 ?k1x16 ?k2x16 ?k3x16 ?hQx16 ?hYx16 ?hSx16 ?restx16; (case hix16 => (simp only [List.getElem?_toArray, List.getElem?_cons_succ, List.getElem?_cons_zero]; exact rfl)); (case k1x16 => kernel_rfl); (case k2x16 => kernel_rfl); (case k3x16 => kernel_rfl); (case hSx16 => assumption); (case hYx16 => (refine Or.inl ⟨rfl, ?hyx16⟩; intro w hSw; (try dsimp only at hSw); go_simp; (try with_reducible rfl))); (case hQx16 => exact (fun _ _ _ h => h)); (try simp only [Act.put, List.setIfInBounds_toArray, List.set_cons_zero, List.set_cons_succ]))
                  (refine wpAnyH_take (i := 16) (oi := ?ox17) (v := ?vx17) ?hix17 ?k1x17 ?k2x17 ?k3x17 ?hQx17 ?hYx17 ?hSx17 ?restx17; (case hix17 => (simp only [List.getElem?_toArray, List.getElem?_cons_succ, List.getElem?_cons_zero]; exact rfl)); (case k1x17 => kernel_rfl); (case k2x17 => kernel_rfl); (case k3x17 => kernel_rfl); (case hSx17 => assumption); (case hYx17 => (refine Or.inl ⟨rfl, ?hyx17⟩; intro w hSw; (try dsimp only at hSw); go_simp; (try with_reducible rfl))); (case hQx17 => exact (fun _ _ _ h => h)); (try simp only [Act.put, List.setIfInBounds_toArray, List.set_cons_zero, List.set_cons_succ]))
                  (refine wpAnyH_take (i := 17) (oi := ?ox18) (v := ?vx18) ?hix18 ?k1x18 ?k2x18 ?k3x18 ?hQx18 ?hYx18 ?hSx18 ?restx18; (case hix18 => (simp only [List.getElem?_toArray, List.getElem?_cons_succ, List.getElem?_cons_zero]; exact rfl)); (case k1x18 => kernel_rfl); (case k2x18 => kernel_rfl); (case k3x18 => kernel_rfl); (case hSx18 => assumption); (case hYx18 => (refine Or.inl ⟨rfl, ?hyx18⟩; intro w hSw; (try dsimp only at hSw); go_simp; (try with_reducible rfl))); (case hQx18 => exact (fun _ _ _ h => h)); (try simp only [Act.put, List.setIfInBounds_toArray, List.set_cons_zero, List.set_cons_succ]))
                  (refine wpAnyH_take (i := 19) (oi := ?ox19) (v := ?vx19) ?hix19 ?k1x19 ?k2x19 ?k3x19 ?hQx19 ?hYx19 ?hSx19 ?restx19; (case hix19 => (simp only [List.getElem?_toArray, List.getElem?_cons_succ, List.getElem?_cons_zero]; exact rfl)); (case k1x19 => kernel_rfl); (case k2x19 => kernel_rfl); (case k3x19 => kernel_rfl); (case hSx19 => assumption); (case hYx19 => (refine Or.inl ⟨rfl, ?hyx19⟩; intro w hSw; (try dsimp only at hSw); go_simp; (try with_reducible rfl))); (case hQx19 => exact (fun _ _ _ h => h)); (try simp only [Act.put, List.setIfInBounds_toArray, List.set_cons_zero, List.set_cons_succ]))
                  (refine wpAnyH_take (i := 20) (oi := ?ox20) (v := ?vx20) ?hix20 ?k1x20 ?k2x20 ?k3x20 ?hQx20 ?hYx20 ?hSx20 ?restx20; (case hix20 => (simp only [List.getElem?_toArray, List.getElem?_cons_succ, List.getElem?_cons_zero]; exact rfl)); (case k1x20 => kernel_rfl); (case k2x20 => kernel_rfl); (case k3x20 => kernel_rfl); (case hSx20 => assumption); (case hYx20 => (refine Or.inl ⟨rfl, ?hyx20⟩; intro w hSw; (try dsimp only at hSw); go_simp; (try with_reducible rfl))); (case hQx20 => exact (fun _ _ _ h => h)); (try simp only [Act.put, List.setIfInBounds_toArray, List.set_cons_zero, List.set_cons_succ]))
                  (refine wpAnyH_take (i := 21) (oi := ?ox21) (v := ?vx21) ?hix21 ?k1x21 ?k2x21 ?k3x21 ?hQx21 ?hYx21 ?hSx21 ?restx21; (case hix21 => (simp only [List.getElem?_toArray, List.getElem?_cons_succ, List.getElem?_cons_zero]; exact rfl)); (case k1x21 => kernel_rfl); (case k2x21 => kernel_rfl); (case k3x21 => kernel_rfl); (case hSx21 => assumption); (case hYx21 => (refine Or.inl ⟨rfl, ?hyx21⟩; intro w hSw; (try dsimp only at hSw); go_simp; (try with_reducible rfl))); (case hQx21 => exact (fun _ _ _ h => h)); (try simp only [Act.put, List.setIfInBounds_toArray, List.set_cons_zero, List.set_cons_succ]))
                  (refine wpAnyH_take (i := 22) (oi := ?ox22) (v := ?vx22) ?hix22 ?k1x22 ?k2x22 ?k3x22 ?hQx22 ?hYx22 ?hSx22 ?restx22; (case hix22 => (simp only [List.getElem?_toArray, List.getElem?_cons_succ, List.getElem?_cons_zero]; exact rfl)); (case k1x22 => kernel_rfl); (case k2x22 => kernel_rfl); (case k3x22 => kernel_rfl); (case hSx22 => assumption); (case hYx22 => (refine Or.inl ⟨rfl, ?hyx22⟩; intro w hSw; (try dsimp only at hSw); go_simp; (try with_reducible rfl))); (case hQx22 => exact (fun _ _ _ h => h)); (try simp only [Act.put, List.setIfInBounds_toArray, List.set_cons_zero, List.set_cons_succ]))
                  (refine wpAnyH_take (i := 23) (oi := ?ox23) (v := ?vx23) ?hix23 ?k1x23 ?k2x23 ?k3x23 ?hQx23 ?hYx23 ?hSx23 ?restx23; (case hix23 => (simp only [List.getElem?_toArray, List.getElem?_cons_succ, List.getElem?_cons_zero]; exact rfl)); (case k1x23 => kernel_rfl); (case k2x23 => kernel_rfl); (case k3x23 => kernel_rfl); (case hSx23 => assumption); (case hYx23 => (refine Or.inl ⟨rfl, ?hyx23⟩; intro w hSw; (try dsimp only at hSw); go_simp; (try with_reducible rfl))); (case hQx23 => exact (fun _ _ _ h => h)); (try simp only [Act.put, List.setIfInBounds_toArray, List.set_cons_zero, List.set_cons_succ]))
                  (refine wpAnyH_take (i := 24) (oi := ?ox24) (v := ?vx24) ?hix24 ?k1x24 ?k2x24 ?k3x24 ?hQx24 ?hYx24 ?hSx24 ?restx24; (case hix24 => (simp only [List.getElem?_toArray, List.getElem?_cons_succ, List.getElem?_cons_zero]; exact rfl)); (case k1x24 => kernel_rfl); (case k2x24 => kernel_rfl); (case k3x24 => kernel_rfl); (case hSx24 => assumption); (case hYx24 => (refine Or.inl ⟨rfl, ?hyx24⟩; intro w hSw; (try dsimp only at hSw); go_simp; (try with_reducible rfl))); (case hQx24 => exact (fun _ _ _ h => h)); (try simp only [Act.put, List.setIfInBounds_toArray, List.set_cons_zero, List.set_cons_succ]))
                  (refine wpAnyH_take (i := 25) (oi := ?ox25) (v := ?vx25) ?hix25 ?k1x25 ?k2x25 ?k3x25 ?hQx25 ?hYx25 ?hSx25 ?restx25; (case hix25 => (simp only [List.getElem?_toArray, List.getElem?_cons_succ, List.getElem?_cons_zero]; exact rfl)); (case k1x25 => kernel_rfl); (case k2x25 => kernel_rfl); (case k3x25 => kernel_rfl); (case hSx25 => assumption); (case hYx25 => (refine Or.inl ⟨rfl, ?hyx25⟩; intro w hSw; (try dsimp only at hSw); go_simp; (try with_reducible rfl))); (case hQx25 => exact (fun _ _ _ h => h)); (try simp only [Act.put, List.setIfInBounds_toArray, List.set_cons_zero, List.set_cons_succ]))
                  (refine wpAnyH_take (i := 26) (oi := ?ox26) (v := ?vx26) ?hix26 ?k1x26 ?k2x26 ?k3x26 ?hQx26 ?hYx26 ?hSx26 ?restx26; (case hix26 => (simp only [List.getElem?_toArray, List.getElem?_cons_succ, List.getElem?_cons_zero]; exact rfl)); (case k1x26 => kernel_rfl); (case k2x26 => kernel_rfl); (case k3x26 => kernel_rfl); (case hSx26 => assumption); (case hYx26 => (refine Or.inl ⟨rfl, ?hyx26⟩; intro w hSw; (try dsimp only at hSw); go_simp; (try with_reducible rfl))); (case hQx26 => exact (fun _ _ _ h => h)); (try simp only [Act.put, List.setIfInBounds_toArray, List.set_cons_zero, List.set_cons_succ]))
                  (refine wpAnyH_take (i := 27) (oi := ?ox27) (v := ?vx27) ?hix27 ?k1x27 ?k2x27 ?k3x27 ?hQx27 ?hYx27 ?hSx27 ?restx27; (case hix27 => (simp only [List.getElem?_toArray, List.getElem?_cons_succ, List.getElem?_cons_zero]; exact rfl)); (case k1x27 => kernel_rfl); (case k2x27 => kernel_rfl); (case k3x27 => kernel_rfl); (case hSx27 => assumption); (case hYx27 => (refine Or.inl ⟨rfl, ?hyx27⟩; intro w hSw; (try dsimp only at hSw); go_simp; (try with_reducible rfl))); (case hQx27 => exact (fun _ _ _ h => h)); (try simp only [Act.put, List.setIfInBounds_toArray, List.set_cons_zero, List.set_cons_succ]))
                  refine wpAnyH_ready (rs := [18]) (by kernel_rfl) (by simp) ?_
                  refine AllReadyH.cons (o := ?o0x28) ?hi0x28 (fun K hK => ?_) AllReadyH.nil
                  (case hi0x28 => (simp only [List.getElem?_toArray, List.getElem?_cons_succ, List.getElem?_cons_zero]; exact rfl))
                  go_simp
                  (go_at_call 20; with_reducible refine (HVW.out _ (by exact below_tr HS8.out.bel (by first | exact hs5.bel | exact HSR.out.drew.bel))).mono ?_; rintro e w5 ⟨A3, d3, A4, d4, v'', rfl, rv, hal, hb5⟩; (first | replace hs5 := hs5.below hb5 | have hs5 := HSR.out.drew.below hb5))
                  (try go_wp2_with fail)
                  refine hK.out _ _ (by (try dsimp only) <;> (first | exact HSR.out.drew.cells | exact HSR.out.cells | exact hs5.cells | assumption)) (fun hHeld => ?_)
                  clear hK K
                  (try simp only [Act.put, List.setIfInBounds_toArray, List.set_cons_zero, List.set_cons_succ])
                  refine wpAnyH_ready (rs := [28]) (by kernel_rfl) (by simp) ?_
                  refine AllReadyH.cons (o := ?o0x29) ?hi0x29 (fun K hK => ?_) AllReadyH.nil
                  (case hi0x29 => (simp only [List.getElem?_toArray, List.getElem?_cons_succ, List.getElem?_cons_zero]; exact rfl))
                  go_simp
                  (go_at_call 37; with_reducible refine (HBN.out _ (by exact below_tr HS8.out.bel (by first | exact hs5.bel | exact HSR.out.drew.bel))).mono ?_; rintro e w5 ⟨rfl, hb5⟩; (try replace rv := rv.below hb5); (first | replace hs5 := hs5.below hb5 | have hs5 := HSR.out.drew.below hb5))
                  (try go_wp2_with fail)
                  refine hK.out _ _ (by (try dsimp only) <;> (first | exact HSR.out.drew.cells | exact HSR.out.cells | exact hs5.cells | assumption)) (fun hHeld => ?_)
                  clear hK K
                  (try simp only [Act.put, List.setIfInBounds_toArray, List.set_cons_zero, List.set_cons_succ])
                  refine wpAnyH_ready (rs := [29]) (by kernel_rfl) (by simp) ?_
                  refine AllReadyH.cons (o := ?o0x30) ?hi0x30 (fun K hK => ?_) AllReadyH.nil
                  (case hi0x30 => (simp only [List.getElem?_toArray, List.getElem?_cons_succ, List.getElem?_cons_zero]; exact rfl))
                  go_simp
                  (go_at_call 35; (first | with_reducible refine (HPT.out v'' A3 A4 d3 d4 _ hal rv).mono ?_ | with_reducible refine (HPD.out v'' A3 A4 d3 d4 _ hal rv).mono ?_); rintro e w5 ⟨rfl, hb5⟩; (try replace rv := rv.below hb5); (first | replace hs5 := hs5.below hb5 | have hs5 := HSR.out.drew.below hb5))
                  (try go_wp2_with fail)
                  refine hK.out _ _ (by (try dsimp only) <;> (first | exact HSR.out.drew.cells | exact HSR.out.cells | exact hs5.cells | assumption)) (fun hHeld => ?_)
                  clear hK K
                  (try simp only [Act.put, List.setIfInBounds_toArray, List.set_cons_zero, List.set_cons_succ])
                  (refine wpAnyH_take (i := 30) (oi := ?ox31) (v := ?vx31) ?hix31 ?k1x31 ?k2x31 ?k3x31 ?hQx31 ?hYx31 ?hSx31 ?restx31; (case hix31 => (simp only [List.getElem?_toArray, List.getElem?_cons_succ, List.getElem?_cons_zero]; exact rfl)); (case k1x31 => kernel_rfl); (case k2x31 => kernel_rfl); (case k3x31 => kernel_rfl); (case hSx31 => assumption); (case hYx31 => (refine Or.inl ⟨rfl, ?hyx31⟩; intro w hSw; (try dsimp only at hSw); go_simp; (try with_reducible rfl))); (case hQx31 => exact (fun _ _ _ h => h)); (try simp only [Act.put, List.setIfInBounds_toArray, List.set_cons_zero, List.set_cons_succ]))
                  (refine wpAnyH_take (i := 31) (oi := ?ox32) (v := ?vx32) ?hix32 ?k1x32 ?k2x32 ?k3x32 ?hQx32 ?hYx32 ?hSx32 ?restx32; (case hix32 => (simp only [List.getElem?_toArray, List.getElem?_cons_succ, List.getElem?_cons_zero]; exact rfl)); (case k1x32 => kernel_rfl); (case k2x32 => kernel_rfl); (case k3x32 => kernel_rfl); (case hSx32 => assumption); (case hYx32 => (refine Or.inl ⟨rfl, ?hyx32⟩; intro w hSw; (try dsimp only at hSw); go_simp; (try with_reducible rfl))); (case hQx32 => exact (fun _ _ _ h => h)); (try simp only [Act.put, List.setIfInBounds_toArray, List.set_cons_zero, List.set_cons_succ]))
                  refine wpAnyH_ready (rs := [32]) (by kernel_rfl) (by simp) ?_
                  refine AllReadyH.cons (o := ?o0x33) ?hi0x33 (fun K hK => ?_) AllReadyH.nil
                  (case hi0x33 => (simp only [List.getElem?_toArray, List.getElem?_cons_succ, List.getElem?_cons_zero]; exact rfl))
                  go_simp
                  (go_at_call 18; refine (wakes_ok _).mono ?_; rintro e w5 ⟨rfl, hb5⟩; (first | replace hs5 := hs5.below hb5 | have hs5 := HSR.out.drew.below hb5))
                  (try go_wp2_with fail)
                  refine hK.out _ _ (by (try dsimp only) <;> (first | exact HSR.out.drew.cells | exact HSR.out.cells | exact hs5.cells | assumption)) (fun hHeld => ?_)
                  clear hK K
                  (try simp only [Act.put, List.setIfInBounds_toArray, List.set_cons_zero, List.set_cons_succ])
                  (refine wpAnyH_take (i := 33) (oi := ?ox34) (v := ?vx34) ?hix34 ?k1x34 ?k2x34 ?k3x34 ?hQx34 ?hYx34 ?hSx34 ?restx34; (case hix34 => (simp only [List.getElem?_toArray, List.getElem?_cons_succ, List.getElem?_cons_zero]; exact rfl)); (case k1x34 => kernel_rfl); (case k2x34 => kernel_rfl); (case k3x34 => kernel_rfl); (case hSx34 => assumption); (case hYx34 => (refine Or.inl ⟨rfl, ?hyx34⟩; intro w hSw; (try dsimp only at hSw); go_simp; (try with_reducible rfl))); (case hQx34 => exact (fun _ _ _ h => h)); (try simp only [Act.put, List.setIfInBounds_toArray, List.set_cons_zero, List.set_cons_succ]))
                  (refine wpAnyH_take (i := 34) (oi := ?ox35) (v := ?vx35) ?hix35 ?k1x35 ?k2x35 ?k3x35 ?hQx35 ?hYx35 ?hSx35 ?restx35; (case hix35 => (simp only [List.getElem?_toArray, List.getElem?_cons_succ, List.getElem?_cons_zero]; exact rfl)); (case k1x35 => kernel_rfl); (case k2x35 => kernel_rfl); (case k3x35 => kernel_rfl); (case hSx35 => assumption); (case hYx35 => (refine Or.inl ⟨rfl, ?hyx35⟩; intro w hSw; (try dsimp only at hSw); go_simp; (try with_reducible rfl))); (case hQx35 => exact (fun _ _ _ h => h)); (try simp only [Act.put, List.setIfInBounds_toArray, List.set_cons_zero, List.set_cons_succ]))
                  (try refine wpAnyH_done (by kernel_rfl) ?_ _)
                  go_wp2_with fail
                  go_ret
                  exact ⟨rfl, below_tr HS8.out.bel hs5.bel⟩
end Go.Proofs.Ytphdndiikikecaa
