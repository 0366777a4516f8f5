/- THE WALK of the law GaugeThin. -/
import Derived.Test.YtkgoojilmnkgiaaThinsLaw
import Derived.Test.YtkgoojilmnkgiaaLine
import Derived.Test.YtkgoojilmnkgiaaOutl
import Derived.Test.YtkgoojilmnkgiaaRefSeries
import Derived.Test.YtkgoojilmnkgiaaWakes
import Derived.Deep.DeepCutAuto
namespace Go.Proofs.Ytkgoojilmnkgiaa
open Go.RowKit Go.Proofs

theorem ThinOk_c {l : List (Int × Int)} {A : Option Addr} {n c : Nat} {s : Int} {w : World} (h : Rd enc2 2 w A n l) (hc : n ≤ c) (ha : askedE l s = 0) :
    Calls Try.prog 37 #[.slice A n c, .int .i64 s] w fun e w' => ∃ (B : Option Addr) (m d : Nat) (out : List Int), e = .returned (.tuple #[.slice B m d, .int .i64 0]) ∧ m ≤ d ∧ m ≤ 60 ∧ Rd enc1 1 w' B m out ∧ Thinned l s out ∧ Below w.heap.size w w' := by
  refine (Thin_c h hc).mono fun e w' ⟨B, m, d, out, he, hmd, hr, hb, _, h1, h2⟩ => ?_
  have ht : Thinned l s out := ⟨h1 ha, h2 ha⟩
  refine ⟨B, m, d, out, by rw [he, ha], hmd, ?_, hr, ht, hb⟩
  have h3 := thin_least ha ht (all_proved ha)
  have h4 := (askedE_zero.1 ha).1.len
  rw [List.length_map, List.length_range] at h3
  rw [← hr.len]; omega
theorem ProveYes_c {l : List (Int × Int)} {kept : List Int} {A A' : Option Addr} {n c m c' : Nat} {s : Int} {w : World} (h : Rd enc2 2 w A n l) (hc : n ≤ c) (h' : Rd enc1 1 w A' m kept) (hc' : m ≤ c') (hm : m ≤ 1000000) (hp : Proved l s kept) :
    Calls Try.prog 38 #[.slice A n c, .int .i64 s, .slice A' m c'] w fun e w' => e = .returned (.bool true) ∧ Below w.heap.size w w' :=
  (ProveThin_c h hc h' hc' hm).mono fun e w' ⟨⟨v, he, hv⟩, hb⟩ => ⟨by rw [he, hv.2 hp], hb⟩

set_option maxRecDepth 100000 in
set_option maxHeartbeats 1000000 in
theorem GaugeThin_w {l : List (Int × Int)} {kept : List Int} {A A' : Option Addr} {n c m c' : Nat} {step more : Int} {w : World} (h : Rd enc2 2 w A n l) (h' : Rd enc1 1 w A' m kept) (h1 : 0 ≤ step ∧ step ≤ 4294967295) (h2 : 0 ≤ more ∧ more ≤ 65535) :
    Calls Try.prog 11 #[.slice A n c, .int .u32 step, .int .u16 more, .slice A' m c'] w fun e w' => e = .returned (.bool true) ∧ Below w.heap.size w w' := by
  have hsf := SeriesFault_c (c := c) h
  obtain ⟨s, hs0, hs1, hs2⟩ : ∃ a, step.tmod 1000000001 = a ∧ 0 ≤ a ∧ a ≤ 1000000000 := ⟨_, rfl, Int.tmod_nonneg _ h1.1, by have := Int.tmod_lt_of_pos step (show (0 : Int) < 1000000001 by omega); omega⟩
  have wo : IntKind.i64.wrap step = step := wi (by omega)
  have wA : IntKind.i64.wrap s = s := wi (by omega)
  by_cases hser : SerOk l
  · rw [serE_ok hser] at hsf
    have HSF := Lib.hid hsf; clear hsf
    by_cases hm : m ≤ 65
    · have hm2 : ¬ 65 < (m : Int) := by omega
      have hask : askedE l s = 0 := askedE_zero.2 ⟨hser, inB_iff.2 ⟨hs1, hs2⟩⟩
      have hn : n ≤ 60 := by rw [← h.len]; exact hser.len
      have HSER := Lib.hid hser; have HASK := Lib.hid hask; have HLEN := Lib.hid h.len
      clear hser hask
      have wmo : IntKind.i64.wrap more = more := wi (by omega)
      have wsm : IntKind.i64.wrap (s + more) = s + more := wi (by omega)
      go_enter Try.func11, Try.ntmps11
      go_wp2_with fail
      refine HSF.out.mono ?_
      rintro e w1 ⟨rfl, hb1⟩
      have HB1 := Lib.hid hb1; clear hb1 HSF
      go_wp2_with fail
      refine (Points_c (h.below HB1.out) (by omega)).mono ?_
      rintro e w2 ⟨A2, c2, rfl, hc2, hown, hb⟩
      have HB2 := Lib.hid (below_tr HB1.out hb)
      have HRT := Lib.hid (ThinOk_c (c := c2) (Rd.of_own enc2_len hown HLEN.out) hc2 HASK.out)
      clear hown hb HB1
      go_wp2_with fail
      refine HRT.out.mono ?_
      rintro e w3 ⟨B3, m3, d3, x, rfl, hd3, hm3, hrx, htx, hb⟩
      have HX := Lib.hid hrx; have HTX := Lib.hid htx
      have HB3 := Lib.hid (below_tr HB2.out hb)
      clear HB2 hb hrx htx HRT
      go_upto_region 5 with fail
      go_cut [12, 13] (fun y f wx => ∃ (B : Option Addr) (my d : Nat), y = .slice B my d ∧ f = .int .i64 0 ∧ my ≤ m3 ∧ Below w3.heap.size w3 wx)
      case first =>
        go_wp2_with fail
        refine (Points_c (h.below HB3.out) (by omega)).mono ?_
        rintro e w4 ⟨A4, c4, rfl, hc4, hown, hb⟩
        have HB4 := Lib.hid hb
        have HR4 := Lib.hid (Rd.of_own enc2_len hown HLEN.out)
        have hxl := HX.out.len
        clear hown hb
        have HTa := Lib.hid (ThinOk_c (s := 1000000000) HR4.out hc4 (askedE_zero.2 ⟨HSER.out, inB_iff.2 ⟨by omega, by omega⟩⟩))
        have htb := fun (hq : s + more ≤ 1000000000) => ThinOk_c (s := s + more) HR4.out hc4 (askedE_zero.2 ⟨HSER.out, inB_iff.2 ⟨by omega, hq⟩⟩)
        have HTb := Lib.hid htb
        clear htb
        go_wp2_with fail
        all_goals
          first
            | with_reducible refine HTa.out.mono ?_
            | (have hq : s + more ≤ 1000000000 := by omega
               with_reducible refine (HTb.out hq).mono ?_)
          rintro e w5 ⟨B5, m5, d5, y, rfl, hd5, hm5, hry, hty, hb⟩
          have hle : Hid (m5 ≤ m3) := by
            have h5 := thin_more hs1 (by omega) HTX.out hty
            have h6 := hry.len
            show m5 ≤ m3
            omega
          have HB5 := Lib.hid (below_tr HB4.out hb)
          clear hry hty hb hxl
          go_wp2_with fail
          go_meet
          exact ⟨B5, m5, d5, rfl, rfl, hle.out, HB5.out⟩
      case rest =>
      obtain ⟨B5, m5, d5, rfl, rfl, hm5, hb⟩ := hcut
      have HX5 := Lib.hid (HX.out.below hb)
      have HB5 := Lib.hid (below_tr HB3.out hb)
      have hm53 : ¬ (m3 : Int) < (m5 : Int) := by omega
      clear hb HX HB3
      go_wp2_with fail
      refine (Points_c (h.below HB5.out) (by omega)).mono ?_
      rintro e w6 ⟨A6, c6, rfl, hc6, hown, hb⟩
      have HX6 := Lib.hid (HX5.out.below hb)
      have HB6 := Lib.hid (below_tr HB5.out hb)
      have HR6 := Lib.hid (Rd.of_own enc2_len hown HLEN.out)
      clear hown hb HX5 HB5
      go_wp2_with fail
      refine (list_c HX6.out (by omega)).mono ?_
      rintro e w7 ⟨A7, c7, rfl, hc7, hr7, hb⟩
      have HPV := Lib.hid (thin_proved HASK.out HTX.out)
      have HPY := Lib.hid (ProveYes_c (HR6.out.below hb) hc6 hr7 hc7 (by omega) HPV.out)
      have HX7 := Lib.hid (HX6.out.below hb)
      have HB7 := Lib.hid (below_tr HB6.out hb)
      clear hr7 hb HX6 HB6 HR6
      go_wp2_with fail
      refine HPY.out.mono ?_
      rintro e w8 ⟨rfl, hb⟩
      have HX8 := Lib.hid (HX7.out.below hb)
      have HB8 := Lib.hid (below_tr HB7.out hb)
      clear hb HX7 HB7 HPY
      go_upto_region 8 with fail
      go_cut [83] (fun cc wx => cc = .bool false ∧ Below w8.heap.size w8 wx)
      case first =>
        go_wp2_with fail
        refine (Points_c (h.below HB8.out) (by omega)).mono ?_
        rintro e w9 ⟨A9, c9, rfl, hc9, hown, hb⟩
        have HW9 := Lib.hid hb
        have HR9 := Lib.hid (Rd.of_own enc2_len hown HLEN.out)
        have HK9 := Lib.hid (h'.below (below_tr HB8.out hb))
        clear hown hb
        go_wp2_with fail
        refine (list_c HK9.out (by omega)).mono ?_
        rintro e w10 ⟨A10, c10, rfl, hc10, hr10, hb⟩
        have HPT := Lib.hid (ProveThin_c (s := s) (HR9.out.below hb) hc9 hr10 hc10 (by omega))
        have HW10 := Lib.hid (below_tr HW9.out hb)
        clear hr10 hb HR9 HK9
        go_wp2_with fail
        refine HPT.out.mono ?_
        rintro e w11 ⟨⟨v, rfl, hv⟩, hb⟩
        have HW11 := Lib.hid (below_tr HW10.out hb)
        have hxl := HX8.out.len
        have hkl := h'.len
        cases v
        · clear hv hb hxl hkl
          go_wp2_with fail
          go_meet
          exact ⟨rfl, HW11.out⟩
        · have h6 := thin_least HASK.out HTX.out (hv.1 rfl)
          have h7 : ¬ (m : Int) < (m3 : Int) := by omega
          clear hv hb hxl hkl h6
          go_wp2_with fail
          go_meet
          exact ⟨congrArg Value.bool (decide_eq_false (by omega)), HW11.out⟩
      case rest =>
      obtain ⟨rfl, hb⟩ := hcut
      have HXc := Lib.hid (HX8.out.below hb)
      have HBc := Lib.hid (below_tr HB8.out hb)
      clear hb HX8 HB8
      obtain ⟨i0, hi0, hz0, hz1, hz2⟩ := info_parts infoI
      have HI := Lib.hid hi0; have HZ0 := Lib.hid hz0; have HZ1 := Lib.hid hz1; have HZ2 := Lib.hid hz2
      clear hi0 hz0 hz1 hz2
      go_wp2_with fail
      go_loopw [14, 15] (fun v i wr => ∃ k : Nat, k ≤ n ∧ i = .int .i64 k ∧ wr.ownsRow wc.heap.size 3 1 v k (natV (List.range k)) ∧ Below wc.heap.size wc wr) (fun _ i _ => n - (intOf i).toNat)
      case atStart => exact ⟨0, Nat.zero_le _, rfl, World.ownsRow_nil _ _ _ _, Below.refl _ _⟩
      case round =>
        obtain ⟨k, hk, rfl, hown, hb⟩ := hrel
        have HO := Lib.hid hown; have HB := Lib.hid hb
        have hsz := hb.size
        clear hown hb
        by_cases hlt : k < n
        · have hkn : (k : Int) < (n : Int) := by omega
          go_wp2_with (at_builtin; go_must (refine wpList_append_own_at _ rfl _ _ 33 rfl wc.heap.size 3 i0 (.int .i64 0) 1 8 Try.underlying33 HI.out HZ0.out HZ1.out HZ2.out rfl (by decide) _ _ _ rfl (HO.out.alloc _) ⟨wr.heap.size, 0, none⟩ 1 1 [.int .i64 (k : Int)] rfl rfl (cell_one_new _ _ _) (by simp [Value.oneCell']) (by unfold maxLen; omega) (by omega) (by simp; omega) ?_; intro v' w9 hown' hgrow _ _))
          have hown2 : Hid (w9.ownsRow wc.heap.size 3 1 v' (k + 1) (natV (List.range (k + 1)))) := by
            rw [List.range_succ, natV_append]
            exact hown'
          have hb2 : Hid (Below wc.heap.size wc w9) := (HB.out.alloc (by omega) _).grown hgrow (by simp; omega) (fun g hg => (HO.out.lt g hg).1)
          clear hown' hgrow
          go_roundw
          case rel => exact ⟨k + 1, by omega, by go_num, hown2.out, hb2.out⟩
          case measure => simp [intOf] <;> omega
        · obtain rfl : n = k := by omega
          obtain ⟨Aa, ca, rfl, hca⟩ := own_form HO.out
          have hra : Rd enc1 1 wr Aa n ((List.range n).map Int.ofNat) := by
            have ho := HO.out
            rw [natV_enc] at ho
            exact Rd.of_own enc1_len ho (by simp)
          have hpa := all_proved HASK.out
          rw [HLEN.out] at hpa
          have HRA := Lib.hid hra; have HPA := Lib.hid hpa
          have HXr := Lib.hid (HXc.out.below HB.out)
          have HBr := Lib.hid (below_tr HBc.out HB.out)
          clear hra hpa HXc HBc HB HO
          go_wp2_with fail
          refine (Points_c (h.below HBr.out) (by omega)).mono ?_
          rintro e w9 ⟨A9, c9, rfl, hc9, hown, hb⟩
          have HPY := Lib.hid (ProveYes_c (Rd.of_own enc2_len hown HLEN.out) hc9 (HRA.out.below hb) hca (by omega) HPA.out)
          have HX9 := Lib.hid (HXr.out.below hb)
          have HB9 := Lib.hid (below_tr HBr.out hb)
          clear hown hb HXr HBr HRA
          go_wp2_with fail
          refine HPY.out.mono ?_
          rintro e w10 ⟨rfl, hb⟩
          have HX10 := Lib.hid (HX9.out.below hb)
          have HB10 := Lib.hid (below_tr HB9.out hb)
          clear hb HPY HX9 HB9
          go_wp2_with fail
          have hR10 := h.below HB10.out
          have HR10 := Lib.hid hR10
          clear hR10
          go_loopw [16] (fun i wr => ∃ k : Nat, 1 ≤ k ∧ (k ≤ m3 ∨ k = 1) ∧ i = .int .i64 k ∧ Below w10.heap.size w10 wr) (fun i _ => m3 + 1 - (intOf i).toNat)
          case atStart => exact ⟨1, Nat.le_refl _, .inr rfl, rfl, Below.refl _ _⟩
          case round =>
            obtain ⟨k, hk1, hk2, rfl, hb⟩ := hrel
            have HB := Lib.hid hb
            clear hb
            by_cases hlt : k < m3
            · obtain ⟨bx, ox, u, hA, hblx, hu, hcu0⟩ := HX10.out.at1 (i := k - 1) (by omega)
              subst hA
              obtain ⟨bx', ox', v, hA, _, hv, hcv0⟩ := HX10.out.at1 (i := k) hlt
              cases hA
              obtain ⟨hp0, huv, hvn, hnear⟩ := proved_near HPV.out hu (by rw [show k - 1 + 1 = k by omega]; exact hv)
              obtain ⟨U, rfl⟩ : ∃ U : Nat, u = (U : Int) := ⟨u.toNat, by omega⟩
              obtain ⟨V, rfl⟩ : ∃ V : Nat, v = (V : Int) := ⟨v.toNat, by omega⟩
              have hUV : U < V := by omega
              have hVn : V < n := by have := HLEN.out; omega
              have HNEAR := Lib.hid hnear
              have HCU := Lib.hid hcu0; have HCV := Lib.hid hcv0
              obtain ⟨bl, ol, a, hA, hbll, ha, ca1, ca2⟩ := HR10.out.at2 (i := U) (by omega)
              subst hA
              obtain ⟨bl', ol', b, hA, _, hbb, cb1, cb2⟩ := HR10.out.at2 (i := V) hVn
              cases hA
              have hab := HSER.out.mono hUV ha hbb
              have pa := HSER.out.pt ha; have pb := HSER.out.pt hbb
              have HPA2 := Lib.hid pa; have HPB2 := Lib.hid pb
              have HA := Lib.hid ha; have HBB := Lib.hid hbb
              have HCA := Lib.hid (And.intro ca1 ca2); have HCB := Lib.hid (And.intro cb1 cb2)
              have hcu := (HB.out.cell (p := ⟨bx, ox + (k - 1), none⟩) hblx).trans hcu0
              have hcv := (HB.out.cell (p := ⟨bx, ox + k, none⟩) hblx).trans hcv0
              clear hu hv hnear hcu0 hcv0 ha hbb pa pb ca1 ca2 cb1 cb2 hk2
              have wk1 : IntKind.i64.wrap ((k : Int) - 1) = (k : Int) - 1 := wi (by omega)
              have t1 : ((k : Int) - 1).toNat = k - 1 := by omega
              have q0 : (0 : Int) ≤ (k : Int) - 1 := by omega
              have q1 : (k : Int) - 1 < (m3 : Int) := by omega
              have q2 : (0 : Int) ≤ (k : Int) := by omega
              have q3 : (k : Int) < (m3 : Int) := by omega
              have q4 : ¬ (V : Int) ≤ (U : Int) := by omega
              have q5 : ¬ (U : Int) < 0 := by omega
              have q6 : ¬ (n : Int) ≤ (V : Int) := by omega
              have d1 : decide ((V : Int) ≤ (U : Int)) = false := decide_eq_false q4
              have d2 : decide ((U : Int) < 0) = false := decide_eq_false q5
              have d3 : decide ((n : Int) ≤ (V : Int)) = false := decide_eq_false q6
              have d4 : decide (V ≤ U) = false := decide_eq_false (by omega)
              have d5 : decide (n ≤ V) = false := decide_eq_false (by omega)
              go_wp2_with fail
              go_quiet (fail)
              clear d1 d2 d3 d4 d5
              go_wp2_with fail
              go_loopw [17] (fun i wi => ∃ j : Nat, U ≤ j ∧ j ≤ V ∧ i = .int .i64 j ∧ Below w10.heap.size w10 wi) (fun i _ => V - (intOf i).toNat)
              case atStart => exact ⟨U, Nat.le_refl _, by omega, rfl, below_drewN HB.out _⟩
              case round =>
                obtain ⟨j, hj1, hj2, rfl, hb⟩ := hrel
                have HBj := Lib.hid hb
                clear hb HB hcu hcv
                have hcu := (HBj.out.cell (p := ⟨bx, ox + (k - 1), none⟩) hblx).trans HCU.out
                have hcv := (HBj.out.cell (p := ⟨bx, ox + k, none⟩) hblx).trans HCV.out
                by_cases hjV : j < V
                · obtain ⟨bl', ol', z, hA, _, hz, cz1', cz2'⟩ := HR10.out.at2 (i := j) (by omega)
                  cases hA
                  have hnz := HNEAR.out a b z j (by rw [Int.toNat_natCast]; exact HA.out) (by rw [Int.toNat_natCast]; exact HBB.out) (by omega) (by omega) hz
                  have hpz := ptB_iff.1 (HSER.out.pt hz)
                  have hlc := fun (W : World) => Line_c a b z.1 W HPA2.out HPB2.out hab hpz.1
                  have ca1 := (HBj.out.cell (p := ⟨bl, ol + U * 2, none⟩) hbll).trans HCA.out.1
                  have ca2 := (HBj.out.cell (p := ⟨bl, ol + U * 2 + 1, none⟩) hbll).trans HCA.out.2
                  have cb1 := (HBj.out.cell (p := ⟨bl, ol + V * 2, none⟩) hbll).trans HCB.out.1
                  have cb2 := (HBj.out.cell (p := ⟨bl, ol + V * 2 + 1, none⟩) hbll).trans HCB.out.2
                  have cz1 := (HBj.out.cell (p := ⟨bl, ol + j * 2, none⟩) hbll).trans cz1'
                  have cz2 := (HBj.out.cell (p := ⟨bl, ol + j * 2 + 1, none⟩) hbll).trans cz2'
                  generalize lineV a b z.1 = L at hnz hlc
                  have HLC := Lib.hid hlc
                  clear hlc hz cz1' cz2'
                  have wz : IntKind.i64.wrap (z.2 - L) = z.2 - L := wi (by omega)
                  have wns : IntKind.i64.wrap (-s) = -s := wi (by omega)
                  have n1 : ¬ s < z.2 - L := by omega
                  have n2 : ¬ z.2 - L < -s := by omega
                  have jl : (j : Int) < (V : Int) := by omega
                  have jn : (j : Int) < (n : Int) := by omega
                  have j0 : (0 : Int) ≤ (j : Int) := by omega
                  have un : (U : Int) < (n : Int) := by omega
                  have u0 : (0 : Int) ≤ (U : Int) := by omega
                  have vn : (V : Int) < (n : Int) := by omega
                  have v0 : (0 : Int) ≤ (V : Int) := by omega
                  have lbl : bl < wr.heap.size := Nat.lt_of_lt_of_le hbll HBj.out.size
                  have lbx : bx < wr.heap.size := Nat.lt_of_lt_of_le hblx HBj.out.size
                  go_wp2_with fail
                  refine wp_region_ext (by kernel_rfl) (by kernel_rfl) ?_
                  repeat (go_big_quiet_step ((go_at_call 42; exact ext_call (HLC.out _))))
                  refine wpQuiet_nil ?_
                  rintro _ ⟨q, rfl⟩
                  go_wp2
                  go_roundw
                  case rel => exact ⟨j + 1, by omega, by omega, by go_num, below_tr HBj.out q.below⟩
                  case measure => simp [intOf] <;> omega
                · have hj3 : ¬ (j : Int) < (V : Int) := by omega
                  go_wp2_with fail
                  go_roundw
                  case rel => exact ⟨k + 1, by omega, .inl (by omega), by go_num, HBj.out⟩
                  case measure => simp [intOf] <;> omega
            · have hlt2 : ¬ (k : Int) < (m3 : Int) := by omega
              go_wp2_with fail
              refine (wakes_ok _).mono ?_
              rintro e w11 ⟨rfl, hb11⟩
              go_wp2_with fail
              go_ret
              exact ⟨rfl, below_tr (below_tr HB10.out HB.out) hb11⟩
    · have hm2 : 65 < (m : Int) := by omega
      clear hser
      go_enter Try.func11, Try.ntmps11
      go_wp2_with fail
      refine HSF.out.mono ?_
      rintro e w1 ⟨rfl, hb1⟩
      go_wp2_with fail
      refine (wakes_ok _).mono ?_
      rintro e w2 ⟨rfl, hb2⟩
      go_wp2_with fail
      go_ret
      exact ⟨rfl, below_tr hb1 hb2⟩
  · have h0 : serE l ≠ 0 := fun h => hser (serE_zero.1 h)
    have hb0 : (serE l == 0) = false := by simpa using h0
    generalize serE l = q at *
    have HSF := Lib.hid hsf; clear hsf hser
    have HE := Lib.hid h0; clear h0
    go_enter Try.func11, Try.ntmps11
    go_wp2_with fail
    refine HSF.out.mono ?_
    rintro e w1 ⟨rfl, hb1⟩
    go_wp2_with fail
    refine (wakes_ok _).mono ?_
    rintro e w2 ⟨rfl, hb2⟩
    go_wp2_with fail
    go_ret
    exact ⟨rfl, below_tr hb1 hb2⟩
end Go.Proofs.Ytkgoojilmnkgiaa
