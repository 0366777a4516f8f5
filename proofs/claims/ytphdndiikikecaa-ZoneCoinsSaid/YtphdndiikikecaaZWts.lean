/- THE CONTRACT of the reference's Weights. -/
import Derived.Test.YtphdndiikikecaaZReady
namespace Go.Proofs.Ytphdndiikikecaa
open Go.RowKit Go.Proofs
attribute [local go_sem ↓] Go.wp_at_zero Go.wp_at_succ

theorem wts_take {v : Vly} {k : Nat} {p : Par} (hp : v.pars[k]? = some p) : (wtsL v).take (k + 1) = (wtsL v).take k ++ [if p.ins then p.worth * dTo v.sls (endsT v true) (k : Int) v.sls.length else 0] := by
  have hk := lt_of_get hp
  have hd : (dangs v (endsT v true))[k]? = some (dTo v.sls (endsT v true) (k : Int) v.sls.length) := by simp [dangs, hk]
  rw [List.take_add_one, wtsL_get hp hd, Int.mul_comm]; rfl

set_option maxRecDepth 100000 in
set_option maxHeartbeats 2000000 in
theorem Weights_c {v : Vly} {PA SA : Option Addr} {pn pc sn sc : Nat} {w : World} (hok : VOk v) (h : RdV w PA pn SA sn v) :
    Calls Try.prog 28 #[.agg #[.slice PA pn pc, .slice SA sn sc, .int .i64 v.s0, .int .i64 v.s1, .int .i64 v.s2]] w fun e w' => ∃ A c, e = .returned (.slice A pn c) ∧ Rd enc1 1 w' A pn (wtsL v) ∧ Below w.heap.size w w' := by
  obtain ⟨i0, hi0, hz0, hz1, hz2⟩ := info_parts infoZ
  have HI := Lib.hid hi0; have HZ0 := Lib.hid hz0; have HZ1 := Lib.hid hz1; have HZ2 := Lib.hid hz2
  clear hi0 hz0 hz1 hz2
  have hlp := h.pars.len; have hls := h.sls.len
  have hpn := hok.pn; have hsn := hok.sn
  have HLP := Lib.hid hlp
  have hb0 : Below w.heap.size w (w.alloc (.cells (vA PA pn pc SA sn sc v) 26)) := (Below.refl _ w).alloc (Nat.le_refl _) _
  have HB := Lib.hid hb0
  have HX := Lib.hid (Blk.new w 26 (vA PA pn pc SA sn sc v))
  have HV := Lib.hid h
  have HWT := Lib.hid (fun k p => @wts_take v k p)
  have HPB := Lib.hid (fun (k : Nat) (p : Par) (hp : v.pars[k]? = some p) => (hok.parcel hp).1)
  have HDB := Lib.hid (fun k : Nat => dTo_bd (sls := v.sls) (tr := endsT v true) (fun k s hs => by have := (hok.slide hs).2.2.1; omega) (k : Int) v.sls.length)
  have HEN := Lib.hid (fun W (hW : RdV W PA pn SA sn v) => Ends_c true (pc := pc) (sc := sc) hW (by omega))
  have HDG := Lib.hid (fun W (p : Int) TA tc (hW : RdV W PA pn SA sn v) (hT : Rd enc1 1 W TA sn (endsT v true)) => Danger_c (pc := pc) (sc := sc) (tc := tc) p hok (endsT_fits hok true) hW hT)
  obtain ⟨T, hT⟩ : ∃ T, T = wtsL v := ⟨_, rfl⟩
  have HTL := Lib.hid (show T.length = pn by rw [hT, wtsL_len]; exact hlp)
  obtain ⟨D, hD⟩ : ∃ D : Nat → Int, D = fun k : Nat => dTo v.sls (endsT v true) (k : Int) v.sls.length := ⟨_, rfl⟩
  have HDE := Lib.hid (fun k : Nat => show dTo v.sls (endsT v true) (k : Int) v.sls.length = D k by rw [hD])
  rw [← hT] at HWT ⊢
  have hpl : pn ≤ 12 := by omega
  have hsl : sn ≤ 10 := by omega
  have HSL := Lib.hid hsn
  clear h hT hD hb0 hok hlp hls hpn hsn hsl
  go_enter Try.func28, Try.ntmps28
  go_wp2_with fail
  go_loopw [3, 4] (fun o i wr => ∃ k : Nat, k ≤ pn ∧ i = .int .i64 k ∧ wr.ownsRow (w.heap.size + 1) 3 1 o k ((T.take k).flatMap enc1) ∧ Blk wr w.heap.size 26 (vA PA pn pc SA sn sc v) ∧ Below w.heap.size w wr ∧ w.heap.size + 1 ≤ wr.heap.size) (fun _ i _ => pn - (intOf i).toNat)
  case atStart => exact ⟨0, Nat.zero_le _, rfl, World.ownsRow_nil _ _ _ _, HX.out, HB.out, by simp⟩
  case round =>
    obtain ⟨k, hk, rfl, hown, hbx, hb, hsz⟩ := hrel
    have HO := Lib.hid hown; have HBX := Lib.hid hbx; have HB2 := Lib.hid hb
    have HSW := Lib.hid (SW.refl hbx)
    obtain ⟨c0, c1, c2, c3, c4⟩ := HSW.out.cells
    clear hown hbx
    by_cases hlt : k < pn
    · obtain ⟨b, o, x, hA, hblt, hx, h0, h1, h2, h3⟩ := (HV.out.pars.below hb).atP hlt
      subst hA
      have HTK := Lib.hid (HWT.out k x hx)
      rw [HDE.out] at HTK
      have hpb := HPB.out k x hx
      have hdb := HDB.out k
      rw [HDE.out] at hdb
      have hkn : (k : Int) < (pn : Int) := by omega
      have hk0 : (0 : Int) ≤ (k : Int) := by omega
      have HS := Lib.hid (fun W (hW : SW wr w.heap.size (vA (some ⟨b, o, none⟩) pn pc SA sn sc v) W) => And.intro hW.cells ((hW.1.cell (p := ⟨b, o + k * 4, none⟩) hblt).trans h0))
      have HEK := HEN; have HDK := HDG
      cases hins : x.ins
      · rw [hins] at h3
        rw [hins, if_neg (by simp)] at HTK
        clear hx hb hins
        go_wp2_with (at_builtin; go_must (refine wpList_append_own_at _ rfl _ _ 39 rfl (w.heap.size + 1) 3 i0 _ 1 8 Try.underlying39 HI.out HZ0.out HZ1.out HZ2.out rfl (by decide) _ _ _ rfl (HO.out.alloc _) ⟨wr.heap.size, 0, none⟩ 1 1 [.int .i64 0] rfl rfl (fun j u hj => World.news_of_block (cs := #[.int .i64 0]) (t := 3) (fr := (0, 0)) (heap_alloc_new wr _) j u hj) (by simp [Value.oneCell']) (by unfold maxLen; omega) (by omega) (by simp; omega) ?_; intro v' w1 hown' hgrow _ _))
        have H1 : Hid (w1.ownsRow (w.heap.size + 1) 3 1 v' (k + 1) ((T.take (k + 1)).flatMap enc1)) := by
          have := hown'
          rw [HTK.out, List.flatMap_append]
          exact this
        have H2 : Hid (Below w.heap.size w w1) := (HB2.out.alloc HB2.out.size _).grown hgrow (by simp; omega) (fun g hg => by have := (HO.out.lt g hg).1; omega)
        have H3 := Lib.hid ((HBX.out.alloc (.cells #[.int .i64 0] 3)).grown hgrow (fun e => own_ge HO.out (by omega : w.heap.size < w.heap.size + 1) e))
        have hsz1 : w.heap.size + 1 ≤ w1.heap.size := by have := hgrow.size; simp at this; omega
        clear hown' hgrow
        go_wp2_with fail
        go_roundw
        case rel => exact ⟨k + 1, by omega, by go_num, H1.out, H3.out, H2.out, hsz1⟩
        case measure => simp [intOf] <;> omega
      · rw [hins] at h3
        rw [hins, if_pos rfl] at HTK
        generalize hDk : D k = d at HTK hdb
        have hls2 := HSL.out
        have hm : 0 ≤ x.worth * d ∧ x.worth * d ≤ 1000000000 := by
          refine ⟨Int.mul_nonneg hpb.1 hdb.1, ?_⟩
          calc x.worth * d ≤ 100000 * d := Int.mul_le_mul_of_nonneg_right hpb.2 hdb.1
            _ ≤ 100000 * 10000 := Int.mul_le_mul_of_nonneg_left (by omega) (by omega)
        have hw1 : IntKind.i64.wrap (x.worth * d) = x.worth * d := wi (by omega)
        clear hx hb hins
        go_wp2_with fail
        go_region_held3 (fun w' => (w'.cell? ⟨w.heap.size, 0, none⟩ = some (.slice (some ⟨b, o, none⟩) pn pc) ∧ w'.cell? ⟨w.heap.size, 1, none⟩ = some (.slice SA sn sc) ∧ w'.cell? ⟨w.heap.size, 2, none⟩ = some (.int .i64 v.s0) ∧ w'.cell? ⟨w.heap.size, 3, none⟩ = some (.int .i64 v.s1) ∧ w'.cell? ⟨w.heap.size, 4, none⟩ = some (.int .i64 v.s2)) ∧ w'.cell? ⟨b, o + k * 4, none⟩ = some (.int .i64 x.worth))
          (first | exact HS.out _ HSW.out.drew | exact HS.out _ HSW.out | exact HS.out _ hs5 | assumption)
          (first
            | (go_at_call 23; go_must (with_reducible refine (HEN.out _ (by exact HV.out.below (below_tr HB2.out HSW.out.drew.bel))).mono ?_; rintro e w5 ⟨TA, tc, rfl, hT, hb5⟩; have hs5 := HSW.out.drew.below hb5))
            | (go_at_call 59; with_reducible refine (HDG.out _ _ _ _ (HV.out.below (below_tr HB2.out hs5.bel)) hT).mono ?_; rintro e w6 ⟨rfl, hb6⟩; replace hs5 := hs5.below hb6; rw [HDE.out, hDk]))
        all_goals
          have HO6 := Lib.hid (own_mono HO.out hs5.bel)
          have HB6 := Lib.hid (below_tr HB2.out hs5.bel)
          have HBX6 := Lib.hid hs5.2
          clear hs5 hb5 hb6 hT c0 c1 c2 c3 c4 h0 h1 h2 h3 hDk
          go_wp2_with (at_builtin; go_must (refine wpList_append_own_at _ rfl _ _ 39 rfl (w.heap.size + 1) 3 i0 _ 1 8 Try.underlying39 HI.out HZ0.out HZ1.out HZ2.out rfl (by decide) _ _ _ rfl (HO6.out.alloc _) ⟨w6.heap.size, 0, none⟩ 1 1 [.int .i64 (x.worth * d)] rfl rfl (fun j u hj => World.news_of_block (cs := #[.int .i64 (x.worth * d)]) (t := 3) (fr := (0, 0)) (heap_alloc_new w6 _) j u hj) (by simp [Value.oneCell']) (by unfold maxLen; omega) (by omega) (by have := HO6.out; have := HB6.out.size; have := HB2.out.size; simp; omega) ?_; intro v' w1 hown' hgrow _ _))
          have H1 : Hid (w1.ownsRow (w.heap.size + 1) 3 1 v' (k + 1) ((T.take (k + 1)).flatMap enc1)) := by
            have := hown'
            rw [HTK.out, List.flatMap_append]
            exact this
          have H2 : Hid (Below w.heap.size w w1) := (HB6.out.alloc HB6.out.size _).grown hgrow (by simp; have := HB6.out.size; omega) (fun g hg => by have := (HO6.out.lt g hg).1; omega)
          have H3 := Lib.hid ((HBX6.out.alloc (.cells #[.int .i64 (x.worth * d)] 3)).grown hgrow (fun e => own_ge HO6.out (by omega : w.heap.size < w.heap.size + 1) e))
          have hsz1 : w.heap.size + 1 ≤ w1.heap.size := H3.out.lt
          clear hown' hgrow
          go_wp2_with fail
          go_roundw
          case rel => exact ⟨k + 1, by omega, by go_num, H1.out, H3.out, H2.out, hsz1⟩
          case measure => simp [intOf] <;> omega
    · obtain rfl : k = pn := by omega
      have h5 := HO.out
      rw [List.take_of_length_le (by rw [HTL.out]; exact Nat.le_refl _)] at h5
      obtain ⟨A', c', rfl, hc'⟩ := own_form h5
      have H5 := Lib.hid (Rd.of_own enc1_len h5 HTL.out)
      clear h5 hb
      go_wp2_with fail
      go_ret
      exact ⟨A', c', rfl, H5.out, HB2.out⟩
end Go.Proofs.Ytphdndiikikecaa
