/- THE CONTRACT of the reference's Pay. -/
import Derived.Test.YtphdndiikikecaaZPay
import Derived.Test.YtphdndiikikecaaZEv
import Derived.Test.YtphdndiikikecaaZRShare
set_option linter.unusedVariables false
set_option linter.unusedSimpArgs false
namespace Go.Proofs.Ytphdndiikikecaa
open Go.RowKit Go.Proofs
attribute [local go_sem ↓] Go.wp_at_zero Go.wp_at_succ

set_option maxRecDepth 100000 in
set_option maxHeartbeats 2000000 in
theorem rPay_c {v : Vly} {PA SA : Option Addr} {pn pc sn sc q M : Nat} {c : Int} {s : Sli} {w : World} (hok : VOk v) (h : RdV w PA pn SA sn v) (hs : v.sls[q]? = some s) (hM : M ≤ s.n) (hcb : 0 ≤ c ∧ c ≤ 100000000) :
    Calls Try.prog 45 #[.agg #[.slice PA pn pc, .slice SA sn sc, .int .i64 v.s0, .int .i64 v.s1, .int .i64 v.s2], .int .i64 (q : Int), .int .i64 (M : Int), .int .i64 c] w
      fun e w' => ∃ A d, e = .returned (.slice A pn d) ∧ Rd enc1 1 w' A pn (paidL c (dueL v.pars (s.way.take M))) ∧ Below w.heap.size w w' := by
  obtain ⟨i0, hi0, hz0, hz1, hz2⟩ := info_parts infoZ
  have HI := Lib.hid hi0; have HZ0 := Lib.hid hz0; have HZ1 := Lib.hid hz1; have HZ2 := Lib.hid hz2
  clear hi0 hz0 hz1 hz2
  have hlp := h.pars.len; have hls := h.sls.len
  have hpn := hok.pn; have hsn := hok.sn
  have HLP := Lib.hid hlp
  have hql := lt_of_get hs
  have hwy := h.way q s hs
  have hwl := hwy.1.len
  have hsl := hok.slide hs
  have hwn := wayTo_len hsl.1
  have hs12 : s.n ≤ 12 := by omega
  have hb0 : Below w.heap.size w (w.alloc (.cells (vA PA pn pc SA sn sc v) 26)) := (Below.refl _ w).alloc (Nat.le_refl _) _
  have HB := Lib.hid hb0
  have HX := Lib.hid (Blk.new w 26 (vA PA pn pc SA sn sc v))
  have HV := Lib.hid h; have HOK := Lib.hid hok; have HS := Lib.hid hs
  obtain ⟨L, hL⟩ : ∃ L, L = dueL v.pars (s.way.take M) := ⟨_, rfl⟩
  have HLL := Lib.hid (show L.length = pn by rw [hL, dueL_len]; exact hlp)
  have HLB := Lib.hid (show ∀ x ∈ L, 0 ≤ x ∧ x ≤ 1000000000 from fun x hx => by rw [hL] at hx; have := dueL_bd hok x hx; omega)
  have HTT := Lib.hid (fun (k : Nat) (p : Par) (hp : v.pars[k]? = some p) => show L.take (k + 1) = L.take k ++ [if p.ins = true ∧ (k : Int) ∈ s.way.take M then p.worth else 0] from by rw [hL]; exact dueL_take hp)
  have hpl : paidL c L = if sumL L ≤ c then L else shareL c L := rfl
  have HPL := Lib.hid hpl
  rw [← hL]
  have hqn : (q : Int) < (sn : Int) := by omega
  have hq0 : (0 : Int) ≤ (q : Int) := by omega
  have hp12 : pn ≤ 12 := by omega
  clear h hb0 hok hs hlp hls hpn hsn hql hwy hwl hsl hwn hL hpl
  go_enter Try.func45, Try.ntmps45
  go_wp2_with fail
  go_loopw [9, 10, 11] (fun o i _ wr => ∃ k : Nat, k ≤ pn ∧ i = .int .i64 k ∧ wr.ownsRow (w.heap.size + 1) 3 1 o k ((L.take k).flatMap enc1) ∧ Blk wr w.heap.size 26 (vA PA pn pc SA sn sc v) ∧ Below w.heap.size w wr ∧ w.heap.size + 1 ≤ wr.heap.size) (fun _ i _ _ => pn - (intOf i).toNat)
  case atStart => exact ⟨0, Nat.zero_le _, rfl, World.ownsRow_nil _ _ _ _, HX.out, HB.out, by simp⟩
  case round =>
    obtain ⟨k, hk, rfl, hown, hbx, hb, hsz⟩ := hrel
    have HOa := Lib.hid hown; have HXa := Lib.hid hbx; have HBa := Lib.hid hb
    have c0 := hbx.cell 0
    have c1 := hbx.cell 1
    simp at c0 c1
    by_cases hlt : k < pn
    · obtain ⟨b, o, x, hA, hblt, hx, h0, h1, h2, h3⟩ := (HV.out.pars.below hb).atP hlt
      subst hA
      have htk := HTT.out k x hx
      have hkn : (k : Int) < (pn : Int) := by omega
      have hk0 : (0 : Int) ≤ (k : Int) := by omega
      clear hown hbx hx
      cases hins : x.ins
      · rw [hins] at htk h3
        rw [if_neg (by simp)] at htk
        have HTK := Lib.hid htk
        clear htk hins hb
        go_wp2_with (at_builtin; go_must (refine wpList_append_own_at _ rfl _ _ 39 rfl (w.heap.size + 1) 3 i0 _ 1 8 Try.underlying39 HI.out HZ0.out HZ1.out HZ2.out rfl (by decide) _ _ _ rfl (HOa.out.alloc _) ⟨wr.heap.size, 0, none⟩ 1 1 [.int .i64 0] rfl rfl (fun j u hj => World.news_of_block (cs := #[.int .i64 0]) (t := 3) (fr := (0, 0)) (heap_alloc_new wr _) j u hj) (by simp [Value.oneCell']) (by unfold maxLen; omega) (by omega) (by simp; omega) ?_; intro v' w1 hown' hgrow _ _))
        have H1 : Hid (w1.ownsRow (w.heap.size + 1) 3 1 v' (k + 1) ((L.take (k + 1)).flatMap enc1)) := by
          rw [HTK.out, List.flatMap_append]
          exact hown'
        have H2 : Hid (Below w.heap.size w w1) := (HBa.out.alloc HBa.out.size _).grown hgrow (by simp; omega) (fun g hg => by have := (HOa.out.lt g hg).1; omega)
        have H3 := Lib.hid ((HXa.out.alloc (.cells #[.int .i64 0] 3)).grown hgrow (fun e => own_ge HOa.out (by omega : w.heap.size < w.heap.size + 1) e))
        have hsz1 : w.heap.size + 1 ≤ w1.heap.size := by have := hgrow.size; simp at this; omega
        clear hown' hgrow
        go_wp2_with fail
        go_roundw
        case rel => exact ⟨k + 1, by omega, by go_num, H1.out, H3.out, H2.out, hsz1⟩
        case measure => simp [intOf] <;> omega
      · rw [hins] at htk h3
        obtain ⟨b2, o2, y, hA2, hblt2, hy, g0, g1, g2, g3⟩ := (HV.out.sls.below hb).atS (show q < sn by omega)
        rw [HS.out] at hy; cases hy
        subst hA2
        have hwd := ((HV.out.below hb).way q s HS.out).1
        have HHT := Lib.hid (Hits_c (c := s.c) (m := M) s.rate s.lo s.hi (k : Int) hwd (by omega) (by omega))
        by_cases hin : (k : Int) ∈ s.way.take M
        · rw [if_pos ⟨rfl, hin⟩] at htk
          rw [decide_eq_true hin] at HHT
          have HTK := Lib.hid htk
          clear htk hins hin hwd
          go_wp2_with fail
          refine HHT.out.mono ?_
          rintro e w5 ⟨rfl, hb5⟩
          have HX5 := HXa.out.below hb5 HXa.out.lt
          have hsz5 : w.heap.size + 1 ≤ w5.heap.size := HX5.lt
          replace HOa := Lib.hid (own_mono HOa.out hb5)
          replace HBa := Lib.hid (below_tr HBa.out hb5)
          replace HXa := Lib.hid HX5
          have k0 := HX5.cell 0
          have e0 := (hb5.cell (p := ⟨b, o + k * 4, none⟩) hblt).trans h0
          simp at k0
          clear hb5 HX5 hb c0 c1 h0 h1 h2 h3 g0 g1 g2 g3
          go_wp2_with (at_builtin; go_must (refine wpList_append_own_at _ rfl _ _ 39 rfl (w.heap.size + 1) 3 i0 _ 1 8 Try.underlying39 HI.out HZ0.out HZ1.out HZ2.out rfl (by decide) _ _ _ rfl (HOa.out.alloc _) ⟨w5.heap.size, 0, none⟩ 1 1 [.int .i64 x.worth] rfl rfl (fun j u hj => World.news_of_block (cs := #[.int .i64 x.worth]) (t := 3) (fr := (0, 0)) (heap_alloc_new w5 _) j u hj) (by simp [Value.oneCell']) (by unfold maxLen; omega) (by omega) (by simp; omega) ?_; intro v' w1 hown' hgrow _ _))
          have H1 : Hid (w1.ownsRow (w.heap.size + 1) 3 1 v' (k + 1) ((L.take (k + 1)).flatMap enc1)) := by
            rw [HTK.out, List.flatMap_append]
            exact hown'
          have H2 : Hid (Below w.heap.size w w1) := (HBa.out.alloc HBa.out.size _).grown hgrow (by simp; omega) (fun g hg => by have := (HOa.out.lt g hg).1; omega)
          have H3 := Lib.hid ((HXa.out.alloc (.cells #[.int .i64 x.worth] 3)).grown hgrow (fun e => own_ge HOa.out (by omega : w.heap.size < w.heap.size + 1) e))
          have hsz1 : w.heap.size + 1 ≤ w1.heap.size := by have := hgrow.size; simp at this; omega
          clear hown' hgrow
          go_wp2_with fail
          go_roundw
          case rel => exact ⟨k + 1, by omega, by go_num, H1.out, H3.out, H2.out, hsz1⟩
          case measure => simp [intOf] <;> omega
        · rw [if_neg (fun hh => hin hh.2)] at htk
          rw [decide_eq_false hin] at HHT
          have HTK := Lib.hid htk
          clear htk hins hin hwd
          go_wp2_with fail
          refine HHT.out.mono ?_
          rintro e w5 ⟨rfl, hb5⟩
          have HX5 := HXa.out.below hb5 HXa.out.lt
          have hsz5 : w.heap.size + 1 ≤ w5.heap.size := HX5.lt
          replace HOa := Lib.hid (own_mono HOa.out hb5)
          replace HBa := Lib.hid (below_tr HBa.out hb5)
          replace HXa := Lib.hid HX5
          clear hb5 HX5 hb c0 c1 h0 h1 h2 h3 g0 g1 g2 g3
          go_wp2_with (at_builtin; go_must (refine wpList_append_own_at _ rfl _ _ 39 rfl (w.heap.size + 1) 3 i0 _ 1 8 Try.underlying39 HI.out HZ0.out HZ1.out HZ2.out rfl (by decide) _ _ _ rfl (HOa.out.alloc _) ⟨w5.heap.size, 0, none⟩ 1 1 [.int .i64 0] rfl rfl (fun j u hj => World.news_of_block (cs := #[.int .i64 0]) (t := 3) (fr := (0, 0)) (heap_alloc_new w5 _) j u hj) (by simp [Value.oneCell']) (by unfold maxLen; omega) (by omega) (by simp; omega) ?_; intro v' w1 hown' hgrow _ _))
          have H1 : Hid (w1.ownsRow (w.heap.size + 1) 3 1 v' (k + 1) ((L.take (k + 1)).flatMap enc1)) := by
            rw [HTK.out, List.flatMap_append]
            exact hown'
          have H2 : Hid (Below w.heap.size w w1) := (HBa.out.alloc HBa.out.size _).grown hgrow (by simp; omega) (fun g hg => by have := (HOa.out.lt g hg).1; omega)
          have H3 := Lib.hid ((HXa.out.alloc (.cells #[.int .i64 0] 3)).grown hgrow (fun e => own_ge HOa.out (by omega : w.heap.size < w.heap.size + 1) e))
          have hsz1 : w.heap.size + 1 ≤ w1.heap.size := by have := hgrow.size; simp at this; omega
          clear hown' hgrow
          go_wp2_with fail
          go_roundw
          case rel => exact ⟨k + 1, by omega, by go_num, H1.out, H3.out, H2.out, hsz1⟩
          case measure => simp [intOf] <;> omega
    · obtain rfl : k = pn := by omega
      have hfin := hown
      rw [List.take_of_length_le (by have := HLL.out; omega)] at hfin
      obtain ⟨A', c', rfl, hc'⟩ := own_form hfin
      have HR := Lib.hid (Rd.of_own enc1_len hfin HLL.out)
      have HSM := Lib.hid (rsum_c (c := c') HR.out (by omega) (SumOk.of (M := 1000000000) (by omega) HLB.out (by have := HLL.out; omega)))
      clear hown hbx hb hfin
      by_cases hle : sumL L ≤ c
      · have hd : decide (c < sumL L) = false := decide_eq_false (by omega)
        have HPE := Lib.hid (show paidL c L = L by rw [HPL.out, if_pos hle])
        obtain ⟨Z, hZ⟩ : ∃ Z, Z = sumL L := ⟨_, rfl⟩
        rw [← hZ] at HSM hd
        clear hle hZ
        go_wp2_with (go_at_call 27; refine HSM.out.mono ?_; rintro e w5 ⟨rfl, rfl⟩)
        go_ret
        exact ⟨_, _, rfl, by rw [HPE.out]; exact HR.out, HBa.out⟩
      · have hd : decide (c < sumL L) = true := decide_eq_true (by omega)
        have HPE := Lib.hid (show paidL c L = shareL c L by rw [HPL.out, if_neg hle])
        have HSH := Lib.hid (rshare_c (c := c') HR.out (by omega) hcb HLB.out (by omega))
        obtain ⟨Z, hZ⟩ : ∃ Z, Z = sumL L := ⟨_, rfl⟩
        rw [← hZ] at HSM hd
        clear hle hZ
        go_wp2_with (first
          | (go_at_call 27; refine HSM.out.mono ?_; rintro e w5 ⟨rfl, rfl⟩)
          | (go_at_call 30; refine HSH.out.mono ?_; rintro e w5 ⟨A5, c5, rfl, hr5, hb5⟩))
        go_ret
        exact ⟨_, _, rfl, by rw [HPE.out]; exact hr5, below_tr HBa.out hb5⟩
end Go.Proofs.Ytphdndiikikecaa
