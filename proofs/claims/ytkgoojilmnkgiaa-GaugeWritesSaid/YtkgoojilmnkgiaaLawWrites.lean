/- THE WALK of the law GaugeWrites. -/
import Derived.Test.YtkgoojilmnkgiaaRefRd
import Derived.Test.YtkgoojilmnkgiaaLawEach
namespace Go.Proofs.Ytkgoojilmnkgiaa
open Go.RowKit Go.Proofs

theorem conv_rd {A : Option Addr} {n c : Nat} {l : List UInt8} {W : World} (h : Rd encB 1 W A n l) :
    (convert 23 9 (.slice A n c)).run Try.prog W = .ok (str l) W := by
  rcases A with _ | ad
  · obtain ⟨rfl, rfl⟩ := h.none_zero
    rw [run_convert_bytes_string W _ _ 5 none 0 c Try.underlying23 Try.underlying5 Try.underlying9]
    simp [str, Conv.bytesToString]
    rfl
  · obtain rfl := h.len
    exact run_convert_bytes_back (P := Try.prog) W _ _ 5 ad c l Try.underlying23 Try.underlying5 Try.underlying9 (fun j hj => by
      obtain ⟨b, o, x, hA, _, hx, hcl⟩ := h.atB hj
      cases hA
      rw [List.getElem?_eq_getElem hj] at hx; cases hx
      rw [Addr.add_mid]; exact hcl)

set_option maxRecDepth 100000 in
set_option maxHeartbeats 2000000 in
theorem GaugeWrites_w {rs : List Rdg} {bs : List UInt8} {A A' : Option Addr} {n c m c' : Nat} {w : World} (h : Rd encR 4 w A n rs) (h' : Rd encB 1 w A' m bs) (hc : n ≤ c) :
    Calls Try.prog 3 #[.slice A n c, .slice A' m c'] w fun e w' => e = .returned (.bool true) ∧ Below w.heap.size w w' := by
  by_cases hbad : 205 < n ∨ (2000 < m ∧ m ≠ 10001)
  · have hor : (205 < (n : Int)) ∨ (¬ 205 < (n : Int) ∧ 2000 < (m : Int) ∧ ((m : Int) == 10001) = false ∧ ((m : Int) != 10001) = true) := by
      by_cases hn : 205 < n
      · exact .inl (by omega)
      · exact .inr ⟨by omega, by omega, by rw [beq_eq_false_iff_ne]; omega, by rw [bne_iff_ne]; omega⟩
    clear hbad
    rcases hor with hn | ⟨hn, hm, hm2, hm3⟩
    all_goals
      go_enter Try.func3, Try.ntmps3
      go_wp2_with fail
      refine (wakes_ok _).mono ?_
      rintro e w2 ⟨rfl, hb2⟩
      go_wp2_with fail
      go_ret
      exact ⟨rfl, hb2⟩
  · have hn : n ≤ 205 := by omega
    have hm : m ≤ 2000 ∨ m = 10001 := by omega
    clear hbad
    have g1 : ¬ 205 < (n : Int) := by omega
    obtain ⟨i0, hi0, hz0, hz1, hz2⟩ := info_parts infoU8
    have HI := Lib.hid hi0; have HZ0 := Lib.hid hz0; have HZ1 := Lib.hid hz1; have HZ2 := Lib.hid hz2
    have HLEN := Lib.hid h.len; have HLEN' := Lib.hid h'.len
    clear hi0 hz0 hz1 hz2
    go_enter Try.func3, Try.ntmps3
    go_upto_region 1 with fail
    go_cut [25] (fun cc wx => cc = .bool false ∧ wx = w)
    case first =>
      rcases hm with hm | rfl
      · have g2 : ¬ 2000 < (m : Int) := by omega
        go_wp2_with fail
        go_meet
        exact ⟨rfl, rfl⟩
      · go_wp2_with fail
        go_meet
        exact ⟨rfl, rfl⟩
    case rest =>
    obtain ⟨rfl, hwc⟩ := hcut
    rw [hwc]
    clear hwc wc
    go_wp2_with fail
    refine (Readings_c h (by omega)).mono ?_
    rintro e w1 ⟨A1, c1, rfl, hc1, hr1, hb1⟩
    have HB1 := Lib.hid hb1
    have HWR := Lib.hid (Write_c hr1 (by unfold maxLen; omega) hc1)
    clear hb1 hr1
    go_wp2_with fail
    refine HWR.out.mono ?_
    rintro e w2 ⟨⟨A2, m2, c2, rfl, hm2, hz, hok⟩, hb⟩
    have HB2 := Lib.hid (below_tr HB1.out hb)
    clear hb HWR
    have h2 := h.below HB2.out
    have hll : RdLL (w2.alloc (.cells #[.slice A n c] 22)) (some ⟨w2.heap.size, 0, none⟩) 1 [⟨A, n, c, rs⟩] := by
      refine ⟨Rd.of_blk encL_len (heap_alloc_new w2 _) (fun (j : Nat) (v : Value) hv => by simpa [encL] using hv) rfl, fun i x hx => ?_⟩
      have hxe : x = ⟨A, n, c, rs⟩ := by have := List.mem_of_getElem? hx; simpa using this
      subst hxe
      exact ⟨h2.below ((Below.refl _ w2).alloc (Nat.le_refl _) _), (show n ≤ maxLen by unfold maxLen; omega), hc⟩
    have hfc := Fault_c (c := 1) hll (by unfold maxLen; omega)
    rw [errL_one HLEN.out] at hfc
    obtain ⟨E, hE⟩ : ∃ E, E = errR rs := ⟨_, rfl⟩
    have HE := Lib.hid hE
    rw [← hE] at hfc hz hok ⊢
    have HFC := Lib.hid hfc; have HZ := Lib.hid hz; have HOK := Lib.hid hok
    clear hfc hll hE hz hok h2
    go_wp2_with fail
    refine HFC.out.mono ?_
    rintro e w3 ⟨rfl, hb3⟩
    have hb23 : Below w2.heap.size w2 w3 := below_tr ((Below.refl _ w2).alloc (Nat.le_refl _) _) hb3
    have HB3 := Lib.hid (below_tr HB2.out hb23)
    have HB23 := Lib.hid hb23
    clear hb3 hb23 HFC
    go_upto_if 37 with fail
    go_cut [100] (fun _ wx => Below w.heap.size w wx)
    case first =>
      by_cases he : E = 0
      · subst he
        obtain ⟨hmn, hown⟩ := HOK.out rfl
        have hrb := (Rd.of_own encB_len hown (by rw [bytesOf_len, HLEN.out, hmn])).below HB23.out
        have hall := (errR_zero.1 HE.out.symm).2
        have HCV := Lib.hid (fun W (hW : Below w3.heap.size w3 W) => conv_rd (c := c2) (hrb.below hW))
        have HREC := Lib.hid (fun W (hW : Below w3.heap.size w3 W) => rrecords_c (c := c) ((h.below HB3.out).below hW) (by omega) hall)
        clear hown hrb hall hmn HOK HZ
        obtain ⟨S, hS⟩ : ∃ S, S = bytesOf rs := ⟨_, rfl⟩
        rw [← hS] at HCV HREC
        have q1 := fun W => str_neq S S W
        rw [decide_eq_true (rfl : S = S)] at q1
        have q2 := fun W => str_guard S S .neq (.tmp 50) (.tmp 52) W
        have q3 := HCV.out _ (Below.refl _ _).drew
        clear hS
        go_wp2_with fail
        first | (go_region_with ((go_at_call 21; refine (HREC.out _ (by first | exact Below.refl _ _ | exact (Below.refl _ _).drew)).mono ?_; rintro e w4 ⟨rfl, hb4⟩; have hb5 : Below w3.heap.size w3 w4 := below_tr (Below.refl _ w3).drew hb4; have q4 := HCV.out _ hb5))) | fail
        all_goals
          go_wp2_with fail
          go_meet
          exact below_tr HB3.out hb5
      · have e1 : (E == 0) = false := by rw [beq_eq_false_iff_ne]; exact he
        have e2 : (E != 0) = true := by rw [bne_iff_ne]; exact he
        obtain rfl := HZ.out he
        go_wp2_with fail
        go_meet
        exact HB3.out
    case rest =>
    have HBC := Lib.hid hcut
    clear hcut HOK HZ HE HB3 HB23 HB2 HB1 hc1 hm2
    go_wp2_with (at_builtin; go_must (refine wpList_append_rd rfl _ _ 23 rfl wc.heap.size 5 i0 (.int .u8 0) 1 1 Try.underlying23 HI.out HZ0.out HZ1.out HZ2.out rfl (by decide) _ _ _ rfl (own_empty wc 5 1) encB_len oneB A' m c' bs rfl ((h'.below HBC.out).below ((Below.refl _ wc).alloc (Nat.le_refl _) _)) (by unfold maxLen; omega) (by omega) (by simp) ?_; intro v1 w4 hown hgrow))
    have HB4 : Hid (Below w.heap.size w w4) := Lib.hid (below_tr HBC.out (((Below.refl _ wc).alloc (Nat.le_refl _) _).grown hgrow (by simp) (fun g hg => ((own_empty wc 5 1).lt g hg).1)))
    rw [Nat.zero_add, List.nil_append] at hown
    obtain ⟨A4, c4, rfl, hc4⟩ := own_form hown
    have HRD4 := Lib.hid (Rd.of_own encB_len hown HLEN'.out)
    clear hown hgrow HBC
    rcases hm with hm | rfl
    · have g3 : ¬ 10000 < (m : Int) := by omega
      have HR := Lib.hid (Read_c HRD4.out hc4 (by omega))
      go_wp2_with fail
      refine HR.out.mono ?_
      rintro e w5 ⟨A5, n5, c5, A6, n6, c6, rfl, hc5, hc6, hr5, hr6, hb⟩
      have HB5 := Lib.hid (below_tr HB4.out hb)
      have HR5 := Lib.hid hr5; have HR6 := Lib.hid hr6
      have q1 := conv_rd (c := c') (h'.below HB5.out)
      clear hb hr5 hr6 HR HRD4
      have HL5 := Lib.hid HR5.out.len; have HL6 := Lib.hid HR6.out.len
      go_wp2_with fail
      refine (rread_c bs _ (by rw [HLEN'.out]; omega)).mono ?_
      rintro e w6 ⟨A7, n7, c7, A8, n8, c8, rfl, hc7, hc8, hn7, hn8, hr7, hr8, hb⟩
      have HB6 := Lib.hid (below_tr HB5.out hb)
      have HR5' := Lib.hid (HR5.out.below hb); have HR6' := Lib.hid (HR6.out.below hb)
      have HR7 := Lib.hid hr7; have HR8 := Lib.hid hr8
      clear hb hr7 hr8 q1 HR5 HR6
      have hn5 : n5 = n7 := by rw [← HL5.out]; exact HR7.out.len
      have hn6 : n6 = n8 := by rw [← HL6.out]; exact HR8.out.len
      have HN5 := Lib.hid hn5; have HN6 := Lib.hid hn6
      clear hn5 hn6
      go_wp2_with fail
      refine (Readings_c HR7.out (by omega)).mono ?_
      rintro e w7 ⟨A9, c9, rfl, hc9, hr9, hb⟩
      have HB7 := Lib.hid (below_tr HB6.out hb)
      have hsm := same_c (c := c5) (c' := c9) (HR5'.out.below hb) hr9 (by have := HN5.out; omega)
      rw [decide_eq_true rfl] at hsm
      have HSM := Lib.hid hsm
      have HR6'' := Lib.hid (HR6'.out.below hb); have HR8'' := Lib.hid (HR8.out.below hb)
      clear hb hr9 hsm HR5' HR6' HR7 HR8
      go_wp2_with fail
      refine HSM.out.mono ?_
      rintro e w8 ⟨rfl, hb⟩
      have HB8 := Lib.hid (below_tr HB7.out hb)
      have hin := ints_c (c := c6) (c' := c8) (HR6''.out.below hb) (HR8''.out.below hb) (by have := HN6.out; omega)
      rw [decide_eq_true rfl] at hin
      have HIN := Lib.hid hin
      clear hb hin
      go_wp2_with fail
      refine HIN.out.mono ?_
      rintro e w9 ⟨rfl, hb⟩
      have HB9 := Lib.hid (below_tr HB8.out hb)
      clear hb
      go_wp2_with fail
      refine (wakes_ok _).mono ?_
      rintro e w10 ⟨rfl, hb10⟩
      go_wp2_with fail
      go_ret
      exact ⟨rfl, below_tr HB9.out hb10⟩
    · have g3 : (10000 : Int) < ((10001 : Nat) : Int) := by omega
      go_wp2_with fail
      refine (Read_long _ _ _ _ (by omega)).mono ?_
      rintro e w5 ⟨rfl, hb⟩
      have HB5 := Lib.hid (below_tr HB4.out hb)
      clear hb
      go_wp2_with fail
      refine (wakes_ok _).mono ?_
      rintro e w10 ⟨rfl, hb10⟩
      go_wp2_with fail
      go_ret
      exact ⟨rfl, below_tr HB5.out hb10⟩
end Go.Proofs.Ytkgoojilmnkgiaa
