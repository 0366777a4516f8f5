/- THE WALK of the law GaugeClocks. -/
import Derived.Test.YtkgoojilmnkgiaaClockLaw
import Derived.Test.YtkgoojilmnkgiaaRight
import Derived.Test.YtkgoojilmnkgiaaRefMarks
import Derived.Test.YtkgoojilmnkgiaaConvMark
import Derived.Test.YtkgoojilmnkgiaaWakes
import Derived.Deep.DeepCutAuto
namespace Go.Proofs.Ytkgoojilmnkgiaa
open Go.RowKit Go.Proofs
attribute [local go_sem ↓] Go.wp_at_zero Go.wp_at_succ

theorem RightOk_c {l : List (Int × Int)} {A : Option Addr} {n c : Nat} {clock : Int} {w : World} (h : Rd enc2 2 w A n l) (hok : MarksOk l) (hc : n ≤ c) (h0 : 0 ≤ clock) (h1 : clock ≤ 1000000000) :
    Calls Try.prog 26 #[.slice A n c, .int .i64 clock] w fun e w' => (∃ v : Int, e = .returned (.tuple #[.int .i64 v, .int .i64 0]) ∧ IsTime l clock v) ∧ Below w.heap.size w w' := by
  have hn : n ≤ maxLen := by have := h.len; have := hok.2.1; unfold maxLen; omega
  refine (Right_c h hn hc).mono fun e w' ⟨⟨v, r, he, hR⟩, hb⟩ => ⟨⟨v, ?_, ?_⟩, hb⟩
  all_goals
    rcases hR with ⟨hno, _⟩ | ⟨_, hin, _⟩ | ⟨_, _, hr, hT⟩
    · exact absurd hok hno
    · rw [inB_not] at hin; omega
  · rw [he, hr]
  · exact hT

set_option maxRecDepth 100000 in
set_option maxHeartbeats 1000000 in
theorem GaugeClocks_w {l : List (Int × Int)} {A : Option Addr} {n c : Nat} {one two at' : Int} {w : World} (h : Rd enc2 2 w A n l) (hn : n ≤ maxLen) (h1 : 0 ≤ one ∧ one ≤ 4294967295) (h2 : 0 ≤ two ∧ two ≤ 4294967295) (h3 : 0 ≤ at' ∧ at' ≤ 255) :
    Calls Try.prog 7 #[.slice A n c, .int .u32 one, .int .u32 two, .int .u8 at'] w fun e w' => e = .returned (.bool true) ∧ Below w.heap.size w w' := by
  cases hm : marksB l
  · have hr := RightMarks_c (c := c) h hn
    rw [hm] at hr
    have HR := Lib.hid hr; clear hr hm
    go_enter Try.func7, Try.ntmps7
    go_wp2_with fail
    refine HR.out.mono ?_
    rintro e w1 ⟨rfl, hb1⟩
    go_wp2_with fail
    refine (wakes_ok _).mono ?_
    rintro e w2 ⟨rfl, hb2⟩
    go_wp2_with fail
    go_ret
    exact ⟨rfl, below_tr hb1 hb2⟩
  · have hr := RightMarks_c (c := c) h hn
    rw [hm] at hr
    have HR := Lib.hid hr; clear hr
    have hok := marksB_iff.1 hm; clear hm
    have hn10 : 1 ≤ n ∧ n ≤ 10 := by rw [← h.len]; exact ⟨hok.1, hok.2.1⟩
    have HOK := Lib.hid hok; clear hok
    obtain ⟨a, ha0, ha1, ha2⟩ : ∃ a, one.tmod 1000000001 = a ∧ 0 ≤ a ∧ a ≤ 1000000000 := ⟨_, rfl, Int.tmod_nonneg _ h1.1, by have := Int.tmod_lt_of_pos one (show (0 : Int) < 1000000001 by omega); omega⟩
    obtain ⟨b, hb0, hb1, hb2⟩ : ∃ a, two.tmod 1000000001 = a ∧ 0 ≤ a ∧ a ≤ 1000000000 := ⟨_, rfl, Int.tmod_nonneg _ h2.1, by have := Int.tmod_lt_of_pos two (show (0 : Int) < 1000000001 by omega); omega⟩
    obtain ⟨k, hk0, hk1⟩ : ∃ k : Nat, at'.tmod (n : Int) = (k : Int) ∧ k < n := ⟨(at'.tmod (n : Int)).toNat, by have := Int.tmod_nonneg (n : Int) h3.1; omega, by have := Int.tmod_nonneg (n : Int) h3.1; have := Int.tmod_lt_of_pos at' (show (0 : Int) < (n : Int) by omega); omega⟩
    have wo : IntKind.i64.wrap one = one := wi (by omega)
    have wt : IntKind.i64.wrap two = two := wi (by omega)
    have wa : IntKind.i64.wrap at' = at' := wi (by omega)
    have wA : IntKind.i64.wrap a = a := wi (by omega)
    have wB : IntKind.i64.wrap b = b := wi (by omega)
    have wk : IntKind.i64.wrap (k : Int) = (k : Int) := wi (by omega)
    have hkn : (k : Int) < (n : Int) := by omega
    have nz : ((n : Int) == 0) = false := by simp; omega
    go_enter Try.func7, Try.ntmps7
    go_wp2_with fail
    refine HR.out.mono ?_
    rintro e w1 ⟨rfl, hb1⟩
    have HB1 := Lib.hid hb1; clear hb1 HR
    go_wp2_with fail
    refine (Marks_c (h.below HB1.out) (by omega)).mono ?_
    rintro e w2 ⟨A2, c2, rfl, hc2, hown, hb⟩
    have hr2 := Rd.of_own enc2_len hown h.len
    have HB2 := Lib.hid (below_tr HB1.out hb)
    clear hown hb HB1
    have HRT := Lib.hid (RightOk_c (c := c2) hr2 HOK.out hc2 ha1 ha2)
    clear hr2
    go_wp2_with fail
    refine HRT.out.mono ?_
    rintro e w3 ⟨⟨x, rfl, hx⟩, hb⟩
    have HX := Lib.hid hx
    have HB3 := Lib.hid (below_tr HB2.out hb)
    clear HB2 hb hx HRT
    go_wp2_with fail
    refine (Marks_c (h.below HB3.out) (by omega)).mono ?_
    rintro e w4 ⟨A4, c4, rfl, hc4, hown, hb⟩
    have hr2 := Rd.of_own enc2_len hown h.len
    have HB4 := Lib.hid (below_tr HB3.out hb)
    clear hown hb HB3
    have HRT := Lib.hid (RightOk_c (c := c4) hr2 HOK.out hc4 hb1 hb2)
    clear hr2
    go_wp2_with fail
    refine HRT.out.mono ?_
    rintro e w5 ⟨⟨y, rfl, hy⟩, hb⟩
    have HY := Lib.hid hy
    have HB5 := Lib.hid (below_tr HB4.out hb)
    clear HB4 hb hy HRT
    obtain ⟨bb, oo, m, rfl, hbl, hmk, hm1, hm2⟩ := h.at2 (i := k) (by omega)
    have hmo := HOK.out.mark hmk
    have HM := Lib.hid hmk
    have hc1 := (HB5.out.cell (p := ⟨bb, oo + k * 2, none⟩) hbl).trans hm1
    have hc2' := (HB5.out.cell (p := ⟨bb, oo + k * 2 + 1, none⟩) hbl).trans hm2
    clear hmk
    have hmk := fun (W : World) (hW : Below w5.heap.size w5 W) => Marks_c (c := c) (h.below (below_tr HB5.out hW)) (by omega)
    have HMK := Lib.hid hmk; clear hmk
    have hbl5 : bb < w5.heap.size := Nat.lt_of_lt_of_le hbl HB5.out.size
    go_wp2_with fail
    have HC1 := Lib.hid hc1
    have HMM := Lib.hid (And.intro hm1 hm2)
    clear hm1 hm2
    go_region_held3 (fun w' => w'.cell? ⟨bb, oo + k * 2, none⟩ = some (.int .i64 m.1)) (first | assumption | exact HC1.out)
      (first
        | (go_at_call 27; refine (HMK.out _ ((Below.refl _ _).drew)).mono ?_; rintro e w6 ⟨A6, c6, rfl, hc6, hown, hb⟩; have HW6 := Lib.hid ((Below.refl _ w5).drew.trans hb); have hc7 := (HW6.out.cell (p := ⟨bb, oo + k * 2, none⟩) hbl5).trans HC1.out; have HRT := Lib.hid (RightOk_c (c := c6) (Rd.of_own enc2_len hown h.len) HOK.out hc6 hmo.1.1 hmo.1.2); have HB6 := Lib.hid (below_tr HB5.out HW6.out); clear hown hb)
        | (go_at_call 26; refine HRT.out.mono ?_; rintro e w7 ⟨⟨z, rfl, hz⟩, hb⟩; have hc8 := (hb.cell (p := ⟨bb, oo + k * 2, none⟩) (Nat.lt_of_lt_of_le hbl HB6.out.size)).trans hc7; obtain rfl := (time_at HOK.out HM.out hz); have HB7 := Lib.hid (below_tr HB6.out hb); clear hb hz HRT))
    have hc9 := (HB7.out.cell (p := ⟨bb, oo + k * 2 + 1, none⟩) hbl).trans HMM.out.2
    clear hc1 hc2' hc7 HC1 hbl5 HW6 HB6 HB5
    have hxy : a ≤ b → x ≤ y := time_mono HOK.out HX.out HY.out
    have hyx : b ≤ a → y ≤ x := time_mono HOK.out HY.out HX.out
    have hge : m.1 ≤ a → m.2 ≤ x := time_ge HOK.out HM.out HX.out
    have hle : a ≤ m.1 → x ≤ m.2 := time_le HOK.out HM.out HX.out
    have HF := Lib.hid (And.intro hxy (And.intro hyx (And.intro hge hle)))
    clear hxy hyx hge hle
    go_upto_region 8 with fail
    go_cut [100] (fun cc wx => cc = .bool false ∧ wx = w7)
    case first =>
      rcases Int.lt_trichotomy a b with hab | hab | hab
      · have e1 : a ≤ b := by omega
        have e2 : ¬ b ≤ a := by omega
        have e3 : ¬ y < x := by have := HF.out.1 e1; omega
        go_wp2_with fail
        go_meet
        exact ⟨rfl, rfl⟩
      · subst hab
        have e3 : ¬ y < x := by have := HF.out.1 (Int.le_refl _); omega
        have e4 : ¬ x < y := by have := HF.out.2.1 (Int.le_refl _); omega
        go_wp2_with fail
        go_meet
        exact ⟨rfl, rfl⟩
      · have e1 : b ≤ a := by omega
        have e2 : ¬ a ≤ b := by omega
        have e3 : ¬ x < y := by have := HF.out.2.1 e1; omega
        go_wp2_with fail
        go_meet
        exact ⟨rfl, rfl⟩
    case rest =>
    obtain ⟨rfl, rfl⟩ := hcut
    go_upto_region 10 with fail
    go_cut [134] (fun cc wx => cc = .bool false ∧ wx = wc)
    case first =>
      rcases Int.lt_trichotomy a m.1 with hab | hab | hab
      · have e1 : a ≤ m.1 := by omega
        have e2 : ¬ m.1 ≤ a := by omega
        have e3 : ¬ m.2 < x := by have := HF.out.2.2.2 e1; omega
        go_wp2_with fail
        go_meet
        exact ⟨rfl, rfl⟩
      · have e0 : a ≤ m.1 := by omega
        have e1 : m.1 ≤ a := by omega
        have e3 : ¬ m.2 < x := by have := HF.out.2.2.2 e0; omega
        have e4 : ¬ x < m.2 := by have := HF.out.2.2.1 e1; omega
        clear hab
        go_wp2_with fail
        go_meet
        exact ⟨rfl, rfl⟩
      · have e1 : m.1 ≤ a := by omega
        have e2 : ¬ a ≤ m.1 := by omega
        have e3 : ¬ x < m.2 := by have := HF.out.2.2.1 e1; omega
        go_wp2_with fail
        go_meet
        exact ⟨rfl, rfl⟩
    case rest =>
    obtain ⟨rfl, rfl⟩ := hcut
    clear HF HMK HMM hc8 hc9 HM hmo hbl
    have hl := h.len
    have hpl : (plainM l).length = n := by rw [plainM, List.length_map, hl]
    have HL := Lib.hid hpl; clear hl hpl
    have hR := h.below HB7.out
    clear h
    obtain ⟨i0, hi0, hz0, hz1, hz2⟩ := info_parts infoMark
    have HI := Lib.hid hi0; have HZ0 := Lib.hid hz0; have HZ1 := Lib.hid hz1; have HZ2 := Lib.hid hz2
    clear hi0 hz0 hz1 hz2
    go_wp2_with fail
    go_loopw [18, 19] (fun v i wr => ∃ j : Nat, j ≤ n ∧ i = .int .i64 j ∧ wr.ownsRow wc.heap.size 60 2 v j (((plainM l).take j).flatMap enc2) ∧ Below wc.heap.size wc wr) (fun _ i _ => n - (intOf i).toNat)
    case atStart => exact ⟨0, Nat.zero_le _, rfl, World.ownsRow_nil _ _ _ _, Below.refl _ _⟩
    case round =>
      obtain ⟨j, hj, rfl, hown, hb⟩ := hrel
      by_cases hlt : j < n
      · obtain ⟨d, o, q, hA, hbl, hq, h0', _⟩ := hR.at2 hlt
        cases hA
        have h0 := (hb.cell (p := ⟨bb, oo + j * 2, none⟩) hbl).trans h0'
        clear h0'
        have HQ : Hid ((plainM l)[j]? = some (q.1, q.1)) := by
          show (plainM l)[j]? = some (q.1, q.1)
          simp [plainM, hq]
        clear hq
        have hblr : bb < wr.heap.size := Nat.lt_of_lt_of_le hbl hb.size
        have hne : u18.ownBlock ≠ some bb := fun e => by have := (hown.lt bb e).1; omega
        have HO := Lib.hid hown; clear hown
        have hi1 : (j : Int) < (n : Int) := by omega
        have hi0' : (0 : Int) ≤ (j : Int) := by omega
        go_wp2
        go_region_held3 (fun w' => w'.cell? ⟨bb, oo + j * 2, none⟩ = some (.int .i64 q.1))
          (first
            | go_keep
            | (rw [hgrow.cell_far _ (by simp; omega) (Ne.symm hne)]; exact (World.cell?_alloc_lt _ _ _ hblr).trans h0))
          ((refine step_append_lies _ (by rfl) _ _ _ (by rfl) wc.heap.size 60 i0 _ 2 16 Try.underlying44 HI.out HZ0.out HZ1.out HZ2.out rfl (by omega) _ j (((plainM l).take j).flatMap enc2) (by rfl) ((HO.out.alloc _).drew) ⟨wr.heap.size, 0, none⟩ 1 1 [.int .i64 q.1, .int .i64 q.1] (by rfl) (by rfl) (World.news_of_block (cs := #[.int .i64 q.1, .int .i64 q.1]) (t := 60) (fr := (0, 0)) (heap_alloc_new wr _)) (by simp [Value.oneCell']) (by omega) (by unfold maxLen; omega) (by omega) (by have := hb.size; simp; omega) (wr.heap.size + 1) (by simp) ?_; intro gg cap w1 hown1 hgrow hat hlt1))
        have hown2 : Hid (w1.ownsRow wc.heap.size 60 2 (.slice (some ⟨gg, 0, none⟩) (j + 1) cap) (j + 1) (((plainM l).take (j + 1)).flatMap enc2)) := by
          rw [List.take_add_one, HQ.out]
          have := hown1
          simp [enc2] at this ⊢
          exact this
        have hb2 : Hid (Below wc.heap.size wc w1) := (hb.drew.alloc hb.size _).grown hgrow (by have := hb.size; simp; omega) (fun g hg => (HO.out.lt g hg).1)
        clear hown1 hgrow
        go_wp2
        go_roundw
        case rel => exact ⟨j + 1, by omega, by go_num, hown2.out, hb2.out⟩
        case measure => simp [intOf] <;> omega
      · obtain rfl : j = n := by omega
        obtain ⟨A', c', rfl, hc'⟩ := own_form hown
        rw [List.take_of_length_le (by rw [HL.out]; exact Nat.le_refl _)] at hown
        have HRT := Lib.hid (RightOk_c (Rd.of_own enc2_len hown HL.out) (plain_ok HOK.out) hc' ha1 ha2)
        have HB8 := Lib.hid (below_tr HB7.out hb)
        clear hown hb
        go_wp2_with fail
        refine HRT.out.mono ?_
        rintro e w8 ⟨⟨v, rfl, hv⟩, hb⟩
        obtain rfl := plain_time HOK.out hv
        have HB9 := Lib.hid (below_tr HB8.out hb)
        clear hv hb HRT
        go_wp2_with fail
        refine (wakes_ok _).mono ?_
        rintro e w9 ⟨rfl, hb9⟩
        go_wp2_with fail
        go_ret
        exact ⟨rfl, below_tr HB9.out hb9⟩
end Go.Proofs.Ytkgoojilmnkgiaa
