/- THE WALK of the law GaugeNoise. -/
import Derived.Test.YtkgoojilmnkgiaaNoiseLaw
import Derived.Test.YtkgoojilmnkgiaaLawEach
import Derived.Test.YtkgoojilmnkgiaaOutl
namespace Go.Proofs.Ytkgoojilmnkgiaa
open Go.RowKit Go.Proofs

theorem dueAt_len : ∀ (l : List Itm) (o : Nat), (dueAt o l).length ≤ (bOf l).length
  | [], o => by simp [dueAt]
  | .inl y :: t, o => by have := dueAt_len t (o + 1); simp [dueAt, bOf, bI] at this ⊢; omega
  | .inr r :: t, o => by have := dueAt_len t (o + 16); simp [dueAt, bOf, bI, recB_len] at this ⊢; omega
theorem own_grown {w w' : World} {base base' : Nat} {e e' : TypeId} {size size' n n' : Nat} {v v' : Value} {xs xs' : List Value} (h : w.ownsRow base e size v n xs) (h' : w.ownsRow base' e' size' v' n' xs') (hne : e ≠ e') (hg : w.grownBy w' v'.ownBlock) : w'.ownsRow base e size v n xs :=
  Fr.row (E := fun g => v'.ownBlock = some g) (Fr.of_grown hg (fun _ hg _ => hg)) h (fun _ hg => own_own_ne h h' hne hg)
theorem Rd.takeN {α : Type} {enc : α → List Value} {k : Nat} {w : World} {A : Option Addr} {n b : Nat} {l : List α} (h : Rd enc k w A n l) (hb : b ≤ n) : Rd enc k w A b (l.take b) := by
  refine ⟨by rw [List.length_take, h.1]; omega, fun h0 => ?_⟩
  obtain ⟨bl, o, e, hlt, hc⟩ := h.2 (by omega)
  refine ⟨bl, o, e, hlt, fun i x hx => hc i x ?_⟩
  rw [List.getElem?_take] at hx
  split at hx
  · exact hx
  · cases hx
theorem set_flatB : ∀ (l : List UInt8) (k : Nat) (z : UInt8), (l.flatMap encB).set k (.int .u8 (z.toNat : Int)) = (l.set k z).flatMap encB
  | [], k, z => by simp
  | b :: l, 0, z => by simp [encB]
  | b :: l, k + 1, z => by
    have := set_flatB l k z
    simp only [List.flatMap_cons, encB, List.cons_append, List.nil_append, List.set_cons_succ] at this ⊢
    rw [this]
/-- the two rows of the law's loop -/
def NS (base : Nat) (vb vd : Value) (its : List Itm) (w : World) : Prop :=
  w.ownsRow base 5 1 vb (bOf its).length ((bOf its).flatMap encB) ∧ w.ownsRow base 3 1 vd (dueAt 0 its).length (natV (dueAt 0 its)) ∧ Good its
theorem NS.below {base : Nat} {vb vd : Value} {its : List Itm} {w w' : World} (h : NS base vb vd its w) (hb : Below w.heap.size w w') : NS base vb vd its w' := ⟨own_mono h.1 hb, own_mono h.2.1 hb, h.2.2⟩

set_option maxRecDepth 100000 in
set_option maxHeartbeats 1000000 in
theorem GaugeNoise_w {rs : List Rdg} {ns : List UInt8} {A A' : Option Addr} {n c m c' : Nat} {at' change : Int} {w : World} (h : Rd encR 4 w A n rs) (h' : Rd encB 1 w A' m ns) (hc : n ≤ c) (h3 : 0 ≤ at' ∧ at' ≤ 65535) (h4 : 0 ≤ change ∧ change ≤ 255) :
    Calls Try.prog 6 #[.slice A n c, .slice A' m c', .int .u16 at', .int .u8 change] w fun e w' => e = .returned (.bool true) ∧ Below w.heap.size w w' := by
  by_cases hbad : n = 0 ∨ (n ≠ 0 ∧ 30 < n) ∨ (n ≠ 0 ∧ n ≤ 30 ∧ 60 < m)
  · have hor : (n : Int) = 0 ∨ (((n : Int) == 0) = false ∧ 30 < (n : Int)) ∨ (((n : Int) == 0) = false ∧ ¬ 30 < (n : Int) ∧ 60 < (m : Int)) := by
      rcases hbad with hb | hb | hb
      · exact .inl (by omega)
      · exact .inr (.inl ⟨by rw [beq_eq_false_iff_ne]; omega, by omega⟩)
      · exact .inr (.inr ⟨by rw [beq_eq_false_iff_ne]; omega, by omega, by omega⟩)
    clear hbad
    rcases hor with e1 | ⟨e1, e2⟩ | ⟨e1, e2, e3⟩
    all_goals
      go_enter Try.func6, Try.ntmps6
      go_wp2_with fail
      refine (wakes_ok _).mono ?_
      rintro e w2 ⟨rfl, hb2⟩
      go_wp2_with fail
      go_ret
      exact ⟨rfl, hb2⟩
  · have hn : 0 < n ∧ n ≤ 30 := by omega
    have hm : m ≤ 60 := by omega
    have g1 : ((n : Int) == 0) = false := by rw [beq_eq_false_iff_ne]; omega
    have g2 : ¬ 30 < (n : Int) := by omega
    have g3 : ¬ 60 < (m : Int) := by omega
    have hl := h.len
    have HL := Lib.hid hl
    clear hbad
    have hll : RdLL (w.alloc (.cells #[.slice A n c] 22)) (some ⟨w.heap.size, 0, none⟩) 1 [⟨A, n, c, rs⟩] := by
      refine ⟨Rd.of_blk encL_len (heap_alloc_new w _) (fun (j : Nat) (v : Value) hv => by simpa [encL] using hv) rfl, fun i x hx => ?_⟩
      have hxe : x = ⟨A, n, c, rs⟩ := by have := List.mem_of_getElem? hx; simpa using this
      subst hxe
      exact ⟨h.below ((Below.refl _ w).alloc (Nat.le_refl _) _), (show n ≤ maxLen by unfold maxLen; omega), hc⟩
    have hfc := Fault_c (c := 1) hll (by unfold maxLen; omega)
    rw [errL_one hl] at hfc
    clear hl hll
    cases hv : allB validB rs
    · have he : errR rs = 1 := by unfold errR; rw [if_neg (by have := HL.out; omega), if_pos hv]
      rw [he] at hfc
      have HFC := Lib.hid hfc
      clear hv he hfc
      go_enter Try.func6, Try.ntmps6
      go_wp2_with fail
      refine HFC.out.mono ?_
      rintro e w8 ⟨rfl, hb8⟩
      have HB8 := Lib.hid (below_tr ((Below.refl _ w).alloc (Nat.le_refl _) (.cells #[.slice A n c] 22)) hb8)
      clear hb8 HFC
      go_wp2_with fail
      refine (wakes_ok _).mono ?_
      rintro e w9 ⟨rfl, hb9⟩
      go_wp2_with fail
      go_ret
      exact ⟨rfl, below_tr HB8.out hb9⟩
    · have he : errR rs = 0 := errR_zero.2 ⟨by have := HL.out; omega, hv⟩
      rw [he] at hfc
      have HFC := Lib.hid hfc; have HV := Lib.hid hv; have HE := Lib.hid he
      clear hv he hfc
      obtain ⟨i0, hi0, hz0, hz1, hz2⟩ := info_parts infoU8
      obtain ⟨j0, hj0, hy0, hy1, hy2⟩ := info_parts infoI
      have HI := Lib.hid hi0; have HZ0 := Lib.hid hz0; have HZ1 := Lib.hid hz1; have HZ2 := Lib.hid hz2
      have HJ := Lib.hid hj0; have HY0 := Lib.hid hy0; have HY1 := Lib.hid hy1; have HY2 := Lib.hid hy2
      clear hi0 hz0 hz1 hz2 hj0 hy0 hy1 hy2
      go_enter Try.func6, Try.ntmps6
      go_wp2_with fail
      refine HFC.out.mono ?_
      rintro e w1 ⟨rfl, hb1⟩
      have HB1 := Lib.hid (below_tr ((Below.refl _ w).alloc (Nat.le_refl _) (.cells #[.slice A n c] 22)) hb1)
      clear hb1 HFC
      have hh := h.below HB1.out; have hh' := h'.below HB1.out
      have HH := Lib.hid hh; have HH' := Lib.hid hh'
      clear hh hh'
      go_wp2_with fail
      go_loopw [9, 10, 11] (fun vb vd i wr => ∃ (k : Nat) (its : List Itm), k ≤ n ∧ i = .int .i64 k ∧ NS w1.heap.size vb vd its wr ∧ rsOf its = rs.take k ∧ (bOf its).length ≤ k * 200 ∧ Below w1.heap.size w1 wr) (fun _ _ i _ => n - (intOf i).toNat)
      case atStart => exact ⟨0, [], Nat.zero_le _, rfl, ⟨World.ownsRow_nil _ _ _ _, World.ownsRow_nil _ _ _ _, fun i hi => by cases hi⟩, rfl, Nat.zero_le _, Below.refl _ _⟩
      case round =>
        obtain ⟨k, its, hk, rfl, hns, hrs, hbd, hb⟩ := hrel
        have HNS := Lib.hid hns; have HRS := Lib.hid hrs; have HB := Lib.hid hb
        have hsz := hb.size
        clear hns hrs hb
        by_cases hlt : k < n
        · have hkn : (k : Int) < (n : Int) := by omega
          go_wp2_with fail
          go_loopw [9, 10, 12] (fun vb vd i wi => ∃ (q : Nat) (jts : List Itm), q ≤ m + 30 ∧ i = .int .i64 q ∧ NS w1.heap.size vb vd jts wi ∧ rsOf jts = rs.take k ∧ (bOf jts).length ≤ k * 200 + q ∧ Below w1.heap.size w1 wi) (fun _ _ i _ => m + 30 - (intOf i).toNat)
          case atStart => exact ⟨k, its, by omega, rfl, HNS.out, HRS.out, by omega, HB.out⟩
          case round =>
            obtain ⟨q, jts, hq, rfl, hns, hrs, hbd, hb⟩ := hrel
            have HNJ := Lib.hid hns; have HRJ := Lib.hid hrs; have HBJ := Lib.hid hb
            have hsz2 := hb.size
            clear hns hrs hb HNS HRS HB
            by_cases hqm : q < m
            · have hqmi : (q : Int) < (m : Int) := by omega
              have hq0 : (0 : Int) ≤ (q : Int) := by omega
              have hwr : IntKind.i64.wrap ((q : Int) + (n : Int)) = ((q + n : Nat) : Int) := by rw [← Int.natCast_add]; exact wi (by omega)
              obtain ⟨bn, on, x, hA, hbln, hx, hcn1⟩ := HH'.out.atB hqm
              subst hA
              have hcn := (HBJ.out.cell (p := ⟨bn, on + q, none⟩) hbln).trans hcn1
              have HC1 := Lib.hid hcn1
              clear hcn1
              clear hx
              by_cases h165 : x = 165
              · subst h165
                have hcn' : wr.cell? ⟨bn, on + q, none⟩ = some (.int .u8 165) := hcn
                clear hcn
                go_wp2_with fail
                go_roundw
                case rel => exact ⟨q + n, jts, by omega, rfl, HNJ.out, HRJ.out, by omega, HBJ.out⟩
                case measure => simp [intOf] <;> omega
              · have hne : ¬ (x.toNat : Int) = 165 := fun e => h165 (UInt8.toNat.inj (by simpa using (show x.toNat = 165 by omega)))
                have hne2 : ((x.toNat : Int) == 165) = false := by rw [beq_eq_false_iff_ne]; exact hne
                have H165 := Lib.hid h165
                clear h165
                obtain ⟨Ab, cb, rfl, hcb⟩ := own_form HNJ.out.1
                have hdl := dueAt_len jts 0
                go_wp2_with (at_builtin; first
                  | (refine wpList_append_own_at _ rfl _ _ 33 rfl w1.heap.size 3 j0 (.int .i64 0) 1 8 Try.underlying33 HJ.out HY0.out HY1.out HY2.out rfl (by decide) _ _ _ rfl (HNJ.out.2.1.alloc _) ⟨wr.heap.size, 0, none⟩ 1 1 [.int .i64 ((bOf jts).length : Int)] rfl rfl (cell_one_new _ _ _) (by simp [Value.oneCell']) (by unfold maxLen; omega) (by omega) (by simp; omega) ?_; intro v1 w2 hown1 hgrow1 _ _
                     have hb2 : Below w1.heap.size w1 w2 := (HBJ.out.alloc (by omega) _).grown hgrow1 (by simp; omega) (fun g hg => (HNJ.out.2.1.lt g hg).1)
                     have HB2 := Lib.hid hb2
                     have hsz3 := hb2.size
                     have HR2 := Lib.hid (own_grown (HNJ.out.1.alloc _) (HNJ.out.2.1.alloc _) (by decide) hgrow1)
                     have HD2 := Lib.hid hown1
                     have hcn2 : w2.cell? ⟨bn, on + q, none⟩ = some (.int .u8 (x.toNat : Int)) := (hb2.cell (p := ⟨bn, on + q, none⟩) hbln).trans HC1.out
                     clear hown1 hgrow1 hb2)
                  | go_must (refine wpList_append_own_at _ rfl _ _ 23 rfl w1.heap.size 5 i0 (.int .u8 0) 1 1 Try.underlying23 HI.out HZ0.out HZ1.out HZ2.out rfl (by decide) _ _ _ rfl (HR2.out.alloc _) ⟨w2.heap.size, 0, none⟩ 1 1 [.int .u8 (x.toNat : Int)] rfl rfl (cell_one_new _ _ _) (by simp [Value.oneCell']) (by unfold maxLen; omega) (by omega) (by simp; omega) ?_; intro v2 w3 hown2 hgrow2 _ _))
                have hB3 : Hid (Below w1.heap.size w1 w3) := (HB2.out.alloc (by omega) _).grown hgrow2 (by simp; omega) (fun g hg => (HR2.out.lt g hg).1)
                have hD3 := own_grown (HD2.out.alloc _) (HR2.out.alloc _) (by decide) hgrow2
                have hN3 : Hid (NS w1.heap.size v2 v1 (jts ++ [.inl x]) w3) := by
                  refine ⟨?_, ?_, HNJ.out.2.2.snoc H165.out⟩
                  · have e : bOf (jts ++ [.inl x]) = bOf jts ++ [x] := by rw [bOf_app]; rfl
                    rw [e, List.length_append, List.flatMap_append]
                    exact hown2
                  · rw [dueAt_inl, List.length_append, natV_append, Nat.zero_add]
                    exact hD3
                clear hown2 hgrow2 hD3 HB2 HR2 HD2
                go_roundw
                case rel => exact ⟨q + n, jts ++ [.inl x], by omega, rfl, hN3.out, by rw [rsOf_app, HRJ.out]; simp [rsOf, rI], by rw [bOf_app, List.length_append]; simp only [bOf, List.flatMap_cons, List.flatMap_nil, bI, List.append_nil, List.length_singleton] at *; omega, hB3.out⟩
                case measure => simp [intOf] <;> omega
            · have hqmi : ¬ (q : Int) < (m : Int) := by omega
              obtain ⟨br, or, x, hA, _, hx, e0, e1, e2, e3⟩ := (HH.out.below HBJ.out).at4 hlt
              subst hA
              have hvx : validB x = true := allB_iff.1 HV.out k x hx
              have hex : errR [x] = 0 := errR_zero.2 ⟨by simp, by simp [allB, hvx]⟩
              have HX := Lib.hid hx; have HVX := Lib.hid hvx; have HEX := Lib.hid hex
              clear hx hvx hex
              go_wp2_with fail
              refine (to_c x _).mono ?_
              rintro e w2 ⟨rfl, hb2⟩
              have HB2 := Lib.hid (below_tr HBJ.out hb2)
              have HN2 := Lib.hid (HNJ.out.below hb2)
              have hrd : Rd encR 4 (w2.alloc (.cells #[.int .i64 x.ins, .int .i64 x.num, .int .i64 x.tim, .int .i64 x.val] 53)) (some ⟨w2.heap.size, 0, none⟩) 1 [x] := Rd.of_blk encR_len (heap_alloc_new w2 _) (fun (j : Nat) (v : Value) hv => by simpa [encR] using hv) rfl
              have hwr := Write_c (c := 1) hrd (by unfold maxLen; omega) (Nat.le_refl _)
              rw [HEX.out] at hwr
              have HWR := Lib.hid hwr
              have ha2 := (Below.refl w2.heap.size w2).alloc (Nat.le_refl _) (.cells #[.int .i64 x.ins, .int .i64 x.num, .int .i64 x.tim, .int .i64 x.val] 53)
              have HA2 := Lib.hid ha2
              clear hrd hwr hb2 e0 e1 e2 e3 ha2
              go_wp2_with fail
              refine HWR.out.mono ?_
              rintro e w3 ⟨⟨A1, m1, c1, rfl, hm1, _, hok⟩, hb3⟩
              obtain ⟨hm1e, hown1⟩ := hok (by trivial)
              obtain rfl : m1 = 16 := by omega
              have HB3 := Lib.hid (below_tr HB2.out (below_tr HA2.out hb3))
              have HN3 := Lib.hid (HN2.out.below (below_tr HA2.out hb3))
              have HRX : Hid (Rd encB 1 w3 A1 16 (recB x)) := Rd.of_own encB_len (l := recB x) (by simpa [bytesOf] using hown1) (recB_len x)
              have hsz3 := HB3.out.size
              clear hok hown1 hm1e hb3 HWR HA2 HN2 HB2
              go_wp2_with (at_builtin; go_must (refine wpList_append_rd rfl _ _ 23 rfl w1.heap.size 5 i0 (.int .u8 0) 1 1 Try.underlying23 HI.out HZ0.out HZ1.out HZ2.out rfl (by decide) _ _ _ rfl HN3.out.1 encB_len oneB A1 16 c1 (recB x) rfl HRX.out (by unfold maxLen; omega) (by omega) (by omega) ?_; intro v5 w5 hown hgrow))
              have hB5 : Hid (Below w1.heap.size w1 w5) := HB3.out.grown hgrow (by omega) (fun g hg => (HN3.out.1.lt g hg).1)
              have hN5 : Hid (NS w1.heap.size v5 u10 (jts ++ [.inr x]) w5) := by
                refine ⟨?_, ?_, HN3.out.2.2.snoc HVX.out⟩
                · have e : bOf (jts ++ [.inr x]) = bOf jts ++ recB x := by rw [bOf_app]; simp [bOf, bI]
                  rw [e, List.length_append, List.flatMap_append, recB_len]
                  exact hown
                · rw [dueAt_inr]
                  exact own_grown HN3.out.2.1 HN3.out.1 (by decide) hgrow
              clear hown hgrow
              go_roundw
              case rel => exact ⟨k + 1, jts ++ [.inr x], by omega, by go_num, hN5.out, by rw [rsOf_app, HRJ.out, List.take_add_one, HX.out]; simp [rsOf, rI], by rw [bOf_app, List.length_append]; simp only [bOf, List.flatMap_cons, List.flatMap_nil, bI, List.append_nil, recB_len] at *; omega, hB5.out⟩
              case measure => simp [intOf] <;> omega
        · obtain rfl : n = k := by omega
          have hrs := HRS.out
          rw [List.take_of_length_le (by rw [HL.out]; exact Nat.le_refl _)] at hrs
          obtain ⟨Ab, cb, rfl, hcb⟩ := own_form HNS.out.1
          obtain ⟨Ad, cd, rfl, hcd⟩ := own_form HNS.out.2.1
          have hri := read_items HNS.out.2.2
          rw [hrs] at hri
          have hdl := dueAt_len its 0
          have hrd := Read_c (Rd.of_own encB_len HNS.out.1 rfl) hcb (by omega)
          rw [hri.1, hri.2] at hrd
          have hdo := HNS.out.2.1
          rw [natV_enc] at hdo
          have hrdue : Rd enc1 1 wr Ad (dueAt 0 its).length ((dueAt 0 its).map Int.ofNat) := Rd.of_own enc1_len hdo (by simp)
          have HRD := Lib.hid hrd; have HDUE := Lib.hid hrdue
          have HB0 := Lib.hid (below_tr HB1.out HB.out)
          clear hrs hri hrd hdo hrdue HNS HRS
          go_wp2_with fail
          refine HRD.out.mono ?_
          rintro e w4 ⟨A2, n2, c2, A3, n3, c3, rfl, hc2, hc3, hr2, hr3, hb⟩
          have hn2 : n2 = n := by have h1 := hr2.len; have h2 := HL.out; omega
          have hn3 : n3 ≤ 6000 := by have h1 := hr3.len; rw [List.length_map] at h1; omega
          have HR2 := Lib.hid hr2; have HR3 := Lib.hid hr3
          have HB4 := Lib.hid (below_tr HB0.out hb)
          have HDU4 := Lib.hid (HDUE.out.below hb)
          have HN2 := Lib.hid hn2
          clear hb hr2 hr3 HRD HDUE HB0 hn2
          have hh4 := h.below HB4.out
          have HH4 := Lib.hid hh4
          clear hh4
          go_wp2_with fail
          refine (Readings_c HH4.out (by omega)).mono ?_
          rintro e w5 ⟨A5, c5, rfl, hc5, hr5, hb⟩
          have hsm := same_c (c := c2) (c' := c5) (HR2.out.below hb) hr5 (by have := HN2.out; omega)
          rw [decide_eq_true rfl] at hsm
          have HSM := Lib.hid hsm
          have HB5 := Lib.hid (below_tr HB4.out hb)
          have HR35 := Lib.hid (HR3.out.below hb); have HDU5 := Lib.hid (HDU4.out.below hb)
          clear hb hr5 hsm HR2 HR3 HDU4 HB4 HH4
          go_wp2_with fail
          refine HSM.out.mono ?_
          rintro e w6 ⟨rfl, hb⟩
          have hin := ints_c (c := c3) (c' := cd) (HR35.out.below hb) (HDU5.out.below hb) (by omega)
          rw [decide_eq_true rfl] at hin
          have HIN := Lib.hid hin
          have HB6 := Lib.hid (below_tr HB5.out hb)
          clear hb hin HR35 HDU5 HB5 HSM
          go_wp2_with fail
          refine HIN.out.mono ?_
          rintro e w7 ⟨rfl, hb⟩
          have HB7 := Lib.hid (below_tr HB6.out hb)
          clear hb HB6 HIN
          have hh7 := h.below HB7.out
          have HH7 := Lib.hid hh7
          clear hh7
          go_wp2_with fail
          refine (Readings_c HH7.out (by omega)).mono ?_
          rintro e w8 ⟨A8, c8, rfl, hc8, hr8, hb⟩
          have hwr := Write_c hr8 (by unfold maxLen; omega) hc8
          rw [HE.out] at hwr
          have HWR := Lib.hid hwr
          have HB8 := Lib.hid (below_tr HB7.out hb)
          clear hb hr8 hwr HH7 HB7
          go_wp2_with fail
          refine HWR.out.mono ?_
          rintro e w9 ⟨⟨A9, m9, c9, rfl, hm9, _, hok⟩, hb⟩
          obtain ⟨hm9e, hown⟩ := hok (by trivial)
          have HB9 := Lib.hid (below_tr HB8.out hb)
          have hmul : IntKind.i64.wrap (16 * (n : Int)) = (m9 : Int) := by rw [show 16 * (n : Int) = (m9 : Int) by omega]; exact wi (by omega)
          have hm90 : 0 < m9 ∧ m9 ≤ 480 := by omega
          have HM9 := Lib.hid hm9e
          have HO9 := Lib.hid hown
          have hsw8 := HB8.out.size
          clear hb hok hown hm9e HB8 HWR
          have mz : ((m9 : Int) == 0) = false := by rw [beq_eq_false_iff_ne]; omega
          obtain ⟨N, hN0, hN1⟩ : ∃ q : Nat, at'.tmod (m9 : Int) = (q : Int) ∧ q < m9 := ⟨(at'.tmod (m9 : Int)).toNat, by have := Int.tmod_nonneg (m9 : Int) h3.1; omega, by have := Int.tmod_nonneg (m9 : Int) h3.1; have := Int.tmod_lt_of_pos at' (show (0 : Int) < (m9 : Int) by omega); omega⟩
          have hN2 : at' % (m9 : Int) = (N : Int) := by rw [← Int.tmod_eq_emod_of_nonneg h3.1]; exact hN0
          have wN : IntKind.i64.wrap (N : Int) = (N : Int) := wi (by omega)
          have wat : IntKind.i64.wrap at' = at' := wi (by omega)
          have hNm : (N : Int) < (m9 : Int) := by omega
          have hNm0 : (0 : Int) ≤ (N : Int) := by omega
          obtain ⟨g9, cp9, hv9, hg9, hl9⟩ := HO9.out.form (by omega)
          cases hv9
          have hbl9 : (bytesOf rs).length = m9 := by rw [bytesOf_len, HL.out, HM9.out]
          obtain ⟨x, hx⟩ : ∃ x, (bytesOf rs)[N]? = some x := get_of_lt (by omega)
          obtain ⟨d, hd0, hd1, hd2⟩ : ∃ d : Int, change.tmod 255 = d ∧ 0 ≤ d ∧ d ≤ 254 := ⟨_, rfl, Int.tmod_nonneg _ h4.1, by have := Int.tmod_lt_of_pos change (show (0 : Int) < 255 by omega); omega⟩
          have hd3 : change % 255 = d := by rw [← Int.tmod_eq_emod_of_nonneg h4.1]; exact hd0
          obtain ⟨z, hz⟩ : ∃ z : UInt8, (z.toNat : Int) = ((x.toNat : Int) + (1 + d)) % 256 := ⟨byteOf ((x.toNat : Int) + (1 + d)), byteOf_toNat _⟩
          have hzx : z ≠ x := fun e => by subst e; have := z.toNat_lt; omega
          have u1 : IntKind.u8.wrap d = d := by simp [IntKind.wrap, IntKind.bits, IntKind.signed]; omega
          have u2 : IntKind.u8.wrap (1 + d) = 1 + d := by simp [IntKind.wrap, IntKind.bits, IntKind.signed]; omega
          have u3 : IntKind.u8.wrap ((x.toNat : Int) + (1 + d)) = (z.toNat : Int) := by rw [hz]; simp [IntKind.wrap, IntKind.bits, IntKind.signed]
          have hce : w9.cell? ⟨g9, N, none⟩ = some (.int .u8 (x.toNat : Int)) := by
            have := HO9.out.cells (g := g9) rfl N (.int .u8 (x.toNat : Int)) (by have h1 := flatMap_get encB_len (bytesOf rs) N x 0 _ hx rfl; simpa using h1)
            by_cases hN : N = 0
            · subst hN; simpa [Addr.add] using this
            · simpa [Addr.add, hN] using this
          have hfz := HO9.out.frozenAt N
          have hst := (HO9.out.stored N (.int .u8 (z.toNat : Int))).1
          rw [set_flatB] at hst
          have hrdw := Read_c (Rd.of_own encB_len hst (by rw [List.length_set]; exact hbl9)) hm9 (by omega)
          have HRW := Lib.hid hrdw
          have HB10 := Lib.hid (HB9.out.setCell (p := ⟨g9, N, none⟩) (Nat.le_trans hsw8 hg9) (.int .u8 (z.toNat : Int)))
          have HXN := Lib.hid hx; have HZX := Lib.hid hzx
          clear hst hrdw hx hzx hz hbl9
          go_wp2_with fail
          refine HRW.out.mono ?_
          rintro e w11 ⟨A12, n12, c12, A13, n13, c13, rfl, hc12, hc13, hr12, hr13, hb⟩
          obtain ⟨⟨R, hR⟩, ⟨L, hL⟩⟩ := read_hurt HV.out HXN.out HZX.out
          rw [hR] at hr12
          rw [hL] at hr13
          obtain ⟨W, hW⟩ : ∃ W, N / 16 = W := ⟨_, rfl⟩
          rw [hW] at hr12 hr13
          have hWn : W < n := by have := HM9.out; omega
          have hWr : W ≤ n12 := by have h1 := hr12.len; rw [List.length_append, List.length_take] at h1; have := HL.out; omega
          have hl0 : 0 < n13 := by have h1 := hr13.len; simp at h1; omega
          obtain ⟨bl, ol, v, hA, hbl2, hv, hcl⟩ := hr13.at1 hl0
          subst hA
          have hv2 : v = ((W * 16 : Nat) : Int) := by simpa using hv.symm
          subst hv2
          have q1 : (N : Int).tdiv 16 = (W : Int) := by rw [Int.tdiv_eq_ediv_of_nonneg (by omega)]; omega
          have q2 : (N : Int) / 16 = (W : Int) := by omega
          have q3 : IntKind.i64.wrap (W : Int) = (W : Int) := wi (by omega)
          have q4 : IntKind.i64.wrap (16 * (W : Int)) = ((W * 16 : Nat) : Int) := by rw [show 16 * (W : Int) = ((W * 16 : Nat) : Int) by omega]; exact wi (by omega)
          have q5 : (W : Int) ≤ (n12 : Int) := by omega
          have q6 : (0 : Int) < (n13 : Int) := by omega
          have q7 : (0 : Int) ≤ (W : Int) := by omega
          have q8 : (W : Int) ≤ (c12 : Int) := by omega
          have q9 : (W : Int) ≤ (c : Int) := by omega
          have HB11 := Lib.hid (below_tr HB10.out hb)
          have HR12 := Lib.hid hr12
          clear hb hr12 hr13 hR hL hW hv HRW HB10 u1 u2 u3 hce hfz hN0 hN2
          go_wp2_with fail
          rw [Nat.add_zero] at hcl
          have HCL := Lib.hid hcl
          have hWl : (rs.take W).length = W := by rw [List.length_take, HL.out]; omega
          have HWL := Lib.hid hWl
          clear hWl
          go_region_held3 (fun w' => Below w11.heap.size w11 w' ∧ w'.cell? ⟨bl, ol, none⟩ = some (.int .i64 ((W * 16 : Nat) : Int)))
            (first | exact ⟨by assumption, by assumption⟩ | exact ⟨(Below.refl _ _).drew, HCL.out⟩)
            (first
              | (go_at_call 19
                 refine (Readings_c (Rd.takeN (h.below (below_tr HB11.out ((Below.refl _ w11).drew))) (by omega)) (by omega)).mono ?_
                 rintro e w12 ⟨A14, c14, rfl, hc14, hr14, hb12⟩
                 have hbw : Below w11.heap.size w11 w12 := (Below.refl _ w11).drew.trans hb12
                 have hcw : w12.cell? ⟨bl, ol, none⟩ = some (.int .i64 ((W * 16 : Nat) : Int)) := (hbw.cell (p := ⟨bl, ol, none⟩) hbl2).trans HCL.out
                 have hsm := same_c (c := c12) (c' := c14) (Rd.takeN (HR12.out.below hbw) hWr) hr14 (by omega)
                 rw [List.take_left' HWL.out, decide_eq_true rfl] at hsm
                 have HSM := Lib.hid hsm
                 clear hr14 hb12 hsm)
              | (go_at_call 24
                 go_must (refine HSM.out.mono ?_)
                 rintro e w13 ⟨rfl, hb13⟩
                 have hbw2 : Below w11.heap.size w11 w13 := below_tr hbw hb13
                 have hcw2 : w13.cell? ⟨bl, ol, none⟩ = some (.int .i64 ((W * 16 : Nat) : Int)) := (hbw2.cell (p := ⟨bl, ol, none⟩) hbl2).trans HCL.out)
              | (go_at_call 17
                 go_must (refine (wakes_ok _).mono ?_)
                 rintro e w14 ⟨rfl, hb14⟩
                 have hbw3 : Below w11.heap.size w11 w14 := below_tr hbw2 hb14
                 have hcw3 : w14.cell? ⟨bl, ol, none⟩ = some (.int .i64 ((W * 16 : Nat) : Int)) := (hbw3.cell (p := ⟨bl, ol, none⟩) hbl2).trans HCL.out))
          go_wp2_with fail
          go_ret
          exact ⟨rfl, below_tr HB11.out hbw3⟩
end Go.Proofs.Ytkgoojilmnkgiaa
