/- THE CONTRACT of the reference's Merge. -/
import Derived.Test.YtkgoojilmnkgiaaMergeC
namespace Go.Proofs.Ytkgoojilmnkgiaa
open Go.RowKit Go.Proofs

theorem count_one {p : Rdg → Bool} : ∀ {L : List Rdg} {i : Nat} {r : Rdg}, L[i]? = some r → p r = true → (L.countP p = 1 ↔ ∀ (j : Nat) (y : Rdg), j ≠ i → L[j]? = some y → p y = false)
  | [], i, r, h, _ => by simp at h
  | a :: L, 0, r, h, hp => by
    simp at h; subst h
    rw [List.countP_cons_of_pos hp]
    constructor
    · intro h0 j y hj hy
      obtain ⟨j', rfl⟩ : ∃ j', j = j' + 1 := ⟨j - 1, by omega⟩
      have h1 : L.countP p = 0 := by omega
      have := (List.countP_eq_zero.1 h1) y (List.mem_of_getElem? (by simpa using hy))
      simpa using this
    · intro h0
      rw [List.countP_eq_zero.2]
      intro y hy
      obtain ⟨j, hj⟩ := List.getElem?_of_mem hy
      have := h0 (j + 1) y (by omega) (by simpa using hj)
      simp [this]
  | a :: L, i + 1, r, h, hp => by
    have hr : L[i]? = some r := by simpa using h
    have ih := count_one hr hp
    have hpos : 0 < L.countP p := List.countP_pos_iff.2 ⟨r, List.mem_of_getElem? hr, hp⟩
    cases ha : p a
    · rw [List.countP_cons_of_neg (by rw [ha]; simp), ih]
      constructor
      · intro h0 j y hj hy
        match j, hy with
        | 0, hy => simp at hy; subst hy; exact ha
        | j + 1, hy => exact h0 j y (by omega) (by simpa using hy)
      · intro h0 j y hj hy
        exact h0 (j + 1) y (by omega) (by simpa using hy)
    · rw [List.countP_cons_of_pos ha]
      constructor
      · intro h0; omega
      · intro h0
        have := h0 0 a (by omega) rfl
        rw [ha] at this; cases this
/-- is a reading alone among the first ones? -/
def aloneTo (S : List Rdg) (i : Nat) (r : Rdg) (q : Nat) : Bool := (List.range q).all fun k => k == i || (match S[k]? with
  | some y => !nameB y r
  | none => true)
theorem aloneTo_succ {S : List Rdg} {i q : Nat} {r y : Rdg} (hy : S[q]? = some y) : aloneTo S i r (q + 1) = (aloneTo S i r q && (q == i || !nameB y r)) := by
  simp [aloneTo, List.range_succ, hy]
theorem aloneTo_all {S : List Rdg} {i : Nat} {r : Rdg} (hr : S[i]? = some r) : aloneTo S i r S.length = loneB S r := by
  rw [Bool.eq_iff_iff]
  have h1 := count_one (p := fun x => decide (nmR x = nmR r)) hr (by simp)
  unfold loneB cntN
  rw [decide_eq_true_iff, h1]
  unfold aloneTo
  rw [List.all_eq_true]
  constructor
  · intro h j y hj hy
    have := h j (by simp; exact (List.getElem?_eq_some_iff.1 hy).1)
    rw [hy] at this
    simp only [Bool.or_eq_true, beq_iff_eq, hj, false_or, Bool.not_eq_true', nameB_not] at this
    simp only [decide_eq_false_iff_not, nmR, Prod.mk.injEq]
    exact this
  · intro h j hj
    cases hy : S[j]? with
    | none => simp
    | some y =>
      by_cases e : j = i
      · simp [e]
      · have := h j y e hy
        simp only [decide_eq_false_iff_not, nmR, Prod.mk.injEq] at this
        simp only [Bool.or_eq_true, beq_iff_eq, e, false_or, Bool.not_eq_true', nameB_not]
        exact this

set_option maxRecDepth 100000 in
set_option maxHeartbeats 4000000 in
theorem RMerge_c {ls : List Lst} {A : Option Addr} {n c : Nat} {w : World} (h : RdLL w A n ls) (hn : n ≤ 100) (hN : ∀ x ∈ ls, x.n ≤ 1000) :
    Calls Try.prog 49 #[.slice A n c] w fun e w' => ∃ A1 n1 c1 A2 n2 c2, e = .returned (.tuple #[.slice A1 n1 c1, .slice A2 n2 c2]) ∧ n1 ≤ c1 ∧ n2 ≤ c2 ∧ n1 ≤ 100000 ∧ n2 ≤ 100000 ∧
      Rd encR 4 w' A1 n1 (mergedOf (sortedR (catL ls))) ∧ Rd encR 4 w' A2 n2 (contraOf (sortedR (catL ls))) ∧ Below w.heap.size w w' := by
  obtain ⟨i0, hi0, hz0, hz1, hz2⟩ := info_parts infoRQ
  have HI := Lib.hid hi0; have HZ0 := Lib.hid hz0; have HZ1 := Lib.hid hz1; have HZ2 := Lib.hid hz2
  have HL := Lib.hid h.1.len
  have HN := Lib.hid hN
  have HLN : Hid (∀ x ∈ ls, x.l.length ≤ 1000) := Lib.hid (fun x hx => by
    obtain ⟨i, hi⟩ := List.getElem?_of_mem hx
    rw [(h.2 i x hi).1.len]; exact hN x hx)
  have HH := Lib.hid h
  clear hi0 hz0 hz1 hz2 hN h
  go_enter Try.func49, Try.ntmps49
  go_wp2_with fail
  go_loopw [4, 7] (fun v i wr => ∃ q : Nat, q ≤ n ∧ i = .int .i64 q ∧ wr.ownsRow w.heap.size 55 4 v (catL (ls.take q)).length ((catL (ls.take q)).flatMap encR) ∧ Below w.heap.size w wr) (fun _ i _ => n - (intOf i).toNat)
  case atStart => exact ⟨0, Nat.zero_le _, rfl, World.ownsRow_nil _ _ _ _, Below.refl _ _⟩
  case round =>
    obtain ⟨q, hq, rfl, hown, hb⟩ := hrel
    have HO := Lib.hid hown; have HB := Lib.hid hb
    have hsz := hb.size
    clear hown hb
    by_cases hlt2 : q < n
    · have hHr := HH.out.below HB.out
      obtain ⟨b, o, x, hA, hbl, hx, h0⟩ := hHr.1.atL hlt2
      subst hA
      have hxr := (hHr.2 q x hx).1
      have hxn := HN.out x (List.mem_of_getElem? hx)
      have HS := Lib.hid (catL_succ hx)
      have hcl := catL_len HLN.out q
      have HXR := Lib.hid hxr
      obtain ⟨M, hM⟩ : ∃ M, M = catL (ls.take q) := ⟨_, rfl⟩
      rw [← hM] at HS HO hcl
      have hi1 : (q : Int) < (n : Int) := by omega
      have hi0 : (0 : Int) ≤ (q : Int) := by omega
      clear hx hxr hHr hM
      go_wp2_with (at_builtin; go_must (refine wpList_append_rd rfl _ _ 22 rfl w.heap.size 55 i0 (.agg #[.int .i64 0, .int .i64 0, .int .i64 0, .int .i64 0]) 4 32 Try.underlying22 HI.out HZ0.out HZ1.out HZ2.out rfl (by decide) _ _ _ rfl HO.out encR_len oneR4 x.A x.n x.c x.l rfl HXR.out (by unfold maxLen; omega) (by omega) hsz ?_; intro v1 w2 hown2 hgrow2))
      have HB2 := Lib.hid (HB.out.grown hgrow2 hsz (fun g hg => (HO.out.lt g hg).1))
      have HO2 : Hid (w2.ownsRow w.heap.size 55 4 v1 (catL (ls.take (q + 1))).length ((catL (ls.take (q + 1))).flatMap encR)) := by
        show World.ownsRow _ _ _ _ _ _ _
        rw [HS.out, List.flatMap_append, List.length_append, HXR.out.len]; exact hown2
      clear hown2 hgrow2
      go_wp2_with fail
      go_roundw
      case rel => exact ⟨q + 1, by omega, by go_num, HO2.out, HB2.out⟩
      case measure => simp [intOf] <;> omega
    · obtain rfl : n = q := by omega
      rw [List.take_of_length_le (by rw [HL.out]; exact Nat.le_refl _)] at HO
      have hcl := catL_len HLN.out ls.length
      rw [List.take_length, HL.out] at hcl
      obtain ⟨A3, c3, rfl, hc3⟩ := own_form HO.out
      have HRS := Lib.hid (RSorted_c (c := c3) (Rd.of_own encR_len HO.out rfl) (by omega))
      have HCL := Lib.hid hcl
      obtain ⟨Nc, hNc⟩ : ∃ Nc, Nc = (catL ls).length := ⟨_, rfl⟩
      rw [← hNc] at HRS HCL
      rw [← hNc]
      clear hcl hNc
      go_wp2_with fail
      refine HRS.out.mono ?_
      rintro e w4 ⟨A4, m, c4, rfl, hc4, hm4, hr4, hb4⟩
      have HB4 := Lib.hid (below_tr HB.out hb4)
      have HR4 := Lib.hid hr4
      obtain ⟨S, hS⟩ : ∃ S, S = sortedR (catL ls) := ⟨_, rfl⟩
      rw [← hS] at HR4
      have HSeq := Lib.hid hS
      have HLM := Lib.hid HR4.out.len
      have hm1 : m ≤ 100000 := by have := HCL.out; omega
      clear hr4 hb4 HRS hS
      go_wp2_with fail
      go_loopw [5, 6, 8] (fun v1 v2 i wr => ∃ k : Nat, k ≤ m ∧ i = .int .i64 k ∧ R2 55 w4.heap.size v1 v2 ((S.take k).filter (loneB S)) ((S.take k).filter fun r => !loneB S r) wr ∧ Below w4.heap.size w4 wr) (fun _ _ i _ => m - (intOf i).toNat)
      case atStart => exact ⟨0, Nat.zero_le _, rfl, ⟨World.ownsRow_nil _ _ _ _, World.ownsRow_nil _ _ _ _, fun g h => by simp [Value.ownBlock] at h⟩, Below.refl _ _⟩
      case round =>
        obtain ⟨k, hk, rfl, hR, hb⟩ := hrel
        have HRR := Lib.hid hR; have HB2 := Lib.hid hb
        have hsz2 := hb.size
        have hl1 : ((S.take k).filter (loneB S)).length ≤ k := by
          have := List.length_filter_le (loneB S) (S.take k)
          rw [List.length_take] at this; omega
        have hl2 : ((S.take k).filter fun r => !loneB S r).length ≤ k := by
          have := List.length_filter_le (fun r => !loneB S r) (S.take k)
          rw [List.length_take] at this; omega
        clear hR
        by_cases hlt2 : k < m
        · obtain ⟨b, o, r, hA, hbl, hr, hcr⟩ := rd4 (HR4.out.below hb) hlt2
          subst hA
          have HF1 := Lib.hid (filter_succ hr (loneB S)); have HF2 := Lib.hid (filter_succ hr fun r => !loneB S r)
          have HAL := Lib.hid (aloneTo_all hr)
          have hi1 : (k : Int) < (m : Int) := by omega
          have hi0 : (0 : Int) ≤ (k : Int) := by omega
          have HCR := Lib.hid hcr
          obtain ⟨F1, hF1⟩ : ∃ F1, F1 = (S.take k).filter (loneB S) := ⟨_, rfl⟩
          obtain ⟨F2, hF2⟩ : ∃ F2, F2 = (S.take k).filter fun r => !loneB S r := ⟨_, rfl⟩
          rw [← hF1] at HRR HF1 hl1
          rw [← hF2] at HRR HF2 hl2
          clear hr hcr hF1 hF2 hb
          obtain ⟨wo, rfl⟩ : ∃ wo : World, wo = wr := ⟨_, rfl⟩
          go_wp2_with fail
          go_loopw [9, 10] (fun al j w5 => ∃ q : Nat, q ≤ m ∧ j = .int .i64 q ∧ al = .bool (aloneTo S k r q) ∧ Below wo.heap.size wo w5) (fun _ j _ => m - (intOf j).toNat)
          case atStart => exact ⟨0, Nat.zero_le _, rfl, rfl, Below.refl _ _⟩
          case round =>
            obtain ⟨q, hq, rfl, rfl, hb5⟩ := hrel
            have HB5 := Lib.hid hb5
            clear hb5
            by_cases hlt3 : q < m
            · obtain ⟨b', o', y, hA, _, hy, hcy⟩ := rd4 (HR4.out.below HB2.out) hlt3
              cases hA
              have HCY := Lib.hid hcy
              have HSu := Lib.hid (aloneTo_succ (i := k) (r := r) hy)
              obtain ⟨r0, r1, r2, r3⟩ := HCR.out _ HB5.out
              obtain ⟨y0, y1, y2, y3⟩ := HCY.out _ HB5.out
              have hj1 : (q : Int) < (m : Int) := by omega
              have hj0 : (0 : Int) ≤ (q : Int) := by omega
              obtain ⟨a, ha⟩ : ∃ a, a = aloneTo S k r q := ⟨_, rfl⟩
              rw [← ha] at HSu ⊢
              clear hy hcy ha
              cases a
              · go_wp2_with fail
                go_quiet (fail)
                go_wp2
                go_roundw
                case rel => exact ⟨q + 1, by omega, by go_num, by rw [HSu.out]; rfl, below_drewN HB5.out _⟩
                case measure => simp [intOf] <;> omega
              · by_cases hqk : q = k
                · have e1 : ((q : Int) == (k : Int)) = true := by rw [hqk]; simp
                  have e2 : (q == k) = true := by simpa using hqk
                  rw [e2] at HSu
                  clear hqk
                  go_wp2_with fail
                  go_quiet (fail)
                  go_wp2
                  go_roundw
                  case rel => exact ⟨q + 1, by omega, by go_num, by rw [HSu.out]; rfl, below_drewN HB5.out _⟩
                  case measure => simp [intOf] <;> omega
                · have e1 : ((q : Int) == (k : Int)) = false := by rw [beq_eq_false_iff_ne]; omega
                  have e2 : (q == k) = false := by simpa using hqk
                  rw [e2] at HSu
                  obtain ⟨v, hv⟩ : ∃ v, v = nameB y r := ⟨_, rfl⟩
                  have HSm := Lib.hid (fun W => Same_c y r W)
                  rw [← hv] at HSm HSu
                  have HSu' : Hid (aloneTo S k r (q + 1) = !v) := by
                    show _ = _
                    rw [HSu.out]; simp
                  clear hv hqk HSu
                  go_wp2_with fail
                  go_region_held3 (fun w' => (w'.cell? ⟨b, o + k * 4, none⟩ = some (.int .i64 r.ins) ∧ w'.cell? ⟨b, o + k * 4 + 1, none⟩ = some (.int .i64 r.num) ∧ w'.cell? ⟨b, o + k * 4 + 2, none⟩ = some (.int .i64 r.tim) ∧ w'.cell? ⟨b, o + k * 4 + 3, none⟩ = some (.int .i64 r.val)) ∧
                      w'.cell? ⟨b, o + q * 4, none⟩ = some (.int .i64 y.ins) ∧ w'.cell? ⟨b, o + q * 4 + 1, none⟩ = some (.int .i64 y.num) ∧ w'.cell? ⟨b, o + q * 4 + 2, none⟩ = some (.int .i64 y.tim) ∧ w'.cell? ⟨b, o + q * 4 + 3, none⟩ = some (.int .i64 y.val))
                    (first | exact ⟨HCR.out _ HB5.out.drew, HCY.out _ HB5.out.drew⟩ | exact ⟨HCR.out _ HB5.out, HCY.out _ HB5.out⟩ | exact ⟨HCR.out _ (by assumption), HCY.out _ (by assumption)⟩ | assumption)
                    ((go_at_call 75; refine (HSm.out _).mono ?_; rintro e w6 ⟨rfl, hb6⟩; have hbb : Below wo.heap.size wo w6 := below_tr HB5.out.drew hb6))
                  all_goals
                    go_wp2_with fail
                    go_roundw
                    case rel => exact ⟨q + 1, by omega, by go_num, by rw [HSu'.out], by assumption⟩
                    case measure => simp [intOf] <;> omega
            · obtain rfl : m = q := by omega
              have hal := HAL.out
              rw [HLM.out] at hal
              rw [hal]
              obtain ⟨r0, r1, r2, r3⟩ := HCR.out _ HB5.out
              have HR2 := Lib.hid (HRR.out.below HB5.out)
              have HB6 := Lib.hid (HB2.out.trans (HB5.out.mono hsz2))
              have hsz6 := HB6.out.size
              clear hal HAL
              cases hlone : loneB S r
              · rw [hlone] at HF1 HF2
                clear hlone
                go_wp2_with (at_builtin; go_must (refine wpList_append_own_at _ rfl _ _ 22 rfl w4.heap.size 55 i0 _ 4 32 Try.underlying22 HI.out HZ0.out HZ1.out HZ2.out rfl (by decide) _ _ _ rfl (HR2.out.2.1.alloc _) ⟨wr.heap.size, 0, none⟩ 1 1 (encR r) rfl rfl (fun j u hj => World.news_of_block (cs := #[.int .i64 r.ins, .int .i64 r.num, .int .i64 r.tim, .int .i64 r.val]) (t := 55) (fr := (0, 0)) (heap_alloc_new wr _) j u hj) (by simp [Value.oneCell', encR]) (by unfold maxLen; omega) (by omega) (by simp; omega) ?_; intro v' w7 hown' hgrow _ hloc))
                have HR7 : Hid (R2 55 w4.heap.size u5 v' ((S.take (k + 1)).filter (loneB S)) ((S.take (k + 1)).filter fun r => !loneB S r) w7) := by
                  show R2 _ _ _ _ _ _ _
                  rw [HF1.out, HF2.out]
                  have := (R2.app (r := r) (HR2.out.below ((Below.refl _ wr).alloc (Nat.le_refl _) _)).swap hown' hgrow hloc).swap
                  simpa using this
                have HB7 : Hid (Below w4.heap.size w4 w7) := (HB6.out.alloc hsz6 _).grown hgrow (by simp; omega) (fun g hg => (HR2.out.2.1.lt g hg).1)
                clear hown' hgrow hloc
                go_wp2_with fail
                go_roundw
                case rel => exact ⟨k + 1, by omega, by go_num, HR7.out, HB7.out⟩
                case measure => simp [intOf] <;> omega
              · rw [hlone] at HF1 HF2
                clear hlone
                go_wp2_with (at_builtin; go_must (refine wpList_append_own_at _ rfl _ _ 22 rfl w4.heap.size 55 i0 _ 4 32 Try.underlying22 HI.out HZ0.out HZ1.out HZ2.out rfl (by decide) _ _ _ rfl (HR2.out.1.alloc _) ⟨wr.heap.size, 0, none⟩ 1 1 (encR r) rfl rfl (fun j u hj => World.news_of_block (cs := #[.int .i64 r.ins, .int .i64 r.num, .int .i64 r.tim, .int .i64 r.val]) (t := 55) (fr := (0, 0)) (heap_alloc_new wr _) j u hj) (by simp [Value.oneCell', encR]) (by unfold maxLen; omega) (by omega) (by simp; omega) ?_; intro v' w7 hown' hgrow _ hloc))
                have HR7 : Hid (R2 55 w4.heap.size v' u6 ((S.take (k + 1)).filter (loneB S)) ((S.take (k + 1)).filter fun r => !loneB S r) w7) := by
                  show R2 _ _ _ _ _ _ _
                  rw [HF1.out, HF2.out]
                  have := R2.app (r := r) (HR2.out.below ((Below.refl _ wr).alloc (Nat.le_refl _) _)) hown' hgrow hloc
                  simpa using this
                have HB7 : Hid (Below w4.heap.size w4 w7) := (HB6.out.alloc hsz6 _).grown hgrow (by simp; omega) (fun g hg => (HR2.out.1.lt g hg).1)
                clear hown' hgrow hloc
                go_wp2_with fail
                go_roundw
                case rel => exact ⟨k + 1, by omega, by go_num, HR7.out, HB7.out⟩
                case measure => simp [intOf] <;> omega
        · obtain rfl : m = k := by omega
          rw [List.take_of_length_le (by rw [HLM.out]; exact Nat.le_refl _)] at HRR hl1 hl2
          obtain ⟨A5, c5, rfl, hc5⟩ := own_form HRR.out.1
          obtain ⟨A6, c6, rfl, hc6⟩ := own_form HRR.out.2.1
          have HBF := Lib.hid (below_tr HB4.out HB2.out)
          clear hb
          go_wp2_with fail
          go_ret2
          refine ⟨A5, _, c5, A6, _, c6, rfl, hc5, hc6, by omega, by omega, ?_, ?_, HBF.out⟩
          · rw [← HSeq.out]; exact Rd.of_own encR_len HRR.out.1 rfl
          · rw [← HSeq.out]; exact Rd.of_own encR_len HRR.out.2.1 rfl
end Go.Proofs.Ytkgoojilmnkgiaa
