/- THE CONTRACT of the reference's Sorted. -/
import Derived.Test.YtkgoojilmnkgiaaTwice
import Derived.Test.YtkgoojilmnkgiaaSmall
import Derived.BigQuiet
import Derived.Deep.QuietTactic
import Derived.Deep.DeepCutAuto
import Derived.Laws.OwnMore
namespace Go.Proofs.Ytkgoojilmnkgiaa
open Go.RowKit Go.Proofs

theorem infoRQ : (Try.prog.info? 55).map (fun i => (i.zero, i.size, i.bytes)) = some (some (.agg #[.int .i64 0, .int .i64 0, .int .i64 0, .int .i64 0]), 4, 32) := by kernel_rfl
abbrev vQ (r : Rdg) : Value := .agg #[.int .i64 r.ins, .int .i64 r.num, .int .i64 r.tim, .int .i64 r.val]
theorem run_equal_rdr (r r' : Rdg) (W : World) : (Op.equalIn 10000 55 (vQ r) (vQ r')).run Try.prog W = .ok (decide (r = r')) W := by
  simp [go_sem, Try.underlying55]
  rw [show decide (r = r') = decide (r.ins = r'.ins ∧ r.num = r'.num ∧ r.tim = r'.tim ∧ r.val = r'.val) from by simp only [rdg_eq_iff]]
  by_cases h1 : r.ins = r'.ins <;> by_cases h2 : r.num = r'.num <;> by_cases h3 : r.tim = r'.tim <;> by_cases h4 : r.val = r'.val <;> simp [h1, h2, h3, h4]
theorem run_eql_rdr (r r' : Rdg) (W : World) : (binOp .eql 55 (vQ r) (vQ r')).run Try.prog W = .ok (.bool (decide (r = r'))) W := by
  rw [run_eql_struct, run_equal_rdr]; rfl

/-- the readings with one set in, as far as it has moved -/
def mid (x : Rdg) (S : List Rdg) (k : Nat) : List Rdg := S.take k ++ x :: S.drop k
theorem mid_len (x : Rdg) (S : List Rdg) {k : Nat} (h : k ≤ S.length) : (mid x S k).length = S.length + 1 := by simp [mid]; omega
theorem mid_last (x : Rdg) (S : List Rdg) : mid x S S.length = S ++ [x] := by simp [mid]
theorem mid_at (x : Rdg) (S : List Rdg) {k : Nat} (h : k ≤ S.length) : (mid x S k)[k]? = some x := by
  unfold mid
  rw [List.getElem?_append_right (by rw [List.length_take]; omega), List.length_take, Nat.min_eq_left h, Nat.sub_self]
  rfl
theorem mid_before (x : Rdg) (S : List Rdg) {k : Nat} (h : k + 1 ≤ S.length) : (mid x S (k + 1))[k]? = S[k]? := by
  unfold mid
  rw [List.getElem?_append_left (by simp; omega), List.getElem?_take, if_pos (by omega)]
theorem mid_swap {x y : Rdg} {S : List Rdg} {k : Nat} (hy : S[k]? = some y) : ((mid x S (k + 1)).set (k + 1) y).set k x = mid x S k := by
  have hk : k < S.length := (List.getElem?_eq_some_iff.1 hy).1
  have hd : S.drop k = y :: S.drop (k + 1) := by rw [List.drop_eq_getElem_cons hk]; congr 1; rw [List.getElem?_eq_getElem hk] at hy; exact Option.some.inj hy
  apply List.ext_getElem?
  intro i
  have hl : (mid x S (k + 1)).length = S.length + 1 := mid_len x S (by omega)
  rw [List.getElem?_set, List.getElem?_set, List.length_set, hl]
  unfold mid
  rw [hd]
  by_cases h1 : k = i
  · subst h1
    rw [if_pos rfl, if_pos (by omega), List.getElem?_append_right (by rw [List.length_take]; omega), List.length_take, Nat.min_eq_left (by omega), Nat.sub_self]
    rfl
  · rw [if_neg h1]
    by_cases h2 : k + 1 = i
    · subst h2
      rw [if_pos rfl, if_pos (by omega), List.getElem?_append_right (by simp; omega)]
      simp only [List.length_take, Nat.min_eq_left (show k ≤ S.length by omega)]
      rw [show k + 1 - k = 1 by omega]
      rfl
    · rw [if_neg h2]
      rcases Nat.lt_or_ge i k with h3 | h3
      · rw [List.getElem?_append_left (by simp; omega), List.getElem?_append_left (by simp; omega), List.getElem?_take, List.getElem?_take, if_pos (by omega), if_pos h3]
      · rw [List.getElem?_append_right (by simp; omega), List.getElem?_append_right (by simp; omega)]
        simp only [List.length_take, Nat.min_eq_left (show k ≤ S.length by omega), Nat.min_eq_left (show k + 1 ≤ S.length by omega)]
        obtain ⟨j, rfl⟩ : ∃ j, i = k + 2 + j := ⟨i - (k + 2), by omega⟩
        rw [show k + 2 + j - (k + 1) = j + 1 by omega, show k + 2 + j - k = j + 2 by omega]
        rfl
/-- Where it has moved far enough it is set in. -/
theorem mid_ins {x : Rdg} : ∀ {S : List Rdg} {k : Nat}, k ≤ S.length → Sord S → (∀ (i : Nat) (y : Rdg), k ≤ i → S[i]? = some y → rlt x y = true) → (∀ (i : Nat) (y : Rdg), i < k → S[i]? = some y → rlt x y = false) → mid x S k = insR x S
  | [], k, hk, _, _, _ => by
    simp at hk; subst hk; rfl
  | y :: S, 0, _, _, h1, _ => by
    have := h1 0 y (Nat.le_refl _) rfl
    rw [insR, if_pos this]; rfl
  | y :: S, k + 1, hk, hs, h1, h2 => by
    have := h2 0 y (by omega) rfl
    rw [insR, if_neg (by rw [this]; simp)]
    rw [← mid_ins (x := x) (S := S) (k := k) (by simpa using hk) (List.pairwise_cons.1 hs).2 (fun i z hi hz => h1 (i + 1) z (by omega) (by simpa using hz)) (fun i z hi hz => h2 (i + 1) z (by omega) (by simpa using hz))]
    rfl
theorem sord_at {s : List Rdg} (h : Sord s) {i k : Nat} {x y : Rdg} (hik : i < k) (hx : s[i]? = some x) (hy : s[k]? = some y) : rlt x y = true := by
  obtain ⟨hi, rfl⟩ := List.getElem?_eq_some_iff.1 hx
  obtain ⟨hk, rfl⟩ := List.getElem?_eq_some_iff.1 hy
  exact List.pairwise_iff_getElem.1 h i k hi hk hik
/-- It moves no farther: the reading ahead of it stands before it. -/
theorem mid_stop {x y : Rdg} {S : List Rdg} {k : Nat} (hs : Sord S) (hy : S[k]? = some y) (h : rlt x y = false) (h1 : ∀ (i : Nat) (z : Rdg), k + 1 ≤ i → S[i]? = some z → rlt x z = true) : mid x S (k + 1) = insR x S := by
  refine mid_ins (lt_of_get hy) hs h1 fun i z hi hz => ?_
  rcases Nat.lt_or_ge i k with h' | h'
  · exact rlt_ntrans h (rlt_asym (sord_at hs h' hz hy))
  · obtain rfl : i = k := by omega
    rw [hy] at hz; cases hz; exact h

theorem set_flat4 : ∀ (l : List Rdg) (k : Nat) (z : Rdg), k < l.length → ((((l.flatMap encR).set (k * 4) (.int .i64 z.ins)).set (k * 4 + 1) (.int .i64 z.num)).set (k * 4 + 2) (.int .i64 z.tim)).set (k * 4 + 3) (.int .i64 z.val) = (l.set k z).flatMap encR
  | [], k, z, h => by simp at h
  | b :: l, 0, z, _ => by simp [encR]
  | b :: l, k + 1, z, h => by
    have := set_flat4 l k z (by simpa using h)
    have e : (k + 1) * 4 = k * 4 + 1 + 1 + 1 + 1 := by omega
    rw [e]
    have e1 : k * 4 + 1 + 1 + 1 + 1 + 1 = (k * 4 + 1) + 1 + 1 + 1 + 1 := by omega
    have e2 : k * 4 + 1 + 1 + 1 + 1 + 2 = (k * 4 + 2) + 1 + 1 + 1 + 1 := by omega
    have e3 : k * 4 + 1 + 1 + 1 + 1 + 3 = (k * 4 + 3) + 1 + 1 + 1 + 1 := by omega
    rw [e1, e2, e3]
    simp only [List.flatMap_cons, encR, List.cons_append, List.nil_append, List.set_cons_succ] at this ⊢
    rw [this]
/-- four cells of a row stored -/
theorem own_put4 {w : World} {base : Nat} {g n c : Nat} {l : List Rdg} {e : TypeId} (h : w.ownsRow base e 4 (.slice (some ⟨g, 0, none⟩) n c) n (l.flatMap encR)) {k : Nat} (hk : k < l.length) (z : Rdg) :
    ((((w.setCell ⟨g, k * 4, none⟩ (.int .i64 z.ins)).setCell ⟨g, k * 4 + 1, none⟩ (.int .i64 z.num)).setCell ⟨g, k * 4 + 2, none⟩ (.int .i64 z.tim)).setCell ⟨g, k * 4 + 3, none⟩ (.int .i64 z.val)).ownsRow base e 4 (.slice (some ⟨g, 0, none⟩) n c) n ((l.set k z).flatMap encR) := by
  have h1 := (((h.stored (k * 4) (.int .i64 z.ins)).1.stored (k * 4 + 1) (.int .i64 z.num)).1.stored (k * 4 + 2) (.int .i64 z.tim)).1.stored (k * 4 + 3) (.int .i64 z.val)
  rw [set_flat4 l k z hk] at h1
  exact h1.1

/-- the row of the reference's Sorted -/
def RQ (base : Nat) (vo : Value) (S : List Rdg) (w : World) : Prop := w.ownsRow base 55 4 vo S.length (S.flatMap encR)

set_option maxRecDepth 100000 in
set_option maxHeartbeats 2000000 in
theorem RSorted_c {l : List Rdg} {A : Option Addr} {n c : Nat} {w : World} (h : Rd encR 4 w A n l) (hn : n ≤ 100000) :
    Calls Try.prog 76 #[.slice A n c] w fun e w' => ∃ A' n' c', e = .returned (.slice A' n' c') ∧ n' ≤ c' ∧ n' ≤ n ∧ Rd encR 4 w' A' n' (sortedR l) ∧ Below w.heap.size w w' := by
  obtain ⟨i0, hi0, hz0, hz1, hz2⟩ := info_parts infoRQ
  have HI := Lib.hid hi0; have HZ0 := Lib.hid hz0; have HZ1 := Lib.hid hz1; have HZ2 := Lib.hid hz2
  have HL := Lib.hid h.len
  clear hi0 hz0 hz1 hz2
  go_enter Try.func76, Try.ntmps76
  go_wp2_with fail
  go_loopw [3, 4] (fun vo i wr => ∃ k : Nat, k ≤ n ∧ i = .int .i64 k ∧ RQ w.heap.size vo (sortedR (l.take k)) wr ∧ Below w.heap.size w wr) (fun _ i _ => n - (intOf i).toNat)
  case atStart => exact ⟨0, Nat.zero_le _, rfl, World.ownsRow_nil _ _ _ _, Below.refl _ _⟩
  case round =>
    obtain ⟨k, hk, rfl, hown, hb⟩ := hrel
    have HO := Lib.hid hown; have HB := Lib.hid hb
    clear hown
    have hsl := sortedR_len (l.take k)
    rw [List.length_take, HL.out, Nat.min_eq_left hk] at hsl
    obtain ⟨hsord, _⟩ := sortedR_ok (l.take k)
    have HSO := Lib.hid hsord
    clear hsord
    by_cases hlt : k < n
    · obtain ⟨b, o, x, hA, hbl, hx, hcx⟩ := rd4 (h.below hb) hlt
      subst hA
      have HX := Lib.hid hx
      have HT : Hid (sortedR (l.take (k + 1)) = stepR (sortedR (l.take k)) x) := by
        show _ = _
        rw [List.take_add_one, hx, Option.toList_some, sortedR, List.foldl_append]; rfl
      have hsz := hb.size
      clear hx hb
      generalize sortedR (l.take k) = S at *
      have hkn : (k : Int) < (n : Int) := by omega
      have hk0 : (0 : Int) ≤ (k : Int) := by omega
      obtain ⟨x0, x1, x2, x3⟩ := hcx _ (Below.refl _ _)
      have HCX := Lib.hid hcx
      clear hcx
      obtain ⟨Av, cv, rfl, hcv⟩ := own_form HO.out
      have hrdS := Rd.of_own encR_len HO.out rfl
      have HRS := Lib.hid hrdS
      clear hrdS
      obtain ⟨wo, rfl⟩ : ∃ wo : World, wo = wr := ⟨_, rfl⟩
      go_wp2_with fail
      go_loopw [5, 6] (fun ag j w2 => ∃ q : Nat, q ≤ S.length ∧ j = .int .i64 q ∧ Below wo.heap.size wo w2 ∧ ag = .bool (decide (x ∈ S.take q))) (fun _ j _ => S.length - (intOf j).toNat)
      case atStart => exact ⟨0, Nat.zero_le _, rfl, Below.refl _ _, by simp⟩
      case round =>
        obtain ⟨q, hq, rfl, hb2, rfl⟩ := hrel
        have HB2 := Lib.hid hb2
        clear hb2
        by_cases hlq : q < S.length
        · obtain ⟨b', o', y, hA, _, hy, hcy⟩ := rd4 HRS.out hlq
          subst hA
          have HY := Lib.hid hy; have HCY := Lib.hid hcy
          have hmem : (x ∈ S.take (q + 1)) ↔ (x ∈ S.take q ∨ y = x) := by
            rw [List.take_add_one, hy]; simp [eq_comm]
          have HM := Lib.hid hmem
          clear hy hcy hmem
          have hqk : (q : Int) < (S.length : Int) := by omega
          have hq0 : (0 : Int) ≤ (q : Int) := by omega
          obtain ⟨y0, y1, y2, y3⟩ := HCY.out _ HB2.out
          obtain ⟨x0', x1', x2', x3'⟩ := HCX.out _ HB2.out
          have heq := fun W => run_eql_rdr y x W
          obtain ⟨d, hd⟩ : ∃ d, d = decide (y = x) := ⟨_, rfl⟩
          rw [← hd] at heq
          obtain ⟨a, ha⟩ : ∃ a, a = decide (x ∈ S.take q) := ⟨_, rfl⟩
          rw [← ha]
          have HD := Lib.hid hd; have HAg := Lib.hid ha
          clear hd ha
          have HE : Hid ((a || d) = decide (x ∈ S.take (q + 1))) := by
            show _ = _
            rw [HAg.out, HD.out, Bool.eq_iff_iff]; simp [HM.out]
          cases a
          · go_wp2_with fail
            go_quiet (fail)
            go_wp2
            go_roundw
            case rel => exact ⟨q + 1, by omega, by go_num, below_drewN HB2.out _, by rw [← HE.out]; simp⟩
            case measure => simp [intOf] <;> omega
          · go_wp2_with fail
            go_quiet (fail)
            go_wp2
            go_roundw
            case rel => exact ⟨q + 1, by omega, by go_num, below_drewN HB2.out _, by rw [← HE.out]; simp⟩
            case measure => simp [intOf] <;> omega
        · obtain rfl : q = S.length := by omega
          rw [List.take_length]
          have HO2 := Lib.hid (own_mono HO.out HB2.out)
          have HB3 := Lib.hid (below_tr HB.out HB2.out)
          have hsz3 := HB3.out.size
          obtain ⟨x0', x1', x2', x3'⟩ := HCX.out _ HB2.out
          clear HO HRS
          by_cases hmem : x ∈ S
          · have HE : Hid (S = sortedR (l.take (k + 1))) := by
              show _ = _
              rw [HT.out, stepR, if_pos hmem]
            have hd : decide (x ∈ S) = true := decide_eq_true hmem
            rw [hd]
            clear hd hmem
            go_wp2_with fail
            go_roundw
            case rel => exact ⟨k + 1, by omega, by go_num, by rw [← HE.out]; exact HO2.out, HB3.out⟩
            case measure => simp [intOf] <;> omega
          · have HE : Hid (insR x S = sortedR (l.take (k + 1))) := by
              show _ = _
              rw [HT.out, stepR, if_neg hmem]
            have hd : decide (x ∈ S) = false := decide_eq_false hmem
            rw [hd]
            clear hd hmem
            have hw1 : IntKind.i64.wrap ((S.length : Int) + 1 - 1) = (S.length : Int) := by rw [wi (by omega)]; omega
            have hS := lt_of_get HX.out
            have hw2 : IntKind.i64.wrap (S.length : Int) = (S.length : Int) := wi (by rw [HL.out] at hS; omega)
            go_wp2_with (at_builtin; go_must (refine wpList_append_own_at _ rfl _ _ 22 rfl w.heap.size 55 i0 _ 4 32 Try.underlying22 HI.out HZ0.out HZ1.out HZ2.out rfl (by decide) _ _ _ rfl (HO2.out.alloc _) ⟨wr.heap.size, 0, none⟩ 1 1 (encR x) rfl rfl (fun j u hj => World.news_of_block (cs := #[.int .i64 x.ins, .int .i64 x.num, .int .i64 x.tim, .int .i64 x.val]) (t := 55) (fr := (0, 0)) (heap_alloc_new wr _) j u hj) (by simp [Value.oneCell', encR]) (by unfold maxLen; omega) (by omega) (by simp; omega) ?_; intro v2 w4 hown2 hgrow2 _ _; obtain ⟨g4, cp4, hv, hg4, hl4⟩ := hown2.form (by omega); subst hv; have HO4 : Hid (w4.ownsRow w.heap.size 55 4 (.slice (some ⟨g4, 0, none⟩) (S.length + 1) cp4) (S.length + 1) ((mid x S S.length).flatMap encR)) := (by show World.ownsRow _ _ _ _ _ _ _; rw [mid_last, List.flatMap_append]; simpa using hown2); have HB4 : Hid (Below w.heap.size w w4) := (HB3.out.alloc HB3.out.size _).grown hgrow2 (by simp; omega) (fun g hg => (HO2.out.lt g hg).1); clear hown2 hgrow2))
            clear HO2 HB3
            have hsz4 := HB4.out.size
            go_loopw [7] (fun j w5 => ∃ q : Nat, q ≤ S.length ∧ j = .int .i64 q ∧ w5.ownsRow w.heap.size 55 4 (.slice (some ⟨g4, 0, none⟩) (S.length + 1) cp4) (S.length + 1) ((mid x S q).flatMap encR) ∧ Below w.heap.size w w5 ∧ ∀ (i : Nat) (y : Rdg), q ≤ i → S[i]? = some y → rlt x y = true) (fun j _ => (intOf j).toNat)
            case atStart => exact ⟨S.length, Nat.le_refl _, by first | rfl | (congr 1; omega), HO4.out, HB4.out, fun i y hi hy => by have := lt_of_get hy; omega⟩
            case round =>
              obtain ⟨q, hq, rfl, hown, hb, hgt⟩ := hrel
              have HO5 := Lib.hid hown; have HB5 := Lib.hid hb; have HG := Lib.hid hgt
              have hsz5 := hb.size
              clear hown hb hgt HO4 HB4
              rcases Nat.eq_zero_or_pos q with hq0 | hq0
              · subst hq0
                have HF : Hid (mid x S 0 = sortedR (l.take (k + 1))) := by
                  show _ = _
                  rw [← HE.out]; exact mid_ins (Nat.zero_le _) HSO.out HG.out (fun i y hi => absurd hi (by omega))
                have HF2 : Hid (S.length + 1 = (sortedR (l.take (k + 1))).length) := by
                  show _ = _
                  rw [← HF.out, mid_len _ _ (Nat.zero_le _)]
                go_wp2_with fail
                go_quiet (fail)
                go_wp2
                go_roundw
                case rel => exact ⟨k + 1, by omega, by go_num, by unfold RQ; rw [← HF2.out, ← HF.out]; exact own_mono HO5.out (below_drewN (Below.refl _ _) _), below_drewN HB5.out _⟩
                case measure => simp [intOf] <;> omega
              · obtain ⟨p, hpq⟩ : ∃ p, p + 1 = q := ⟨q - 1, by omega⟩
                have HP := Lib.hid hpq
                obtain ⟨y, hy⟩ := get_of_lt (l := S) (i := p) (by omega)
                have hm1 := mid_at x S hq
                have hm2 : (mid x S q)[p]? = some y := by have := mid_before x S (k := p) (by omega); rw [hpq] at this; rw [this]; exact hy
                have hrd := Rd.of_own encR_len HO5.out (mid_len x S hq)
                obtain ⟨b1, o1, x', hA, hbl1, hx', hc1⟩ := rd4 hrd (i := q) (by omega)
                cases hA
                rw [hm1] at hx'
                cases hx'
                obtain ⟨b2, o2, y', hA, hbl2, hy', hc2⟩ := rd4 hrd (i := p) (by omega)
                cases hA
                rw [hm2] at hy'
                cases hy'
                simp only [Nat.zero_add] at hc1 hc2
                have HY := Lib.hid hy; have HC1 := Lib.hid hc1; have HC2 := Lib.hid hc2
                obtain ⟨x0, x1, x2, x3⟩ := hc1 _ (Below.refl _ _)
                obtain ⟨y0, y1, y2, y3⟩ := hc2 _ (Below.refl _ _)
                have hi0 : (0 : Int) < (q : Int) := by omega
                have hi0n : decide (0 < q) = true := decide_eq_true hq0
                have hi0' : decide ((0 : Int) < (q : Int)) = true := decide_eq_true hi0
                have hi1 : (0 : Int) ≤ (q : Int) := by omega
                have hi2 : (q : Int) < (S.length : Int) + 1 := by omega
                have hi3 : (0 : Int) ≤ (p : Int) := by omega
                have hi4 : (p : Int) < (S.length : Int) + 1 := by omega
                have hw3 : IntKind.i64.wrap ((q : Int) - 1) = (p : Int) := by rw [wi (by omega)]; omega
                have hw4 : IntKind.i64.wrap (p : Int) = (p : Int) := wi (by omega)
                obtain ⟨v, hv⟩ : ∃ v, v = rlt x y := ⟨_, rfl⟩
                have HS := Lib.hid (fun W => Less_c x y W)
                rw [← hv] at HS
                have HV := Lib.hid hv
                clear hv hpq hy hm1 hm2 hc1 hc2 hq0 hrd
                obtain ⟨wo, rfl⟩ : ∃ wo : World, wo = wr := ⟨_, rfl⟩
                go_wp2_with fail
                go_region_held3 (fun w' => (w'.cell? ⟨g4, q * 4, none⟩ = some (.int .i64 x.ins) ∧ w'.cell? ⟨g4, q * 4 + 1, none⟩ = some (.int .i64 x.num) ∧ w'.cell? ⟨g4, q * 4 + 2, none⟩ = some (.int .i64 x.tim) ∧ w'.cell? ⟨g4, q * 4 + 3, none⟩ = some (.int .i64 x.val)) ∧
                    w'.cell? ⟨g4, p * 4, none⟩ = some (.int .i64 y.ins) ∧ w'.cell? ⟨g4, p * 4 + 1, none⟩ = some (.int .i64 y.num) ∧ w'.cell? ⟨g4, p * 4 + 2, none⟩ = some (.int .i64 y.tim) ∧ w'.cell? ⟨g4, p * 4 + 3, none⟩ = some (.int .i64 y.val))
                  (first | exact ⟨HC1.out _ (Below.refl _ _).drew, HC2.out _ (Below.refl _ _).drew⟩ | exact ⟨HC1.out _ (Below.refl _ _), HC2.out _ (Below.refl _ _)⟩ | exact ⟨HC1.out _ (by assumption), HC2.out _ (by assumption)⟩ | assumption)
                  ((go_at_call 99; refine (HS.out _).mono ?_; rintro e w6 ⟨rfl, hb6⟩; have hbb : Below wo.heap.size wo w6 := below_tr (Below.refl _ wo).drew hb6))
                have HO6 := Lib.hid (own_mono HO5.out hbb)
                have HB6 := Lib.hid (HB5.out.trans (hbb.mono hsz5))
                have hsz6 := HB6.out.size
                cases v
                · have HF : Hid (mid x S q = sortedR (l.take (k + 1))) := by
                    show _ = _
                    rw [← HE.out]
                    have h1 := mid_stop HSO.out HY.out HV.out.symm (by rw [HP.out]; exact HG.out)
                    rw [HP.out] at h1; exact h1
                  have HF2 : Hid (S.length + 1 = (sortedR (l.take (k + 1))).length) := by
                    show _ = _
                    rw [← HF.out, mid_len _ _ hq]
                  go_wp2_with fail
                  go_roundw
                  case rel => exact ⟨k + 1, by omega, by go_num, by unfold RQ; rw [← HF2.out, ← HF.out]; exact HO6.out, HB6.out⟩
                  case measure => simp [intOf] <;> omega
                · obtain ⟨x0, x1, x2, x3⟩ := HC1.out _ hbb
                  obtain ⟨y0, y1, y2, y3⟩ := HC2.out _ hbb
                  have hO6 := HO6.out
                  have f0 := hO6.frozenAt (q * 4); have f1 := hO6.frozenAt (q * 4 + 1); have f2 := hO6.frozenAt (q * 4 + 2); have f3 := hO6.frozenAt (q * 4 + 3)
                  have hp1 : p < (mid x S q).length := by have := HP.out; rw [mid_len x S hq]; omega
                  have hq1 : q < (mid x S q).length := by rw [mid_len x S hq]; omega
                  have hO7 := own_put4 hO6 hq1 y
                  have e0 := hO6.frozenAt (p * 4); have e1 := hO6.frozenAt (p * 4 + 1); have e2 := hO6.frozenAt (p * 4 + 2); have e3 := hO6.frozenAt (p * 4 + 3)
                  have hO8 := own_put4 hO7 (k := p) (by rw [List.length_set]; exact hp1) x
                  rw [show ((mid x S q).set q y).set p x = mid x S p by have := mid_swap (x := x) HY.out; rw [HP.out] at this; exact this] at hO8
                  have HO8 := Lib.hid (own_mono hO8 (Below.refl _ _).drew)
                  have hB8 := ((((((((HB6.out).setCell (p := ⟨g4, q * 4, none⟩) hg4 (.int .i64 y.ins)).setCell (p := ⟨g4, q * 4 + 1, none⟩) hg4 (.int .i64 y.num)).setCell (p := ⟨g4, q * 4 + 2, none⟩) hg4 (.int .i64 y.tim)).setCell (p := ⟨g4, q * 4 + 3, none⟩) hg4 (.int .i64 y.val)).setCell (p := ⟨g4, p * 4, none⟩) hg4 (.int .i64 x.ins)).setCell (p := ⟨g4, p * 4 + 1, none⟩) hg4 (.int .i64 x.num)).setCell (p := ⟨g4, p * 4 + 2, none⟩) hg4 (.int .i64 x.tim)).setCell (p := ⟨g4, p * 4 + 3, none⟩) hg4 (.int .i64 x.val)
                  have HB8 := Lib.hid hB8.drew
                  have hG2 : ∀ (i : Nat) (z : Rdg), p ≤ i → S[i]? = some z → rlt x z = true := fun i z hi hz => by
                    rcases Nat.lt_or_ge p i with h' | h'
                    · exact HG.out i z (by have := HP.out; omega) hz
                    · obtain rfl : i = p := by omega
                      rw [HY.out] at hz; cases hz; exact HV.out.symm
                  have HG2 := Lib.hid hG2
                  have hne1 : ¬ p = q := by have := HP.out; omega
                  have hne2 : ¬ q = p := by have := HP.out; omega
                  have hne3 : ¬ p * 4 = q * 4 := by have := HP.out; omega
                  have hne4 : ¬ q * 4 = p * 4 := by have := HP.out; omega
                  clear hO6 hO7 hO8 hB8 hG2 hp1 hq1 hbb
                  go_wp2_with fail
                  go_region
                  all_goals
                    go_wp2_with fail
                    go_roundw
                    case rel => exact ⟨p, by have := HP.out; omega, rfl, HO8.out, HB8.out, HG2.out⟩
                    case measure => have := HP.out; simp [intOf] <;> omega
    · obtain rfl : k = n := by omega
      rw [List.take_of_length_le (by rw [HL.out]; exact Nat.le_refl _)] at HO hsl
      obtain ⟨A', c', rfl, hc'⟩ := own_form HO.out
      go_wp2_with fail
      go_ret
      exact ⟨A', _, c', rfl, hc', hsl, Rd.of_own encR_len HO.out rfl, hb⟩
end Go.Proofs.Ytkgoojilmnkgiaa
