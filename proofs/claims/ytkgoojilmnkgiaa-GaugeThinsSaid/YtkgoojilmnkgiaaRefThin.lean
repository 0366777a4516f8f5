/- CONTRACT of the reference's Thin (begun lists that it ends in the shortest way, the first of these). -/
import Derived.Test.YtkgoojilmnkgiaaThinsLaw
import Derived.Test.YtkgoojilmnkgiaaRefNear
import Derived.Test.YtkgoojilmnkgiaaAppRd
namespace Go.Proofs.Ytkgoojilmnkgiaa
open Go.RowKit Go.Proofs

/-- what the loop of Thin knows at b -/
def BestTo (l : List (Int × Int)) (s : Int) (last a b : Nat) : Option (Nat × List Nat) → Prop
  | none => ∀ b', a < b' → b' < b → nearB l a b' s = false
  | some (b0, r0) => a < b0 ∧ b0 < b ∧ nearB l a b0 s = true ∧ Greedy l s last b0 r0 ∧ ∀ b', a < b' → b' < b → nearB l a b' s = true → restN l s last b0 ≤ restN l s last b' ∧ (b' < b0 → restN l s last b0 < restN l s last b')
theorem BestTo.start (l : List (Int × Int)) (s : Int) (last a : Nat) : BestTo l s last a (a + 1) none := fun b' h1 h2 => by omega
theorem BestTo.far {l : List (Int × Int)} {s : Int} {last a b : Nat} {best : Option (Nat × List Nat)} (h : BestTo l s last a b best) (hn : nearB l a b s = false) : BestTo l s last a (b + 1) best := by
  match best, h with
  | none, h =>
    intro b' h1 h2
    rcases Nat.lt_or_ge b' b with h' | h'
    · exact h b' h1 h'
    · obtain rfl : b' = b := by omega
      exact hn
  | some (b0, r0), ⟨h1, h2, h3, h4, h5⟩ =>
    refine ⟨h1, by omega, h3, h4, fun b' g1 g2 g3 => ?_⟩
    rcases Nat.lt_or_ge b' b with h' | h'
    · exact h5 b' g1 h' g3
    · obtain rfl : b' = b := by omega
      rw [hn] at g3; cases g3
theorem BestTo.take {l : List (Int × Int)} {s : Int} {last a b : Nat} {best : Option (Nat × List Nat)} {r : List Nat} (h : BestTo l s last a b best) (hab : a < b) (hn : nearB l a b s = true) (hr : Greedy l s last b r)
    (hless : ∀ b0 r0, best = some (b0, r0) → r.length < r0.length) : BestTo l s last a (b + 1) (some (b, r)) := by
  refine ⟨hab, by omega, hn, hr, fun b' g1 g2 g3 => ?_⟩
  rcases Nat.lt_or_ge b' b with h' | h'
  · match best, h, hless with
    | none, h, _ => rw [h b' g1 h'] at g3; cases g3
    | some (b0, r0), ⟨_, _, _, h4, h5⟩, hless =>
      have h6 := hless b0 r0 rfl
      rw [greedy_len r b hr, greedy_len r0 b0 h4] at h6
      have := (h5 b' g1 h' g3).1
      exact ⟨by omega, fun _ => by omega⟩
  · obtain rfl : b' = b := by omega
    exact ⟨Nat.le_refl _, fun h => by omega⟩
theorem BestTo.keep {l : List (Int × Int)} {s : Int} {last a b b0 : Nat} {r0 r : List Nat} (h : BestTo l s last a b (some (b0, r0))) (hr : Greedy l s last b r) (hge : r0.length ≤ r.length) : BestTo l s last a (b + 1) (some (b0, r0)) := by
  obtain ⟨h1, h2, h3, h4, h5⟩ := h
  refine ⟨h1, by omega, h3, h4, fun b' g1 g2 g3 => ?_⟩
  rcases Nat.lt_or_ge b' b with h' | h'
  · exact h5 b' g1 h' g3
  · obtain rfl : b' = b := by omega
    rw [greedy_len r b' hr, greedy_len r0 b0 h4] at hge
    exact ⟨hge, fun h => by omega⟩
theorem BestTo.done {l : List (Int × Int)} {s : Int} {last a : Nat} {best : Option (Nat × List Nat)} (h : BestTo l s last a (last + 1) best) (hl : last < l.length) (hs : 0 ≤ s) (ha : a < last) : ∃ b0 r0, best = some (b0, r0) ∧ Greedy l s last a (b0 :: r0) := by
  match best, h with
  | none, h =>
    have := h (a + 1) (by omega) (by omega)
    rw [near_succ (by omega) hs] at this; cases this
  | some (b0, r0), ⟨h1, h2, h3, h4, h5⟩ =>
    have hR := restN_is (l := l) (s := s) (last := last) (a := a) hl hs (by omega)
    have hb0 := restN_is (l := l) (s := s) (last := last) (a := b0) hl hs (by omega)
    have hup := hR.2 (restN l s last b0 + 1) ⟨b0, h1, by omega, h3, hb0.1⟩
    have hlo : restN l s last b0 + 1 ≤ restN l s last a := by
      match hk : restN l s last a, hR.1 with
      | 0, hh => simp [HopsK] at hh; omega
      | k + 1, ⟨b', g1, g2, g3, g4⟩ =>
        have i1 := (h5 b' g1 (by omega) g3).1
        have i2 := (restN_is (l := l) (s := s) (last := last) (a := b') hl hs g2).2 k g4
        omega
    refine ⟨b0, r0, rfl, h1, by omega, ?_, fun b' g1 g2 => ?_, h4⟩
    · rw [goodB, h3, Bool.true_and, decide_eq_true_iff]; omega
    · cases hg : nearB l a b' s
      · simp [goodB, hg]
      · have := (h5 b' g1 (by omega) hg).2 g2
        rw [goodB, hg, Bool.true_and, decide_eq_false_iff_not]; omega

def bestL (pre : List Nat) (a : Nat) : Option (Nat × List Nat) → List Int
  | none => []
  | some (b0, r0) => (pre ++ a :: b0 :: r0).map Int.ofNat
/-- what a call of Thin hands back -/
def RT (l : List (Int × Int)) (s : Int) (last a : Nat) (pre : List Nat) (w : World) (e : Ending) (w' : World) : Prop :=
  ∃ (r : List Nat) (C : Option Addr) (m' c2 : Nat), e = .returned (.slice C m' c2) ∧ m' ≤ c2 ∧ Greedy l s last a r ∧ Rd enc1 1 w' C m' ((pre ++ a :: r).map Int.ofNat) ∧ Below w.heap.size w w'

set_option maxRecDepth 100000 in
set_option maxHeartbeats 1000000 in
theorem RefThin_step {l : List (Int × Int)} {s : Int} {n c a d : Nat} {A : Option Addr} (hask : askedE l s = 0) (hln : l.length = n) (ha : a < n - 1) (pre : List Nat)
    (ih : ∀ (b : Nat), a < b → b ≤ n - 1 → ∀ (pre : List Nat) {B : Option Addr} {m c' : Nat} {w : World}, Rd enc2 2 w A n l → Rd enc1 1 w B m ((pre ++ [b]).map Int.ofNat) → m ≤ c' → m + d ≤ 100000 → Calls Try.prog 41 #[.slice A n c, .int .i64 s, .slice B m c'] w (RT l s (n - 1) b pre w))
    {B : Option Addr} {m c' : Nat} {w : World} (h : Rd enc2 2 w A n l) (h' : Rd enc1 1 w B m ((pre ++ [a]).map Int.ofNat)) (hc' : m ≤ c') (hm : m + (d + 1) ≤ 100000) :
    Calls Try.prog 41 #[.slice A n c, .int .i64 s, .slice B m c'] w (RT l s (n - 1) a pre w) := by
  obtain ⟨hser, hins⟩ := askedE_zero.1 hask
  rw [inB_iff] at hins
  have hn60 : n ≤ 60 := by rw [← hln]; exact hser.len
  have hml := h'.len
  simp only [List.length_map, List.length_append, List.length_singleton] at hml
  obtain ⟨bb, ob, x, hA, hbl, hx, hcx⟩ := h'.at1 (i := m - 1) (by omega)
  subst hA
  rw [List.getElem?_map, show m - 1 = pre.length by omega, List.getElem?_append_right (Nat.le_refl _)] at hx
  simp at hx
  subst hx
  have HIH := Lib.hid @ih; have HLN := Lib.hid hln; have HS := Lib.hid hser; have HML := Lib.hid hml
  have hm1 : 1 ≤ m := by omega
  clear ih hask hser hml
  obtain ⟨i0, hi0, hz0, hz1, hz2⟩ := info_parts infoI
  have HI := Lib.hid hi0; have HZ0 := Lib.hid hz0; have HZ1 := Lib.hid hz1; have HZ2 := Lib.hid hz2
  clear hi0 hz0 hz1 hz2
  have w1 : IntKind.i64.wrap ((m : Int) - 1) = (m : Int) - 1 := wi (by omega)
  have t1 : ((m : Int) - 1).toNat = m - 1 := by omega
  have b1 : (0 : Int) ≤ (m : Int) - 1 := by omega
  have b2 : (m : Int) - 1 < (m : Int) := by omega
  have w2 : IntKind.i64.wrap ((n : Int) - 1) = (n : Int) - 1 := wi (by omega)
  have hne : ((a : Int) == (n : Int) - 1) = false := by rw [beq_eq_false_iff_ne]; omega
  have hne2 : ¬ (a : Int) = (n : Int) - 1 := by omega
  have wa : IntKind.i64.wrap ((a : Int) + 1) = (a : Int) + 1 := wi (by omega)
  go_enter Try.func41, Try.ntmps41
  go_wp2_with fail
  go_loopw [8, 9] (fun v i wr => ∃ (k : Nat) (best : Option (Nat × List Nat)) (C : Option Addr) (m' c2 : Nat), a + 1 ≤ k ∧ k ≤ n ∧ i = .int .i64 k ∧ BestTo l s (n - 1) a k best ∧ v = .slice C m' c2 ∧ m' ≤ c2 ∧ Rd enc1 1 wr C m' (bestL pre a best) ∧ Below w.heap.size w wr) (fun _ i _ => n - (intOf i).toNat)
  case atStart => exact ⟨a + 1, none, none, 0, 0, Nat.le_refl _, by omega, by go_num, BestTo.start _ _ _ _, rfl, Nat.le_refl _, ⟨rfl, fun h => absurd h (by omega)⟩, Below.refl _ _⟩
  case round =>
    obtain ⟨k, best, C, m', c2, hk1, hk2, rfl, hbt, rfl, hmc, hrd, hb⟩ := hrel
    have HBT := Lib.hid hbt; have HRD := Lib.hid hrd; have HB := Lib.hid hb
    clear hbt hrd hb
    by_cases hlt : k < n
    · have hkn : (k : Int) < (n : Int) := by omega
      have hnc := Near_c (c := c) (h.below HB.out) HS.out (show a < k by omega) hlt hins
      cases hnb : nearB l a k s
      · rw [hnb] at hnc
        have HNC := Lib.hid hnc; have HN := Lib.hid hnb
        clear hnc hnb
        go_wp2_with fail
        refine HNC.out.mono ?_
        rintro e w3 ⟨rfl, hb3⟩
        go_wp2_with fail
        go_roundw
        case rel => exact ⟨k + 1, best, C, m', c2, by omega, by omega, by go_num, HBT.out.far HN.out, rfl, hmc, HRD.out.below hb3, below_tr HB.out hb3⟩
        case measure => simp [intOf] <;> omega
      · rw [hnb] at hnc
        have HNC := Lib.hid hnc; have HN := Lib.hid hnb
        clear hnc hnb
        go_wp2_with fail
        refine HNC.out.mono ?_
        rintro e w3 ⟨rfl, hb3⟩
        have HB3 := Lib.hid (below_tr HB.out hb3)
        have HRD3 := Lib.hid (HRD.out.below hb3)
        have HBG := Lib.hid (h'.below HB3.out)
        clear hb3 HRD HB HNC
        go_wp2_with (at_builtin; first
          | (refine wpList_append_rd rfl _ _ 33 rfl w3.heap.size 3 i0 (.int .i64 0) 1 8 Try.underlying33 HI.out HZ0.out HZ1.out HZ2.out rfl (by decide) _ _ _ rfl (own_empty w3 3 1) enc1_len (fun x u hu => by simp [enc1] at hu; subst hu; rfl) _ m c' ((pre ++ [a]).map Int.ofNat) rfl (HBG.out.below ((Below.refl _ w3).alloc (Nat.le_refl _) _)) (by unfold maxLen; omega) (by omega) (by simp) ?_; intro v1 w4 hown1 hgrow1
             have hb4 : Below w3.heap.size w3 w4 := ((Below.refl _ w3).alloc (Nat.le_refl _) _).grown hgrow1 (by simp) (fun g hg => ((own_empty w3 3 1).lt g hg).1)
             have hsz4 := hb4.size
             have HB4 := Lib.hid hb4; have HO4 := Lib.hid hown1
             clear hb4 hown1 hgrow1)
          | go_must (refine wpList_append_own_at _ rfl _ _ 33 rfl w3.heap.size 3 i0 (.int .i64 0) 1 8 Try.underlying33 HI.out HZ0.out HZ1.out HZ2.out rfl (by decide) _ _ _ rfl (HO4.out.alloc _) ⟨w4.heap.size, 0, none⟩ 1 1 [.int .i64 (k : Int)] rfl rfl (cell_one_new _ _ _) (by simp [Value.oneCell']) (by unfold maxLen; omega) (by omega) (by simp; omega) ?_; intro v2 w5 hown2 hgrow2 _ _))
        have hb5 : Below w3.heap.size w3 w5 := (HB4.out.alloc (by omega) _).grown hgrow2 (by simp; omega) (fun g hg => (HO4.out.lt g hg).1)
        obtain ⟨A5, c5, rfl, hc5⟩ := own_form hown2
        have hr5 : Rd enc1 1 w5 A5 (0 + m + 1) (((pre ++ [a]) ++ [k]).map Int.ofNat) := by
          refine Rd.of_own (e := 3) (base := w3.heap.size) (c := c5) enc1_len ?_ (by simp; have := HML.out; omega)
          have := hown2
          rw [List.map_append, List.flatMap_append]
          simpa [enc1] using this
        have HB5 := Lib.hid (below_tr HB3.out hb5)
        have HRD5 := Lib.hid (HRD3.out.below hb5)
        have hcall := HIH.out k (by omega) (by omega) (pre ++ [a]) (h.below HB5.out) hr5 hc5 (by omega)
        have HCALL := Lib.hid hcall
        clear hown2 hgrow2 hb5 hr5 hcall HRD3 HBG HB4 HO4 HB3
        go_wp2_with fail
        refine HCALL.out.mono ?_
        rintro e w6 ⟨r, C6, m6, c6, rfl, hm6, hg, hr6, hb6⟩
        have hl6 := hr6.len
        simp only [List.length_map, List.length_append, List.length_cons, List.length_nil] at hl6
        have HG := Lib.hid hg
        have HR6 : Hid (Rd enc1 1 w6 C6 m6 (bestL pre a (some (k, r)))) := by
          have := hr6
          rw [List.append_assoc] at this
          exact this
        have HB6 := Lib.hid (below_tr HB5.out hb6)
        have HRD6 := Lib.hid (HRD5.out.below hb6)
        clear hg hr6 hb6 HRD5 HB5 HCALL
        match best, HBT, HRD6 with
        | none, HBT, HRD6 =>
          have hm0 : m' = 0 := by have := HRD6.out.len; simpa [bestL] using this.symm
          subst hm0
          go_wp2_with fail
          go_roundw
          case rel => exact ⟨k + 1, some (k, r), C6, m6, c6, by omega, by omega, by go_num, HBT.out.take (by omega) HN.out HG.out (fun b0 r0 e => by cases e), rfl, hm6, HR6.out, HB6.out⟩
          case measure => simp [intOf] <;> omega
        | some (b0, r0), HBT, HRD6 =>
          have hl0 := HRD6.out.len
          simp only [bestL, List.length_map, List.length_append, List.length_cons] at hl0
          have hz : ((m' : Int) == 0) = false := by rw [beq_eq_false_iff_ne]; omega
          by_cases hless : m6 < m'
          · have hl1 : (m6 : Int) < (m' : Int) := by omega
            have HLE : Hid (r.length < r0.length) := by show r.length < r0.length; omega
            clear hl0 hl6
            go_wp2_with fail
            go_roundw
            case rel => exact ⟨k + 1, some (k, r), C6, m6, c6, by omega, by omega, by go_num, HBT.out.take (by omega) HN.out HG.out (fun b1 r1 e => by cases e; exact HLE.out), rfl, hm6, HR6.out, HB6.out⟩
            case measure => simp [intOf] <;> omega
          · have hl1 : ¬ (m6 : Int) < (m' : Int) := by omega
            have HGE : Hid (r0.length ≤ r.length) := by show r0.length ≤ r.length; omega
            clear hl0 hl6
            go_wp2_with fail
            go_roundw
            case rel => exact ⟨k + 1, some (b0, r0), C, m', c2, by omega, by omega, by go_num, HBT.out.keep HG.out HGE.out, rfl, hmc, HRD6.out, HB6.out⟩
            case measure => simp [intOf] <;> omega
    · obtain rfl : n = k := by omega
      have hkn : ¬ (n : Int) < (n : Int) := by omega
      have hd := (show BestTo l s (n - 1) a (n - 1 + 1) best by rw [show n - 1 + 1 = n by omega]; exact HBT.out).done (by have := HLN.out; omega) hins.1 ha
      obtain ⟨b0, r0, rfl, hg⟩ := hd
      have HG := Lib.hid hg
      clear hg
      go_wp2_with fail
      go_ret
      exact ⟨b0 :: r0, C, m', c2, rfl, hmc, HG.out, HRD.out, HB.out⟩

set_option maxRecDepth 100000 in
set_option maxHeartbeats 400000 in
theorem RefThin_end {l : List (Int × Int)} {s : Int} {n c a : Nat} {A : Option Addr} (hn : n ≤ 60) (ha : a + 1 = n) (pre : List Nat)
    {B : Option Addr} {m c' : Nat} {w : World} (h' : Rd enc1 1 w B m ((pre ++ [a]).map Int.ofNat)) (hc' : m ≤ c') (hm : m ≤ 100000) :
    Calls Try.prog 41 #[.slice A n c, .int .i64 s, .slice B m c'] w (RT l s (n - 1) a pre w) := by
  have hml := h'.len
  simp only [List.length_map, List.length_append, List.length_singleton] at hml
  obtain ⟨bb, ob, x, hA, hbl, hx, hcx⟩ := h'.at1 (i := m - 1) (by omega)
  subst hA
  rw [List.getElem?_map, show m - 1 = pre.length by omega, List.getElem?_append_right (Nat.le_refl _)] at hx
  simp at hx
  subst hx
  have hm1 : 1 ≤ m := by omega
  have HR := Lib.hid h'
  have HG : Hid (Greedy l s (n - 1) a []) := (show a = n - 1 by omega)
  clear hml
  have w1 : IntKind.i64.wrap ((m : Int) - 1) = (m : Int) - 1 := wi (by omega)
  have t1 : ((m : Int) - 1).toNat = m - 1 := by omega
  have b1 : (0 : Int) ≤ (m : Int) - 1 := by omega
  have b2 : (m : Int) - 1 < (m : Int) := by omega
  have w2 : IntKind.i64.wrap ((n : Int) - 1) = (n : Int) - 1 := wi (by omega)
  have hne : ((a : Int) == (n : Int) - 1) = true := by rw [beq_iff_eq]; omega
  have HAN : Hid (a + 1 = n) := ha
  clear ha
  go_enter Try.func41, Try.ntmps41
  go_wp2
  all_goals first
    | (go_ret; exact ⟨[], some ⟨bb, ob, none⟩, m, c', rfl, hc', HG.out, HR.out, Below.refl _ _⟩)
    | (exfalso; have := HAN.out; omega)
theorem RefThin_c {l : List (Int × Int)} {s : Int} {n c : Nat} {A : Option Addr} (hask : askedE l s = 0) (hln : l.length = n) (hn0 : 0 < n) : ∀ (d a : Nat), n - 1 - a ≤ d → a ≤ n - 1 → ∀ (pre : List Nat) {B : Option Addr} {m c' : Nat} {w : World}, Rd enc2 2 w A n l → Rd enc1 1 w B m ((pre ++ [a]).map Int.ofNat) → m ≤ c' → m + d ≤ 100000 →
    Calls Try.prog 41 #[.slice A n c, .int .i64 s, .slice B m c'] w (RT l s (n - 1) a pre w) := by
  have hn60 : n ≤ 60 := by rw [← hln]; exact (askedE_zero.1 hask).1.len
  intro d
  induction d with
  | zero => intro a h1 h2 pre B m c' w h h' hc' hm; exact RefThin_end hn60 (by omega) pre h' hc' (by omega)
  | succ d ih =>
    intro a h1 h2 pre B m c' w h h' hc' hm
    by_cases ha : a + 1 = n
    · exact RefThin_end hn60 ha pre h' hc' (by omega)
    · exact RefThin_step (d := d) hask hln (by omega) pre (fun b hab hb pre' {_ _ _ _} g1 g2 g3 g4 => ih b (by omega) hb pre' g1 g2 g3 g4) h h' hc' hm
end Go.Proofs.Ytkgoojilmnkgiaa
