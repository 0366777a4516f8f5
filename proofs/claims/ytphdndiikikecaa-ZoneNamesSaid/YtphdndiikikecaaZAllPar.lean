/- THE CONTRACT of Valley.slide: is a slide one of a valley? -/
import Derived.Test.YtphdndiikikecaaZInts
set_option linter.unusedVariables false
set_option linter.unusedSimpArgs false
namespace Go.Proofs.Ytphdndiikikecaa
open Go.RowKit Go.Proofs

/-- the marks of the parcels that were seen -/
def SeenC (way : List Int) (k : Nat) (cs : Array Value) : Prop := cs.size = 12 ∧ ∀ j : Nat, j < 12 → cs[j]? = some (.bool (decide ((j : Int) ∈ way.take k)))
theorem SeenC.step {way : List Int} {k m : Nat} {cs : Array Value} (h : SeenC way k cs) (hx : way[k]? = some (m : Int)) (hm : m < 12) : SeenC way (k + 1) (cs.setIfInBounds m (.bool true)) := by
  refine ⟨by simpa using h.1, fun j hj => ?_⟩
  rw [Array.getElem?_setIfInBounds, List.take_add_one, hx]
  by_cases hmj : m = j
  · subst hmj
    rw [if_pos rfl, if_pos (by rw [h.1]; exact hm)]
    simp
  · rw [if_neg hmj, h.2 j hj]
    have : ((j : Int) ∈ way.take k ++ (some (m : Int)).toList) ↔ ((j : Int) ∈ way.take k) := by
      simp; omega
    rw [decide_eq_decide.2 this]

theorem sliOk_way {pn : Nat} {s : Sli} (h : ¬ wayTo pn s.way s.way.length) : sliOk pn s = false := by
  have : wayOk pn s.way = false := by
    rw [← Bool.not_eq_true, wayOk_iff]; exact h
  simp [sliOk, this]

theorem blk3 (w : World) (X Y Z : Array Value) (a b c : TypeId) : Blk (((w.alloc (.cells X a)).alloc (.cells Y b)).alloc (.cells Z c)) (w.heap.size + 1 + 1) c Z ∧
    Blk (((w.alloc (.cells X a)).alloc (.cells Y b)).alloc (.cells Z c)) w.heap.size a X ∧ Blk (((w.alloc (.cells X a)).alloc (.cells Y b)).alloc (.cells Z c)) (w.heap.size + 1) b Y ∧
    Below w.heap.size w (((w.alloc (.cells X a)).alloc (.cells Y b)).alloc (.cells Z c)) := by
  have h1 := Blk.new ((w.alloc (.cells X a)).alloc (.cells Y b)) c Z
  have h2 := ((Blk.new w a X).alloc (.cells Y b)).alloc (.cells Z c)
  have h3 := (Blk.new (w.alloc (.cells X a)) b Y).alloc (.cells Z c)
  simp only [World.size_alloc] at h1 h3
  exact ⟨h1, h2, h3, (((Below.refl _ w).alloc (Nat.le_refl _) _).alloc (by simp) _).alloc (by simp; omega) _⟩
theorem SeenC.zero (way : List Int) : SeenC way 0 #[.bool false, .bool false, .bool false, .bool false, .bool false, .bool false, .bool false, .bool false, .bool false, .bool false, .bool false, .bool false] := by
  refine ⟨rfl, fun j hj => ?_⟩
  simp only [List.take_zero, List.not_mem_nil, decide_false]
  match j, hj with
  | 0, _ | 1, _ | 2, _ | 3, _ | 4, _ | 5, _ | 6, _ | 7, _ | 8, _ | 9, _ | 10, _ | 11, _ => rfl
theorem sliOk_rest {pn : Nat} {s : Sli} (h : wayTo pn s.way s.way.length) : sliOk pn s = (decide (1 ≤ s.way.length) && inB s.rate 1 1000 && upB s.lo s.hi s.way.length) := by
  rw [sliOk, wayOk_iff.2 h, Bool.true_and]

set_option maxRecDepth 100000 in
set_option maxHeartbeats 1000000 in
theorem slide_c (PA SA : Option Addr) (pn pc sn sc : Nat) (s0 s1 s2 : Int) (s : Sli) (w : World) (h : Rd enc1 1 w s.A s.n s.way) (hn : s.n ≤ maxLen) (hpn : pn ≤ 12) :
    Calls Try.prog 75 #[.agg #[.slice PA pn pc, .slice SA sn sc, .int .i64 s0, .int .i64 s1, .int .i64 s2], .agg #[.slice s.A s.n s.c, .int .i64 s.rate, .int .i64 s.lo, .int .i64 s.hi]] w
      fun e w' => e = .returned (.bool (sliOk pn s)) ∧ Below w.heap.size w w' := by
  obtain ⟨A, n, c, way, rate, lo, hi⟩ := s
  have HW := Lib.hid (sliOk_way (pn := pn) (s := ⟨A, n, c, way, rate, lo, hi⟩))
  have HS := Lib.hid (sliOk_rest (pn := pn) (s := ⟨A, n, c, way, rate, lo, hi⟩))
  obtain ⟨R, hR⟩ : ∃ R, R = sliOk pn ⟨A, n, c, way, rate, lo, hi⟩ := ⟨_, rfl⟩
  rw [← hR] at HW HS ⊢
  clear hR
  simp only at h hn HW HS ⊢
  unfold maxLen at hn
  have HL := Lib.hid h.len
  have H0 := Lib.hid h
  clear h
  go_enter Try.func75, Try.ntmps75
  go_wp2_with fail
  go_loopw [7, 11] (fun _ i wr => ∃ (k : Nat) (cs : Array Value), k ≤ n ∧ i = .int .i64 k ∧ wayTo pn way k ∧ SeenC way k cs ∧ Blk wr (w.heap.size + 1 + 1) 139 cs ∧
      Blk wr w.heap.size 36 #[.slice PA pn pc, .slice SA sn sc, .int .i64 s0, .int .i64 s1, .int .i64 s2] ∧ Blk wr (w.heap.size + 1) 103 #[.slice A n c, .int .i64 rate, .int .i64 lo, .int .i64 hi] ∧ Below w.heap.size w wr)
    (fun _ i _ => n - (intOf i).toNat)
  case atStart =>
    obtain ⟨h1, h2, h3, h4⟩ := blk3 w _ _ _ _ _ _
    exact ⟨0, _, Nat.zero_le _, rfl, ⟨fun p hp => by simp at hp, by simp⟩, SeenC.zero way, h1, h2, h3, h4⟩
  case round =>
    obtain ⟨k, cs, hk, rfl, hto, hsc, hb1, hb2, hb3, hbl⟩ := hrel
    by_cases hlt : k < n
    · obtain ⟨b, o, x, rfl, hblt, hx, hcx⟩ := (H0.out.below hbl).at1 hlt
      have hb2c := hb2.cell 0
      have hb3c := hb3.cell 0
      simp at hb2c hb3c
      have HB1 := Lib.hid hb1; have HB2 := Lib.hid hb2; have HB3 := Lib.hid hb3; have HBL := Lib.hid hbl; have HX := Lib.hid hx; have HTO := Lib.hid hto; have HSC := Lib.hid hsc
      clear hb1 hb2 hb3 hbl hx hto hsc
      have hw1 : IntKind.i64.wrap ((pn : Int) - 1) = (pn : Int) - 1 := wi (by omega)
      have hi1 : (k : Int) < (n : Int) := by omega
      have hi0 : (0 : Int) ≤ (k : Int) := by omega
      cases hin : inB x 0 ((pn : Int) - 1)
      · have HN := Lib.hid hin
        go_wp2_with (go_at_call 69; refine (within_c _ _ _ _).mono ?_; rintro e w' ⟨rfl, rfl⟩; simp only [HN.out])
        go_ret
        exact ⟨ret_bool (HW.out fun hto => by
          have := ((wayTo_succ HX.out).1 (wayTo_mono (by rw [HL.out]; omega) hto)).2.1
          rw [inB_not] at hin; omega).symm, HBL.out⟩
      · rw [inB_iff] at hin
        obtain ⟨m, rfl⟩ : ∃ m : Nat, x = (m : Int) := ⟨x.toNat, by omega⟩
        have hm : m < 12 := by omega
        have HN := Lib.hid (inB_iff.2 hin)
        have hc1 := HB1.out.cell m
        rw [HSC.out.2 m hm] at hc1
        have hf1 := HB1.out.frozen m
        have hm2 : (m : Int) < 12 := by omega
        have hm3 : (0 : Int) ≤ (m : Int) := by omega
        by_cases hmem : (m : Int) ∈ way.take k
        · rw [decide_eq_true hmem] at hc1
          have HM := Lib.hid hmem
          clear hmem hin
          go_wp2_with (go_at_call 69; refine (within_c _ _ _ _).mono ?_; rintro e w' ⟨rfl, rfl⟩; simp only [HN.out])
          go_ret
          exact ⟨ret_bool (HW.out fun hto => ((wayTo_succ HX.out).1 (wayTo_mono (by rw [HL.out]; omega) hto)).2.2 HM.out).symm, HBL.out⟩
        · rw [decide_eq_false hmem] at hc1
          have HM := Lib.hid hmem
          have HI := Lib.hid hin
          clear hmem hin
          go_wp2_with (go_at_call 69; refine (within_c _ _ _ _).mono ?_; rintro e w' ⟨rfl, rfl⟩; simp only [HN.out])
          go_roundw
          case rel =>
            exact ⟨k + 1, _, by omega, by go_num, (wayTo_succ HX.out).2 ⟨HTO.out, by have := HI.out; omega, HM.out⟩, HSC.out.step HX.out hm, HB1.out.set_ m _, HB2.out.far (by simp; omega) _, HB3.out.far (by simp) _, HBL.out.setCell (by simp; omega) _⟩
          case measure => simp [intOf]; omega
    · obtain rfl : k = n := by omega
      have hto' : wayTo pn way way.length := by rw [HL.out]; exact hto
      have hRR := HS.out hto'
      rw [HL.out] at hRR
      have c0 := hb3.cell 0; have c1 := hb3.cell 1; have c2 := hb3.cell 2; have c3 := hb3.cell 3
      simp at c0 c1 c2 c3
      have HBL := Lib.hid hbl
      clear hb1 hb2 hb3 hbl hsc hto hto'
      by_cases h1 : 1 ≤ k
      · rw [decide_eq_true h1, Bool.true_and] at hRR
        cases hr : inB rate 1 1000
        · rw [hr] at hRR
          have HR := Lib.hid hRR; clear hRR
          go_wp2_with (go_at_call 69; refine (within_c _ _ _ _).mono ?_; rintro e w' ⟨rfl, rfl⟩; simp only [hr])
          go_ret
          exact ⟨ret_bool HR.out.symm, HBL.out⟩
        · rw [hr, Bool.true_and] at hRR
          have HR := Lib.hid hRR; clear hRR
          go_wp2_with (first | (go_at_call 69; refine (within_c _ _ _ _).mono ?_; rintro e w' ⟨rfl, rfl⟩; simp only [hr]) | (go_at_call 79; refine (up_c _ _ _ _).mono ?_; rintro e w' ⟨rfl, hb⟩))
          go_ret
          exact ⟨ret_bool HR.out.symm, HBL.out.trans (hb.mono HBL.out.size)⟩
      · rw [decide_eq_false h1, Bool.false_and] at hRR
        have HR := Lib.hid hRR; clear hRR
        obtain rfl : k = 0 := by omega
        go_wp2_with fail
        go_ret
        exact ⟨ret_bool HR.out.symm, HBL.out⟩
end Go.Proofs.Ytphdndiikikecaa

namespace Go.Proofs.Ytphdndiikikecaa
open Go.RowKit Go.Proofs

section
variable {p : Par → Bool}
theorem allPar_1 (x : Par) (B : Nat) (w : World) (_hBl : B < w.heap.size) (hB : w.cell? ⟨B, 0, none⟩ = some (.func (.func 73) #[] #[]))
    (hp : ∀ W : World, Below w.heap.size w W → Calls Try.prog 73 #[.agg #[.int .i64 x.worth, .int .i64 x.price, .int .i64 x.people, .bool x.ins]] W fun e w' => e = .returned (.bool (p x)) ∧ Below W.heap.size W w') :
    Calls Try.prog 88 #[.agg #[.int .i64 x.worth, .int .i64 x.price, .int .i64 x.people, .bool x.ins], .pointer (some ⟨B, 0, none⟩)] w fun e w' => e = .returned (.bool (!p x)) ∧ Below w.heap.size w w' := by
  have hp' := hp (w.alloc (.cells #[.int .i64 x.worth, .int .i64 x.price, .int .i64 x.people, .bool x.ins] 111)) ((Below.refl w.heap.size w).alloc (Nat.le_refl _) (.cells #[.int .i64 x.worth, .int .i64 x.price, .int .i64 x.people, .bool x.ins] 111))
  have HP := Lib.hid hp'; clear hp hp'
  go_enter Try.func88, Try.ntmps88
  go_wp2_with (go_at_call 73; refine (HP.out).mono ?_; rintro e w' ⟨rfl, hb⟩)
  go_ret
  exact ⟨rfl, ((Below.refl _ _).alloc (Nat.le_refl _) _).trans (hb.mono (by simp))⟩

theorem idxPar_c {l : List (Par)} {A : Option Addr} {n c : Nat} {B : Nat} (w : World) (h : Rd encP 4 w A n l) (hn : n ≤ maxLen) (hBl : B < w.heap.size)
    (hB : w.cell? ⟨B, 0, none⟩ = some (.func (.func 73) #[] #[]))
    (hp : ∀ (i : Nat) (x : Par) (W : World), l[i]? = some x → Below w.heap.size w W → Calls Try.prog 73 #[.agg #[.int .i64 x.worth, .int .i64 x.price, .int .i64 x.people, .bool x.ins]] W fun e w' => e = .returned (.bool (p x)) ∧ Below W.heap.size W w') :
    Calls Try.prog 97 #[.slice A n c, .func (.func 88) #[] #[.pointer (some ⟨B, 0, none⟩)]] w
      fun e w' => (∃ r : Int, e = .returned (.int .i64 r) ∧ (!decide (r ≥ 0)) = allB p l) ∧ Below w.heap.size w w' := by
  unfold maxLen at hn
  have HP := Lib.hid hp; clear hp
  go_enter Try.func97, Try.ntmps97
  go_wp2_with fail
  go_loopw [5, 8] (fun _ i wr => ∃ k : Nat, k ≤ n ∧ i = .int .i64 k ∧ Below w.heap.size w wr ∧ ∀ (j : Nat) (x : Par), j < k → l[j]? = some x → p x = true) (fun _ i _ => n - (intOf i).toNat)
  case atStart => exact ⟨0, Nat.zero_le _, rfl, Below.refl _ _, fun j x hj => absurd hj (by omega)⟩
  case round =>
    obtain ⟨k, hk, rfl, hb, hall⟩ := hrel
    have HA := Lib.hid hall; clear hall
    by_cases hlt : k < n
    · obtain ⟨b, o, x, rfl, hbl, hx, h0, h1, h2, h3⟩ := (h.below hb).atP hlt
      have hx1 := fun W (hW : Below wr.heap.size wr W) => HP.out k x W hx (hb.trans (hW.mono hb.size))
      have HX1 := Lib.hid hx1; clear hx1
      have HX := Lib.hid hx; clear hx
      have hB' := (hb.cell (p := ⟨B, 0, none⟩) hBl).trans hB
      have hBl' : B < wr.heap.size := Nat.lt_of_lt_of_le hBl hb.size
      cases hm : p x
      all_goals
        have HM := Lib.hid hm; clear hm
        go_wp2_with (go_at_call 88; refine (allPar_1 _ _ _ hBl' hB' HX1.out).mono ?_; rintro e w' ⟨rfl, hb'⟩; simp only [HM.out])
      · go_ret
        exact ⟨⟨k, rfl, by rw [(allB_not (p := p) (l := l)).2 ⟨k, x, HX.out, HM.out⟩]; simp⟩, hb.trans (hb'.mono hb.size)⟩
      · go_roundw
        case rel => exact ⟨k + 1, by omega, by go_num, hb.trans (hb'.mono hb.size), fun j y hj hy => by
          rcases Nat.lt_or_ge j k with hjk | hjk
          · exact HA.out j y hjk hy
          · obtain rfl : j = k := by omega
            rw [HX.out] at hy; cases hy; exact HM.out⟩
        case measure => simp [intOf]; omega
    · go_wp2
      go_ret
      refine ⟨⟨-1, rfl, ?_⟩, hb⟩
      rw [(allB_iff (p := p) (l := l)).2 fun i x hx => HA.out i x (by have := (List.getElem?_eq_some_iff.1 hx).1; have := h.len; omega) hx]
      simp

theorem containsPar_c {l : List (Par)} {A : Option Addr} {n c : Nat} {B : Nat} (w : World) (h : Rd encP 4 w A n l) (hn : n ≤ maxLen) (hBl : B < w.heap.size)
    (hB : w.cell? ⟨B, 0, none⟩ = some (.func (.func 73) #[] #[]))
    (hp : ∀ (i : Nat) (x : Par) (W : World), l[i]? = some x → Below w.heap.size w W → Calls Try.prog 73 #[.agg #[.int .i64 x.worth, .int .i64 x.price, .int .i64 x.people, .bool x.ins]] W fun e w' => e = .returned (.bool (p x)) ∧ Below W.heap.size W w') :
    Calls Try.prog 87 #[.slice A n c, .func (.func 88) #[] #[.pointer (some ⟨B, 0, none⟩)]] w
      fun e w' => e = .returned (.bool (!allB p l)) ∧ Below w.heap.size w w' := by
  have hc := idxPar_c (c := c) w h hn hBl hB hp
  have HC := Lib.hid hc; clear hc hp
  go_enter Try.func87, Try.ntmps87
  go_wp2_with (go_at_call 97; refine (HC.out).mono ?_; rintro e w' ⟨⟨r, rfl, hr⟩, hb⟩; have HR := Lib.hid hr; clear hr)
  go_ret
  exact ⟨ret_bool (by rw [← HR.out]; simp), hb⟩

theorem allPar_c {l : List (Par)} {A : Option Addr} {n c : Nat} (w : World) (h : Rd encP 4 w A n l) (hn : n ≤ maxLen)
    (hp : ∀ (i : Nat) (x : Par) (W : World), l[i]? = some x → Below w.heap.size w W → Calls Try.prog 73 #[.agg #[.int .i64 x.worth, .int .i64 x.price, .int .i64 x.people, .bool x.ins]] W fun e w' => e = .returned (.bool (p x)) ∧ Below W.heap.size W w') :
    Calls Try.prog 72 #[.slice A n c, .func (.func 73) #[] #[]] w
      fun e w' => e = .returned (.bool (allB p l)) ∧ Below w.heap.size w w' := by
  have hbx := (Below.refl w.heap.size w).alloc (Nat.le_refl _) (.cells #[.func (.func 73) #[] #[]] 122)
  have hc := containsPar_c (c := c) (B := w.heap.size) (w.alloc (.cells #[.func (.func 73) #[] #[]] 122)) (h.mono hbx) hn (by simp) (by simp) (fun i x W hx hW => hp i x W hx (hbx.trans (hW.mono (by simp))))
  have HC := Lib.hid hc; clear hc hp
  go_enter Try.func72, Try.ntmps72
  go_wp2_with (go_at_call 87; refine (HC.out).mono ?_; rintro e w' ⟨rfl, hb⟩)
  go_ret
  exact ⟨ret_bool (by simp), ((Below.refl _ _).alloc (Nat.le_refl _) _).trans (hb.mono (by simp))⟩
end
end Go.Proofs.Ytphdndiikikecaa
