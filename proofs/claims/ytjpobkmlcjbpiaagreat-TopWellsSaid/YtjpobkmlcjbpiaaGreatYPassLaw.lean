/- PLAIN: bounds of a day's way through the cells (what a machine's numbers hold), and eight numbers as cells. -/
import Derived.Test.YtjpobkmlcjbpiaaGreatYFall
set_option linter.unusedVariables false
set_option linter.unusedSimpArgs false
namespace Go.Proofs.YtjpobkmlcjbpiaaGreat
open Go.RowKit Go.Proofs

def arr8 (f : Nat → Int) : Array Value := #[.int .i64 (f 0), .int .i64 (f 1), .int .i64 (f 2), .int .i64 (f 3), .int .i64 (f 4), .int .i64 (f 5), .int .i64 (f 6), .int .i64 (f 7)]
theorem arr8_get {f : Nat → Int} {i : Nat} (hi : i < 8) : (arr8 f)[i]? = some (.int .i64 (f i)) := by
  have : i = 0 ∨ i = 1 ∨ i = 2 ∨ i = 3 ∨ i = 4 ∨ i = 5 ∨ i = 6 ∨ i = 7 := by omega
  rcases this with rfl | rfl | rfl | rfl | rfl | rfl | rfl | rfl <;> rfl
theorem arr8_set {f : Nat → Int} {i : Nat} (hi : i < 8) (v : Int) : (arr8 f).setIfInBounds i (.int .i64 v) = arr8 fun j => if j = i then v else f j := by
  have : i = 0 ∨ i = 1 ∨ i = 2 ∨ i = 3 ∨ i = 4 ∨ i = 5 ∨ i = 6 ∨ i = 7 := by omega
  rcases this with rfl | rfl | rfl | rfl | rfl | rfl | rfl | rfl <;> rfl
theorem arr8_congr {f g : Nat → Int} (h : ∀ j, j < 8 → f j = g j) : arr8 f = arr8 g := by
  unfold arr8
  rw [h 0 (by omega), h 1 (by omega), h 2 (by omega), h 3 (by omega), h 4 (by omega), h 5 (by omega), h 6 (by omega), h 7 (by omega)]
theorem wayC_congr {CA : Slc} {sn0 sn1 so0 so1 melt : Int} {DS : Slc} {tsn tso : Int} {LV RN : Slc} {f g : Nat → Int} {snow left : Int} (h : ∀ j, j < 8 → f j = g j) :
    wayC CA sn0 sn1 so0 so1 melt DS tsn tso LV RN f snow left = wayC CA sn0 sn1 so0 so1 melt DS tsn tso LV RN g snow left := by
  unfold wayC
  rw [h 0 (by omega), h 1 (by omega), h 2 (by omega), h 3 (by omega), h 4 (by omega), h 5 (by omega), h 6 (by omega), h 7 (by omega)]
/-- levels that a machine's numbers hold -/
def LvB (L : List Int) : Prop := ∀ i, 0 ≤ lvA L i ∧ lvA L i ≤ 100000
section
variable {n : Nat} {C : List Cel} {L : List Int}
theorem on_x {c : Cel} {l : Int} (hc : celOk n c) (hl : 0 ≤ l ∧ l ≤ 100000) :
    (0 ≤ takenW c l ∧ takenW c l ≤ 100000) ∧ (0 ≤ staysW c l ∧ staysW c l ≤ 100000) ∧ (0 ≤ max 0 (staysW c l - c.keep) * c.pass ∧ max 0 (staysW c l - c.keep) * c.pass ≤ 100000000) ∧ (0 ≤ onW c l ∧ onW c l ≤ staysW c l) := by
  obtain ⟨hcap, hlev, hk, hp, hto, hpu⟩ := hc
  have h1 : 0 ≤ takenW c l ∧ takenW c l ≤ 100000 := by unfold takenW; omega
  have h2 : 0 ≤ staysW c l ∧ staysW c l ≤ 100000 := by unfold staysW takenW; omega
  have hx : 0 ≤ max 0 (staysW c l - c.keep) ∧ max 0 (staysW c l - c.keep) ≤ 100000 := by omega
  refine ⟨h1, h2, ⟨Int.mul_nonneg hx.1 hp.1, ?_⟩, on_nn hp.1, on_le hk.1 hp⟩
  have := Int.mul_le_mul hx.2 hp.2 hp.1 (by omega : (0 : Int) ≤ 100000)
  omega
theorem now_bd {s : Int} (hC : ∀ c ∈ C, celOk n c) (hL : LvB L) (hs : 0 ≤ s ∧ s ≤ 1000000) : ∀ k j, 0 ≤ nowW C L s k j ∧ nowW C L s k j ≤ (k : Int) * 2000000
  | 0, _ => by simp [nowW]
  | k + 1, j => by
    have ih := now_bd hC hL hs k j
    have h := on_x (celA_ok hC k) (hL k)
    unfold nowW
    split <;> split <;> omega
theorem left_bd {d s : Int} (hC : ∀ c ∈ C, celOk n c) (hL : LvB L) (hd : s ≤ d ∧ d ≤ 1000000) (hs : 0 ≤ s) : ∀ k, 0 ≤ leftW C L d s k ∧ leftW C L d s k ≤ (k : Int) * 2000000
  | 0 => by simp [leftW]
  | k + 1 => by
    have ih := left_bd hC hL hd hs k
    have h := on_x (celA_ok hC k) (hL k)
    unfold leftW
    split <;> omega
theorem over_bd {s : Int} (hC : ∀ c ∈ C, celOk n c) (hL : LvB L) (hs : 0 ≤ s ∧ s ≤ 1000000) (hn : C.length ≤ 8) : ∀ k, 0 ≤ overW C L s k ∧ overW C L s k ≤ (k : Int) * 20000000
  | 0 => by simp [overW]
  | k + 1 => by
    have ih := over_bd hC hL hs hn k
    have h := now_bd hC hL hs C.length k
    have hc := (celA_ok hC k).1
    unfold overW
    omega
end
/-- what is in the local row behind k cells -/
theorem now_step {C : List Cel} {L : List Int} {s : Int} {k : Nat} (j : Nat) (c : Cel) (hc : celA C k = c) :
    nowW C L s (k + 1) j = nowW C L s k j + (if j = k then staysW c (lvA L k) - onW c (lvA L k) + s else 0) + (if c.to = (j : Int) then onW c (lvA L k) else 0) := by
  subst hc; rfl
theorem left_step {C : List Cel} {L : List Int} {d s : Int} {k : Nat} (c : Cel) (hc : celA C k = c) :
    leftW C L d s (k + 1) = leftW C L d s k + ((d - s) + takenW c (lvA L k)) + (if c.to = -1 then onW c (lvA L k) else 0) := by
  subst hc; rfl
theorem celA_at {C : List Cel} {k : Nat} {c : Cel} (h : C[k]? = some c) : celA C k = c := by unfold celA; rw [List.getD_eq_getElem?_getD, h]; rfl
theorem SumOk.two {a b : Int} (ha : 0 ≤ a ∧ a ≤ 1000000000) (hb : 0 ≤ b ∧ b ≤ 1000000000) : SumOk [a, b] :=
  SumOk.of (M := 1000000000) (by omega) (fun x hx => by simp at hx; rcases hx with rfl | rfl <;> omega) (by simp)
theorem sumL_two (a b : Int) : sumL [a, b] = a + b := by simp [sumL]
theorem wsum2_c {a b : Int} {A : Option Addr} {c : Nat} {w : World} (h : Rd enc1 1 w A 2 [a, b]) (ha : 0 ≤ a ∧ a ≤ 1000000000) (hb : 0 ≤ b ∧ b ≤ 1000000000) :
    Calls Tryz.prog 82 #[.slice A 2 c] w fun e w' => e = .returned (.int .i64 (a + b)) ∧ Below w.heap.size w w' := by
  have := wsum_c (c := c) h (by omega) (SumOk.two ha hb)
  rw [sumL_two] at this
  exact this.mono fun e w' ⟨h1, h2⟩ => ⟨h1, by rw [← h2]; exact Below.refl _ _⟩
theorem now_river {C : List Cel} {L : List Int} {s : Int} {k : Nat} {x : Cel} (hc : celA C k = x) (hr : x.to = -1) {v : Int} (hv : v = nowW C L s k k + (staysW x (lvA L k) - onW x (lvA L k) + s)) :
    (fun j => if j = k then v else nowW C L s k j) = nowW C L s (k + 1) := by
  funext j
  rw [now_step j x hc, hr, if_neg (by omega : ¬ (-1 : Int) = (j : Int))]
  split
  · rename_i h; subst h; rw [hv] <;> omega
  · omega
theorem now_to {C : List Cel} {L : List Int} {s : Int} {k m : Nat} {x : Cel} (hc : celA C k = x) (hr : x.to = (m : Int)) {v u : Int} (hv : v = nowW C L s k k + (staysW x (lvA L k) - onW x (lvA L k) + s)) (hu : u = (if m = k then v else nowW C L s k m) + onW x (lvA L k)) :
    (fun j => if j = m then u else if j = k then v else nowW C L s k j) = nowW C L s (k + 1) := by
  funext j
  rw [now_step j x hc, hr]
  by_cases h1 : j = m
  · subst h1
    rw [if_pos rfl, if_pos rfl, hu]
    split
    · rename_i h; subst h; rw [hv] <;> omega
    · omega
  · rw [if_neg h1, if_neg (by omega : ¬ (m : Int) = (j : Int))]
    split
    · rename_i h; subst h; rw [hv] <;> omega
    · omega
theorem left_river {C : List Cel} {L : List Int} {d s : Int} {k : Nat} {x : Cel} (hc : celA C k = x) (hr : x.to = -1) {v : Int} (hv : v = leftW C L d s k + (d - s + takenW x (lvA L k)) + onW x (lvA L k)) : v = leftW C L d s (k + 1) := by
  rw [left_step x hc, hr, if_pos rfl, hv]
theorem left_to {C : List Cel} {L : List Int} {d s : Int} {k : Nat} {x : Cel} (hc : celA C k = x) (hr : x.to ≠ -1) {v : Int} (hv : v = leftW C L d s k + (d - s + takenW x (lvA L k))) : v = leftW C L d s (k + 1) := by
  rw [left_step x hc, if_neg hr, hv]; omega
end Go.Proofs.YtjpobkmlcjbpiaaGreat
