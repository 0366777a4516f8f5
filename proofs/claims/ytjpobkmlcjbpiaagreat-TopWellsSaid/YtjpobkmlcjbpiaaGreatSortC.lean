/- THE CONTRACT of the reference's Sorted. -/
import Derived.Test.YtjpobkmlcjbpiaaGreatSmall
import Derived.BigQuiet
import Derived.Deep.QuietTactic
import Derived.Deep.DeepCutAuto
import Derived.Laws.OwnMore
import Derived.Test.YtjpobkmlcjbpiaaGreatAllReading
import Derived.Test.YtjpobkmlcjbpiaaGreatZHits
import Derived.Test.YtjpobkmlcjbpiaaGreatProg
import Derived.Shelf.SlSortCmp.NoneTotal
import Derived.Shelf.SlicesE.Clone
import Derived.Test.YtjpobkmlcjbpiaaGreatBefore
set_option linter.unusedVariables false
set_option linter.unusedSimpArgs false
namespace Go.Proofs.YtjpobkmlcjbpiaaGreat.Ga
open Go.RowKit Go.Proofs

abbrev vQ (r : Rdg) : Value := .agg #[.int .i64 r.ins, .int .i64 r.num, .int .i64 r.tim, .int .i64 r.val]
/-- the readings with one set in, as far as it has moved -/
def mid (x : Rdg) (S : List Rdg) (k : Nat) : List Rdg := S.take k ++ x :: S.drop k
theorem mid_len (x : Rdg) (S : List Rdg) {k : Nat} (h : k ≤ S.length) : (mid x S k).length = S.length + 1 := by simp [mid]; omega
theorem mid_last (x : Rdg) (S : List Rdg) : mid x S S.length = S ++ [x] := by simp [mid]
theorem mid_at (x : Rdg) (S : List Rdg) {k : Nat} (h : k ≤ S.length) : (mid x S k)[k]? = some x := by
  unfold mid
  rw [List.getElem?_append_right (by rw [List.length_take]; omega), List.length_take, Nat.min_eq_left h, Nat.sub_self]
  rfl
theorem mid_before (x : Rdg) (S : List Rdg) {k : Nat} (h : k + 1 ≤ S.length) : (mid x S (k + 1))[k]? = S[k]? := by
  unfold mid
  rw [List.getElem?_append_left (by simp; omega), List.getElem?_take, if_pos (by omega)]
theorem mid_swap {x y : Rdg} {S : List Rdg} {k : Nat} (hy : S[k]? = some y) : ((mid x S (k + 1)).set (k + 1) y).set k x = mid x S k := by
  have hk : k < S.length := (List.getElem?_eq_some_iff.1 hy).1
  have hd : S.drop k = y :: S.drop (k + 1) := by rw [List.drop_eq_getElem_cons hk]; congr 1; rw [List.getElem?_eq_getElem hk] at hy; exact Option.some.inj hy
  apply List.ext_getElem?
  intro i
  have hl : (mid x S (k + 1)).length = S.length + 1 := mid_len x S (by omega)
  rw [List.getElem?_set, List.getElem?_set, List.length_set, hl]
  unfold mid
  rw [hd]
  by_cases h1 : k = i
  · subst h1
    rw [if_pos rfl, if_pos (by omega), List.getElem?_append_right (by rw [List.length_take]; omega), List.length_take, Nat.min_eq_left (by omega), Nat.sub_self]
    rfl
  · rw [if_neg h1]
    by_cases h2 : k + 1 = i
    · subst h2
      rw [if_pos rfl, if_pos (by omega), List.getElem?_append_right (by simp; omega)]
      simp only [List.length_take, Nat.min_eq_left (show k ≤ S.length by omega)]
      rw [show k + 1 - k = 1 by omega]
      rfl
    · rw [if_neg h2]
      rcases Nat.lt_or_ge i k with h3 | h3
      · rw [List.getElem?_append_left (by simp; omega), List.getElem?_append_left (by simp; omega), List.getElem?_take, List.getElem?_take, if_pos (by omega), if_pos h3]
      · rw [List.getElem?_append_right (by simp; omega), List.getElem?_append_right (by simp; omega)]
        simp only [List.length_take, Nat.min_eq_left (show k ≤ S.length by omega), Nat.min_eq_left (show k + 1 ≤ S.length by omega)]
        obtain ⟨j, rfl⟩ : ∃ j, i = k + 2 + j := ⟨i - (k + 2), by omega⟩
        rw [show k + 2 + j - (k + 1) = j + 1 by omega, show k + 2 + j - k = j + 2 by omega]
        rfl
/-- Where it has moved far enough it is set in. -/
theorem mid_ins {x : Rdg} : ∀ {S : List Rdg} {k : Nat}, k ≤ S.length → Sord S → (∀ (i : Nat) (y : Rdg), k ≤ i → S[i]? = some y → rlt x y = true) → (∀ (i : Nat) (y : Rdg), i < k → S[i]? = some y → rlt x y = false) → mid x S k = insR x S
  | [], k, hk, _, _, _ => by
    simp at hk; subst hk; rfl
  | y :: S, 0, _, _, h1, _ => by
    have := h1 0 y (Nat.le_refl _) rfl
    rw [insR, if_pos this]; rfl
  | y :: S, k + 1, hk, hs, h1, h2 => by
    have := h2 0 y (by omega) rfl
    rw [insR, if_neg (by rw [this]; simp)]
    rw [← mid_ins (x := x) (S := S) (k := k) (by simpa using hk) (List.pairwise_cons.1 hs).2 (fun i z hi hz => h1 (i + 1) z (by omega) (by simpa using hz)) (fun i z hi hz => h2 (i + 1) z (by omega) (by simpa using hz))]
    rfl
theorem sord_at {s : List Rdg} (h : Sord s) {i k : Nat} {x y : Rdg} (hik : i < k) (hx : s[i]? = some x) (hy : s[k]? = some y) : rlt x y = true := by
  obtain ⟨hi, rfl⟩ := List.getElem?_eq_some_iff.1 hx
  obtain ⟨hk, rfl⟩ := List.getElem?_eq_some_iff.1 hy
  exact List.pairwise_iff_getElem.1 h i k hi hk hik
/-- It moves no farther: the reading ahead of it stands before it. -/
theorem mid_stop {x y : Rdg} {S : List Rdg} {k : Nat} (hs : Sord S) (hy : S[k]? = some y) (h : rlt x y = false) (h1 : ∀ (i : Nat) (z : Rdg), k + 1 ≤ i → S[i]? = some z → rlt x z = true) : mid x S (k + 1) = insR x S := by
  refine mid_ins (lt_of_get hy) hs h1 fun i z hi hz => ?_
  rcases Nat.lt_or_ge i k with h' | h'
  · exact rlt_ntrans h (rlt_asym (sord_at hs h' hz hy))
  · obtain rfl : i = k := by omega
    rw [hy] at hz; cases hz; exact h

theorem set_flat4 : ∀ (l : List Rdg) (k : Nat) (z : Rdg), k < l.length → ((((l.flatMap encR).set (k * 4) (.int .i64 z.ins)).set (k * 4 + 1) (.int .i64 z.num)).set (k * 4 + 2) (.int .i64 z.tim)).set (k * 4 + 3) (.int .i64 z.val) = (l.set k z).flatMap encR
  | [], k, z, h => by simp at h
  | b :: l, 0, z, _ => by simp [encR]
  | b :: l, k + 1, z, h => by
    have := set_flat4 l k z (by simpa using h)
    have e : (k + 1) * 4 = k * 4 + 1 + 1 + 1 + 1 := by omega
    rw [e]
    have e1 : k * 4 + 1 + 1 + 1 + 1 + 1 = (k * 4 + 1) + 1 + 1 + 1 + 1 := by omega
    have e2 : k * 4 + 1 + 1 + 1 + 1 + 2 = (k * 4 + 2) + 1 + 1 + 1 + 1 := by omega
    have e3 : k * 4 + 1 + 1 + 1 + 1 + 3 = (k * 4 + 3) + 1 + 1 + 1 + 1 := by omega
    rw [e1, e2, e3]
    simp only [List.flatMap_cons, encR, List.cons_append, List.nil_append, List.set_cons_succ] at this ⊢
    rw [this]
/-- four cells of a row stored -/
theorem own_put4 {w : World} {base : Nat} {g n c : Nat} {l : List Rdg} {e : TypeId} (h : w.ownsRow base e 4 (.slice (some ⟨g, 0, none⟩) n c) n (l.flatMap encR)) {k : Nat} (hk : k < l.length) (z : Rdg) :
    ((((w.setCell ⟨g, k * 4, none⟩ (.int .i64 z.ins)).setCell ⟨g, k * 4 + 1, none⟩ (.int .i64 z.num)).setCell ⟨g, k * 4 + 2, none⟩ (.int .i64 z.tim)).setCell ⟨g, k * 4 + 3, none⟩ (.int .i64 z.val)).ownsRow base e 4 (.slice (some ⟨g, 0, none⟩) n c) n ((l.set k z).flatMap encR) := by
  have h1 := (((h.stored (k * 4) (.int .i64 z.ins)).1.stored (k * 4 + 1) (.int .i64 z.num)).1.stored (k * 4 + 2) (.int .i64 z.tim)).1.stored (k * 4 + 3) (.int .i64 z.val)
  rw [set_flat4 l k z hk] at h1
  exact h1.1

end Go.Proofs.YtjpobkmlcjbpiaaGreat.Ga

namespace Go.Proofs.YtjpobkmlcjbpiaaGreat.Ga
open Go.RowKit Go.Proofs

theorem infoRdg : (Tryz.prog.info? 55).map (fun i => (i.zero, i.size, i.bytes)) = some (some (.agg #[.int .i64 0, .int .i64 0, .int .i64 0, .int .i64 0]), 4, 32) := by kernel_rfl

end Go.Proofs.YtjpobkmlcjbpiaaGreat.Ga

namespace Go.Proofs.YtjpobkmlcjbpiaaGreat.Ga
end Go.Proofs.YtjpobkmlcjbpiaaGreat.Ga

namespace Go.Proofs.YtjpobkmlcjbpiaaGreat.Ga
section
open Go.Shelf Go.Proofs
def sortR_ren : Go.Shelf.Ren := ⟨fun | 6 => 33 | 15 => 70 | 14 => 69 | 28 => 100 | 29 => 101 | 20 => 92 | 21 => 93 | 22 => 94 | 23 => 95 | 24 => 96 | 25 => 97 | 26 => 98 | 27 => 99 | 46 => 109 | 47 => 110 | 48 => 111 | 49 => 112 | 50 => 113 | 57 => 115 | n => n, fun | 22 => 52 | 24 => 55 | 25 => 106 | 3 => 3 | 39 => 148 | 0 => 0 | 53 => 157 | 55 => 168 | 4 => 4 | 46 => 160 | 45 => 159 | 50 => 164 | 5 => 5 | 9 => 9 | 66 => 174 | 70 => 178 | 76 => 181 | 77 => 182 | n => n, fun | n => n⟩
theorem sortR : Go.Proofs.SlLaysF0.n6 Tryz.prog sortR_ren := {
  mixed := by kernel_rfl
  f6 := ⟨Tryz.f33.name, by decide, Tryz.func33.trans (congrArg some (by kernel_rfl))⟩
  f14 := ⟨Tryz.f69.name, by decide, Tryz.func69.trans (congrArg some (by kernel_rfl))⟩
  f15 := Tryz.func70.trans (congrArg some (by kernel_rfl))
  f20 := ⟨Tryz.f92.name, by decide, Tryz.func92.trans (congrArg some (by kernel_rfl))⟩
  f21 := ⟨Tryz.f93.name, by decide, Tryz.func93.trans (congrArg some (by kernel_rfl))⟩
  f22 := ⟨Tryz.f94.name, by decide, Tryz.func94.trans (congrArg some (by kernel_rfl))⟩
  f23 := ⟨Tryz.f95.name, by decide, Tryz.func95.trans (congrArg some (by kernel_rfl))⟩
  f24 := ⟨Tryz.f96.name, by decide, Tryz.func96.trans (congrArg some (by kernel_rfl))⟩
  f25 := ⟨Tryz.f97.name, by decide, Tryz.func97.trans (congrArg some (by kernel_rfl))⟩
  f26 := ⟨Tryz.f98.name, by decide, Tryz.func98.trans (congrArg some (by kernel_rfl))⟩
  f27 := ⟨Tryz.f99.name, by decide, Tryz.func99.trans (congrArg some (by kernel_rfl))⟩
  f28 := Tryz.func100.trans (congrArg some (by kernel_rfl))
  f29 := Tryz.func101.trans (congrArg some (by kernel_rfl))
  f46 := ⟨Tryz.f109.name, by decide, Tryz.func109.trans (congrArg some (by kernel_rfl))⟩
  f47 := Tryz.func110.trans (congrArg some (by kernel_rfl))
  f48 := Tryz.func111.trans (congrArg some (by kernel_rfl))
  f49 := ⟨Tryz.f112.name, by decide, Tryz.func112.trans (congrArg some (by kernel_rfl))⟩
  f50 := ⟨Tryz.f113.name, by decide, Tryz.func113.trans (congrArg some (by kernel_rfl))⟩
  f57 := ⟨Tryz.f115.name, by decide, Tryz.func115.trans (congrArg some (by kernel_rfl))⟩
  t0 := Tryz.underlying0
  a0 := Tryz.isAgg0
  z0 := Tryz.sizeOf0
  v0 := Tryz.zeroValue0
  t3 := Tryz.underlying3
  a3 := Tryz.isAgg3
  z3 := Tryz.sizeOf3
  v3 := Tryz.zeroValue3
  t4 := Tryz.underlying4
  a4 := Tryz.isAgg4
  z4 := Tryz.sizeOf4
  v4 := Tryz.zeroValue4
  t5 := Tryz.underlying5
  a5 := Tryz.isAgg5
  z5 := Tryz.sizeOf5
  v5 := Tryz.zeroValue5
  t9 := Tryz.underlying9
  a9 := Tryz.isAgg9
  z9 := Tryz.sizeOf9
  v9 := Tryz.zeroValue9
  t22 := Tryz.underlying52
  a22 := Tryz.isAgg52
  z22 := Tryz.sizeOf52
  v22 := Tryz.zeroValue52
  t25 := Tryz.underlying106
  a25 := Tryz.isAgg106
  z25 := Tryz.sizeOf106
  v25 := Tryz.zeroValue106
  t39 := Tryz.underlying148
  a39 := Tryz.isAgg148
  z39 := Tryz.sizeOf148
  v39 := Tryz.zeroValue148
  t45 := Tryz.underlying159
  a45 := Tryz.isAgg159
  z45 := Tryz.sizeOf159
  v45 := Tryz.zeroValue159
  t46 := Tryz.underlying160
  a46 := Tryz.isAgg160
  z46 := Tryz.sizeOf160
  v46 := Tryz.zeroValue160
  t50 := Tryz.underlying164
  a50 := Tryz.isAgg164
  z50 := Tryz.sizeOf164
  v50 := Tryz.zeroValue164
  t53 := Tryz.underlying157
  a53 := Tryz.isAgg157
  z53 := Tryz.sizeOf157
  v53 := Tryz.zeroValue157
  t55 := Tryz.underlying168
  a55 := Tryz.isAgg168
  z55 := Tryz.sizeOf168
  v55 := Tryz.zeroValue168
  t66 := Tryz.underlying174
  a66 := Tryz.isAgg174
  z66 := Tryz.sizeOf174
  v66 := Tryz.zeroValue174
  t70 := Tryz.underlying178
  a70 := Tryz.isAgg178
  z70 := Tryz.sizeOf178
  v70 := Tryz.zeroValue178
  t76 := Tryz.underlying181
  a76 := Tryz.isAgg181
  z76 := Tryz.sizeOf181
  v76 := Tryz.zeroValue181
  t77 := Tryz.underlying182
  a77 := Tryz.isAgg182
  z77 := Tryz.sizeOf182
  v77 := Tryz.zeroValue182 }

def cloneR_ren : Go.Shelf.Ren := ⟨fun | 41 => 59 | n => n, fun | 22 => 33 | 23 => 3 | 4 => 4 | n => n, fun | n => n⟩
theorem cloneR : Go.Proofs.SlLaysE0.n41 Tryz.prog cloneR_ren := {
  mixed := by kernel_rfl
  f41 := ⟨Tryz.f59.name, by decide, Tryz.func59.trans (congrArg some (by kernel_rfl))⟩
  t4 := Tryz.underlying4
  a4 := Tryz.isAgg4
  z4 := Tryz.sizeOf4
  v4 := Tryz.zeroValue4
  t22 := Tryz.underlying33
  a22 := Tryz.isAgg33
  z22 := Tryz.sizeOf33
  v22 := Tryz.zeroValue33 }


end
section
open Go.RowKit Go.Proofs Go.Shelf Go.Sort

/-- a valid reading -/
abbrev VR := { r : Rdg // validB r = true }
instance : Inhabited VR := ⟨⟨⟨0, 0, 0, 0⟩, by decide⟩⟩
def encV (x : VR) : List Value := encR x.1
theorem encV_len (x : VR) : (encV x).length = 4 := rfl
theorem vr_list : ∀ {l : List Rdg}, (∀ x ∈ l, validB x = true) → ∃ L : List VR, L.map (·.1) = l
  | [], _ => ⟨[], rfl⟩
  | x :: l, h => by
    obtain ⟨L, hL⟩ := vr_list (l := l) fun y hy => h y (by simp [hy])
    exact ⟨⟨x, h x (by simp)⟩ :: L, by simp [hL]⟩
theorem vr_flat (L : List VR) : (L.map (·.1)).flatMap encR = L.flatMap encV := by
  induction L with
  | nil => rfl
  | cons x L ih => simp only [List.map_cons, List.flatMap_cons, ih]; rfl
theorem flatK_list (L : List VR) : (flatK encV 4 L.toArray).toList = L.flatMap encV := by
  apply List.ext_getElem?
  intro t
  have hl : (L.flatMap encV).length = L.length * 4 := flatMap_len encV_len L
  by_cases ht : t < L.length * 4
  · have hi : t / 4 < L.length := by omega
    have hx : L[t / 4]? = some L[t / 4] := List.getElem?_eq_getElem hi
    have hj : t % 4 < (encV L[t / 4]).length := by rw [encV_len]; omega
    have h1 := flatMap_get encV_len L (t / 4) L[t / 4] (t % 4) _ hx (List.getElem?_eq_getElem hj)
    rw [show t / 4 * 4 + t % 4 = t by omega] at h1
    rw [h1, Array.getElem?_toList]
    simp [flatK, ht, hi, List.getElem!_eq_getElem?_getD, List.getElem?_eq_getElem hj]
  · rw [List.getElem?_eq_none (by simp; omega), List.getElem?_eq_none (by rw [hl]; omega)]
theorem holdsK_own {w : World} {base g cap n : Nat} {e : TypeId} {L : List VR} (h : w.ownsRow base e 4 (.slice (some ⟨g, 0, none⟩) n cap) n (L.flatMap encV)) (hl : L.length = n) : HoldsK encV 4 w g 0 L.toArray := by
  intro j hj
  refine ⟨?_, by rw [Nat.zero_add]; exact h.frozenAt j⟩
  rw [Nat.zero_add]
  have hj' : j < (flatK encV 4 L.toArray).toList.length := by simpa using hj
  have h1 : (L.flatMap encV)[j]? = some (flatK encV 4 L.toArray)[j]! := by
    rw [← flatK_list, Array.getElem?_toList]
    simp [Array.getElem!_eq_getD, Array.getD]
    rw [dif_pos (by simpa using hj)]
    exact Array.getElem?_eq_getElem hj
  have := h.cells (g := g) rfl j _ h1
  rwa [Addr.add_mid, Nat.zero_add] at this
theorem heap_sortedK {w : World} {g n : Nat} {os : Array Obj} {cur : Array Value} {e : TypeId} {fr : Nat × Nat} (d : Array VR) (hb : w.heap[g]? = some (.cells cur e fr)) :
    (sortWorldK encV 4 w g 0 n d os).heap[g]? = some (.cells (putCells id 0 (flatK encV 4 d) cur) e fr) := by
  have hg : g < w.heap.size := (Array.getElem?_eq_some_iff.1 hb).1
  unfold sortWorldK putRowK
  rw [heap_grow_old _ _ (by simpa using hg)]
  simp [putRow, mapBlock, Sort.ahead, Array.getElem?_modify, hb, onCells]
theorem grownBy_sortedK {w : World} {g n : Nat} {os : Array Obj} (d : Array VR) : w.grownBy (sortWorldK encV 4 w g 0 n d os) (some g) := by
  unfold sortWorldK putRowK
  refine ⟨rfl, rfl, rfl, by simp, fun k hk hne => ?_⟩
  rw [heap_grow_old _ _ (by simpa using hk)]
  have : g ≠ k := fun e => hne (by rw [e])
  simp [putRow, mapBlock, Sort.ahead, Array.getElem?_modify, this]
theorem take_putCellsK (cur : Array Value) (F : Array Value) (h : F.size ≤ cur.size) : (putCells id 0 F cur).toList.take F.size = F.toList := by
  apply List.ext_getElem?
  intro j
  by_cases hj : j < F.size
  · rw [List.getElem?_take_of_lt hj, Array.getElem?_toList]
    simp [putCells, hj, show j < cur.size by omega]
  · rw [List.getElem?_take_eq_none (by omega), List.getElem?_eq_none (by simp; omega)]
theorem ownsRow_sortedK {w : World} {base g cap n m : Nat} {e : TypeId} {os : Array Obj} {L L' : List VR} (hl : L'.length = L.length) (h : w.ownsRow base e 4 (.slice (some ⟨g, 0, none⟩) m cap) m (L.flatMap encV)) (hm : L.length = m) :
    (sortWorldK encV 4 w g 0 n L'.toArray os).ownsRow base e 4 (.slice (some ⟨g, 0, none⟩) m cap) m (L'.flatMap encV) := by
  rcases h.2 with ⟨h', _⟩ | ⟨g', cap', cur, h', hb, hg, hnc, hcm, hcs, htake⟩
  · simp at h'
  · simp only [Value.slice.injEq, Option.some.injEq, Addr.mk.injEq, and_true, true_and] at h'
    obtain ⟨rfl, rfl⟩ := h'
    have hF : (flatK encV 4 L'.toArray).size = m * 4 := by rw [size_flatK]; simp [hl, hm]
    refine ⟨by rw [flatMap_len encV_len, hl, hm], .inr ⟨g, cap, _, rfl, hb, heap_sortedK _ hg, hnc, hcm, by simp [putCells, hcs], ?_⟩⟩
    have := take_putCellsK cur (flatK encV 4 L'.toArray) (by rw [hF, hcs]; omega)
    rw [hF, flatK_list] at this
    exact this

def cfV (x y : VR) : Int := cfR x.1 y.1
theorem ltOf_cfV (x y : VR) : ltOf cfV x y = rlt x.1 y.1 := cfR_neg x.1 y.1
theorem swoV : SWO (ltOf cfV) where
  irrefl x := by rw [ltOf_cfV]; exact rlt_irrefl _
  trans x y z h1 h2 := by rw [ltOf_cfV] at *; exact rlt_trans h1 h2
  ntrans x y z h1 h2 := by rw [ltOf_cfV] at *; exact rlt_ntrans h1 h2
theorem totV (x y : VR) (h : ltOf cfV x y = false) (h' : ltOf cfV y x = false) : x = y := by
  rw [ltOf_cfV] at *; exact Subtype.ext (rlt_tri h h')
theorem laysV (blk off size : Nat) (w : World) : CmpLays Tryz.prog 34 #[] encV 4 cfV blk off size w :=
  fun _ _ _ _ x y => before_c x.2 y.2 _

theorem sortFunc_c {w : World} {base n : Nat} {v : Value} {l : List Rdg} (h : w.ownsRow base 55 4 v n (l.flatMap encR)) (hl : l.length = n) (hn : n ≤ 100000) (hv : ∀ x ∈ l, validB x = true) :
    Calls Tryz.prog 33 #[v, .func (.func 34) #[] #[]] w fun e w' => e = .returned (.tuple #[]) ∧ ∃ s, Ord s ∧ s.Perm l ∧ w'.ownsRow base 55 4 v n (s.flatMap encR) ∧ w.grownBy w' v.ownBlock := by
  rcases h.2 with ⟨rfl, rfl⟩ | ⟨g, cap, cur, rfl, _, hg, _⟩
  · obtain rfl := List.eq_nil_of_length_eq_zero hl
    have hcon := AnyF.slices_SortFunc_none sortR none 0 (.func (.func 34) #[] #[]) w
    refine Calls.mono (P := Tryz.prog) (f := 33) hcon ?_
    rintro e w' ⟨rfl, rfl⟩
    exact ⟨rfl, [], List.Pairwise.nil, List.Perm.refl _, h, World.grownBy.refl _ _⟩
  · obtain ⟨L, rfl⟩ := vr_list hv
    rw [vr_flat] at h
    have hl' : L.length = n := by simpa using hl
    have hcon := AnyQ.slices_SortFunc_total sortR 4 Tryz.isAgg55 Tryz.sizeOf55 encV encV_len (fun x v hv => by simp [encV, encR] at hv; rcases hv with rfl | rfl | rfl | rfl <;> rfl) cfV swoV 34 #[] g 0 cap L.toArray w
      (enters_of Tryz.func34 (by kernel_rfl) rfl) (laysV _ _ _ _) (holdsK_own h hl') (Array.getElem?_eq_some_iff.1 hg).1 (by simp; omega) totV
    rw [show L.toArray.size = n by simpa using hl'] at hcon
    refine Calls.mono (P := Tryz.prog) (f := 33) hcon ?_
    rintro e w' ⟨rfl, nn, os, rfl⟩
    refine ⟨rfl, (L.mergeSort fun x y => !ltOf cfV y x).map (·.1), ?_, ?_, ?_, grownBy_sortedK _⟩
    · have h1 := List.pairwise_mergeSort (le := fun x y => !ltOf cfV y x) (fun a b c h1 h2 => by
        simp only [Bool.not_eq_true'] at *
        exact swoV.ntrans _ _ _ h2 h1) (fun a b => by
        cases h1 : ltOf cfV b a
        · rfl
        · simp only [Bool.not_true, Bool.false_or, Bool.not_eq_true']
          rw [ltOf_cfV] at *
          exact rlt_asym h1) L
      refine List.pairwise_map.2 (h1.imp fun {a b} h => ?_)
      simp only [Bool.not_eq_true'] at h
      rwa [ltOf_cfV] at h
    · exact (List.mergeSort_perm L _).map _
    · rw [vr_flat]
      exact ownsRow_sortedK (by simp) h hl'

theorem oneR4 (r : Rdg) : ∀ u ∈ encR r, u.oneCell' = true := by intro u hu; simp [encR] at hu; rcases hu with rfl | rfl | rfl | rfl <;> rfl

end
end Go.Proofs.YtjpobkmlcjbpiaaGreat.Ga
