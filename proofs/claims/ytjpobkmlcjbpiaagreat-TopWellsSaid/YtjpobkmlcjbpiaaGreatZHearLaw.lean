/- THE CONTRACT of Valley.slide: is a slide one of a valley? -/
import Derived.Test.YtjpobkmlcjbpiaaGreatZBetter
import Derived.Deep.DeepCutAuto
import Derived.Test.YtjpobkmlcjbpiaaGreatKFr
import Derived.Test.YtjpobkmlcjbpiaaGreatZHits
import Derived.Deep.RegionHeld3
import Derived.Deep.AppendLies
import Derived.Deep.DrawnRows
import Derived.Test.YtjpobkmlcjbpiaaGreatWLaw
set_option linter.unusedVariables false
set_option linter.unusedSimpArgs false
namespace Go.Proofs.YtjpobkmlcjbpiaaGreat
open Go.RowKit Go.Proofs

/-- the marks of the parcels that were seen -/
def SeenC (way : List Int) (k : Nat) (cs : Array Value) : Prop := cs.size = 12 ∧ ∀ j : Nat, j < 12 → cs[j]? = some (.bool (decide ((j : Int) ∈ way.take k)))
theorem SeenC.step {way : List Int} {k m : Nat} {cs : Array Value} (h : SeenC way k cs) (hx : way[k]? = some (m : Int)) (hm : m < 12) : SeenC way (k + 1) (cs.setIfInBounds m (.bool true)) := by
  refine ⟨by simpa using h.1, fun j hj => ?_⟩
  rw [Array.getElem?_setIfInBounds, List.take_add_one, hx]
  by_cases hmj : m = j
  · subst hmj
    rw [if_pos rfl, if_pos (by rw [h.1]; exact hm)]
    simp
  · rw [if_neg hmj, h.2 j hj]
    have : ((j : Int) ∈ way.take k ++ (some (m : Int)).toList) ↔ ((j : Int) ∈ way.take k) := by
      simp; omega
    rw [decide_eq_decide.2 this]

theorem sliOk_way {pn : Nat} {s : Sli} (h : ¬ wayTo pn s.way s.way.length) : sliOk pn s = false := by
  have : wayOk pn s.way = false := by
    rw [← Bool.not_eq_true, wayOk_iff]; exact h
  simp [sliOk, this]

theorem blk3 (w : World) (X Y Z : Array Value) (a b c : TypeId) : Blk (((w.alloc (.cells X a)).alloc (.cells Y b)).alloc (.cells Z c)) (w.heap.size + 1 + 1) c Z ∧
    Blk (((w.alloc (.cells X a)).alloc (.cells Y b)).alloc (.cells Z c)) w.heap.size a X ∧ Blk (((w.alloc (.cells X a)).alloc (.cells Y b)).alloc (.cells Z c)) (w.heap.size + 1) b Y ∧
    Below w.heap.size w (((w.alloc (.cells X a)).alloc (.cells Y b)).alloc (.cells Z c)) := by
  have h1 := Blk.new ((w.alloc (.cells X a)).alloc (.cells Y b)) c Z
  have h2 := ((Blk.new w a X).alloc (.cells Y b)).alloc (.cells Z c)
  have h3 := (Blk.new (w.alloc (.cells X a)) b Y).alloc (.cells Z c)
  simp only [World.size_alloc] at h1 h3
  exact ⟨h1, h2, h3, (((Below.refl _ w).alloc (Nat.le_refl _) _).alloc (by simp) _).alloc (by simp; omega) _⟩
theorem SeenC.zero (way : List Int) : SeenC way 0 #[.bool false, .bool false, .bool false, .bool false, .bool false, .bool false, .bool false, .bool false, .bool false, .bool false, .bool false, .bool false] := by
  refine ⟨rfl, fun j hj => ?_⟩
  simp only [List.take_zero, List.not_mem_nil, decide_false]
  match j, hj with
  | 0, _ | 1, _ | 2, _ | 3, _ | 4, _ | 5, _ | 6, _ | 7, _ | 8, _ | 9, _ | 10, _ | 11, _ => rfl
theorem sliOk_rest {pn : Nat} {s : Sli} (h : wayTo pn s.way s.way.length) : sliOk pn s = (decide (1 ≤ s.way.length) && inB s.rate 1 1000 && upB s.lo s.hi s.way.length) := by
  rw [sliOk, wayOk_iff.2 h, Bool.true_and]

end Go.Proofs.YtjpobkmlcjbpiaaGreat

namespace Go.Proofs.YtjpobkmlcjbpiaaGreat
open Go.RowKit Go.Proofs

section
variable {p : Par → Bool}
end
end Go.Proofs.YtjpobkmlcjbpiaaGreat

namespace Go.Proofs.YtjpobkmlcjbpiaaGreat
open Go.RowKit Go.Proofs

section
variable {p : Sli → Bool}
end
end Go.Proofs.YtjpobkmlcjbpiaaGreat

namespace Go.Proofs.YtjpobkmlcjbpiaaGreat
open Go.RowKit Go.Proofs

theorem errV_big {v : Vly} (h : 10 < v.sls.length) : errV v = 3 := by simp [errV, h]
theorem errV_of {v : Vly} (h : v.sls.length ≤ 10) : errV v = if (inB v.pars.length 1 12 && allB parOk v.pars && allB (sliOk v.pars.length) v.sls && stepsOk v.s0 v.s1 v.s2) = true then 0 else 1 := by
  unfold errV; rw [if_neg (by omega)]

end Go.Proofs.YtjpobkmlcjbpiaaGreat

namespace Go.Proofs.YtjpobkmlcjbpiaaGreat
open Go.RowKit Go.Proofs
attribute [local go_sem ↓] Go.wp_at_zero Go.wp_at_succ

theorem infoInt : (Tryz.prog.info? 3).map (fun i => (i.zero, i.size, i.bytes)) = some (some (.int .i64 0), 1, 8) := by kernel_rfl
theorem blk3l (w : World) (X Y Z : Array Value) (a b c : TypeId) : Blk (((w.alloc (.cells X a)).alloc (.cells Y b)).alloc (.cells Z c)) (w.heap.size + 1 + 1) c Z ∧
    Blk (((w.alloc (.cells X a)).alloc (.cells Y b)).alloc (.cells Z c)) w.heap.size a X ∧ Blk (((w.alloc (.cells X a)).alloc (.cells Y b)).alloc (.cells Z c)) (w.heap.size + 1) b Y ∧
    Below w.heap.size w (((w.alloc (.cells X a)).alloc (.cells Y b)).alloc (.cells Z c)) := blk3 w X Y Z a b c
theorem endsT_take {v : Vly} {hi : Bool} {k : Nat} {s : Sli} (h : v.sls[k]? = some s) : (endsT v hi).take (k + 1) = (endsT v hi).take k ++ [if hi then s.hi else s.lo] := by
  rw [List.take_add_one]
  simp [endsT, h]
theorem endsT_len {v : Vly} {hi : Bool} : (endsT v hi).length = v.sls.length := by simp [endsT]

end Go.Proofs.YtjpobkmlcjbpiaaGreat

namespace Go.Proofs.YtjpobkmlcjbpiaaGreat
open Go.RowKit Go.Proofs

def stepAt (v : Vly) : Nat → Int
  | 0 => v.s0
  | 1 => v.s1
  | _ => v.s2
def zTo (v : Vly) (d : Int) : Nat → Int
  | 0 => 0
  | k + 1 => zTo v d k + (if stepAt v k ≤ d then 1 else 0)
theorem zTo_three (v : Vly) (d : Int) : zTo v d 3 = zoneOf v d := by simp [zTo, stepAt, zoneOf]
theorem zTo_bd (v : Vly) (d : Int) : ∀ k, 0 ≤ zTo v d k ∧ zTo v d k ≤ k
  | 0 => by simp [zTo]
  | k + 1 => by have := zTo_bd v d k; simp only [zTo]; split <;> omega
theorem zTo_succ (v : Vly) (d : Int) (k : Nat) : zTo v d (k + 1) = zTo v d k + (if stepAt v k ≤ d then 1 else 0) := rfl
theorem infoIn : (Tryz.prog.info? 3).map (fun i => (i.zero, i.size, i.bytes)) = some (some (.int .i64 0), 1, 8) := by kernel_rfl
end Go.Proofs.YtjpobkmlcjbpiaaGreat

namespace Go.Proofs.YtjpobkmlcjbpiaaGreat
open Go.RowKit Go.Proofs
attribute [local go_sem ↓] Go.wp_at_zero Go.wp_at_succ

abbrev vA (PA : Option Addr) (pn pc : Nat) (SA : Option Addr) (sn sc : Nat) (v : Vly) : Array Value := #[.slice PA pn pc, .slice SA sn sc, .int .i64 v.s0, .int .i64 v.s1, .int .i64 v.s2]
end Go.Proofs.YtjpobkmlcjbpiaaGreat

namespace Go.Proofs.YtjpobkmlcjbpiaaGreat
open Go.RowKit Go.Proofs
attribute [local go_sem ↓] Go.wp_at_zero Go.wp_at_succ

theorem blk_drew {w : World} {g : Nat} {t : TypeId} {cs : Array Value} (h : Blk w g t cs) : Blk w.drew g t cs := h
/-- a row whose first elements have been replaced -/
def half (a b : List Int) (k : Nat) : List Int := a.take k ++ b.drop k
theorem half_len {a b : List Int} {k : Nat} (h : a.length = b.length) : (half a b k).length = b.length := by
  unfold half
  rw [List.length_append, List.length_take, List.length_drop]; omega
theorem half_get {a b : List Int} {k : Nat} (h : a.length = b.length) (hk : k < b.length) : (half a b k)[k]? = b[k]? := by
  unfold half
  rw [List.getElem?_append_right (by rw [List.length_take]; omega), List.length_take, List.getElem?_drop]
  congr 1; omega
theorem half_set {a b : List Int} {k : Nat} {x : Int} (h : a.length = b.length) (hx : a[k]? = some x) : (half a b k).set k x = half a b (k + 1) := by
  have hk : k < a.length := lt_of_get hx
  refine List.ext_getElem? fun i => ?_
  by_cases hi : i < b.length
  · rw [List.getElem?_set, half_len h]
    unfold half
    by_cases hki : k = i
    · subst hki
      simp only [if_true, hi]
      rw [List.getElem?_append_left (by rw [List.length_take]; omega), List.getElem?_take, if_pos (by omega), hx]
    · rw [if_neg hki]
      rcases Nat.lt_or_ge i k with h1 | h1
      · rw [List.getElem?_append_left (by rw [List.length_take]; omega), List.getElem?_append_left (by rw [List.length_take]; omega), List.getElem?_take, List.getElem?_take, if_pos h1, if_pos (by omega)]
      · rw [List.getElem?_append_right (by rw [List.length_take]; omega), List.getElem?_append_right (by rw [List.length_take]; omega), List.length_take, List.length_take, List.getElem?_drop, List.getElem?_drop]
        congr 1; omega
  · rw [List.getElem?_eq_none (by rw [List.length_set, half_len h]; omega), List.getElem?_eq_none (by rw [half_len h]; omega)]
theorem half_zero {a b : List Int} : half a b 0 = b := by simp [half]
theorem half_all {a b : List Int} {k : Nat} (h : a.length = b.length) (hk : b.length = k) : half a b k = a := by
  unfold half
  rw [List.take_of_length_le (by omega), List.drop_of_length_le (by omega), List.append_nil]
/-- what each parcel gains by leaving; its weight for premiums -/
def gainsL (v : Vly) : List Int := (v.pars.zip (dangs v (endsT v true))).map fun x => x.2 * x.1.people
def wtsL (v : Vly) : List Int := (v.pars.zip (dangs v (endsT v true))).map fun x => if x.1.ins then x.2 * x.1.worth else 0
theorem gainsL_len {v : Vly} : (gainsL v).length = v.pars.length := by simp [gainsL, dangs_len]
theorem wtsL_len {v : Vly} : (wtsL v).length = v.pars.length := by simp [wtsL, dangs_len]
theorem gainsL_get {v : Vly} {i : Nat} {p : Par} {d : Int} (hp : v.pars[i]? = some p) (hd : (dangs v (endsT v true))[i]? = some d) : (gainsL v)[i]? = some (d * p.people) := by
  simp [gainsL, List.getElem?_zip_eq_some.2 (show _ = some (p, d).1 ∧ _ = some (p, d).2 from ⟨hp, hd⟩)]
theorem wtsL_get {v : Vly} {i : Nat} {p : Par} {d : Int} (hp : v.pars[i]? = some p) (hd : (dangs v (endsT v true))[i]? = some d) : (wtsL v)[i]? = some (if p.ins then d * p.worth else 0) := by
  simp [wtsL, List.getElem?_zip_eq_some.2 (show _ = some (p, d).1 ∧ _ = some (p, d).2 from ⟨hp, hd⟩)]
theorem wtsL_bd {v : Vly} (hok : VOk v) : ∀ x ∈ wtsL v, 0 ≤ x ∧ x ≤ 1000000000 := by
  intro x hx
  obtain ⟨i, hi⟩ := List.getElem?_of_mem hx
  have hil := lt_of_get hi
  rw [wtsL_len] at hil
  have hp := List.getElem?_eq_getElem hil
  have hd := List.getElem?_eq_getElem (show i < (dangs v (endsT v true)).length by rw [dangs_len]; exact hil)
  rw [wtsL_get hp hd] at hi
  have h1 := hok.parcel hp
  have h2 := dangs_bd hok hd
  cases hi
  split
  · constructor
    · exact Int.mul_nonneg h2.1 h1.1.1
    · calc _ ≤ 10000 * v.pars[i].worth := Int.mul_le_mul_of_nonneg_right h2.2 h1.1.1
        _ ≤ 10000 * 100000 := Int.mul_le_mul_of_nonneg_left h1.1.2 (by omega)
  · omega
theorem gainsL_bd {v : Vly} (hok : VOk v) : ∀ x ∈ gainsL v, 0 ≤ x ∧ x ≤ 10000000 := by
  intro x hx
  obtain ⟨i, hi⟩ := List.getElem?_of_mem hx
  have hil := lt_of_get hi
  rw [gainsL_len] at hil
  have hp := List.getElem?_eq_getElem hil
  have hd := List.getElem?_eq_getElem (show i < (dangs v (endsT v true)).length by rw [dangs_len]; exact hil)
  rw [gainsL_get hp hd] at hi
  have h1 := hok.parcel hp
  have h2 := dangs_bd hok hd
  cases hi
  constructor
  · exact Int.mul_nonneg h2.1 h1.2.2.1
  · calc _ ≤ 10000 * v.pars[i].people := Int.mul_le_mul_of_nonneg_right h2.2 h1.2.2.1
      _ ≤ 10000 * 1000 := Int.mul_le_mul_of_nonneg_left h1.2.2.2 (by omega)

end Go.Proofs.YtjpobkmlcjbpiaaGreat

namespace Go.Proofs.YtjpobkmlcjbpiaaGreat

theorem hitBy_mono {s : Sli} {m m' : Nat} (h : m ≤ m') (hr : 0 ≤ s.rate) (p : Int) : hitBy s m p ≤ hitBy s m' p := by
  unfold hitBy
  by_cases h1 : p ∈ s.way.take m
  · have h2 : p ∈ s.way.take m' := by
      have : s.way.take m = (s.way.take m').take m := by rw [List.take_take, Nat.min_eq_left h]
      rw [this] at h1
      exact List.mem_of_mem_take h1
    rw [if_pos h1, if_pos h2]; exact Int.le_refl _
  · rw [if_neg h1]
    split <;> omega
theorem dTo_mono {v : Vly} (hok : VOk v) {tr tr' : List Int} (hl : tr.length = tr'.length) (h : ∀ (k : Nat) (m m' : Int), tr[k]? = some m → tr'[k]? = some m' → m ≤ m') (p : Int) : ∀ k, dTo v.sls tr p k ≤ dTo v.sls tr' p k
  | 0 => Int.le_refl _
  | k + 1 => by
    have ih := dTo_mono hok hl h p k
    show dTo v.sls tr p k + dAt v.sls tr p k ≤ dTo v.sls tr' p k + dAt v.sls tr' p k
    have : dAt v.sls tr p k ≤ dAt v.sls tr' p k := by
      cases hs : v.sls[k]? with
      | none => simp [dAt, hs]
      | some s =>
        cases hm : tr[k]? with
        | none =>
          have : tr'[k]? = none := by rw [List.getElem?_eq_none_iff] at hm ⊢; omega
          simp [dAt, hs, hm, this]
        | some m =>
          have hk := lt_of_get hm
          have hm' := List.getElem?_eq_getElem (show k < tr'.length by omega)
          rw [dAt_of hs hm, dAt_of hs hm']
          have := h k _ _ hm hm'
          exact hitBy_mono (by omega) (by have := (hok.slide hs).2.2.1; omega) p
    omega
theorem zoneOf_mono {v : Vly} {d d' : Int} (h : d ≤ d') : zoneOf v d ≤ zoneOf v d' := by
  unfold zoneOf
  have f : ∀ s : Int, (if s ≤ d then (1 : Int) else 0) ≤ (if s ≤ d' then (1 : Int) else 0) := fun s => by split <;> split <;> omega
  have := f v.s0; have := f v.s1; have := f v.s2
  omega
theorem zoneOf_steps {v x : Vly} {d : Int} (h0 : v.s0 ≤ x.s0) (h1 : v.s1 ≤ x.s1) (h2 : v.s2 ≤ x.s2) : zoneOf x d ≤ zoneOf v d := by
  unfold zoneOf
  have f : ∀ s s' : Int, s ≤ s' → (if s' ≤ d then (1 : Int) else 0) ≤ (if s ≤ d then (1 : Int) else 0) := fun s s' h => by split <;> split <;> omega
  have := f _ _ h0; have := f _ _ h1; have := f _ _ h2
  omega
/-- a truth and the ends -/
theorem fits_low {v : Vly} {tr : List Int} (hf : Fits v tr) (k : Nat) (m m' : Int) (h : (endsT v false)[k]? = some m) (h' : tr[k]? = some m') : m ≤ m' := by
  unfold endsT at h
  rw [List.getElem?_map, Option.map_eq_some_iff] at h
  obtain ⟨s, hs, rfl⟩ := h
  exact (hf.2 k s m' hs h').1
theorem fits_high {v : Vly} {tr : List Int} (hf : Fits v tr) (k : Nat) (m m' : Int) (h : tr[k]? = some m) (h' : (endsT v true)[k]? = some m') : m ≤ m' := by
  unfold endsT at h'
  rw [List.getElem?_map, Option.map_eq_some_iff] at h'
  obtain ⟨s, hs, rfl⟩ := h'
  exact (hf.2 k s m hs h).2
theorem dangs_get {v : Vly} {tr : List Int} {i : Nat} (h : i < v.pars.length) : (dangs v tr)[i]? = some (dTo v.sls tr (i : Int) v.sls.length) := by simp [dangs, h]
/-- in each truth the danger is between its ends -/
theorem truth_dang {v : Vly} (hok : VOk v) {tr : List Int} (hf : Fits v tr) (p : Int) (k : Nat) : dTo v.sls (endsT v false) p k ≤ dTo v.sls tr p k ∧ dTo v.sls tr p k ≤ dTo v.sls (endsT v true) p k :=
  ⟨dTo_mono hok (by rw [hf.1]; simp [endsT]) (fits_low hf) p k, dTo_mono hok (by rw [hf.1]; simp [endsT]) (fits_high hf) p k⟩
/-- a slide more -/
theorem dTo_more {sls : List Sli} {s : Sli} {tr : List Int} {m p : Int} (hl : tr.length = sls.length) : ∀ k, k ≤ sls.length → dTo (sls ++ [s]) (tr ++ [m]) p k = dTo sls tr p k
  | 0, _ => rfl
  | k + 1, h => by
    have ih := dTo_more (s := s) (m := m) (p := p) hl k (by omega)
    show dTo (sls ++ [s]) (tr ++ [m]) p k + dAt (sls ++ [s]) (tr ++ [m]) p k = dTo sls tr p k + dAt sls tr p k
    rw [ih]
    have : dAt (sls ++ [s]) (tr ++ [m]) p k = dAt sls tr p k := by
      unfold dAt
      rw [List.getElem?_append_left (by omega), List.getElem?_append_left (by omega)]
    rw [this]
theorem dTo_more_le {sls : List Sli} {s : Sli} {tr : List Int} {m p : Int} (hl : tr.length = sls.length) (hr : 0 ≤ s.rate ∧ s.rate ≤ 1000) : dTo sls tr p sls.length ≤ dTo (sls ++ [s]) (tr ++ [m]) p (sls ++ [s]).length := by
  rw [List.length_append, List.length_singleton]
  show _ ≤ dTo (sls ++ [s]) (tr ++ [m]) p sls.length + dAt (sls ++ [s]) (tr ++ [m]) p sls.length
  rw [dTo_more hl _ (Nat.le_refl _), dAt_of (s := s) (m := m) (by simp) (by rw [← hl]; simp)]
  have := (hitBy_bd (s := s) (m := m.toNat) (p := p) hr).1
  omega
end Go.Proofs.YtjpobkmlcjbpiaaGreat

namespace Go.Proofs.YtjpobkmlcjbpiaaGreat
open Go.RowKit

/-- a piece of evidence: its slide, its range -/
structure Evd where
  k : Int
  lo : Int
  hi : Int
  deriving DecidableEq
def encE (e : Evd) : List Value := [.int .i64 e.k, .int .i64 e.lo, .int .i64 e.hi]
theorem encE_len (e : Evd) : (encE e).length = 3 := rfl
def evOk (sn : Nat) (e : Evd) : Bool := inB e.k 0 ((sn : Int) - 1) && upB e.lo e.hi 12
def stepE (k : Int) (r : Int × Int) (e : Evd) : Int × Int := if e.k = k then (max r.1 e.lo, min r.2 e.hi) else r
def leftL (l : List Evd) (k : Int) (r : Int × Int) : Int × Int := l.foldl (stepE k) r
theorem leftL_nil (k : Int) (r : Int × Int) : leftL [] k r = r := rfl
theorem leftL_snoc (l : List Evd) (e : Evd) (k : Int) (r : Int × Int) : leftL (l ++ [e]) k r = stepE k (leftL l k r) e := by simp [leftL, List.foldl_append]
theorem leftL_append (l m : List Evd) (k : Int) (r : Int × Int) : leftL (l ++ m) k r = leftL m k (leftL l k r) := by simp [leftL, List.foldl_append]
/-- what is left of all slides' reach -/
def leftsL (v : Vly) (l : List Evd) : List (Int × Int) := v.sls.mapIdx fun k s => leftL l (k : Int) (s.lo, s.hi)
theorem leftsL_len (v : Vly) (l : List Evd) : (leftsL v l).length = v.sls.length := by simp [leftsL]
theorem leftsL_get {v : Vly} {l : List Evd} {k : Nat} {s : Sli} (h : v.sls[k]? = some s) : (leftsL v l)[k]? = some (leftL l (k : Int) (s.lo, s.hi)) := by
  simp [leftsL, List.getElem?_mapIdx, h]
theorem leftsL_nil (v : Vly) : leftsL v [] = v.sls.map fun s => (s.lo, s.hi) := by
  refine List.ext_getElem? fun i => ?_
  simp only [leftsL, leftL_nil, List.getElem?_mapIdx, List.getElem?_map]
/-- one piece of evidence more -/
theorem leftsL_snoc {v : Vly} {l : List Evd} {e : Evd} {k : Nat} {r : Int × Int} (hk : e.k = (k : Int)) (hr : (leftsL v l)[k]? = some r) : leftsL v (l ++ [e]) = (leftsL v l).set k (max r.1 e.lo, min r.2 e.hi) := by
  refine List.ext_getElem? fun i => ?_
  rw [List.getElem?_set]
  by_cases hi : i < v.sls.length
  · have hs := List.getElem?_eq_getElem hi
    rw [leftsL_get hs, leftL_snoc]
    by_cases hki : k = i
    · subst hki
      rw [leftsL_get hs] at hr
      cases hr
      rw [if_pos rfl, if_pos (by rw [leftsL_len]; exact hi)]
      simp [stepE, hk]
    · rw [if_neg hki, leftsL_get hs]
      have : e.k ≠ (i : Int) := by omega
      simp [stepE, this]
  · rw [List.getElem?_eq_none (by rw [leftsL_len]; omega)]
    split
    · rw [if_neg (by rw [leftsL_len]; omega)]
    · rw [List.getElem?_eq_none (by rw [leftsL_len]; omega)]
/-- the greatest lower end, the least upper end: the order of the evidence is nothing -/
theorem leftL_bd (l : List Evd) (k : Int) : ∀ (r : Int × Int), r.1 ≤ (leftL l k r).1 ∧ (leftL l k r).2 ≤ r.2 := by
  induction l with
  | nil => intro r; simp [leftL]
  | cons e l ih =>
    intro r
    have h := ih (stepE k r e)
    have h2 : r.1 ≤ (stepE k r e).1 ∧ (stepE k r e).2 ≤ r.2 := by unfold stepE; split <;> (try simp only) <;> omega
    show r.1 ≤ (leftL l k (stepE k r e)).1 ∧ (leftL l k (stepE k r e)).2 ≤ r.2
    omega
theorem stepE_comm (k : Int) (r : Int × Int) (e f : Evd) : stepE k (stepE k r e) f = stepE k (stepE k r f) e := by
  unfold stepE
  split <;> split
  · simp only [Prod.mk.injEq]; omega
  · rfl
  · rfl
  · rfl
theorem leftL_step (l : List Evd) (k : Int) (e : Evd) : ∀ r, leftL l k (stepE k r e) = stepE k (leftL l k r) e := by
  induction l with
  | nil => intro r; rfl
  | cons f l ih =>
    intro r
    show leftL l k (stepE k (stepE k r e) f) = stepE k (leftL l k (stepE k r f)) e
    rw [stepE_comm, ih]
theorem leftL_comm (l m : List Evd) (k : Int) : ∀ r, leftL (l ++ m) k r = leftL (m ++ l) k r := by
  induction l with
  | nil => intro r; simp
  | cons e l ih =>
    intro r
    show leftL (l ++ m) k (stepE k r e) = _
    rw [leftL_step, ih, leftL_append, leftL_append]
    show stepE k (leftL l k (leftL m k r)) e = leftL l k (stepE k (leftL m k r) e)
    rw [leftL_step]
/-- a number that all evidence leaves -/
theorem leftL_in {l : List Evd} {k n : Int} (hl : ∀ e ∈ l, e.k = k → e.lo ≤ n ∧ n ≤ e.hi) : ∀ (r : Int × Int), r.1 ≤ n ∧ n ≤ r.2 → (leftL l k r).1 ≤ n ∧ n ≤ (leftL l k r).2 := by
  induction l with
  | nil => intro r h; exact h
  | cons e l ih =>
    intro r h
    show (leftL l k (stepE k r e)).1 ≤ n ∧ n ≤ (leftL l k (stepE k r e)).2
    refine ih (fun f hf => hl f (List.mem_cons_of_mem _ hf)) _ ?_
    have := hl e (by simp)
    unfold stepE
    split
    · rename_i h1
      have := this h1
      simp only; omega
    · exact h
theorem leftsL_comm (v : Vly) (l m : List Evd) : leftsL v (l ++ m) = leftsL v (m ++ l) := by
  unfold leftsL
  congr 1
  funext k s
  exact leftL_comm l m _ _

/-- are all ranges of some list there? -/
def upR (r : Int × Int) : Bool := decide (r.1 ≤ r.2)
/-- the error of evidence of a valid valley -/
def hearE (v : Vly) (l : List Evd) : Int := if 20 < l.length then 3 else if allB (evOk v.sls.length) l = false then 2 else if allB upR (leftsL v l) = false then 9 else 0
theorem hearE_long {v : Vly} {l : List Evd} (h : 20 < l.length) : hearE v l = 3 := by unfold hearE; rw [if_pos h]
theorem hearE_odd {v : Vly} {l : List Evd} (h : ¬ 20 < l.length) (h2 : allB (evOk v.sls.length) l = false) : hearE v l = 2 := by unfold hearE; rw [if_neg h, if_pos h2]
theorem hearE_fail {v : Vly} {l : List Evd} (h : ¬ 20 < l.length) (h2 : allB (evOk v.sls.length) l = true) (h3 : allB upR (leftsL v l) = false) : hearE v l = 9 := by
  unfold hearE; rw [if_neg h, if_neg (by rw [h2]; simp), if_pos h3]
theorem hearE_ok {v : Vly} {l : List Evd} (h : ¬ 20 < l.length) (h2 : allB (evOk v.sls.length) l = true) (h3 : allB upR (leftsL v l) = true) : hearE v l = 0 := by
  unfold hearE; rw [if_neg h, if_neg (by rw [h2]; simp), if_neg (by rw [h3]; simp)]
end Go.Proofs.YtjpobkmlcjbpiaaGreat
