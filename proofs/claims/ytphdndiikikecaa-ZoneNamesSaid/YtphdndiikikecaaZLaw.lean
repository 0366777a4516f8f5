/- PLAIN LAWS of a valley: what is valid, dangers, zones. No program in sight. -/
import Derived.Test.YtphdndiikikecaaVoc
set_option linter.unusedVariables false
set_option linter.unusedSimpArgs false
namespace Go.Proofs.Ytphdndiikikecaa
open Go.RowKit

def inB (n lo hi : Int) : Bool := decide (lo ≤ n) && decide (n ≤ hi)
theorem inB_iff {n lo hi : Int} : inB n lo hi = true ↔ lo ≤ n ∧ n ≤ hi := by simp [inB]
theorem inB_not {n lo hi : Int} : inB n lo hi = false ↔ n < lo ∨ hi < n := by
  rw [← Bool.not_eq_true, inB_iff]; omega
/-- 'all' of a list, by a name that no rule opens -/
def allB {α : Type} (p : α → Bool) (l : List α) : Bool := l.all p
theorem allB_iff {α : Type} {p : α → Bool} {l : List α} : allB p l = true ↔ ∀ (i : Nat) (x : α), l[i]? = some x → p x = true := by
  simp only [allB, List.all_eq_true]
  constructor
  · intro h i x hx; exact h x (List.mem_of_getElem? hx)
  · intro h x hx; obtain ⟨i, hi⟩ := List.getElem?_of_mem hx; exact h i x hi
theorem allB_not {α : Type} {p : α → Bool} {l : List α} : allB p l = false ↔ ∃ (i : Nat) (x : α), l[i]? = some x ∧ p x = false := by
  rw [← Bool.not_eq_true, allB_iff]
  constructor
  · intro h
    refine Classical.byContradiction fun hn => h fun i x hx => ?_
    cases hp : p x
    · exact absurd ⟨i, x, hx, hp⟩ hn
    · rfl
  · rintro ⟨i, x, hx, hp⟩ h
    rw [h i x hx] at hp; cases hp
theorem lt_of_get {α : Type} {l : List α} {i : Nat} {x : α} (h : l[i]? = some x) : i < l.length := (List.getElem?_eq_some_iff.1 h).1

/-- A parcel: worth, price, people, is it insured? -/
structure Par where
  worth : Int
  price : Int
  people : Int
  ins : Bool
  deriving DecidableEq
def encP (p : Par) : List Value := [.int .i64 p.worth, .int .i64 p.price, .int .i64 p.people, .bool p.ins]
theorem encP_len (p : Par) : (encP p).length = 4 := rfl
/-- A slide as it lies in memory: its way's slice, with the list that it reads as. -/
structure Sli where
  A : Option Addr
  n : Nat
  c : Nat
  way : List Int
  rate : Int
  lo : Int
  hi : Int
def encS (s : Sli) : List Value := [.slice s.A s.n s.c, .int .i64 s.rate, .int .i64 s.lo, .int .i64 s.hi]
theorem encS_len (s : Sli) : (encS s).length = 4 := rfl
structure Vly where
  pars : List Par
  sls : List Sli
  s0 : Int
  s1 : Int
  s2 : Int

def parOk (p : Par) : Bool := inB p.worth 0 100000 && inB p.price 0 100000 && inB p.people 0 1000
def upB (lo hi most : Int) : Bool := decide (0 ≤ lo) && decide (lo ≤ hi) && decide (hi ≤ most)
theorem upB_iff {lo hi most : Int} : upB lo hi most = true ↔ 0 ≤ lo ∧ lo ≤ hi ∧ hi ≤ most := by simp [upB, and_assoc]
/-- are the first parcels of a way there, and no two of them the same? -/
def wayTo (np : Nat) (way : List Int) (k : Nat) : Prop := (∀ p ∈ way.take k, 0 ≤ p ∧ p < np) ∧ (way.take k).Nodup
def wayOk (np : Nat) (way : List Int) : Bool := way.all (fun p => decide (0 ≤ p ∧ p < np)) && decide way.Nodup
theorem wayOk_iff {np : Nat} {way : List Int} : wayOk np way = true ↔ wayTo np way way.length := by
  simp [wayOk, wayTo]
theorem nodup_take_succ {l : List Int} {k : Nat} {x : Int} (h : l[k]? = some x) : (l.take (k + 1)).Nodup ↔ (l.take k).Nodup ∧ x ∉ l.take k := by
  rw [List.take_add_one, h]
  simp only [Option.toList_some, List.nodup_append, List.nodup_cons, List.not_mem_nil, not_false_eq_true, List.nodup_nil, and_self, List.mem_singleton, true_and, forall_eq]
  constructor
  · rintro ⟨h1, h2⟩; exact ⟨h1, fun hm => h2 x hm rfl⟩
  · rintro ⟨h1, h2⟩; exact ⟨h1, fun a ha e => h2 (e ▸ ha)⟩
theorem wayTo_succ {np : Nat} {way : List Int} {k : Nat} {x : Int} (h : way[k]? = some x) : wayTo np way (k + 1) ↔ wayTo np way k ∧ (0 ≤ x ∧ x < np) ∧ x ∉ way.take k := by
  unfold wayTo
  rw [nodup_take_succ h, List.take_add_one, h]
  simp only [Option.toList_some, List.mem_append, List.mem_singleton]
  constructor
  · rintro ⟨h1, h2, h3⟩; exact ⟨⟨fun p hp => h1 p (.inl hp), h2⟩, h1 x (.inr rfl), h3⟩
  · rintro ⟨⟨h1, h2⟩, h3, h4⟩
    refine ⟨fun p hp => ?_, h2, h4⟩
    rcases hp with hp | rfl
    · exact h1 p hp
    · exact h3
theorem wayTo_mono {np : Nat} {way : List Int} {k m : Nat} (hkm : k ≤ m) (h : wayTo np way m) : wayTo np way k := by
  have : (way.take k).Sublist (way.take m) := by rw [← Nat.min_eq_left hkm, ← List.take_take]; exact List.take_sublist _ _
  exact ⟨fun p hp => h.1 p (this.subset hp), h.2.sublist this⟩
def sliOk (np : Nat) (s : Sli) : Bool := wayOk np s.way && (decide (1 ≤ s.way.length) && inB s.rate 1 1000 && upB s.lo s.hi s.way.length)
def stepsOk (s0 s1 s2 : Int) : Bool := decide (1 ≤ s0) && decide (s0 < s1) && decide (s1 < s2) && decide (s2 ≤ 10000)
theorem stepsOk_iff {a b c : Int} : stepsOk a b c = true ↔ 1 ≤ a ∧ a < b ∧ b < c ∧ c ≤ 10000 := by simp [stepsOk, and_assoc]
/-- the error of a valley -/
def errV (v : Vly) : Int := if 10 < v.sls.length then 3 else if inB v.pars.length 1 12 && allB parOk v.pars && allB (sliOk v.pars.length) v.sls && stepsOk v.s0 v.s1 v.s2 then 0 else 1

structure VOk (v : Vly) : Prop where
  sn : v.sls.length ≤ 10
  pn : 1 ≤ v.pars.length ∧ v.pars.length ≤ 12
  par : allB parOk v.pars = true
  sli : allB (sliOk v.pars.length) v.sls = true
  steps : stepsOk v.s0 v.s1 v.s2 = true
theorem errV_zero {v : Vly} : errV v = 0 ↔ VOk v := by
  unfold errV
  split
  · rename_i h; constructor
    · intro h'; cases h'
    · intro h'; have := h'.sn; omega
  · rename_i h1
    split
    · rename_i h2
      simp only [Bool.and_eq_true, inB_iff] at h2
      exact ⟨fun _ => ⟨by omega, by omega, h2.1.1.2, h2.1.2, h2.2⟩, fun _ => rfl⟩
    · rename_i h2
      constructor
      · intro h'; cases h'
      · intro h'
        refine absurd ?_ h2
        simp only [Bool.and_eq_true, inB_iff]
        have := h'.pn
        exact ⟨⟨⟨by omega, h'.par⟩, h'.sli⟩, h'.steps⟩
theorem VOk.slide {v : Vly} (h : VOk v) {k : Nat} {s : Sli} (hs : v.sls[k]? = some s) : wayTo v.pars.length s.way s.way.length ∧ 1 ≤ s.way.length ∧ (1 ≤ s.rate ∧ s.rate ≤ 1000) ∧ 0 ≤ s.lo ∧ s.lo ≤ s.hi ∧ s.hi ≤ s.way.length := by
  have := allB_iff.1 h.sli k s hs
  simp only [sliOk, Bool.and_eq_true, decide_eq_true_eq, inB_iff, upB_iff, wayOk_iff] at this
  exact ⟨this.1, this.2.1.1, this.2.1.2, this.2.2⟩
theorem VOk.parcel {v : Vly} (h : VOk v) {i : Nat} {p : Par} (hp : v.pars[i]? = some p) : (0 ≤ p.worth ∧ p.worth ≤ 100000) ∧ (0 ≤ p.price ∧ p.price ≤ 100000) ∧ 0 ≤ p.people ∧ p.people ≤ 1000 := by
  have := allB_iff.1 h.par i p hp
  simp only [parOk, Bool.and_eq_true, inB_iff] at this
  exact ⟨this.1.1, this.1.2, this.2⟩

/-- what a slide adds to a parcel's danger, when it hits so many of its way -/
def hitBy (s : Sli) (m : Nat) (p : Int) : Int := if p ∈ s.way.take m then s.rate else 0
def dAt (sls : List Sli) (tr : List Int) (p : Int) (k : Nat) : Int := match sls[k]?, tr[k]? with
  | some s, some m => hitBy s m.toNat p
  | _, _ => 0
theorem dAt_of {sls : List Sli} {tr : List Int} {p : Int} {k : Nat} {s : Sli} {m : Int} (hs : sls[k]? = some s) (hm : tr[k]? = some m) : dAt sls tr p k = hitBy s m.toNat p := by simp [dAt, hs, hm]
def dTo (sls : List Sli) (tr : List Int) (p : Int) : Nat → Int
  | 0 => 0
  | k + 1 => dTo sls tr p k + dAt sls tr p k
theorem hitBy_bd {s : Sli} {m : Nat} {p : Int} (h : 0 ≤ s.rate ∧ s.rate ≤ 1000) : 0 ≤ hitBy s m p ∧ hitBy s m p ≤ 1000 := by unfold hitBy; split <;> omega
theorem dTo_bd {sls : List Sli} {tr : List Int} (h : ∀ (k : Nat) (s : Sli), sls[k]? = some s → 0 ≤ s.rate ∧ s.rate ≤ 1000) (p : Int) : ∀ k, 0 ≤ dTo sls tr p k ∧ dTo sls tr p k ≤ 1000 * k
  | 0 => by simp [dTo]
  | k + 1 => by
    have ih := dTo_bd (tr := tr) h p k
    have : 0 ≤ dAt sls tr p k ∧ dAt sls tr p k ≤ 1000 := by
      unfold dAt
      split
      · rename_i s m hs hm; exact hitBy_bd (h k s hs)
      · omega
    simp only [dTo]; omega
theorem hitBy_zero {s : Sli} {p : Int} : hitBy s 0 p = 0 := by simp [hitBy]
theorem hitBy_succ {s : Sli} {i : Nat} {x p : Int} (hx : s.way[i]? = some x) (hn : x ∉ s.way.take i) : hitBy s (i + 1) p = hitBy s i p + (if p = x then s.rate else 0) := by
  unfold hitBy
  rw [List.take_add_one, hx]
  simp only [Option.toList_some, List.mem_append, List.mem_singleton]
  by_cases h : p = x
  · subst h; simp [hn]
  · simp [h]
/-- the dangers of all parcels in a truth -/
def dangs (v : Vly) (tr : List Int) : List Int := (List.range v.pars.length).map fun p : Nat => dTo v.sls tr (p : Int) v.sls.length
def zoneOf (v : Vly) (d : Int) : Int := (if v.s0 ≤ d then 1 else 0) + (if v.s1 ≤ d then 1 else 0) + (if v.s2 ≤ d then 1 else 0)
theorem zoneOf_bd (v : Vly) (d : Int) : 0 ≤ zoneOf v d ∧ zoneOf v d ≤ 3 := by unfold zoneOf; split <;> split <;> split <;> omega
/-- the truth of all ends -/
def endsT (v : Vly) (high : Bool) : List Int := v.sls.map fun s => if high then s.hi else s.lo
/-- is a list a truth of a valley? -/
def Fits (v : Vly) (tr : List Int) : Prop := tr.length = v.sls.length ∧ ∀ (k : Nat) (s : Sli) (m : Int), v.sls[k]? = some s → tr[k]? = some m → s.lo ≤ m ∧ m ≤ s.hi
theorem endsT_fits {v : Vly} (h : VOk v) (high : Bool) : Fits v (endsT v high) := by
  refine ⟨by simp [endsT], fun k s m hs hm => ?_⟩
  simp only [endsT, List.getElem?_map, hs, Option.map_some, Option.some.injEq] at hm
  have := h.slide hs
  cases high <;> simp at hm <;> omega
theorem dangs_len {v : Vly} {tr : List Int} : (dangs v tr).length = v.pars.length := by simp [dangs]
theorem dangs_at {v : Vly} {tr : List Int} {i : Nat} {x : Int} (h : (dangs v tr)[i]? = some x) : x = dTo v.sls tr i v.sls.length := by
  simp only [dangs, List.getElem?_map, Option.map_eq_some_iff] at h
  obtain ⟨a, ha, rfl⟩ := h
  obtain ⟨_, e⟩ := List.getElem?_eq_some_iff.1 ha
  simp at e; subst e; rfl
theorem dangs_bd {v : Vly} (h : VOk v) {tr : List Int} {i : Nat} {x : Int} (hx : (dangs v tr)[i]? = some x) : 0 ≤ x ∧ x ≤ 10000 := by
  rw [dangs_at hx]
  have := dTo_bd (sls := v.sls) (tr := tr) (fun k s hs => by have := (h.slide hs).2.2.1; omega) i v.sls.length
  have := h.sn
  omega
end Go.Proofs.Ytphdndiikikecaa
