/- PLAIN LAWS of evidence: what is left of each slide's reach. -/
import Derived.Test.YtphdndiikikecaaZMono
namespace Go.Proofs.Ytphdndiikikecaa
open Go.RowKit

/-- a piece of evidence: its slide, its range -/
structure Evd where
  k : Int
  lo : Int
  hi : Int
  deriving DecidableEq
def encE (e : Evd) : List Value := [.int .i64 e.k, .int .i64 e.lo, .int .i64 e.hi]
theorem encE_len (e : Evd) : (encE e).length = 3 := rfl
def evOk (sn : Nat) (e : Evd) : Bool := inB e.k 0 ((sn : Int) - 1) && upB e.lo e.hi 12
def stepE (k : Int) (r : Int × Int) (e : Evd) : Int × Int := if e.k = k then (max r.1 e.lo, min r.2 e.hi) else r
def leftL (l : List Evd) (k : Int) (r : Int × Int) : Int × Int := l.foldl (stepE k) r
theorem leftL_nil (k : Int) (r : Int × Int) : leftL [] k r = r := rfl
theorem leftL_snoc (l : List Evd) (e : Evd) (k : Int) (r : Int × Int) : leftL (l ++ [e]) k r = stepE k (leftL l k r) e := by simp [leftL, List.foldl_append]
theorem leftL_append (l m : List Evd) (k : Int) (r : Int × Int) : leftL (l ++ m) k r = leftL m k (leftL l k r) := by simp [leftL, List.foldl_append]
/-- what is left of all slides' reach -/
def leftsL (v : Vly) (l : List Evd) : List (Int × Int) := v.sls.mapIdx fun k s => leftL l (k : Int) (s.lo, s.hi)
theorem leftsL_len (v : Vly) (l : List Evd) : (leftsL v l).length = v.sls.length := by simp [leftsL]
theorem leftsL_get {v : Vly} {l : List Evd} {k : Nat} {s : Sli} (h : v.sls[k]? = some s) : (leftsL v l)[k]? = some (leftL l (k : Int) (s.lo, s.hi)) := by
  simp [leftsL, List.getElem?_mapIdx, h]
theorem leftsL_nil (v : Vly) : leftsL v [] = v.sls.map fun s => (s.lo, s.hi) := by
  refine List.ext_getElem? fun i => ?_
  simp only [leftsL, leftL_nil, List.getElem?_mapIdx, List.getElem?_map]
/-- one piece of evidence more -/
theorem leftsL_snoc {v : Vly} {l : List Evd} {e : Evd} {k : Nat} {r : Int × Int} (hk : e.k = (k : Int)) (hr : (leftsL v l)[k]? = some r) : leftsL v (l ++ [e]) = (leftsL v l).set k (max r.1 e.lo, min r.2 e.hi) := by
  refine List.ext_getElem? fun i => ?_
  rw [List.getElem?_set]
  by_cases hi : i < v.sls.length
  · have hs := List.getElem?_eq_getElem hi
    rw [leftsL_get hs, leftL_snoc]
    by_cases hki : k = i
    · subst hki
      rw [leftsL_get hs] at hr
      cases hr
      rw [if_pos rfl, if_pos (by rw [leftsL_len]; exact hi)]
      simp [stepE, hk]
    · rw [if_neg hki, leftsL_get hs]
      have : e.k ≠ (i : Int) := by omega
      simp [stepE, this]
  · rw [List.getElem?_eq_none (by rw [leftsL_len]; omega)]
    split
    · rw [if_neg (by rw [leftsL_len]; omega)]
    · rw [List.getElem?_eq_none (by rw [leftsL_len]; omega)]
/-- the greatest lower end, the least upper end: the order of the evidence is nothing -/
theorem leftL_bd (l : List Evd) (k : Int) : ∀ (r : Int × Int), r.1 ≤ (leftL l k r).1 ∧ (leftL l k r).2 ≤ r.2 := by
  induction l with
  | nil => intro r; simp [leftL]
  | cons e l ih =>
    intro r
    have h := ih (stepE k r e)
    have h2 : r.1 ≤ (stepE k r e).1 ∧ (stepE k r e).2 ≤ r.2 := by unfold stepE; split <;> (try simp only) <;> omega
    show r.1 ≤ (leftL l k (stepE k r e)).1 ∧ (leftL l k (stepE k r e)).2 ≤ r.2
    omega
theorem stepE_comm (k : Int) (r : Int × Int) (e f : Evd) : stepE k (stepE k r e) f = stepE k (stepE k r f) e := by
  unfold stepE
  split <;> split
  · simp only [Prod.mk.injEq]; omega
  · rfl
  · rfl
  · rfl
theorem leftL_step (l : List Evd) (k : Int) (e : Evd) : ∀ r, leftL l k (stepE k r e) = stepE k (leftL l k r) e := by
  induction l with
  | nil => intro r; rfl
  | cons f l ih =>
    intro r
    show leftL l k (stepE k (stepE k r e) f) = stepE k (leftL l k (stepE k r f)) e
    rw [stepE_comm, ih]
theorem leftL_comm (l m : List Evd) (k : Int) : ∀ r, leftL (l ++ m) k r = leftL (m ++ l) k r := by
  induction l with
  | nil => intro r; simp
  | cons e l ih =>
    intro r
    show leftL (l ++ m) k (stepE k r e) = _
    rw [leftL_step, ih, leftL_append, leftL_append]
    show stepE k (leftL l k (leftL m k r)) e = leftL l k (stepE k (leftL m k r) e)
    rw [leftL_step]
/-- a number that all evidence leaves -/
theorem leftL_in {l : List Evd} {k n : Int} (hl : ∀ e ∈ l, e.k = k → e.lo ≤ n ∧ n ≤ e.hi) : ∀ (r : Int × Int), r.1 ≤ n ∧ n ≤ r.2 → (leftL l k r).1 ≤ n ∧ n ≤ (leftL l k r).2 := by
  induction l with
  | nil => intro r h; exact h
  | cons e l ih =>
    intro r h
    show (leftL l k (stepE k r e)).1 ≤ n ∧ n ≤ (leftL l k (stepE k r e)).2
    refine ih (fun f hf => hl f (List.mem_cons_of_mem _ hf)) _ ?_
    have := hl e (by simp)
    unfold stepE
    split
    · rename_i h1
      have := this h1
      simp only; omega
    · exact h
theorem leftsL_comm (v : Vly) (l m : List Evd) : leftsL v (l ++ m) = leftsL v (m ++ l) := by
  unfold leftsL
  congr 1
  funext k s
  exact leftL_comm l m _ _

/-- are all ranges of some list there? -/
def upR (r : Int × Int) : Bool := decide (r.1 ≤ r.2)
/-- the error of evidence of a valid valley -/
def hearE (v : Vly) (l : List Evd) : Int := if 20 < l.length then 3 else if allB (evOk v.sls.length) l = false then 2 else if allB upR (leftsL v l) = false then 9 else 0
theorem hearE_long {v : Vly} {l : List Evd} (h : 20 < l.length) : hearE v l = 3 := by unfold hearE; rw [if_pos h]
theorem hearE_odd {v : Vly} {l : List Evd} (h : ¬ 20 < l.length) (h2 : allB (evOk v.sls.length) l = false) : hearE v l = 2 := by unfold hearE; rw [if_neg h, if_pos h2]
theorem hearE_fail {v : Vly} {l : List Evd} (h : ¬ 20 < l.length) (h2 : allB (evOk v.sls.length) l = true) (h3 : allB upR (leftsL v l) = false) : hearE v l = 9 := by
  unfold hearE; rw [if_neg h, if_neg (by rw [h2]; simp), if_pos h3]
theorem hearE_ok {v : Vly} {l : List Evd} (h : ¬ 20 < l.length) (h2 : allB (evOk v.sls.length) l = true) (h3 : allB upR (leftsL v l) = true) : hearE v l = 0 := by
  unfold hearE; rw [if_neg h, if_neg (by rw [h2]; simp), if_neg (by rw [h3]; simp)]
end Go.Proofs.Ytphdndiikikecaa
