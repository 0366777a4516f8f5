/- PLAIN LAWS of a valley: what is valid, dangers, zones. No program in sight. -/
import Derived.Test.YtjpobkmlcjbpiaaGreatVoc
set_option linter.unusedVariables false
set_option linter.unusedSimpArgs false
namespace Go.Proofs.YtjpobkmlcjbpiaaGreat
open Go.RowKit

def inB (n lo hi : Int) : Bool := decide (lo ≤ n) && decide (n ≤ hi)
theorem inB_iff {n lo hi : Int} : inB n lo hi = true ↔ lo ≤ n ∧ n ≤ hi := by simp [inB]
theorem inB_not {n lo hi : Int} : inB n lo hi = false ↔ n < lo ∨ hi < n := by
  rw [← Bool.not_eq_true, inB_iff]; omega
/-- 'all' of a list, by a name that no rule opens -/
def allB {α : Type} (p : α → Bool) (l : List α) : Bool := l.all p
theorem allB_iff {α : Type} {p : α → Bool} {l : List α} : allB p l = true ↔ ∀ (i : Nat) (x : α), l[i]? = some x → p x = true := by
  simp only [allB, List.all_eq_true]
  constructor
  · intro h i x hx; exact h x (List.mem_of_getElem? hx)
  · intro h x hx; obtain ⟨i, hi⟩ := List.getElem?_of_mem hx; exact h i x hi
theorem allB_not {α : Type} {p : α → Bool} {l : List α} : allB p l = false ↔ ∃ (i : Nat) (x : α), l[i]? = some x ∧ p x = false := by
  rw [← Bool.not_eq_true, allB_iff]
  constructor
  · intro h
    refine Classical.byContradiction fun hn => h fun i x hx => ?_
    cases hp : p x
    · exact absurd ⟨i, x, hx, hp⟩ hn
    · rfl
  · rintro ⟨i, x, hx, hp⟩ h
    rw [h i x hx] at hp; cases hp
theorem lt_of_get {α : Type} {l : List α} {i : Nat} {x : α} (h : l[i]? = some x) : i < l.length := (List.getElem?_eq_some_iff.1 h).1

/-- A parcel: worth, price, people, is it insured? -/
structure Par where
  worth : Int
  price : Int
  people : Int
  ins : Bool
  deriving DecidableEq
def encP (p : Par) : List Value := [.int .i64 p.worth, .int .i64 p.price, .int .i64 p.people, .bool p.ins]
theorem encP_len (p : Par) : (encP p).length = 4 := rfl
/-- A slide as it lies in memory: its way's slice, with the list that it reads as. -/
structure Sli where
  A : Option Addr
  n : Nat
  c : Nat
  way : List Int
  rate : Int
  lo : Int
  hi : Int
def encS (s : Sli) : List Value := [.slice s.A s.n s.c, .int .i64 s.rate, .int .i64 s.lo, .int .i64 s.hi]
theorem encS_len (s : Sli) : (encS s).length = 4 := rfl
structure Vly where
  pars : List Par
  sls : List Sli
  s0 : Int
  s1 : Int
  s2 : Int

def parOk (p : Par) : Bool := inB p.worth 0 100000 && inB p.price 0 100000 && inB p.people 0 1000
def upB (lo hi most : Int) : Bool := decide (0 ≤ lo) && decide (lo ≤ hi) && decide (hi ≤ most)
theorem upB_iff {lo hi most : Int} : upB lo hi most = true ↔ 0 ≤ lo ∧ lo ≤ hi ∧ hi ≤ most := by simp [upB, and_assoc]
/-- are the first parcels of a way there, and no two of them the same? -/
def wayTo (np : Nat) (way : List Int) (k : Nat) : Prop := (∀ p ∈ way.take k, 0 ≤ p ∧ p < np) ∧ (way.take k).Nodup
def wayOk (np : Nat) (way : List Int) : Bool := way.all (fun p => decide (0 ≤ p ∧ p < np)) && decide way.Nodup
theorem wayOk_iff {np : Nat} {way : List Int} : wayOk np way = true ↔ wayTo np way way.length := by
  simp [wayOk, wayTo]
theorem nodup_take_succ {l : List Int} {k : Nat} {x : Int} (h : l[k]? = some x) : (l.take (k + 1)).Nodup ↔ (l.take k).Nodup ∧ x ∉ l.take k := by
  rw [List.take_add_one, h]
  simp only [Option.toList_some, List.nodup_append, List.nodup_cons, List.not_mem_nil, not_false_eq_true, List.nodup_nil, and_self, List.mem_singleton, true_and, forall_eq]
  constructor
  · rintro ⟨h1, h2⟩; exact ⟨h1, fun hm => h2 x hm rfl⟩
  · rintro ⟨h1, h2⟩; exact ⟨h1, fun a ha e => h2 (e ▸ ha)⟩
theorem wayTo_succ {np : Nat} {way : List Int} {k : Nat} {x : Int} (h : way[k]? = some x) : wayTo np way (k + 1) ↔ wayTo np way k ∧ (0 ≤ x ∧ x < np) ∧ x ∉ way.take k := by
  unfold wayTo
  rw [nodup_take_succ h, List.take_add_one, h]
  simp only [Option.toList_some, List.mem_append, List.mem_singleton]
  constructor
  · rintro ⟨h1, h2, h3⟩; exact ⟨⟨fun p hp => h1 p (.inl hp), h2⟩, h1 x (.inr rfl), h3⟩
  · rintro ⟨⟨h1, h2⟩, h3, h4⟩
    refine ⟨fun p hp => ?_, h2, h4⟩
    rcases hp with hp | rfl
    · exact h1 p hp
    · exact h3
theorem wayTo_mono {np : Nat} {way : List Int} {k m : Nat} (hkm : k ≤ m) (h : wayTo np way m) : wayTo np way k := by
  have : (way.take k).Sublist (way.take m) := by rw [← Nat.min_eq_left hkm, ← List.take_take]; exact List.take_sublist _ _
  exact ⟨fun p hp => h.1 p (this.subset hp), h.2.sublist this⟩
def sliOk (np : Nat) (s : Sli) : Bool := wayOk np s.way && (decide (1 ≤ s.way.length) && inB s.rate 1 1000 && upB s.lo s.hi s.way.length)
def stepsOk (s0 s1 s2 : Int) : Bool := decide (1 ≤ s0) && decide (s0 < s1) && decide (s1 < s2) && decide (s2 ≤ 10000)
theorem stepsOk_iff {a b c : Int} : stepsOk a b c = true ↔ 1 ≤ a ∧ a < b ∧ b < c ∧ c ≤ 10000 := by simp [stepsOk, and_assoc]
/-- the error of a valley -/
def errV (v : Vly) : Int := if 10 < v.sls.length then 3 else if inB v.pars.length 1 12 && allB parOk v.pars && allB (sliOk v.pars.length) v.sls && stepsOk v.s0 v.s1 v.s2 then 0 else 1

structure VOk (v : Vly) : Prop where
  sn : v.sls.length ≤ 10
  pn : 1 ≤ v.pars.length ∧ v.pars.length ≤ 12
  par : allB parOk v.pars = true
  sli : allB (sliOk v.pars.length) v.sls = true
  steps : stepsOk v.s0 v.s1 v.s2 = true
theorem errV_zero {v : Vly} : errV v = 0 ↔ VOk v := by
  unfold errV
  split
  · rename_i h; constructor
    · intro h'; cases h'
    · intro h'; have := h'.sn; omega
  · rename_i h1
    split
    · rename_i h2
      simp only [Bool.and_eq_true, inB_iff] at h2
      exact ⟨fun _ => ⟨by omega, by omega, h2.1.1.2, h2.1.2, h2.2⟩, fun _ => rfl⟩
    · rename_i h2
      constructor
      · intro h'; cases h'
      · intro h'
        refine absurd ?_ h2
        simp only [Bool.and_eq_true, inB_iff]
        have := h'.pn
        exact ⟨⟨⟨by omega, h'.par⟩, h'.sli⟩, h'.steps⟩
theorem VOk.slide {v : Vly} (h : VOk v) {k : Nat} {s : Sli} (hs : v.sls[k]? = some s) : wayTo v.pars.length s.way s.way.length ∧ 1 ≤ s.way.length ∧ (1 ≤ s.rate ∧ s.rate ≤ 1000) ∧ 0 ≤ s.lo ∧ s.lo ≤ s.hi ∧ s.hi ≤ s.way.length := by
  have := allB_iff.1 h.sli k s hs
  simp only [sliOk, Bool.and_eq_true, decide_eq_true_eq, inB_iff, upB_iff, wayOk_iff] at this
  exact ⟨this.1, this.2.1.1, this.2.1.2, this.2.2⟩
theorem VOk.parcel {v : Vly} (h : VOk v) {i : Nat} {p : Par} (hp : v.pars[i]? = some p) : (0 ≤ p.worth ∧ p.worth ≤ 100000) ∧ (0 ≤ p.price ∧ p.price ≤ 100000) ∧ 0 ≤ p.people ∧ p.people ≤ 1000 := by
  have := allB_iff.1 h.par i p hp
  simp only [parOk, Bool.and_eq_true, inB_iff] at this
  exact ⟨this.1.1, this.1.2, this.2⟩

/-- what a slide adds to a parcel's danger, when it hits so many of its way -/
def hitBy (s : Sli) (m : Nat) (p : Int) : Int := if p ∈ s.way.take m then s.rate else 0
def dAt (sls : List Sli) (tr : List Int) (p : Int) (k : Nat) : Int := match sls[k]?, tr[k]? with
  | some s, some m => hitBy s m.toNat p
  | _, _ => 0
theorem dAt_of {sls : List Sli} {tr : List Int} {p : Int} {k : Nat} {s : Sli} {m : Int} (hs : sls[k]? = some s) (hm : tr[k]? = some m) : dAt sls tr p k = hitBy s m.toNat p := by simp [dAt, hs, hm]
def dTo (sls : List Sli) (tr : List Int) (p : Int) : Nat → Int
  | 0 => 0
  | k + 1 => dTo sls tr p k + dAt sls tr p k
theorem hitBy_bd {s : Sli} {m : Nat} {p : Int} (h : 0 ≤ s.rate ∧ s.rate ≤ 1000) : 0 ≤ hitBy s m p ∧ hitBy s m p ≤ 1000 := by unfold hitBy; split <;> omega
theorem dTo_bd {sls : List Sli} {tr : List Int} (h : ∀ (k : Nat) (s : Sli), sls[k]? = some s → 0 ≤ s.rate ∧ s.rate ≤ 1000) (p : Int) : ∀ k, 0 ≤ dTo sls tr p k ∧ dTo sls tr p k ≤ 1000 * k
  | 0 => by simp [dTo]
  | k + 1 => by
    have ih := dTo_bd (tr := tr) h p k
    have : 0 ≤ dAt sls tr p k ∧ dAt sls tr p k ≤ 1000 := by
      unfold dAt
      split
      · rename_i s m hs hm; exact hitBy_bd (h k s hs)
      · omega
    simp only [dTo]; omega
theorem hitBy_zero {s : Sli} {p : Int} : hitBy s 0 p = 0 := by simp [hitBy]
theorem hitBy_succ {s : Sli} {i : Nat} {x p : Int} (hx : s.way[i]? = some x) (hn : x ∉ s.way.take i) : hitBy s (i + 1) p = hitBy s i p + (if p = x then s.rate else 0) := by
  unfold hitBy
  rw [List.take_add_one, hx]
  simp only [Option.toList_some, List.mem_append, List.mem_singleton]
  by_cases h : p = x
  · subst h; simp [hn]
  · simp [h]
/-- the dangers of all parcels in a truth -/
def dangs (v : Vly) (tr : List Int) : List Int := (List.range v.pars.length).map fun p : Nat => dTo v.sls tr (p : Int) v.sls.length
def zoneOf (v : Vly) (d : Int) : Int := (if v.s0 ≤ d then 1 else 0) + (if v.s1 ≤ d then 1 else 0) + (if v.s2 ≤ d then 1 else 0)
theorem zoneOf_bd (v : Vly) (d : Int) : 0 ≤ zoneOf v d ∧ zoneOf v d ≤ 3 := by unfold zoneOf; split <;> split <;> split <;> omega
/-- the truth of all ends -/
def endsT (v : Vly) (high : Bool) : List Int := v.sls.map fun s => if high then s.hi else s.lo
/-- is a list a truth of a valley? -/
def Fits (v : Vly) (tr : List Int) : Prop := tr.length = v.sls.length ∧ ∀ (k : Nat) (s : Sli) (m : Int), v.sls[k]? = some s → tr[k]? = some m → s.lo ≤ m ∧ m ≤ s.hi
theorem endsT_fits {v : Vly} (h : VOk v) (high : Bool) : Fits v (endsT v high) := by
  refine ⟨by simp [endsT], fun k s m hs hm => ?_⟩
  simp only [endsT, List.getElem?_map, hs, Option.map_some, Option.some.injEq] at hm
  have := h.slide hs
  cases high <;> simp at hm <;> omega
theorem dangs_len {v : Vly} {tr : List Int} : (dangs v tr).length = v.pars.length := by simp [dangs]
theorem dangs_at {v : Vly} {tr : List Int} {i : Nat} {x : Int} (h : (dangs v tr)[i]? = some x) : x = dTo v.sls tr i v.sls.length := by
  simp only [dangs, List.getElem?_map, Option.map_eq_some_iff] at h
  obtain ⟨a, ha, rfl⟩ := h
  obtain ⟨_, e⟩ := List.getElem?_eq_some_iff.1 ha
  simp at e; subst e; rfl
theorem dangs_bd {v : Vly} (h : VOk v) {tr : List Int} {i : Nat} {x : Int} (hx : (dangs v tr)[i]? = some x) : 0 ≤ x ∧ x ≤ 10000 := by
  rw [dangs_at hx]
  have := dTo_bd (sls := v.sls) (tr := tr) (fun k s hs => by have := (h.slide hs).2.2.1; omega) i v.sls.length
  have := h.sn
  omega
end Go.Proofs.YtjpobkmlcjbpiaaGreat

namespace Go.Proofs.YtjpobkmlcjbpiaaGreat

structure Cel where
  lo : Int
  hi : Int
  cap : Int
  keep : Int
  pass : Int
  to : Int
  pump : Int
  deriving DecidableEq
structure Dy where
  lo : Int
  hi : Int
  warm : Int
  deriving DecidableEq
structure Grd where
  cells : List Cel
  sn0 : Int
  sn1 : Int
  so0 : Int
  so1 : Int
  melt : Int

/-- a level by its cell's number -/
def lvA (L : List Int) (i : Nat) : Int := L.getD i 0
def celA (C : List Cel) (i : Nat) : Cel := C.getD i ⟨0, 0, 1, 0, 0, -1, 0⟩
/-- what the pump takes, what stays behind it, and what goes on -/
def takenW (c : Cel) (l : Int) : Int := min l c.pump
def staysW (c : Cel) (l : Int) : Int := l - takenW c l
def onW (c : Cel) (l : Int) : Int := max 0 (staysW c l - c.keep) * c.pass / 1000
/-- what the first k cells bring to cell j -/
def nowW (C : List Cel) (L : List Int) (s : Int) : Nat → Nat → Int
  | 0, _ => 0
  | k + 1, j => nowW C L s k j + (if j = k then staysW (celA C k) (lvA L k) - onW (celA C k) (lvA L k) + s else 0) + (if (celA C k).to = (j : Int) then onW (celA C k) (lvA L k) else 0)
/-- what the first k cells leave -/
def leftW (C : List Cel) (L : List Int) (d s : Int) : Nat → Int
  | 0 => 0
  | k + 1 => leftW C L d s k + ((d - s) + takenW (celA C k) (lvA L k)) + (if (celA C k).to = -1 then onW (celA C k) (lvA L k) else 0)
/-- what does not fit into the first k cells -/
def overW (C : List Cel) (L : List Int) (s : Int) : Nat → Int
  | 0 => 0
  | k + 1 => overW C L s k + max 0 (nowW C L s C.length k - (celA C k).cap)
/-- the levels behind a day -/
def passW (C : List Cel) (L : List Int) (s : Int) : List Int := (List.range C.length).map fun j => min (nowW C L s C.length j) (celA C j).cap
/-- what comes down, and the snow behind it -/
def fallW (melt snow rain warm : Int) : Int × Int := if warm ≤ 0 then (0, snow + rain) else (rain + min snow (melt * warm), snow - min snow (melt * warm))
/-- a state on the way: levels, snow, what is left -/
structure WaySt where
  lv : List Int
  snow : Int
  left : Int
def dayW (C : List Cel) (melt soak : Int) (st : WaySt) (rain warm : Int) : WaySt :=
  let f := fallW melt st.snow rain warm
  let s := f.1 * soak / 1000
  ⟨passW C st.lv s, f.2, leftW C st.lv f.1 s C.length + overW C st.lv s C.length⟩
/-- the state behind the first k days -/
def daysW (C : List Cel) (melt soak : Int) (rain warm : List Int) (st : WaySt) : Nat → WaySt
  | 0 => st
  | k + 1 => dayW C melt soak (daysW C melt soak rain warm st k) (rain.getD k 0) (warm.getD k 0)

/-- a right cell -/
def celOk (n : Nat) (c : Cel) : Prop := (1 ≤ c.cap ∧ c.cap ≤ 100000) ∧ (0 ≤ c.lo ∧ c.lo ≤ c.hi ∧ c.hi ≤ c.cap) ∧ (0 ≤ c.keep ∧ c.keep ≤ c.cap) ∧ (0 ≤ c.pass ∧ c.pass ≤ 1000) ∧ (-1 ≤ c.to ∧ c.to ≤ (n : Int) - 1) ∧ (0 ≤ c.pump ∧ c.pump ≤ 100000)
def dflt : Cel := ⟨0, 0, 1, 0, 0, -1, 0⟩
theorem celA_ok {n : Nat} {C : List Cel} (h : ∀ c ∈ C, celOk n c) (i : Nat) : celOk n (celA C i) := by
  unfold celA
  rw [List.getD_eq_getElem?_getD]
  cases hc : C[i]? with
  | none => exact ⟨by decide, by decide, by decide, by decide, ⟨by decide, by simp; omega⟩, by decide⟩
  | some c => exact h c (List.mem_of_getElem? hc)

theorem stays_mono {c : Cel} {a b : Int} (h : a ≤ b) : staysW c a ≤ staysW c b := by unfold staysW takenW; omega
theorem stays_nn {c : Cel} {a : Int} : 0 ≤ staysW c a := by unfold staysW takenW; omega
theorem taken_nn {c : Cel} {a : Int} (h : 0 ≤ a) (hp : 0 ≤ c.pump) : 0 ≤ takenW c a := by unfold takenW; omega
theorem on_nn {c : Cel} {a : Int} (hp : 0 ≤ c.pass) : 0 ≤ onW c a := by
  unfold onW
  exact Int.ediv_nonneg (Int.mul_nonneg (by omega) hp) (by omega)
theorem on_mono {c : Cel} {a b : Int} (hp : 0 ≤ c.pass) (h : a ≤ b) : onW c a ≤ onW c b := by
  unfold onW
  have := stays_mono (c := c) h
  exact Int.ediv_le_ediv (by omega) (Int.mul_le_mul_of_nonneg_right (by omega) hp)
/-- with at most 1000 of 1000 going on, what stays does not fall when there is more -/
theorem keep_mono {c : Cel} {a b : Int} (hp : 0 ≤ c.pass ∧ c.pass ≤ 1000) (h : a ≤ b) : staysW c a - onW c a ≤ staysW c b - onW c b := by
  have hs := stays_mono (c := c) h
  unfold onW
  obtain ⟨x, hx⟩ : ∃ x, x = max 0 (staysW c a - c.keep) := ⟨_, rfl⟩
  obtain ⟨y, hy⟩ : ∃ y, y = max 0 (staysW c b - c.keep) := ⟨_, rfl⟩
  rw [← hx, ← hy]
  have hxy : 0 ≤ y - x ∧ y - x ≤ staysW c b - staysW c a := by omega
  have h1 : (y - x) * c.pass ≤ (y - x) * 1000 := Int.mul_le_mul_of_nonneg_left hp.2 hxy.1
  have h2 : y * c.pass = x * c.pass + (y - x) * c.pass := by rw [Int.sub_mul]; omega
  omega
theorem on_le {c : Cel} {a : Int} (hk : 0 ≤ c.keep) (hp : 0 ≤ c.pass ∧ c.pass ≤ 1000) : onW c a ≤ staysW c a := by
  have hs := stays_nn (c := c) (a := a)
  unfold onW
  obtain ⟨x, hx⟩ : ∃ x, x = max 0 (staysW c a - c.keep) := ⟨_, rfl⟩
  rw [← hx]
  have h1 : x * c.pass ≤ x * 1000 := Int.mul_le_mul_of_nonneg_left hp.2 (by omega)
  omega
/-- levels that are not lower -/
def LeL (L M : List Int) : Prop := ∀ i, lvA L i ≤ lvA M i
theorem now_mono {n : Nat} {C : List Cel} {L M : List Int} {s t : Int} (hC : ∀ c ∈ C, celOk n c) (hL : LeL L M) (hs : s ≤ t) : ∀ k j, nowW C L s k j ≤ nowW C M t k j
  | 0, _ => Int.le_refl _
  | k + 1, j => by
    have ih := now_mono hC hL hs k j
    have hc := celA_ok hC k
    have h1 := keep_mono (c := celA C k) hc.2.2.2.1 (hL k)
    have h2 := on_mono (c := celA C k) hc.2.2.2.1.1 (hL k)
    unfold nowW
    split <;> split <;> omega
theorem now_nn {n : Nat} {C : List Cel} {L : List Int} {s : Int} (hC : ∀ c ∈ C, celOk n c) (hs : 0 ≤ s) : ∀ k j, 0 ≤ nowW C L s k j
  | 0, _ => Int.le_refl _
  | k + 1, j => by
    have ih := now_nn (L := L) hC hs k j
    have hc := celA_ok hC k
    have h1 := on_le (c := celA C k) (a := lvA L k) hc.2.2.1.1 hc.2.2.2.1
    have h2 := on_nn (c := celA C k) (a := lvA L k) hc.2.2.2.1.1
    unfold nowW
    split <;> split <;> omega
theorem lvA_pass {C : List Cel} {L : List Int} {s : Int} (i : Nat) : lvA (passW C L s) i = if i < C.length then min (nowW C L s C.length i) (celA C i).cap else 0 := by
  unfold lvA passW
  rw [List.getD_eq_getElem?_getD, List.getElem?_map]
  by_cases h : i < C.length
  · rw [List.getElem?_range h, if_pos h]; rfl
  · rw [List.getElem?_eq_none (by simp; omega), if_neg h]; rfl
theorem pass_mono {n : Nat} {C : List Cel} {L M : List Int} {s t : Int} (hC : ∀ c ∈ C, celOk n c) (hL : LeL L M) (hs : s ≤ t) : LeL (passW C L s) (passW C M t) := by
  intro i
  rw [lvA_pass, lvA_pass]
  have := now_mono hC hL hs C.length i
  split <;> omega
theorem soaks_mono {d e p q : Int} (hd : 0 ≤ d) (hde : d ≤ e) (hp : 0 ≤ p) (hpq : p ≤ q) : d * p / 1000 ≤ e * q / 1000 :=
  Int.ediv_le_ediv (by omega) (Int.le_trans (Int.mul_le_mul_of_nonneg_left hpq hd) (Int.mul_le_mul_of_nonneg_right hde (by omega)))
/-- more snow and more rain: not less comes down, and not less snow is behind it -/
theorem fall_mono {m s t r q x : Int} (hs : s ≤ t) (hr : r ≤ q) : (fallW m s r x).1 ≤ (fallW m t q x).1 ∧ (fallW m s r x).2 ≤ (fallW m t q x).2 := by
  unfold fallW
  split
  · exact ⟨Int.le_refl _, by simp; omega⟩
  · simp; constructor <;> omega
theorem fall_nn {m s r x : Int} (hm : 0 ≤ m) (hs : 0 ≤ s) (hr : 0 ≤ r) : 0 ≤ (fallW m s r x).1 ∧ 0 ≤ (fallW m s r x).2 := by
  unfold fallW
  split
  · simp; omega
  · rename_i h
    have : 0 ≤ m * x := Int.mul_nonneg hm (by omega)
    simp; constructor <;> omega
/-- a day at states in order -/
theorem day_mono {n : Nat} {C : List Cel} {m p q r u x : Int} {a b : WaySt} (hC : ∀ c ∈ C, celOk n c) (hm : 0 ≤ m) (hp : 0 ≤ p) (hpq : p ≤ q) (hr : 0 ≤ r) (hru : r ≤ u) (hl : LeL a.lv b.lv) (h0 : 0 ≤ a.snow) (hs : a.snow ≤ b.snow) :
    LeL (dayW C m p a r x).lv (dayW C m q b u x).lv ∧ 0 ≤ (dayW C m p a r x).snow ∧ (dayW C m p a r x).snow ≤ (dayW C m q b u x).snow := by
  have h1 := fall_mono (m := m) (x := x) hs hru
  have h2 := fall_nn (x := x) hm h0 hr
  exact ⟨pass_mono hC hl (soaks_mono h2.1 h1.1 hp hpq), h2.2, h1.2⟩
theorem getD_in {l : List Int} (h : ∀ x ∈ l, 0 ≤ x) (k : Nat) : 0 ≤ l.getD k 0 := by
  rw [List.getD_eq_getElem?_getD]
  cases hc : l[k]? with
  | none => exact Int.le_refl _
  | some c => exact h c (List.mem_of_getElem? hc)
/-- all days -/
theorem days_mono {n : Nat} {C : List Cel} {m p q : Int} {R U X : List Int} {a b : WaySt} (hC : ∀ c ∈ C, celOk n c) (hm : 0 ≤ m) (hp : 0 ≤ p) (hpq : p ≤ q) (hR : ∀ x ∈ R, 0 ≤ x) (hRU : LeL R U) (hl : LeL a.lv b.lv) (h0 : 0 ≤ a.snow) (hs : a.snow ≤ b.snow) : ∀ k,
    LeL (daysW C m p R X a k).lv (daysW C m q U X b k).lv ∧ 0 ≤ (daysW C m p R X a k).snow ∧ (daysW C m p R X a k).snow ≤ (daysW C m q U X b k).snow
  | 0 => ⟨hl, h0, hs⟩
  | k + 1 => by
    have ih := days_mono (X := X) hC hm hp hpq hR hRU hl h0 hs k
    exact day_mono hC hm hp hpq (getD_in hR k) (hRU k) ih.1 ih.2.1 ih.2.2
/-- levels are from 0 to what a cell holds -/
theorem pass_bd {n : Nat} {C : List Cel} {L : List Int} {s : Int} (hC : ∀ c ∈ C, celOk n c) (hs : 0 ≤ s) (i : Nat) : 0 ≤ lvA (passW C L s) i ∧ lvA (passW C L s) i ≤ 100000 := by
  rw [lvA_pass]
  have h1 := now_nn (L := L) hC hs C.length i
  have h2 := (celA_ok hC i).1
  split <;> omega
theorem pass_len {C : List Cel} {L : List Int} {s : Int} : (passW C L s).length = C.length := by simp [passW]

/-- The least number of a range from which on something holds, by halves. -/
def lowW (P : Int → Bool) : Nat → Int → Int → Int
  | 0, lo, _ => lo
  | f + 1, lo, hi => if lo ≤ hi then (if P ((lo + hi) / 2) then lowW P f lo ((lo + hi) / 2 - 1) else lowW P f ((lo + hi) / 2 + 1) hi) else lo
/-- what holds at t and at all greater ones is found at t at the latest -/
theorem low_le {P : Int → Bool} {t : Int} (hup : ∀ n, t ≤ n → P n = true) : ∀ (f : Nat) (lo hi : Int), lo ≤ t → lowW P f lo hi ≤ t
  | 0, lo, _, h => h
  | f + 1, lo, hi, h => by
    unfold lowW
    split
    · split
      · exact low_le hup f _ _ h
      · rename_i h1 h2
        refine low_le hup f _ _ ?_
        have : ¬ t ≤ (lo + hi) / 2 := fun hh => by rw [hup _ hh] at h2; exact h2 rfl
        omega
    · exact h
/-- what does not hold up to t is found behind it -/
theorem low_gt {P : Int → Bool} {t : Int} (hno : ∀ n, n ≤ t → P n = false) : ∀ (f : Nat) (lo hi : Int), hi - lo < f → t ≤ hi → t < lowW P f lo hi
  | 0, lo, hi, h, ht => by unfold lowW; omega
  | f + 1, lo, hi, h, ht => by
    unfold lowW
    split
    · split
      · rename_i h1 h2
        have : ¬ (lo + hi) / 2 ≤ t := fun hh => by rw [hno _ hh] at h2; cases h2
        exact low_gt hno f _ _ (by omega) (by omega)
      · exact low_gt hno f _ _ (by omega) ht
    · omega
end Go.Proofs.YtjpobkmlcjbpiaaGreat
