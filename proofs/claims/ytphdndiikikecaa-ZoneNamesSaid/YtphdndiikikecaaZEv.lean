/- THE CONTRACT of the law's ready. -/
import Derived.Test.YtphdndiikikecaaZLawRanges
import Derived.Test.YtphdndiikikecaaZLaw
import Derived.Test.YtphdndiikikecaaZPrem
set_option linter.unusedVariables false
set_option linter.unusedSimpArgs false
namespace Go.Proofs.Ytphdndiikikecaa
open Go.RowKit Go.Proofs
attribute [local go_sem ↓] Go.wp_at_zero Go.wp_at_succ

/-- may a statement play a valley? -/
def readyB (v : Vly) : Bool := thinB v && decide (errV v = 0)
theorem readyB_iff {v : Vly} : readyB v = true ↔ thinB v = true ∧ VOk v := by
  unfold readyB
  rw [Bool.and_eq_true, decide_eq_true_iff, errV_zero]
theorem SW.bel {w2 : World} {g : Nat} {cs : Array Value} {W : World} (h : SW w2 g cs W) : Below w2.heap.size w2 W := h.1
theorem SW.refl {W : World} {g : Nat} {cs : Array Value} (h : Blk W g 26 cs) : SW W g cs W := ⟨Below.refl _ _, h⟩
theorem SW.new (w : World) (cs : Array Value) : SW w w.heap.size cs (w.alloc (.cells cs 26)) := ⟨(Below.refl _ w).alloc (Nat.le_refl _) _, Blk.new w _ _⟩

set_option maxRecDepth 100000 in
theorem ready_c {v : Vly} {PA SA : Option Addr} {pn pc sn sc : Nat} {w : World} (h : RdV w PA pn SA sn v) (hpn : pn ≤ maxLen) (hsn : sn ≤ maxLen) :
    Calls Try.prog 31 #[.agg #[.slice PA pn pc, .slice SA sn sc, .int .i64 v.s0, .int .i64 v.s1, .int .i64 v.s2]] w fun e w' => e = .returned (.bool (readyB v)) ∧ Below w.heap.size w w' := by
  have hs0 := SW.new w (vA PA pn pc SA sn sc v)
  have HS0 := Lib.hid hs0
  have HTH := Lib.hid (Thin_c (pc := pc) (sc := sc) (h.below hs0.1) hsn)
  have HV := Lib.hid h
  have hR : readyB v = (thinB v && decide (errV v = 0)) := rfl
  cases hth : thinB v
  · rw [hth] at HTH hR
    have HR := Lib.hid hR
    clear h hs0 hth hR
    go_enter Try.func31, Try.ntmps31
    go_wp2_with fail
    refine HTH.out.mono ?_
    rintro e w1 ⟨rfl, hb⟩
    have HB1 := Lib.hid (HS0.out.below hb).1
    clear hb
    go_wp2_with fail
    go_ret
    exact ⟨by rw [HR.out]; rfl, HB1.out⟩
  · rw [hth] at HTH hR
    have HFT := Lib.hid (fun W (hW : Below w.heap.size w W) => fault_c (pc := pc) (sc := sc) (h.below hW) hpn hsn)
    obtain ⟨E, hE⟩ : ∃ E, E = errV v := ⟨_, rfl⟩
    rw [← hE] at HFT hR
    have HR := Lib.hid (show readyB v = decide (E = 0) by rw [hR]; simp)
    clear h hs0 hth hE hR
    go_enter Try.func31, Try.ntmps31
    go_wp2_with fail
    refine HTH.out.mono ?_
    rintro e w1 ⟨rfl, hb⟩
    have HS1 := Lib.hid (HS0.out.below hb)
    obtain ⟨c0, c1, c2, c3, c4⟩ := HS1.out.cells
    clear hb
    go_wp2_with fail
    refine (HFT.out _ HS1.out.bel).mono ?_
    rintro e w2 ⟨rfl, hb2⟩
    have HB2 := Lib.hid (below_tr HS1.out.bel hb2)
    clear hb2
    go_wp2_with fail
    go_ret
    exact ⟨by rw [HR.out]; first | rfl | simp | (congr 2; exact Bool.eq_iff_iff.2 (by simp)), HB2.out⟩
end Go.Proofs.Ytphdndiikikecaa

namespace Go.Proofs.Ytphdndiikikecaa

theorem hitBy_mono {s : Sli} {m m' : Nat} (h : m ≤ m') (hr : 0 ≤ s.rate) (p : Int) : hitBy s m p ≤ hitBy s m' p := by
  unfold hitBy
  by_cases h1 : p ∈ s.way.take m
  · have h2 : p ∈ s.way.take m' := by
      have : s.way.take m = (s.way.take m').take m := by rw [List.take_take, Nat.min_eq_left h]
      rw [this] at h1
      exact List.mem_of_mem_take h1
    rw [if_pos h1, if_pos h2]; exact Int.le_refl _
  · rw [if_neg h1]
    split <;> omega
theorem dTo_mono {v : Vly} (hok : VOk v) {tr tr' : List Int} (hl : tr.length = tr'.length) (h : ∀ (k : Nat) (m m' : Int), tr[k]? = some m → tr'[k]? = some m' → m ≤ m') (p : Int) : ∀ k, dTo v.sls tr p k ≤ dTo v.sls tr' p k
  | 0 => Int.le_refl _
  | k + 1 => by
    have ih := dTo_mono hok hl h p k
    show dTo v.sls tr p k + dAt v.sls tr p k ≤ dTo v.sls tr' p k + dAt v.sls tr' p k
    have : dAt v.sls tr p k ≤ dAt v.sls tr' p k := by
      cases hs : v.sls[k]? with
      | none => simp [dAt, hs]
      | some s =>
        cases hm : tr[k]? with
        | none =>
          have : tr'[k]? = none := by rw [List.getElem?_eq_none_iff] at hm ⊢; omega
          simp [dAt, hs, hm, this]
        | some m =>
          have hk := lt_of_get hm
          have hm' := List.getElem?_eq_getElem (show k < tr'.length by omega)
          rw [dAt_of hs hm, dAt_of hs hm']
          have := h k _ _ hm hm'
          exact hitBy_mono (by omega) (by have := (hok.slide hs).2.2.1; omega) p
    omega
theorem zoneOf_mono {v : Vly} {d d' : Int} (h : d ≤ d') : zoneOf v d ≤ zoneOf v d' := by
  unfold zoneOf
  have f : ∀ s : Int, (if s ≤ d then (1 : Int) else 0) ≤ (if s ≤ d' then (1 : Int) else 0) := fun s => by split <;> split <;> omega
  have := f v.s0; have := f v.s1; have := f v.s2
  omega
theorem zoneOf_steps {v x : Vly} {d : Int} (h0 : v.s0 ≤ x.s0) (h1 : v.s1 ≤ x.s1) (h2 : v.s2 ≤ x.s2) : zoneOf x d ≤ zoneOf v d := by
  unfold zoneOf
  have f : ∀ s s' : Int, s ≤ s' → (if s' ≤ d then (1 : Int) else 0) ≤ (if s ≤ d then (1 : Int) else 0) := fun s s' h => by split <;> split <;> omega
  have := f _ _ h0; have := f _ _ h1; have := f _ _ h2
  omega
/-- a truth and the ends -/
theorem fits_low {v : Vly} {tr : List Int} (hf : Fits v tr) (k : Nat) (m m' : Int) (h : (endsT v false)[k]? = some m) (h' : tr[k]? = some m') : m ≤ m' := by
  unfold endsT at h
  rw [List.getElem?_map, Option.map_eq_some_iff] at h
  obtain ⟨s, hs, rfl⟩ := h
  exact (hf.2 k s m' hs h').1
theorem fits_high {v : Vly} {tr : List Int} (hf : Fits v tr) (k : Nat) (m m' : Int) (h : tr[k]? = some m) (h' : (endsT v true)[k]? = some m') : m ≤ m' := by
  unfold endsT at h'
  rw [List.getElem?_map, Option.map_eq_some_iff] at h'
  obtain ⟨s, hs, rfl⟩ := h'
  exact (hf.2 k s m hs h).2
theorem dangs_get {v : Vly} {tr : List Int} {i : Nat} (h : i < v.pars.length) : (dangs v tr)[i]? = some (dTo v.sls tr (i : Int) v.sls.length) := by simp [dangs, h]
/-- in each truth the danger is between its ends -/
theorem truth_dang {v : Vly} (hok : VOk v) {tr : List Int} (hf : Fits v tr) (p : Int) (k : Nat) : dTo v.sls (endsT v false) p k ≤ dTo v.sls tr p k ∧ dTo v.sls tr p k ≤ dTo v.sls (endsT v true) p k :=
  ⟨dTo_mono hok (by rw [hf.1]; simp [endsT]) (fits_low hf) p k, dTo_mono hok (by rw [hf.1]; simp [endsT]) (fits_high hf) p k⟩
/-- a slide more -/
theorem dTo_more {sls : List Sli} {s : Sli} {tr : List Int} {m p : Int} (hl : tr.length = sls.length) : ∀ k, k ≤ sls.length → dTo (sls ++ [s]) (tr ++ [m]) p k = dTo sls tr p k
  | 0, _ => rfl
  | k + 1, h => by
    have ih := dTo_more (s := s) (m := m) (p := p) hl k (by omega)
    show dTo (sls ++ [s]) (tr ++ [m]) p k + dAt (sls ++ [s]) (tr ++ [m]) p k = dTo sls tr p k + dAt sls tr p k
    rw [ih]
    have : dAt (sls ++ [s]) (tr ++ [m]) p k = dAt sls tr p k := by
      unfold dAt
      rw [List.getElem?_append_left (by omega), List.getElem?_append_left (by omega)]
    rw [this]
theorem dTo_more_le {sls : List Sli} {s : Sli} {tr : List Int} {m p : Int} (hl : tr.length = sls.length) (hr : 0 ≤ s.rate ∧ s.rate ≤ 1000) : dTo sls tr p sls.length ≤ dTo (sls ++ [s]) (tr ++ [m]) p (sls ++ [s]).length := by
  rw [List.length_append, List.length_singleton]
  show _ ≤ dTo (sls ++ [s]) (tr ++ [m]) p sls.length + dAt (sls ++ [s]) (tr ++ [m]) p sls.length
  rw [dTo_more hl _ (Nat.le_refl _), dAt_of (s := s) (m := m) (by simp) (by rw [← hl]; simp)]
  have := (hitBy_bd (s := s) (m := m.toNat) (p := p) hr).1
  omega
end Go.Proofs.Ytphdndiikikecaa

namespace Go.Proofs.Ytphdndiikikecaa
open Go.RowKit

/-- a piece of evidence: its slide, its range -/
structure Evd where
  k : Int
  lo : Int
  hi : Int
  deriving DecidableEq
def encE (e : Evd) : List Value := [.int .i64 e.k, .int .i64 e.lo, .int .i64 e.hi]
theorem encE_len (e : Evd) : (encE e).length = 3 := rfl
def evOk (sn : Nat) (e : Evd) : Bool := inB e.k 0 ((sn : Int) - 1) && upB e.lo e.hi 12
def stepE (k : Int) (r : Int × Int) (e : Evd) : Int × Int := if e.k = k then (max r.1 e.lo, min r.2 e.hi) else r
def leftL (l : List Evd) (k : Int) (r : Int × Int) : Int × Int := l.foldl (stepE k) r
theorem leftL_nil (k : Int) (r : Int × Int) : leftL [] k r = r := rfl
theorem leftL_snoc (l : List Evd) (e : Evd) (k : Int) (r : Int × Int) : leftL (l ++ [e]) k r = stepE k (leftL l k r) e := by simp [leftL, List.foldl_append]
theorem leftL_append (l m : List Evd) (k : Int) (r : Int × Int) : leftL (l ++ m) k r = leftL m k (leftL l k r) := by simp [leftL, List.foldl_append]
/-- what is left of all slides' reach -/
def leftsL (v : Vly) (l : List Evd) : List (Int × Int) := v.sls.mapIdx fun k s => leftL l (k : Int) (s.lo, s.hi)
theorem leftsL_len (v : Vly) (l : List Evd) : (leftsL v l).length = v.sls.length := by simp [leftsL]
theorem leftsL_get {v : Vly} {l : List Evd} {k : Nat} {s : Sli} (h : v.sls[k]? = some s) : (leftsL v l)[k]? = some (leftL l (k : Int) (s.lo, s.hi)) := by
  simp [leftsL, List.getElem?_mapIdx, h]
theorem leftsL_nil (v : Vly) : leftsL v [] = v.sls.map fun s => (s.lo, s.hi) := by
  refine List.ext_getElem? fun i => ?_
  simp only [leftsL, leftL_nil, List.getElem?_mapIdx, List.getElem?_map]
/-- one piece of evidence more -/
theorem leftsL_snoc {v : Vly} {l : List Evd} {e : Evd} {k : Nat} {r : Int × Int} (hk : e.k = (k : Int)) (hr : (leftsL v l)[k]? = some r) : leftsL v (l ++ [e]) = (leftsL v l).set k (max r.1 e.lo, min r.2 e.hi) := by
  refine List.ext_getElem? fun i => ?_
  rw [List.getElem?_set]
  by_cases hi : i < v.sls.length
  · have hs := List.getElem?_eq_getElem hi
    rw [leftsL_get hs, leftL_snoc]
    by_cases hki : k = i
    · subst hki
      rw [leftsL_get hs] at hr
      cases hr
      rw [if_pos rfl, if_pos (by rw [leftsL_len]; exact hi)]
      simp [stepE, hk]
    · rw [if_neg hki, leftsL_get hs]
      have : e.k ≠ (i : Int) := by omega
      simp [stepE, this]
  · rw [List.getElem?_eq_none (by rw [leftsL_len]; omega)]
    split
    · rw [if_neg (by rw [leftsL_len]; omega)]
    · rw [List.getElem?_eq_none (by rw [leftsL_len]; omega)]
/-- the greatest lower end, the least upper end: the order of the evidence is nothing -/
theorem leftL_bd (l : List Evd) (k : Int) : ∀ (r : Int × Int), r.1 ≤ (leftL l k r).1 ∧ (leftL l k r).2 ≤ r.2 := by
  induction l with
  | nil => intro r; simp [leftL]
  | cons e l ih =>
    intro r
    have h := ih (stepE k r e)
    have h2 : r.1 ≤ (stepE k r e).1 ∧ (stepE k r e).2 ≤ r.2 := by unfold stepE; split <;> (try simp only) <;> omega
    show r.1 ≤ (leftL l k (stepE k r e)).1 ∧ (leftL l k (stepE k r e)).2 ≤ r.2
    omega
theorem stepE_comm (k : Int) (r : Int × Int) (e f : Evd) : stepE k (stepE k r e) f = stepE k (stepE k r f) e := by
  unfold stepE
  split <;> split
  · simp only [Prod.mk.injEq]; omega
  · rfl
  · rfl
  · rfl
theorem leftL_step (l : List Evd) (k : Int) (e : Evd) : ∀ r, leftL l k (stepE k r e) = stepE k (leftL l k r) e := by
  induction l with
  | nil => intro r; rfl
  | cons f l ih =>
    intro r
    show leftL l k (stepE k (stepE k r e) f) = stepE k (leftL l k (stepE k r f)) e
    rw [stepE_comm, ih]
theorem leftL_comm (l m : List Evd) (k : Int) : ∀ r, leftL (l ++ m) k r = leftL (m ++ l) k r := by
  induction l with
  | nil => intro r; simp
  | cons e l ih =>
    intro r
    show leftL (l ++ m) k (stepE k r e) = _
    rw [leftL_step, ih, leftL_append, leftL_append]
    show stepE k (leftL l k (leftL m k r)) e = leftL l k (stepE k (leftL m k r) e)
    rw [leftL_step]
/-- a number that all evidence leaves -/
theorem leftL_in {l : List Evd} {k n : Int} (hl : ∀ e ∈ l, e.k = k → e.lo ≤ n ∧ n ≤ e.hi) : ∀ (r : Int × Int), r.1 ≤ n ∧ n ≤ r.2 → (leftL l k r).1 ≤ n ∧ n ≤ (leftL l k r).2 := by
  induction l with
  | nil => intro r h; exact h
  | cons e l ih =>
    intro r h
    show (leftL l k (stepE k r e)).1 ≤ n ∧ n ≤ (leftL l k (stepE k r e)).2
    refine ih (fun f hf => hl f (List.mem_cons_of_mem _ hf)) _ ?_
    have := hl e (by simp)
    unfold stepE
    split
    · rename_i h1
      have := this h1
      simp only; omega
    · exact h
theorem leftsL_comm (v : Vly) (l m : List Evd) : leftsL v (l ++ m) = leftsL v (m ++ l) := by
  unfold leftsL
  congr 1
  funext k s
  exact leftL_comm l m _ _

/-- are all ranges of some list there? -/
def upR (r : Int × Int) : Bool := decide (r.1 ≤ r.2)
/-- the error of evidence of a valid valley -/
def hearE (v : Vly) (l : List Evd) : Int := if 20 < l.length then 3 else if allB (evOk v.sls.length) l = false then 2 else if allB upR (leftsL v l) = false then 9 else 0
theorem hearE_long {v : Vly} {l : List Evd} (h : 20 < l.length) : hearE v l = 3 := by unfold hearE; rw [if_pos h]
theorem hearE_odd {v : Vly} {l : List Evd} (h : ¬ 20 < l.length) (h2 : allB (evOk v.sls.length) l = false) : hearE v l = 2 := by unfold hearE; rw [if_neg h, if_pos h2]
theorem hearE_fail {v : Vly} {l : List Evd} (h : ¬ 20 < l.length) (h2 : allB (evOk v.sls.length) l = true) (h3 : allB upR (leftsL v l) = false) : hearE v l = 9 := by
  unfold hearE; rw [if_neg h, if_neg (by rw [h2]; simp), if_pos h3]
theorem hearE_ok {v : Vly} {l : List Evd} (h : ¬ 20 < l.length) (h2 : allB (evOk v.sls.length) l = true) (h3 : allB upR (leftsL v l) = true) : hearE v l = 0 := by
  unfold hearE; rw [if_neg h, if_neg (by rw [h2]; simp), if_neg (by rw [h3]; simp)]
end Go.Proofs.Ytphdndiikikecaa

namespace Go.Proofs.Ytphdndiikikecaa
open Go.RowKit Go.Proofs
attribute [local go_sem ↓] Go.wp_at_zero Go.wp_at_succ

theorem Rd.at3 {w : World} {A : Option Addr} {n : Nat} {l : List Evd} (h : Rd encE 3 w A n l) {i : Nat} (hi : i < n) :
    ∃ b o x, A = some ⟨b, o, none⟩ ∧ b < w.heap.size ∧ l[i]? = some x ∧ w.cell? ⟨b, o + i * 3, none⟩ = some (.int .i64 x.k) ∧ w.cell? ⟨b, o + i * 3 + 1, none⟩ = some (.int .i64 x.lo) ∧ w.cell? ⟨b, o + i * 3 + 2, none⟩ = some (.int .i64 x.hi) := by
  obtain ⟨b, o, x, e, hb, hx, hc⟩ := h.at_ hi
  exact ⟨b, o, x, e, hb, hx, hc 0 _ rfl, hc 1 _ rfl, hc 2 _ rfl⟩

set_option maxRecDepth 100000 in
theorem Hear1_c {PA SA : Option Addr} {pn pc sn sc : Nat} {v : Vly} {V : Nat} (x : Evd) {w : World} (hV : Blk w V 36 (vA PA pn pc SA sn sc v)) (hsn : sn ≤ 10) :
    Calls Try.prog 78 #[.agg #[.int .i64 x.k, .int .i64 x.lo, .int .i64 x.hi], .pointer (some ⟨V, 0, none⟩)] w fun e w' => e = .returned (.bool (evOk sn x)) ∧ Below w.heap.size w w' := by
  have hlt := hV.lt
  have c1 := hV.cell 1
  simp at c1
  have hwsn : IntKind.i64.wrap ((sn : Int) - 1) = (sn : Int) - 1 := wi (by omega)
  have hR : evOk sn x = (inB x.k 0 ((sn : Int) - 1) && upB x.lo x.hi 12) := rfl
  have HIN := Lib.hid (fun W => within_c x.k 0 ((sn : Int) - 1) W)
  clear hV
  cases hin : inB x.k 0 ((sn : Int) - 1)
  · simp only [hin] at HIN
    rw [hin] at hR
    have HR := Lib.hid hR
    clear hR hin
    go_enter Try.func78, Try.ntmps78
    go_wp2_with (go_at_call 69; refine (HIN.out _).mono ?_; rintro e w5 ⟨rfl, rfl⟩)
    go_ret
    exact ⟨by rw [HR.out]; rfl, (Below.refl _ _).alloc (Nat.le_refl _) _⟩
  · simp only [hin] at HIN
    rw [hin, Bool.true_and] at hR
    have HR := Lib.hid hR
    clear hR hin
    go_enter Try.func78, Try.ntmps78
    go_wp2_with (first
      | (go_at_call 69; refine (HIN.out _).mono ?_; rintro e w5 ⟨rfl, rfl⟩)
      | (go_at_call 79; refine (up_c _ _ _ _).mono ?_; rintro e w6 ⟨rfl, hb6⟩))
    go_ret
    exact ⟨by rw [HR.out]; rfl, ((Below.refl _ _).alloc (Nat.le_refl _) _).trans (hb6.mono (by simp))⟩
end Go.Proofs.Ytphdndiikikecaa
