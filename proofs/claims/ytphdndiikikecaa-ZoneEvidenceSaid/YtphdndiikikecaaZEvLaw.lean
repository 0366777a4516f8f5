/- PLAIN LAWS: a valley that is told what is left of each slide's reach. -/
import Derived.Test.YtphdndiikikecaaZMono
import Derived.Test.YtphdndiikikecaaZHearLaw
namespace Go.Proofs.Ytphdndiikikecaa

/-- the slides of which the first n are told -/
def toldK (sls : List Sli) (r : List (Int × Int)) (n : Nat) : List Sli := sls.mapIdx fun k s => if k < n then match r[k]? with | some x => ⟨s.A, s.n, s.c, s.way, s.rate, x.1, x.2⟩ | none => s else s
theorem toldK_len (sls : List Sli) (r : List (Int × Int)) (n : Nat) : (toldK sls r n).length = sls.length := by simp [toldK]
theorem toldK_zero (sls : List Sli) (r : List (Int × Int)) : toldK sls r 0 = sls := by
  refine List.ext_getElem? fun i => ?_
  cases hs : sls[i]? <;> simp [toldK, List.getElem?_mapIdx, hs]
theorem toldK_lt {sls : List Sli} {r : List (Int × Int)} {n k : Nat} {s : Sli} {x : Int × Int} (hk : k < n) (hs : sls[k]? = some s) (hx : r[k]? = some x) : (toldK sls r n)[k]? = some ⟨s.A, s.n, s.c, s.way, s.rate, x.1, x.2⟩ := by
  simp [toldK, List.getElem?_mapIdx, hs, hx, hk]
theorem toldK_ge {sls : List Sli} {r : List (Int × Int)} {n k : Nat} (hk : n ≤ k) : (toldK sls r n)[k]? = sls[k]? := by
  cases hs : sls[k]? <;> simp [toldK, List.getElem?_mapIdx, hs, show ¬ k < n by omega]
theorem toldK_succ {sls : List Sli} {r : List (Int × Int)} {n : Nat} {s : Sli} {x : Int × Int} (hs : sls[n]? = some s) (hx : r[n]? = some x) : (toldK sls r n).set n ⟨s.A, s.n, s.c, s.way, s.rate, x.1, x.2⟩ = toldK sls r (n + 1) := by
  have hn := (List.getElem?_eq_some_iff.1 hs).1
  refine List.ext_getElem? fun i => ?_
  rw [List.getElem?_set]
  by_cases hi : n = i
  · subst hi
    rw [if_pos rfl, if_pos (by rw [toldK_len]; exact hn), toldK_lt (by omega) hs hx]
  · rw [if_neg hi]
    cases hsi : sls[i]? with
    | none => simp [toldK, List.getElem?_mapIdx, hsi]
    | some t =>
      have hb : (i < n) = (i < n + 1) := by simp only [eq_iff_iff]; omega
      simp only [toldK, List.getElem?_mapIdx, hsi, Option.map_some, hb]
/-- the valley that is told -/
def toldV (v : Vly) (r : List (Int × Int)) : Vly := ⟨v.pars, toldK v.sls r v.sls.length, v.s0, v.s1, v.s2⟩
theorem toldV_get {v : Vly} {r : List (Int × Int)} {k : Nat} {s : Sli} {x : Int × Int} (hs : v.sls[k]? = some s) (hx : r[k]? = some x) : (toldV v r).sls[k]? = some ⟨s.A, s.n, s.c, s.way, s.rate, x.1, x.2⟩ :=
  toldK_lt (List.getElem?_eq_some_iff.1 hs).1 hs hx
theorem toldV_len (v : Vly) (r : List (Int × Int)) : (toldV v r).sls.length = v.sls.length := toldK_len _ _ _
theorem toldV_dAt {v : Vly} {r : List (Int × Int)} (hl : r.length = v.sls.length) (tr : List Int) (p : Int) (k : Nat) : dAt (toldV v r).sls tr p k = dAt v.sls tr p k := by
  cases hs : v.sls[k]? with
  | none =>
    have : (toldV v r).sls[k]? = none := by rw [List.getElem?_eq_none_iff] at hs ⊢; rw [toldV_len]; exact hs
    simp [dAt, hs, this]
  | some s =>
    have hk := (List.getElem?_eq_some_iff.1 hs).1
    have hx := List.getElem?_eq_getElem (show k < r.length by omega)
    simp only [dAt, toldV_get hs hx, hs]
    cases tr[k]? <;> simp [hitBy]
theorem toldV_dTo {v : Vly} {r : List (Int × Int)} (hl : r.length = v.sls.length) (tr : List Int) (p : Int) : ∀ k, dTo (toldV v r).sls tr p k = dTo v.sls tr p k
  | 0 => rfl
  | k + 1 => by
    show dTo (toldV v r).sls tr p k + dAt (toldV v r).sls tr p k = dTo v.sls tr p k + dAt v.sls tr p k
    rw [toldV_dTo hl tr p k, toldV_dAt hl]
/-- what is left is a truth's place -/
theorem toldV_ends {v : Vly} {r : List (Int × Int)} (hl : r.length = v.sls.length) (b : Bool) : endsT (toldV v r) b = r.map fun x => if b then x.2 else x.1 := by
  refine List.ext_getElem? fun i => ?_
  unfold endsT
  rw [List.getElem?_map, List.getElem?_map]
  by_cases hi : i < v.sls.length
  · have hs := List.getElem?_eq_getElem hi
    have hx := List.getElem?_eq_getElem (show i < r.length by omega)
    rw [toldV_get hs hx, hx]; rfl
  · rw [List.getElem?_eq_none (by rw [toldV_len]; omega), List.getElem?_eq_none (by omega)]; rfl
/-- ranges of danger get no wider -/
theorem toldV_dangs {v : Vly} (hok : VOk v) {r : List (Int × Int)} (hl : r.length = v.sls.length) (hr : ∀ (k : Nat) (s : Sli) (x : Int × Int), v.sls[k]? = some s → r[k]? = some x → s.lo ≤ x.1 ∧ x.2 ≤ s.hi) (p : Int) :
    dTo v.sls (endsT v false) p v.sls.length ≤ dTo (toldV v r).sls (endsT (toldV v r) false) p (toldV v r).sls.length ∧ dTo (toldV v r).sls (endsT (toldV v r) true) p (toldV v r).sls.length ≤ dTo v.sls (endsT v true) p v.sls.length := by
  rw [toldV_dTo hl, toldV_dTo hl, toldV_len, toldV_ends hl, toldV_ends hl]
  constructor
  · refine dTo_mono hok (by simp [endsT, hl]) (fun k m m' h1 h2 => ?_) p _
    simp only [endsT, List.getElem?_map, Option.map_eq_some_iff] at h1 h2
    obtain ⟨s, hs, rfl⟩ := h1
    obtain ⟨x, hx, rfl⟩ := h2
    exact (hr k s x hs hx).1
  · refine dTo_mono hok (by simp [endsT, hl]) (fun k m m' h1 h2 => ?_) p _
    simp only [endsT, List.getElem?_map, Option.map_eq_some_iff] at h1 h2
    obtain ⟨x, hx, rfl⟩ := h1
    obtain ⟨s, hs, rfl⟩ := h2
    exact (hr k s x hs hx).2
theorem toldV_ok {v : Vly} (hok : VOk v) {r : List (Int × Int)} (hl : r.length = v.sls.length) (hr : ∀ (k : Nat) (s : Sli) (x : Int × Int), v.sls[k]? = some s → r[k]? = some x → s.lo ≤ x.1 ∧ x.2 ≤ s.hi) (hup : allB upR r = true) : VOk (toldV v r) := by
  refine ⟨by rw [toldV_len]; exact hok.sn, hok.pn, hok.par, allB_iff.2 fun k y hy => ?_, hok.steps⟩
  have hk : k < v.sls.length := by
    have := (List.getElem?_eq_some_iff.1 hy).1
    rw [toldV_len] at this; exact this
  have hs := List.getElem?_eq_getElem hk
  have hx := List.getElem?_eq_getElem (show k < r.length by omega)
  rw [toldV_get hs hx] at hy
  cases hy
  have h1 := allB_iff.1 hok.sli k _ hs
  have h2 := hr k _ _ hs hx
  have h3 := allB_iff.1 hup k _ hx
  simp only [upR, decide_eq_true_eq] at h3
  show sliOk v.pars.length _ = true
  simp only [sliOk, Bool.and_eq_true, decide_eq_true_eq, inB_iff, upB_iff, wayOk_iff] at h1 ⊢
  exact ⟨h1.1, h1.2.1, by omega⟩
/-- what is left of each slide's reach, where a truth made the evidence -/
theorem leftsL_truth {v : Vly} {tr : List Int} (hf : Fits v tr) {l : List Evd} (hl : ∀ e ∈ l, ∀ (k : Nat) (m : Int), e.k = (k : Int) → tr[k]? = some m → e.lo ≤ m ∧ m ≤ e.hi) {k : Nat} {m : Int} {x : Int × Int} (hm : tr[k]? = some m) (hx : (leftsL v l)[k]? = some x) : x.1 ≤ m ∧ m ≤ x.2 := by
  have hk : k < v.sls.length := by rw [← hf.1]; exact (List.getElem?_eq_some_iff.1 hm).1
  have hs := List.getElem?_eq_getElem hk
  rw [leftsL_get hs] at hx
  cases hx
  exact leftL_in (n := m) (fun e he h => hl e he k m h hm) _ (hf.2 k _ m hs hm)
theorem leftsL_bd {v : Vly} {l : List Evd} {k : Nat} {s : Sli} {x : Int × Int} (hs : v.sls[k]? = some s) (hx : (leftsL v l)[k]? = some x) : s.lo ≤ x.1 ∧ x.2 ≤ s.hi := by
  rw [leftsL_get hs] at hx
  cases hx
  exact leftL_bd l _ _
end Go.Proofs.Ytphdndiikikecaa
