/- PLAIN LAWS of the division of coins: together all of them, each within a coin of its part, more for more. -/
import Derived.Test.YtphdndiikikecaaZRShareLaw
set_option linter.unusedVariables false
set_option linter.unusedSimpArgs false
namespace Go.Proofs.Ytphdndiikikecaa

theorem sum_set {l : List Int} {i : Nat} {x y : Int} (h : l[i]? = some x) : (l.set i y).sum = l.sum - x + y := by
  induction l generalizing i with
  | nil => simp at h
  | cons a l ih =>
    cases i with
    | zero => simp at h; subst h; simp; omega
    | succ i => simp at h; simp [ih h]; omega
theorem sum_outs {c : Int} {ws : List Int} : ∀ t, t ≤ ws.length → sumL (outsAt c ws t) = sumL (quos c ws) + t
  | 0, _ => by rw [outsAt_zero]; simp
  | t + 1, h => by
    obtain ⟨b, hb, hr⟩ := rank_has (rs := rems c ws) (t := t) (by rw [rems_len]; omega)
    rw [rems_len] at hb
    obtain ⟨h1, h2, _⟩ := outsAt_best (c := c) (ws := ws) hb hr
    rw [h2]
    have h3 := sum_set (y := gAt (quos c ws) b + 1) h1
    have ih := sum_outs (c := c) (ws := ws) t (by omega)
    unfold sumL at *
    rw [h3, ih]; push_cast; omega
theorem sum_share {c : Int} {ws : List Int} (hW : 0 < sumL ws) : sumL (shareL c ws) = c := by
  have h := left_bd (c := c) hW
  unfold shareL
  rw [sum_outs _ (by omega)]
  omega

theorem sum_pos_le {W : Int} (hW : 0 < W) : ∀ l : List Int, (∀ r ∈ l, 0 ≤ r ∧ r < W) → l.sum ≤ (l.countP fun r => decide (0 < r)) * (W - 1)
  | [], _ => by simp
  | r :: l, h => by
    have ih := sum_pos_le hW l (fun x hx => h x (List.mem_cons_of_mem _ hx))
    have hr := h r (by simp)
    rw [List.sum_cons, List.countP_cons]
    by_cases hp : 0 < r
    · simp only [hp, decide_true, if_true]
      push_cast
      rw [Int.add_mul, Int.one_mul]
      omega
    · simp only [hp, decide_false, Bool.false_eq_true, if_false]
      simp only [Nat.add_zero]
      omega
theorem partsL_snd {rs : List Int} : ∀ k, k ≤ rs.length → (partsL rs k).map (·.2) = rs.take k
  | 0, _ => by simp [partsL]
  | k + 1, h => by
    have hr := List.getElem?_eq_getElem (show k < rs.length by omega)
    rw [partsL_succ hr, List.map_append, partsL_snd k (by omega), List.take_add_one, hr]; rfl
/-- one with nothing left over comes behind all that have something -/
theorem rank_zero {rs : List Int} {i : Nat} (hi : rs[i]? = some 0) : rs.countP (fun r => decide (0 < r)) ≤ rankOf rs i := by
  unfold rankOf
  rw [hi]
  have h := partsL_snd (rs := rs) rs.length (Nat.le_refl _)
  rw [List.take_length] at h
  have h2 : rs.countP (fun r => decide (0 < r)) = (partsL rs rs.length).countP (fun q => decide (0 < q.2)) := by
    conv => lhs; rw [← h, List.countP_map]
    rfl
  rw [h2]
  refine List.countP_mono_left fun q _ hq => ?_
  simp only [decide_eq_true_eq] at hq
  exact plt_iff.2 (.inl hq)
theorem rems_bd {c : Int} {ws : List Int} (hW : 0 < sumL ws) : ∀ r ∈ rems c ws, 0 ≤ r ∧ r < sumL ws := fun x hx => by
  obtain ⟨w, _, rfl⟩ := List.mem_map.1 hx
  exact ⟨Int.emod_nonneg (c * w) (by omega), Int.emod_lt_of_pos (c * w) hW⟩
/-- who gets a coin more has something left over -/
theorem bump_pos {c : Int} {ws : List Int} (hW : 0 < sumL ws) {i : Nat} {r : Int} (hr : (rems c ws)[i]? = some r) (h : rankOf (rems c ws) i < (c - sumL (quos c ws)).toNat) : 0 < r := by
  have h0 := (rems_bd (c := c) hW r (List.mem_of_getElem? hr)).1
  refine Classical.byContradiction fun hn => ?_
  obtain rfl : r = 0 := by omega
  have h1 := rank_zero hr
  have h2 := sum_pos_le hW (rems c ws) (rems_bd hW)
  have h3 := split_sum c (sumL ws) ws
  have e1 : (ws.map fun w => c * w / sumL ws).sum = sumL (quos c ws) := rfl
  have e2 : (ws.map fun w => c * w % sumL ws).sum = (rems c ws).sum := rfl
  rw [e1, e2, show ws.sum = sumL ws from rfl] at h3
  have h4 : (c - sumL (quos c ws)) * sumL ws = (rems c ws).sum := by rw [Int.sub_mul]; omega
  generalize (rems c ws).countP (fun r => decide (0 < r)) = p at h1 h2
  generalize (rems c ws).sum = s at h2 h4
  generalize c - sumL (quos c ws) = T at h h4
  generalize sumL ws = W at hW h2 h4
  have hpT : (p : Int) + 1 ≤ T := by omega
  have h5 : ((p : Int) + 1) * W ≤ T * W := Int.mul_le_mul_of_nonneg_right hpT (by omega)
  rw [Int.add_mul, Int.one_mul] at h5
  rw [Int.mul_sub, Int.mul_one] at h2
  have h6 : 0 ≤ (p : Int) * W := Int.mul_nonneg (by omega) (by omega)
  omega

structure CoinOk (c W w l : Int) : Prop where
  lo : 0 ≤ l
  hi : l ≤ c
  lt : l * W < c * w + W
  gt : c * w - W < l * W
theorem share_get {c : Int} {ws : List Int} {i : Nat} {w : Int} (hw : ws[i]? = some w) :
    (shareL c ws)[i]? = some (c * w / sumL ws + if rankOf (rems c ws) i < (c - sumL (quos c ws)).toNat then 1 else 0) := by
  have hi := lt_of_get hw
  unfold shareL
  rw [outsAt_get hi]
  have : (quos c ws)[i]? = some (c * w / sumL ws) := by simp [quos, hw]
  rw [gAt_of this]
theorem share_ok {c : Int} {ws : List Int} (hc : 0 ≤ c) (hws : ∀ x ∈ ws, 0 ≤ x) (hW : 0 < sumL ws) {i : Nat} {w l : Int} (hw : ws[i]? = some w) (hl : (shareL c ws)[i]? = some l) : CoinOk c (sumL ws) w l := by
  rw [share_get hw] at hl
  have hr : (rems c ws)[i]? = some (c * w % sumL ws) := by simp [rems, hw]
  have hb := bump_pos hW hr
  have hrb := rems_bd (c := c) hW _ (List.mem_of_getElem? hr)
  have hd := Int.ediv_mul_add_emod (c * w) (sumL ws)
  have hw0 := hws w (List.mem_of_getElem? hw)
  have hwW : w ≤ sumL ws := by
    unfold sumL
    have : ∀ (L : List Int) (j : Nat) (y : Int), (∀ x ∈ L, 0 ≤ x) → L[j]? = some y → y ≤ L.sum ∧ 0 ≤ L.sum := by
      intro L
      induction L with
      | nil => intro j y _ h; simp at h
      | cons a L ih =>
        intro j y h0 h
        have ha := h0 a (by simp)
        have hL : 0 ≤ L.sum := by
          clear ih h
          have : ∀ M : List Int, (∀ x ∈ M, 0 ≤ x) → 0 ≤ M.sum := by
            intro M
            induction M with
            | nil => intro _; simp
            | cons b M ihM => intro h; have := ihM (fun x hx => h x (List.mem_cons_of_mem _ hx)); have := h b (by simp); simp; omega
          exact this L (fun x hx => h0 x (List.mem_cons_of_mem _ hx))
        cases j with
        | zero => simp at h; subst h; simp; omega
        | succ j => simp at h; have := ih j y (fun x hx => h0 x (List.mem_cons_of_mem _ hx)) h; simp; omega
    exact (this ws i w hws hw).1
  generalize sumL ws = W at *
  have hcw : 0 ≤ c * w := Int.mul_nonneg hc hw0
  have hq0 : 0 ≤ c * w / W := Int.ediv_nonneg hcw (by omega)
  generalize hR : c * w % W = r at *
  generalize hQ : c * w / W = q at *
  have hcW : c * w ≤ c * W := Int.mul_le_mul_of_nonneg_left hwW hc
  by_cases hk : rankOf (rems c ws) i < (c - sumL (quos c ws)).toNat
  · rw [if_pos hk] at hl
    cases hl
    have hr0 := hb hk
    have e : (q + 1) * W = q * W + W := by rw [Int.add_mul, Int.one_mul]
    refine ⟨by omega, ?_, by omega, by omega⟩
    refine Int.not_lt.1 fun hn => ?_
    have h1 : (c + 1) * W ≤ (q + 1) * W := Int.mul_le_mul_of_nonneg_right (by omega) (by omega)
    rw [Int.add_mul, Int.one_mul] at h1
    omega
  · rw [if_neg hk, Int.add_zero] at hl
    cases hl
    refine ⟨by omega, ?_, by omega, by omega⟩
    refine Int.not_lt.1 fun hn => ?_
    have h1 : (c + 1) * W ≤ l * W := Int.mul_le_mul_of_nonneg_right (by omega) (by omega)
    rw [Int.add_mul, Int.one_mul] at h1
    omega
/-- a greater weight does not pay less -/
theorem share_mono {c : Int} {ws : List Int} (hc : 0 ≤ c) (hW : 0 < sumL ws) {i k : Nat} {w w' l l' : Int} (hw : ws[i]? = some w) (hl : (shareL c ws)[i]? = some l) (hw' : ws[k]? = some w') (hl' : (shareL c ws)[k]? = some l') (h : w' < w) : l' ≤ l := by
  rw [share_get hw] at hl
  rw [share_get hw'] at hl'
  have hr : (rems c ws)[i]? = some (c * w % sumL ws) := by simp [rems, hw]
  have hr' : (rems c ws)[k]? = some (c * w' % sumL ws) := by simp [rems, hw']
  have hb' := bump_pos hW hr'
  have hd := Int.ediv_mul_add_emod (c * w) (sumL ws)
  have hd' := Int.ediv_mul_add_emod (c * w') (sumL ws)
  have hrb := rems_bd (c := c) hW _ (List.mem_of_getElem? hr)
  have hrb' := rems_bd (c := c) hW _ (List.mem_of_getElem? hr')
  have hi := lt_of_get hr
  have hk := lt_of_get hr'
  have hord : rankOf (rems c ws) k < rankOf (rems c ws) i → c * w % sumL ws ≤ c * w' % sumL ws := fun hlt => by
    have := rank_lt hr' hr hlt; omega
  have hinj : rankOf (rems c ws) i = rankOf (rems c ws) k → i = k := rank_inj hi hk
  have hik : i ≠ k := by rintro rfl; rw [hw] at hw'; cases hw'; omega
  have hle : c * w' ≤ c * w := Int.mul_le_mul_of_nonneg_left (by omega) hc
  have hqle : c * w' / sumL ws ≤ c * w / sumL ws := Int.ediv_le_ediv hW hle
  have hlt0 : 0 < c → c * w' < c * w := fun h0 => Int.mul_lt_mul_of_pos_left h h0
  have hz0 : c = 0 → c * w' = 0 := fun e => by rw [e, Int.zero_mul]
  generalize (c - sumL (quos c ws)).toNat = T at *
  generalize sumL ws = W at *
  generalize rankOf (rems c ws) i = a at *
  generalize rankOf (rems c ws) k = b at *
  generalize hA : c * w = X at *
  generalize hB : c * w' = Y at *
  have hz1 : c = 0 → Y % W = 0 := fun e => by rw [hz0 e]; simp
  generalize X % W = r at *
  generalize Y % W = r' at *
  generalize X / W = q at *
  generalize Y / W = q' at *
  by_cases hq : q' < q
  · simp only [Option.some.injEq] at hl hl'
    split at hl' <;> split at hl <;> omega
  · obtain rfl : q' = q := by omega
    simp only [Option.some.injEq] at hl hl'
    by_cases hbT : b < T
    · have hb0 := hb' hbT
      have hc0 : 0 < c := by
        refine Int.not_le.1 fun hn => ?_
        have := hz1 (by omega); omega
      have := hlt0 hc0
      have : ¬ b < a := fun hba => by have := hord hba; omega
      have : a ≠ b := fun e => hik (hinj e)
      rw [if_pos hbT] at hl'
      rw [if_pos (by omega)] at hl
      omega
    · rw [if_neg hbT] at hl'
      split at hl <;> omega
end Go.Proofs.Ytphdndiikikecaa

namespace Go.Proofs.Ytphdndiikikecaa

/-- what is due to a parcel, when the parcels of a list have been hit -/
def dueAt (pars : List Par) (W : List Int) (i : Nat) : Int := match pars[i]? with
  | some p => if p.ins = true ∧ (i : Int) ∈ W then p.worth else 0
  | none => 0
def dueL (pars : List Par) (W : List Int) : List Int := (List.range pars.length).map (dueAt pars W)
theorem dueL_len {pars : List Par} {W : List Int} : (dueL pars W).length = pars.length := by simp [dueL]
theorem dueAt_of {pars : List Par} {W : List Int} {i : Nat} {p : Par} (hp : pars[i]? = some p) : dueAt pars W i = if p.ins = true ∧ (i : Int) ∈ W then p.worth else 0 := by simp [dueAt, hp]
theorem dueL_get {pars : List Par} {W : List Int} {i : Nat} {p : Par} (hp : pars[i]? = some p) : (dueL pars W)[i]? = some (if p.ins = true ∧ (i : Int) ∈ W then p.worth else 0) := by
  have := lt_of_get hp
  rw [← dueAt_of hp]
  simp [dueL, this]
theorem dueL_nil {pars : List Par} : dueL pars [] = List.replicate pars.length 0 := by
  refine List.ext_getElem? fun i => ?_
  by_cases hi : i < pars.length
  · rw [dueL_get (List.getElem?_eq_getElem hi), List.getElem?_replicate, if_pos hi]; simp
  · rw [List.getElem?_eq_none (by rw [dueL_len]; omega), List.getElem?_eq_none (by simp; omega)]
theorem dueL_ins {pars : List Par} {W : List Int} {q : Nat} {p : Par} (hp : pars[q]? = some p) (hi : p.ins = true) : dueL pars (W ++ [(q : Int)]) = (dueL pars W).set q p.worth := by
  refine List.ext_getElem? fun i => ?_
  by_cases hl : i < pars.length
  · rw [dueL_get (List.getElem?_eq_getElem hl), List.getElem?_set, dueL_len, dueL_get (List.getElem?_eq_getElem hl)]
    by_cases hq : q = i
    · subst hq
      have : pars[q] = p := by rw [List.getElem?_eq_getElem hl] at hp; exact Option.some.inj hp
      rw [if_pos rfl, if_pos hl, this, if_pos ⟨hi, by simp⟩]
    · rw [if_neg hq]
      have h1 : ((i : Int) ∈ W ++ [(q : Int)]) ↔ (i : Int) ∈ W := by
        rw [List.mem_append, List.mem_singleton]
        exact ⟨fun h => h.resolve_right (by omega), .inl⟩
      simp only [h1]
  · rw [List.getElem?_eq_none (by rw [dueL_len]; omega), List.getElem?_eq_none (by rw [List.length_set, dueL_len]; omega)]
theorem dueL_not {pars : List Par} {W : List Int} {q : Nat} {p : Par} (hp : pars[q]? = some p) (hi : p.ins = false) : dueL pars (W ++ [(q : Int)]) = dueL pars W := by
  refine List.ext_getElem? fun i => ?_
  by_cases hl : i < pars.length
  · rw [dueL_get (List.getElem?_eq_getElem hl), dueL_get (List.getElem?_eq_getElem hl)]
    by_cases hq : q = i
    · subst hq
      have : pars[q] = p := by rw [List.getElem?_eq_getElem hl] at hp; exact Option.some.inj hp
      rw [this, hi]; simp
    · have h1 : ((i : Int) ∈ W ++ [(q : Int)]) ↔ (i : Int) ∈ W := by
        rw [List.mem_append, List.mem_singleton]
        exact ⟨fun h => h.resolve_right (by omega), .inl⟩
      simp only [h1]
  · rw [List.getElem?_eq_none (by rw [dueL_len]; omega), List.getElem?_eq_none (by rw [dueL_len]; omega)]
theorem dueL_take {pars : List Par} {W : List Int} {k : Nat} {p : Par} (hp : pars[k]? = some p) : (dueL pars W).take (k + 1) = (dueL pars W).take k ++ [if p.ins = true ∧ (k : Int) ∈ W then p.worth else 0] := by
  rw [List.take_add_one, dueL_get hp]; rfl
theorem dueL_bd {v : Vly} (hok : VOk v) {W : List Int} : ∀ x ∈ dueL v.pars W, 0 ≤ x ∧ x ≤ 100000 := by
  intro x hx
  obtain ⟨i, hi⟩ := List.getElem?_of_mem hx
  have hl := lt_of_get hi
  rw [dueL_len] at hl
  have hp := List.getElem?_eq_getElem hl
  rw [dueL_get hp] at hi
  have := (hok.parcel hp).1
  cases hi
  split <;> omega

/-- what is paid of what is due -/
def paidL (c : Int) (ws : List Int) : List Int := if sumL ws ≤ c then ws else shareL c ws
theorem paidL_len {c : Int} {ws : List Int} : (paidL c ws).length = ws.length := by
  unfold paidL
  split
  · rfl
  · unfold shareL; rw [outsAt_len]
theorem paid_sum {c : Int} {ws : List Int} (hc : 0 ≤ c) : sumL (paidL c ws) = min (sumL ws) c := by
  unfold paidL
  split
  · omega
  · rw [sum_share (by omega)]; omega
theorem paid_bd {c : Int} {ws : List Int} (hc : 0 ≤ c) (hws : ∀ x ∈ ws, 0 ≤ x) {i : Nat} {w l : Int} (hw : ws[i]? = some w) (hl : (paidL c ws)[i]? = some l) : 0 ≤ l ∧ l ≤ w := by
  unfold paidL at hl
  have hw0 := hws w (List.mem_of_getElem? hw)
  split at hl
  · rw [hw] at hl; cases hl; omega
  · rename_i h
    have hk := share_ok hc hws (by omega) hw hl
    refine ⟨hk.lo, ?_⟩
    have h1 := hk.lt
    generalize sumL ws = Z at *
    refine Int.not_lt.1 fun hn => ?_
    have h2 : (w + 1) * Z ≤ l * Z := Int.mul_le_mul_of_nonneg_right (by omega) (by omega)
    have h3 : c * w ≤ Z * w := Int.mul_le_mul_of_nonneg_right (by omega) hw0
    rw [Int.add_mul, Int.one_mul, Int.mul_comm w Z] at h2
    omega
end Go.Proofs.Ytphdndiikikecaa
