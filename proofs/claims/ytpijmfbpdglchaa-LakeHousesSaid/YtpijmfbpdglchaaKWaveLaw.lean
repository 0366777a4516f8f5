/- PLAIN LAWS of waves down the valley. -/
import Derived.Test.YtpijmfbpdglchaaKFillLaw
namespace Go.Proofs.Ytpijmfbpdglchaa

/-- A house; a river; how a wave may come. -/
structure Hou where
  far : Int
  high : Int
  wide : Int
  deriving DecidableEq
def encH (x : Hou) : List Value := [.int .i64 x.far, .int .i64 x.high, .int .i64 x.wide]
theorem encH_len (x : Hou) : (encH x).length = 3 := rfl
structure Riv where
  loss : Int
  pace : Rng
structure Rea where
  may : Bool
  height : Int
  frm : Int
  deriving DecidableEq
def encQ (x : Rea) : List Value := [.bool x.may, .int .i64 x.height, .int .i64 x.frm]
theorem encQ_len (x : Rea) : (encQ x).length = 3 := rfl
def okH (x : Hou) : Bool := inB x.far 0 200 && (inB x.high 0 10000 && inB x.wide 1 10000)
theorem okH_iff {x : Hou} : okH x = true ↔ (0 ≤ x.far ∧ x.far ≤ 200) ∧ (0 ≤ x.high ∧ x.high ≤ 10000) ∧ (1 ≤ x.wide ∧ x.wide ≤ 10000) := by simp [okH, inB_iff]
def okRi (r : Riv) : Bool := inB r.loss 0 1000000 && upB r.pace 60
theorem okRi_iff {r : Riv} : okRi r = true ↔ (0 ≤ r.loss ∧ r.loss ≤ 1000000) ∧ (0 ≤ r.pace.1 ∧ r.pace.1 ≤ r.pace.2 ∧ r.pace.2 ≤ 60) := by simp [okRi, inB_iff, upB_iff]
def errH (r : Riv) (hs : List Hou) : Int := if 20 < hs.length then 3 else if okRi r && allB okH hs then 0 else 1
structure HOk (r : Riv) (hs : List Hou) : Prop where
  n : hs.length ≤ 20
  r : okRi r = true
  h : ∀ (i : Nat) (x : Hou), hs[i]? = some x → okH x = true
theorem errH_zero {r : Riv} {hs : List Hou} : errH r hs = 0 ↔ HOk r hs := by
  unfold errH
  split
  · exact ⟨fun h => by simp at h, fun h => by have := h.n; omega⟩
  · split
    · rename_i h1 h2
      rw [Bool.and_eq_true] at h2
      exact ⟨fun _ => ⟨by omega, h2.1, allB_iff.1 h2.2⟩, fun _ => rfl⟩
    · rename_i h1 h2
      rw [Bool.and_eq_true] at h2
      exact ⟨fun h => by simp at h, fun h => absurd ⟨h.r, allB_iff.2 h.h⟩ h2⟩
/-- the height of a wave at a house -/
def hgt (r : Riv) (x : Hou) (v : Int) : Int := (max 0 (v - r.loss * x.far) + x.wide - 1) / x.wide
theorem hgt_pos {r : Riv} {x : Hou} {v : Int} (h : 1 ≤ x.wide) : 0 ≤ hgt r x v := Int.ediv_nonneg (by omega) (by omega)
theorem hgt_mono {r : Riv} {x : Hou} {v v' : Int} (h : 1 ≤ x.wide) (hv : v ≤ v') : hgt r x v ≤ hgt r x v' := Int.ediv_le_ediv (by omega) (by omega)
theorem hgt_low {r : Riv} {x : Hou} {v : Int} (h : 1 ≤ x.wide) (hv : v - r.loss * x.far ≤ 0) : hgt r x v = 0 := by
  unfold hgt
  rw [show max 0 (v - r.loss * x.far) = 0 by omega]
  exact Int.ediv_eq_zero_of_lt (by omega) (by omega)
theorem hgt_high {r : Riv} {x : Hou} {v : Int} (hv : 0 < v - r.loss * x.far) : hgt r x v = (v - r.loss * x.far + x.wide - 1) / x.wide := by
  unfold hgt
  rw [show max 0 (v - r.loss * x.far) = v - r.loss * x.far by omega]
theorem hgt_bd {r : Riv} {x : Hou} {v : Int} (h : 1 ≤ x.wide) (hr : 0 ≤ r.loss * x.far) (hv : 0 ≤ v) : hgt r x v ≤ v + x.wide := by
  unfold hgt
  refine Int.le_trans (Int.ediv_le_self _ (by omega)) (by omega)
theorem hgt_farther {r : Riv} {x y : Hou} {v : Int} (hl : 0 ≤ r.loss) (hx : 1 ≤ x.wide) (hf : x.far ≤ y.far) (hw : x.wide ≤ y.wide) : hgt r y v ≤ hgt r x v := by
  have h1 : r.loss * x.far ≤ r.loss * y.far := Int.mul_le_mul_of_nonneg_left hf hl
  have h2 : hgt r y v = (max 0 (v - r.loss * y.far) + y.wide - 1) / y.wide := rfl
  -- the least number whose product with the width is not less than what is left
  have h3 := Int.ediv_mul_le (max 0 (v - r.loss * y.far) + y.wide - 1) (b := y.wide) (by omega)
  have h4 : max 0 (v - r.loss * x.far) + x.wide - 1 < (hgt r x v + 1) * x.wide := by
    unfold hgt
    have := Int.lt_ediv_add_one_mul_self (max 0 (v - r.loss * x.far) + x.wide - 1) (show 0 < x.wide by omega)
    exact this
  rw [← h2] at h3
  rcases Int.lt_or_le (hgt r x v) (hgt r y v) with h | h
  · exfalso
    have p0 := hgt_pos (r := r) (v := v) hx
    have q1 : (hgt r x v + 1) * y.wide ≤ hgt r y v * y.wide := Int.mul_le_mul_of_nonneg_right (by omega) (by omega)
    have q2 : hgt r x v * x.wide ≤ hgt r x v * y.wide := Int.mul_le_mul_of_nonneg_left hw p0
    rw [Int.add_mul] at h4 q1
    omega
  · exact h

/-- how a wave comes in the first k hours -/
def rchTo (r : Riv) (x : Hou) (L : List Aft) : Nat → Rea
  | 0 => ⟨false, 0, 0⟩
  | h + 1 => match L[h]? with
    | some a => if a.brk < 0 then rchTo r x L h else
      if x.high < hgt r x a.brk ∧ (rchTo r x L h).may = false then ⟨true, max (rchTo r x L h).height (hgt r x a.brk), 60 * (h : Int) + x.far * r.pace.1⟩ else ⟨(rchTo r x L h).may, max (rchTo r x L h).height (hgt r x a.brk), (rchTo r x L h).frm⟩
    | none => rchTo r x L h
def rchOf (r : Riv) (x : Hou) (L : List Aft) : Rea := rchTo r x L L.length
/-- what is known of it -/
structure RcP (r : Riv) (x : Hou) (L : List Aft) (k : Nat) (y : Rea) : Prop where
  pos : 0 ≤ y.height
  ge : ∀ (h : Nat) (a : Aft), h < k → L[h]? = some a → 0 ≤ a.brk → hgt r x a.brk ≤ y.height
  at_ : y.height = 0 ∨ ∃ (h : Nat) (a : Aft), h < k ∧ L[h]? = some a ∧ 0 ≤ a.brk ∧ y.height = hgt r x a.brk
  may : y.may = true ↔ x.high < y.height
  from_ : y.may = true → ∃ (h : Nat) (a : Aft), h < k ∧ L[h]? = some a ∧ 0 ≤ a.brk ∧ x.high < hgt r x a.brk ∧ y.frm = 60 * (h : Int) + x.far * r.pace.1 ∧ ∀ (j : Nat) (b : Aft), j < h → L[j]? = some b → 0 ≤ b.brk → hgt r x b.brk ≤ x.high
  none_ : y.may = false → y.frm = 0
theorem rchTo_p {r : Riv} {x : Hou} (L : List Aft) (hh : 0 ≤ x.high) : ∀ k, k ≤ L.length → RcP r x L k (rchTo r x L k)
  | 0, _ => by
    refine ⟨Int.le_refl _, fun h a hk => absurd hk (by omega), .inl rfl, ?_, fun h => ?_, fun _ => rfl⟩
    · simp [rchTo]; omega
    · simp [rchTo] at h
  | k + 1, hk => by
    have ih := rchTo_p (r := r) L hh k (by omega)
    have ha := List.getElem?_eq_getElem (show k < L.length by omega)
    obtain ⟨a, ha'⟩ : ∃ a, L[k]? = some a := ⟨_, ha⟩
    clear ha
    have hs : ∀ {h : Nat} {b : Aft}, h < k + 1 → L[h]? = some b → h < k ∨ (h = k ∧ b = a) := fun {h b} h1 h2 => by
      rcases Nat.lt_or_ge h k with h3 | h3
      · exact .inl h3
      · obtain rfl : h = k := by omega
        rw [ha'] at h2; cases h2
        exact .inr ⟨rfl, rfl⟩
    simp only [rchTo, ha']
    obtain ⟨i1, i2, i3, i4, i5, i6⟩ := ih
    by_cases h1 : a.brk < 0
    · rw [if_pos h1]
      refine ⟨i1, fun h b h2 h3 h4 => ?_, ?_, i4, fun h => ?_, i6⟩
      · rcases hs h2 h3 with h5 | ⟨_, rfl⟩
        · exact i2 h b h5 h3 h4
        · omega
      · rcases i3 with h2 | ⟨h, b, h2, h3⟩
        · exact .inl h2
        · exact .inr ⟨h, b, by omega, h3⟩
      · obtain ⟨h, b, h2, h3⟩ := i5 h
        exact ⟨h, b, by omega, h3⟩
    · rw [if_neg h1]
      have ge : ∀ (h : Nat) (b : Aft), h < k + 1 → L[h]? = some b → 0 ≤ b.brk → hgt r x b.brk ≤ max (rchTo r x L k).height (hgt r x a.brk) := fun h b h2 h3 h4 => by
        rcases hs h2 h3 with h5 | ⟨_, rfl⟩
        · have := i2 h b h5 h3 h4; omega
        · omega
      have at_ : max (rchTo r x L k).height (hgt r x a.brk) = 0 ∨ ∃ (h : Nat) (b : Aft), h < k + 1 ∧ L[h]? = some b ∧ 0 ≤ b.brk ∧ max (rchTo r x L k).height (hgt r x a.brk) = hgt r x b.brk := by
        rcases Int.lt_or_le (rchTo r x L k).height (hgt r x a.brk) with h2 | h2
        · exact .inr ⟨k, a, by omega, ha', by omega, by omega⟩
        · rcases i3 with h3 | ⟨h, b, h3, h4, h5, h6⟩
          · exact .inl (by omega)
          · exact .inr ⟨h, b, by omega, h4, h5, by omega⟩
      by_cases h2 : x.high < hgt r x a.brk ∧ (rchTo r x L k).may = false
      · rw [if_pos h2]
        refine ⟨by simp only; omega, ge, at_, ?_, fun _ => ⟨k, a, by omega, ha', by omega, h2.1, rfl, fun j b hj hb hb0 => ?_⟩, fun h => by simp at h⟩
        · simp only [true_iff]; omega
        · have := i2 j b hj hb hb0
          have := mt i4.2 (by rw [h2.2]; simp)
          omega
      · rw [if_neg h2]
        refine ⟨by simp only; omega, ge, at_, ?_, fun h => ?_, i6⟩
        · simp only
          rw [i4]
          constructor
          · intro h; omega
          · intro h
            rcases Int.lt_or_le x.high (hgt r x a.brk) with h3 | h3
            · cases hm : (rchTo r x L k).may
              · exact absurd ⟨h3, hm⟩ h2
              · exact i4.1 hm
            · omega
        · obtain ⟨h, b, h3, h4⟩ := i5 h
          exact ⟨h, b, by omega, h4⟩
theorem rchOf_p {r : Riv} {x : Hou} (L : List Aft) (hh : 0 ≤ x.high) : RcP r x L L.length (rchOf r x L) := rchTo_p L hh _ (Nat.le_refl _)
theorem RcP.uniq {r : Riv} {x : Hou} {L : List Aft} {k : Nat} {y z : Rea} (h : RcP r x L k y) (h' : RcP r x L k z) : y = z := by
  have e : y.height = z.height := by
    have p := h.pos; have p' := h'.pos
    have a1 : y.height ≤ z.height := by
      rcases h.at_ with h1 | ⟨j, a, h1, h2, h3, h4⟩
      · omega
      · have := h'.ge j a h1 h2 h3; omega
    have a2 : z.height ≤ y.height := by
      rcases h'.at_ with h1 | ⟨j, a, h1, h2, h3, h4⟩
      · omega
      · have := h.ge j a h1 h2 h3; omega
    omega
  have e2 : y.may = z.may := by
    have := h.may; have := h'.may
    cases h1 : y.may <;> cases h2 : z.may <;> simp_all <;> omega
  have e3 : y.frm = z.frm := by
    cases h1 : y.may
    · rw [h.none_ h1, h'.none_ (by rw [← e2]; exact h1)]
    · obtain ⟨i, a, a1, a2, a3, a4, a5, a6⟩ := h.from_ h1
      obtain ⟨j, b, b1, b2, b3, b4, b5, b6⟩ := h'.from_ (by rw [← e2]; exact h1)
      rcases Nat.lt_trichotomy i j with h2 | h2 | h2
      · have := b6 i a h2 a2 a3; omega
      · subst h2; rw [a5, b5]
      · have := a6 j b h2 b2 b3; omega
  cases y; cases z; simp_all
section
variable {l : Lak} {ws : List Wrk} {c : List Int} {x : Rel} {r : Riv} {y : Hou}
/-- the wave of a Real -/
theorem wave_below (hok : LOk l) (hf : Fits l x) (hy : okH y = true) {h : Nat} (hh : h < l.inflow.length) (hn : ∀ j, j < h → brkB l ws c x j = false) (hb : brkB l ws c x h = true) {p : Int} (hp : r.pace.1 ≤ p) :
    hgt r y (vAt ws c x (h + 1)) ≤ (rchOf r y (aftL l (netL l ws c))).height ∧ (y.high < hgt r y (vAt ws c x (h + 1)) → (rchOf r y (aftL l (netL l ws c))).may = true ∧ (rchOf r y (aftL l (netL l ws c))).frm ≤ 60 * (h : Int) + y.far * p) := by
  obtain ⟨a, ha⟩ := aft_at l ws c hh
  have h1 := break_le hok hf hh hn hb ha
  have h2 := okH_iff.1 hy
  have h3 := hgt_mono (r := r) h2.2.2.1 h1.2
  have P := rchOf_p (r := r) (x := y) (aftL l (netL l ws c)) h2.2.1.1
  have h4 := P.ge h a (lt_of_get ha) ha (by omega)
  refine ⟨by omega, fun h5 => ?_⟩
  have hm := P.may.2 (by omega)
  refine ⟨hm, ?_⟩
  obtain ⟨j, b, b1, b2, b3, b4, b5, b6⟩ := P.from_ hm
  rcases Nat.lt_or_ge h j with h6 | h6
  · have := b6 h a h6 ha (by omega); omega
  · have : y.far * r.pace.1 ≤ y.far * p := Int.mul_le_mul_of_nonneg_left hp h2.1.1
    omega
theorem wave_other {L : List Aft} {z : Hou} (hy : okH y = true) (hr : okRi r = true) (h1 : y.far ≤ z.far) (h2 : y.high ≤ z.high) (h3 : y.wide ≤ z.wide) :
    (rchOf r z L).height ≤ (rchOf r y L).height ∧ ((rchOf r z L).may = true → (rchOf r y L).may = true ∧ (rchOf r y L).frm ≤ (rchOf r z L).frm) := by
  have hy' := okH_iff.1 hy
  have hr' := okRi_iff.1 hr
  have P := rchOf_p (r := r) (x := y) L hy'.2.1.1
  have Q := rchOf_p (r := r) (x := z) L (by omega)
  have hg : ∀ v, hgt r z v ≤ hgt r y v := fun v => hgt_farther hr'.1.1 hy'.2.2.1 h1 h3
  refine ⟨?_, fun hm => ?_⟩
  · rcases Q.at_ with h4 | ⟨j, a, h4, h5, h6, h7⟩
    · have := P.pos; omega
    · have := P.ge j a h4 h5 h6; have := hg a.brk; omega
  · obtain ⟨j, b, b1, b2, b3, b4, b5, b6⟩ := Q.from_ hm
    have h4 := P.ge j b b1 b2 b3
    have h5 := hg b.brk
    have hm' := P.may.2 (by omega)
    refine ⟨hm', ?_⟩
    obtain ⟨i, a, a1, a2, a3, a4, a5, a6⟩ := P.from_ hm'
    rcases Nat.lt_or_ge j i with h6 | h6
    · have := a6 j b h6 b2 b3; omega
    · have : y.far * r.pace.1 ≤ z.far * r.pace.1 := Int.mul_le_mul_of_nonneg_right h1 hr'.2.1
      omega
end
end Go.Proofs.Ytpijmfbpdglchaa
