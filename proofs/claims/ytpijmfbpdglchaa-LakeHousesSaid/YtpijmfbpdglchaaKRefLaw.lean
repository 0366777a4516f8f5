/- PLAIN LAWS of the reference of a lake: rows of volumes against ranges. -/
import Derived.Test.YtpijmfbpdglchaaKWaveLaw
import Derived.Test.YtpijmfbpdglchaaKMoreLaw
namespace Go.Proofs.Ytpijmfbpdglchaa

/-- is a place of a row set? -/
def rowB (r : List Bool) (v : Nat) : Bool := match r[v]? with | some b => b | none => false
/-- the last set place of the first k, or -1; the first one -/
def lastTo (r : List Bool) : Nat → Int
  | 0 => -1
  | k + 1 => if rowB r k then (k : Int) else lastTo r k
theorem lastTo_cases (r : List Bool) : ∀ k, (lastTo r k = -1 ∧ ∀ j, j < k → rowB r j = false) ∨ ∃ j : Nat, j < k ∧ lastTo r k = (j : Int) ∧ rowB r j = true ∧ ∀ i, j < i → i < k → rowB r i = false
  | 0 => .inl ⟨rfl, fun j h => absurd h (by omega)⟩
  | k + 1 => by
    cases hb : rowB r k
    · rcases lastTo_cases r k with ⟨h1, h2⟩ | ⟨j, h1, h2, h3, h4⟩
      · refine .inl ⟨by simp [lastTo, hb, h1], fun j hj => ?_⟩
        rcases Nat.lt_or_ge j k with h | h
        · exact h2 j h
        · obtain rfl : j = k := by omega
          exact hb
      · refine .inr ⟨j, by omega, by simp [lastTo, hb, h2], h3, fun i h5 h6 => ?_⟩
        rcases Nat.lt_or_ge i k with h | h
        · exact h4 i h5 h
        · obtain rfl : i = k := by omega
          exact hb
    · exact .inr ⟨k, by omega, by simp [lastTo, hb], hb, fun i h5 h6 => by omega⟩
/-- the state of a row of volumes that are held, as the reference finds it in the first k ones -/
def stRow (r : List Bool) (k : Nat) : Bool × Int × Int := (decide (0 ≤ lastTo r k), max 0 (firstN (rowB r) k), max 0 (lastTo r k))
theorem stRow_zero (r : List Bool) : stRow r 0 = (false, 0, 0) := rfl
theorem stRow_set {r : List Bool} {k : Nat} (h : rowB r k = true) : stRow r (k + 1) = (true, if (stRow r k).1 then (stRow r k).2.1 else (k : Int), (k : Int)) := by
  have e1 : (0 : Int) ≤ (k : Int) := by omega
  rcases lastTo_cases r k with ⟨h1, h2⟩ | ⟨j, h1, h2, h3, h4⟩
  · have e2 : firstN (rowB r) k = -1 := firstN_none h2
    simp only [stRow, lastTo, h, if_true, firstN, e2, h1]
    refine Prod.ext (by simp) (Prod.ext ?_ (by simp only; omega))
    simp
  · have e2 : 0 ≤ firstN (rowB r) k := by
      rcases firstN_cases (rowB r) k with ⟨_, h5⟩ | ⟨i, _, h6, _, _⟩
      · rw [h5 j h1] at h3; cases h3
      · omega
    simp only [stRow, lastTo, h, if_true, firstN, if_pos e2, h2]
    refine Prod.ext (by simp) (Prod.ext ?_ (by simp only; omega))
    simp
theorem stRow_not {r : List Bool} {k : Nat} (h : rowB r k = false) : stRow r (k + 1) = stRow r k := by
  simp only [stRow, lastTo, h, firstN]
  simp only [Bool.false_eq_true, if_false]
  refine Prod.ext rfl (Prod.ext ?_ rfl)
  simp only
  have := firstN_lt (rowB r) k
  split <;> omega
section
variable {l : Lak} {ns : List Rng} {ws : List Wrk} {c : List Int}
/-- what is held after an hour, with what it breaks -/
def HeldP (l : Lak) (ns : List Rng) (h : Nat) (v : Int) : Prop := ∃ s, l.soft.1 ≤ s ∧ s ≤ l.soft.2 ∧ Rch l ns s (h + 1) v
def BrokP (l : Lak) (ns : List Rng) (h : Nat) (v : Int) : Prop := ∃ s, l.soft.1 ≤ s ∧ s ≤ l.soft.2 ∧ Brk l ns s h v
/-- a row tells of numbers below m -/
def Tells (r : List Bool) (m : Nat) (P : Int → Prop) : Prop := r.length = m ∧ (∀ v : Nat, rowB r v = true ↔ P (v : Int)) ∧ ∀ v, P v → 0 ≤ v ∧ v < (m : Int)
theorem Tells.held {r : List Bool} {m : Nat} {R : Rng} (h : Tells r m (InR R)) (hg : GoodR R) : stRow r m = if R = noneR then (false, 0, 0) else (true, R.1, R.2) := by
  obtain ⟨_, h2, h3⟩ := h
  split
  · rename_i e
    have hn : ∀ j, j < m → rowB r j = false := fun j _ => by
      cases hb : rowB r j
      · rfl
      · exact absurd (e ▸ (h2 j).1 hb) none_in
    have e1 : firstN (rowB r) m = -1 := firstN_none hn
    have e2 : lastTo r m = -1 := by
      rcases lastTo_cases r m with ⟨h1, _⟩ | ⟨j, h4, _, h5, _⟩
      · exact h1
      · rw [hn j h4] at h5; cases h5
    simp only [stRow, e1, e2]
    rfl
  · rename_i e
    have hb := hg.bd e
    have b1 := h3 R.1 ⟨Int.le_refl _, hb.2⟩
    have b2 := h3 R.2 ⟨hb.2, Int.le_refl _⟩
    have s1 : rowB r R.1.toNat = true := (h2 _).2 (by rw [Int.toNat_of_nonneg hb.1]; exact ⟨Int.le_refl _, hb.2⟩)
    have s2 : rowB r R.2.toNat = true := (h2 _).2 (by rw [Int.toNat_of_nonneg (by omega)]; exact ⟨hb.2, Int.le_refl _⟩)
    have e1 : firstN (rowB r) m = R.1 := by
      rw [firstN_at (k := R.1.toNat) (by omega) s1 fun j hj => ?_]
      · omega
      · cases hx : rowB r j
        · rfl
        · have := ((h2 j).1 hx).1; omega
    have e2 : lastTo r m = R.2 := by
      rcases lastTo_cases r m with ⟨_, h4⟩ | ⟨j, h4, h5, h6, h7⟩
      · rw [h4 R.2.toNat (by omega)] at s2; cases s2
      · rw [h5]
        have q := ((h2 j).1 h6).2
        rcases Nat.lt_or_ge j R.2.toNat with h8 | h8
        · rw [h7 _ h8 (by omega)] at s2; cases s2
        · omega
    simp only [stRow, e1, e2]
    refine Prod.ext (by simp; omega) (Prod.ext (by simp only; omega) (by simp only; omega))
theorem Tells.greatest {r : List Bool} {m : Nat} {P : Int → Prop} {p : Int} (h : Tells r m P) (hp : Gr P p) : lastTo r m = p := by
  obtain ⟨_, h2, h3⟩ := h
  rcases hp with ⟨rfl, hp⟩ | ⟨p0, p1, p2⟩
  · rcases lastTo_cases r m with ⟨h1, _⟩ | ⟨j, h4, _, h5, _⟩
    · exact h1
    · exact absurd ((h2 j).1 h5) (hp _)
  · have b := h3 p p1
    have s1 : rowB r p.toNat = true := (h2 _).2 (by rw [Int.toNat_of_nonneg (by omega)]; exact p1)
    rcases lastTo_cases r m with ⟨_, h4⟩ | ⟨j, h4, h5, h6, h7⟩
    · rw [h4 p.toNat (by omega)] at s1; cases s1
    · rw [h5]
      have q := p2 j ((h2 j).1 h6)
      rcases Nat.lt_or_ge j p.toNat with h8 | h8
      · rw [h7 _ h8 (by omega)] at s1; cases s1
      · omega
theorem Tells.congr {r : List Bool} {m : Nat} {P Q : Int → Prop} (h : Tells r m P) (hpq : ∀ v, P v ↔ Q v) : Tells r m Q := ⟨h.1, fun v => (h.2.1 v).trans (hpq v), fun v hv => h.2.2 v ((hpq v).2 hv)⟩
/-- the state of an hour of the reference -/
theorem held_row (hok : LOk l) (hn : NetOk ns) {h : Nat} {x : Aft} (hx : (aftL l ns)[h]? = some x) {r : List Bool} {m : Nat} (ht : Tells r m (HeldP l ns h)) :
    stRow r m = ((sttOf l.vols x).holds, (sttOf l.vols x).lo, (sttOf l.vols x).hi) ∧ (sttOf l.vols x).lev = if (sttOf l.vols x).holds then levOf l.vols (sttOf l.vols x).hi else 0 := by
  have ha := all_in hok hn hx
  rw [(ht.congr (Q := InR (joinR x.hard x.soft)) fun v => (ha.2 v).symm).held ha.1]
  unfold sttOf
  split <;> simp
theorem brok_row (hok : LOk l) (hn : NetOk ns) {h : Nat} {x : Aft} (hx : (aftL l ns)[h]? = some x) {r : List Bool} {m : Nat} (ht : Tells r m (BrokP l ns h)) : lastTo r m = x.brk := ht.greatest (brk_in hok hn hx)
theorem stt_holds (hok : LOk l) (hn : NetOk ns) {h : Nat} {x : Aft} (hx : (aftL l ns)[h]? = some x) : (!(sttOf l.vols x).holds) = (decide (x.hard = noneR) && decide (x.soft = noneR)) := by
  have hg := aft_good hok hn hx
  have := join_none hg.1 hg.2
  unfold sttOf
  split
  · rename_i h; have := this.1 h; simp [this.1, this.2]
  · rename_i h
    have h' := mt this.2 h
    simp only [Bool.not_true]
    cases hb : (decide (x.hard = noneR) && decide (x.soft = noneR))
    · rfl
    · simp at hb; exact absurd hb h'

/-- the most that comes in the first k hours -/
def mostTo (l : Lak) : Nat → Int
  | 0 => l.start.2 + 1
  | k + 1 => mostTo l k + match l.inflow[k]? with | some r => r.2 | none => 0
theorem mostTo_mono (hok : LOk l) : ∀ k, mostTo l k ≤ mostTo l (k + 1) := fun k => by
  simp only [mostTo]
  split
  · rename_i r hr; have := hok.inflow k r hr; omega
  · omega
theorem mostTo_le (hok : LOk l) {i j : Nat} (h : i ≤ j) : mostTo l i ≤ mostTo l j := by
  induction j with
  | zero => obtain rfl : i = 0 := by omega
            exact Int.le_refl _
  | succ j ih =>
    rcases Nat.lt_or_ge i (j + 1) with h1 | h1
    · have := ih (by omega); have := mostTo_mono hok j; omega
    · obtain rfl : i = j + 1 := by omega
      exact Int.le_refl _
theorem mostTo_pos (hok : LOk l) (k : Nat) : 0 < mostTo l k := by
  have := mostTo_le hok (Nat.zero_le k)
  have h0 : mostTo l 0 = l.start.2 + 1 := rfl
  have := hok.start; omega
theorem reach_bd (hok : LOk l) (hw : WOk ws) (hc : choB ws.length c = true) {s : Int} : ∀ {h : Nat} {v : Int}, Rch l (netL l ws c) s h v → 0 ≤ v ∧ v < mostTo l h
  | 0, v, hr => by
    have h0 : mostTo l 0 = l.start.2 + 1 := rfl
    have := hok.start; have h1 := hr.1; have h2 := hr.2; omega
  | h + 1, v', ⟨v, n, r, h1, h2, h3, h4, h5, h6⟩ => by
    have ih := reach_bd hok hw hc h1
    have hl := lt_of_get h2
    rw [netL_len] at hl
    obtain ⟨q, hg⟩ : ∃ q, l.inflow[h]? = some q := ⟨_, List.getElem?_eq_getElem hl⟩
    rw [netL_get hg] at h2; cases h2
    have := outAt_bd hw hc h
    have := hok.seep
    have := hok.inflow h q hg
    have e : mostTo l (h + 1) = mostTo l h + q.2 := by simp only [mostTo, hg]
    simp only at h4
    omega
theorem brk_bd (hok : LOk l) (hw : WOk ws) (hc : choB ws.length c = true) {s : Int} {h : Nat} {v : Int} (hb : Brk l (netL l ws c) s h v) : 0 ≤ v ∧ v < mostTo l (h + 1) := by
  obtain ⟨u, n, r, h1, h2, h3, h4, h5, h6⟩ := hb
  have ih := reach_bd hok hw hc h1
  have hl := lt_of_get h2
  rw [netL_len] at hl
  obtain ⟨q, hg⟩ : ∃ q, l.inflow[h]? = some q := ⟨_, List.getElem?_eq_getElem hl⟩
  rw [netL_get hg] at h2; cases h2
  have := outAt_bd hw hc h
  have := hok.seep
  have := hok.inflow h q hg
  have e : mostTo l (h + 1) = mostTo l h + q.2 := by simp only [mostTo, hg]
  simp only at h4
  omega
end
/-- what is known of a wave of the hours from k on -/
structure RcR (r : Riv) (x : Hou) (L : List Aft) (k : Nat) (y : Rea) : Prop where
  pos : 0 ≤ y.height
  ge : ∀ (h : Nat) (a : Aft), k ≤ h → L[h]? = some a → 0 ≤ a.brk → hgt r x a.brk ≤ y.height
  at_ : y.height = 0 ∨ ∃ (h : Nat) (a : Aft), k ≤ h ∧ L[h]? = some a ∧ 0 ≤ a.brk ∧ y.height = hgt r x a.brk
  may : y.may = true ↔ x.high < y.height
  from_ : y.may = true → ∃ (h : Nat) (a : Aft), k ≤ h ∧ L[h]? = some a ∧ 0 ≤ a.brk ∧ x.high < hgt r x a.brk ∧ y.frm = 60 * (h : Int) + x.far * r.pace.1 ∧ ∀ (j : Nat) (b : Aft), k ≤ j → j < h → L[j]? = some b → 0 ≤ b.brk → hgt r x b.brk ≤ x.high
  none_ : y.may = false → y.frm = 0
theorem RcR.start (r : Riv) (x : Hou) (L : List Aft) (hh : 0 ≤ x.high) : RcR r x L L.length ⟨false, 0, 0⟩ :=
  ⟨Int.le_refl _, fun h a h1 h2 => absurd (lt_of_get h2) (by omega), .inl rfl, by simp; omega, fun h => by simp at h, fun _ => rfl⟩
theorem RcR.skip {r : Riv} {x : Hou} {L : List Aft} {k : Nat} {y : Rea} (H : RcR r x L (k + 1) y) {a : Aft} (ha : L[k]? = some a) (hb : a.brk < 0) : RcR r x L k y := by
  have hs : ∀ {h : Nat} {b : Aft}, k ≤ h → L[h]? = some b → 0 ≤ b.brk → k + 1 ≤ h := fun {h b} h1 h2 h3 => by
    rcases Nat.lt_or_ge k h with h4 | h4
    · exact h4
    · obtain rfl : h = k := by omega
      rw [ha] at h2; cases h2; omega
  refine ⟨H.pos, fun h b h1 h2 h3 => H.ge h b (hs h1 h2 h3) h2 h3, ?_, H.may, fun hm => ?_, H.none_⟩
  · rcases H.at_ with h | ⟨h, b, h1, h2⟩
    · exact .inl h
    · exact .inr ⟨h, b, by omega, h2⟩
  · obtain ⟨h, b, b1, b2, b3, b4, b5, b6⟩ := H.from_ hm
    exact ⟨h, b, by omega, b2, b3, b4, b5, fun j d d1 d2 d3 d4 => b6 j d (hs d1 d3 d4) d2 d3 d4⟩
theorem RcR.step {r : Riv} {x : Hou} {L : List Aft} {k : Nat} {y : Rea} (H : RcR r x L (k + 1) y) {a : Aft} (ha : L[k]? = some a) (hb : 0 ≤ a.brk) :
    RcR r x L k (if x.high < hgt r x a.brk then ⟨true, max y.height (hgt r x a.brk), 60 * (k : Int) + x.far * r.pace.1⟩ else ⟨y.may, max y.height (hgt r x a.brk), y.frm⟩) := by
  have hs : ∀ {h : Nat} {b : Aft}, k ≤ h → L[h]? = some b → k + 1 ≤ h ∨ (h = k ∧ b = a) := fun {h b} h1 h2 => by
    rcases Nat.lt_or_ge k h with h4 | h4
    · exact .inl h4
    · obtain rfl : h = k := by omega
      rw [ha] at h2; cases h2; exact .inr ⟨rfl, rfl⟩
  have ge : ∀ (h : Nat) (b : Aft), k ≤ h → L[h]? = some b → 0 ≤ b.brk → hgt r x b.brk ≤ max y.height (hgt r x a.brk) := fun h b h1 h2 h3 => by
    rcases hs h1 h2 with h4 | ⟨_, rfl⟩
    · have := H.ge h b h4 h2 h3; omega
    · omega
  have at_ : max y.height (hgt r x a.brk) = 0 ∨ ∃ (h : Nat) (b : Aft), k ≤ h ∧ L[h]? = some b ∧ 0 ≤ b.brk ∧ max y.height (hgt r x a.brk) = hgt r x b.brk := by
    rcases Int.lt_or_le y.height (hgt r x a.brk) with h2 | h2
    · exact .inr ⟨k, a, Nat.le_refl _, ha, hb, by omega⟩
    · rcases H.at_ with h3 | ⟨h, b, h3, h4, h5, h6⟩
      · exact .inl (by omega)
      · exact .inr ⟨h, b, by omega, h4, h5, by omega⟩
  have hp := H.pos
  by_cases h2 : x.high < hgt r x a.brk
  · rw [if_pos h2]
    refine ⟨by simp only; omega, ge, at_, by simp only [true_iff]; omega, fun _ => ⟨k, a, Nat.le_refl _, ha, hb, h2, rfl, fun j b h3 h4 => absurd h3 (by omega)⟩, fun h => by simp at h⟩
  · rw [if_neg h2]
    refine ⟨by simp only; omega, ge, at_, ?_, fun hm => ?_, H.none_⟩
    · simp only; rw [H.may]; omega
    · obtain ⟨h, b, b1, b2, b3, b4, b5, b6⟩ := H.from_ hm
      refine ⟨h, b, by omega, b2, b3, b4, b5, fun j d d1 d2 d3 d4 => ?_⟩
      rcases hs d1 d3 with h5 | ⟨_, rfl⟩
      · exact b6 j d h5 d2 d3 d4
      · omega
theorem RcR.all {r : Riv} {x : Hou} {L : List Aft} {y : Rea} (H : RcR r x L 0 y) (hh : 0 ≤ x.high) : y = rchOf r x L := by
  refine RcP.uniq (k := L.length) ⟨H.pos, fun h a _ h2 h3 => H.ge h a (Nat.zero_le _) h2 h3, ?_, H.may, fun hm => ?_, H.none_⟩ (rchOf_p L hh)
  · rcases H.at_ with h | ⟨h, b, h1, h2, h3⟩
    · exact .inl h
    · exact .inr ⟨h, b, lt_of_get h2, h2, h3⟩
  · obtain ⟨h, b, b1, b2, b3, b4, b5, b6⟩ := H.from_ hm
    exact ⟨h, b, lt_of_get b2, b2, b3, b4, b5, fun j d d1 d2 d3 => b6 j d (Nat.zero_le _) d1 d2 d3⟩
/-- the first of the numbers from k to n that is right, or -1, going down -/
def downN (p : Nat → Bool) (n k : Nat) (r : Int) : Prop := (r = -1 ∧ ∀ j, k ≤ j → j < n → p j = false) ∨ ∃ i : Nat, k ≤ i ∧ i < n ∧ r = (i : Int) ∧ p i = true ∧ ∀ j, k ≤ j → j < i → p j = false
theorem downN_start (p : Nat → Bool) (n : Nat) : downN p n n (-1) := .inl ⟨rfl, fun j h1 h2 => absurd h1 (by omega)⟩
theorem downN_step {p : Nat → Bool} {n k : Nat} {r : Int} (h : downN p n (k + 1) r) (hk : k < n) : downN p n k (if p k then (k : Int) else r) := by
  cases hp : p k
  · simp only [Bool.false_eq_true, if_false]
    have hs : ∀ j, k ≤ j → k + 1 ≤ j ∨ j = k := fun j h => by omega
    rcases h with ⟨h1, h2⟩ | ⟨i, h1, h2, h3, h4, h5⟩
    · refine .inl ⟨h1, fun j h3 h4 => ?_⟩
      rcases hs j h3 with h5 | rfl
      · exact h2 j h5 h4
      · exact hp
    · refine .inr ⟨i, by omega, h2, h3, h4, fun j h6 h7 => ?_⟩
      rcases hs j h6 with h8 | rfl
      · exact h5 j h8 h7
      · exact hp
  · simp only [if_true]
    exact .inr ⟨k, Nat.le_refl _, hk, rfl, hp, fun j h1 h2 => absurd h1 (by omega)⟩
theorem downN_all {p : Nat → Bool} {n : Nat} {r : Int} (h : downN p n 0 r) : r = firstN p n := by
  rcases h with ⟨h1, h2⟩ | ⟨i, h1, h2, h3, h4, h5⟩
  · rw [h1, firstN_none fun j hj => h2 j (Nat.zero_le _) hj]
  · rw [h3, firstN_at h2 h4 fun j hj => h5 j (Nat.zero_le _) hj]
end Go.Proofs.Ytpijmfbpdglchaa
