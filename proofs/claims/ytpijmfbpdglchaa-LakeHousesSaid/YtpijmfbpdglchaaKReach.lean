/- PLAIN LAWS of a lake: the ranges are what may be reached. -/
import Derived.Test.YtpijmfbpdglchaaKLaw
namespace Go.Proofs.Ytpijmfbpdglchaa

/-- a range that has nothing, or has its ends -/
def GoodR (r : Rng) : Prop := r = noneR ∨ (0 ≤ r.1 ∧ r.1 ≤ r.2)
theorem none_good : GoodR noneR := .inl rfl
theorem GoodR.none_iff {r : Rng} (h : GoodR r) : r = noneR ↔ ∀ v, ¬ InR r v := by
  constructor
  · rintro rfl v; exact none_in
  · intro hn
    rcases h with h | h
    · exact h
    · exact absurd (show InR r r.1 from ⟨Int.le_refl _, h.2⟩) (hn _)
theorem GoodR.bd {r : Rng} (h : GoodR r) (hn : r ≠ noneR) : 0 ≤ r.1 ∧ r.1 ≤ r.2 := by
  rcases h with h | h
  · exact absurd h hn
  · exact h
/-- what a step makes of a range: those that hold -/
theorem step_good {bd : Int} {a n : Rng} (ha : GoodR a) (hn : n.1 ≤ n.2) : GoodR (stepR bd a n).1 := by
  unfold stepR
  by_cases h0 : a = noneR
  · rw [if_pos h0]; exact none_good
  · have hb := ha.bd h0
    rw [if_neg h0]
    simp only
    split
    · exact none_good
    · exact .inr (by simp only; omega)
theorem step_in {bd : Int} {a n : Rng} (ha : GoodR a) (hn : n.1 ≤ n.2) {t : Int} : InR (stepR bd a n).1 t ↔ ∃ v m, InR a v ∧ InR n m ∧ t = max 0 (v + m) ∧ t < bd := by
  unfold stepR
  by_cases h0 : a = noneR
  · rw [if_pos h0]
    exact ⟨fun h => absurd h none_in, fun ⟨v, _, hv, _⟩ => absurd (h0 ▸ hv) none_in⟩
  · have hb := ha.bd h0
    have hr := step_reach (a := a) (n := n) hb.2 hn (t := t)
    rw [if_neg h0]
    have e : (∃ v m, InR a v ∧ InR n m ∧ t = max 0 (v + m) ∧ t < bd) ↔ (∃ v m, InR a v ∧ InR n m ∧ t = max 0 (v + m)) ∧ t < bd :=
      ⟨fun ⟨v, m, h1, h2, h3, h4⟩ => ⟨⟨v, m, h1, h2, h3⟩, h4⟩, fun ⟨⟨v, m, h1, h2, h3⟩, h4⟩ => ⟨v, m, h1, h2, h3, h4⟩⟩
    rw [e, hr]
    simp only
    split
    · exact ⟨fun h => absurd h none_in, fun h => by omega⟩
    · simp only [InR]; omega
/-- the greatest one of some numbers above 0, -1 if there are none -/
def Gr (P : Int → Prop) (p : Int) : Prop := (p = -1 ∧ ∀ v, ¬ P v) ∨ (0 < p ∧ P p ∧ ∀ v, P v → v ≤ p)
theorem Gr.nil : Gr (fun _ => False) (-1) := .inl ⟨rfl, fun _ h => h⟩
theorem Gr.both {P Q : Int → Prop} {p q : Int} (hp : Gr P p) (hq : Gr Q q) : Gr (fun v => P v ∨ Q v) (max p q) := by
  rcases hp with ⟨rfl, hp⟩ | ⟨p0, p1, p2⟩
  · rcases hq with ⟨rfl, hq⟩ | ⟨q0, q1, q2⟩
    · exact .inl ⟨by omega, fun v h => h.elim (hp v) (hq v)⟩
    · have e : max (-1) q = q := by omega
      rw [e]
      exact .inr ⟨q0, .inr q1, fun v h => h.elim (fun h => absurd h (hp v)) (q2 v)⟩
  · rcases hq with ⟨rfl, hq⟩ | ⟨q0, q1, q2⟩
    · have e : max p (-1) = p := by omega
      rw [e]
      exact .inr ⟨p0, .inl p1, fun v h => h.elim (p2 v) (fun h => absurd h (hq v))⟩
    · refine .inr ⟨by omega, ?_, fun v h => h.elim (fun h => by have := p2 v h; omega) (fun h => by have := q2 v h; omega)⟩
      rcases Int.le_total p q with h | h
      · rw [show max p q = q by omega]; exact .inr q1
      · rw [show max p q = p by omega]; exact .inl p1
theorem Gr.congr {P Q : Int → Prop} {p : Int} (hp : Gr P p) (h : ∀ v, P v ↔ Q v) : Gr Q p := by
  rcases hp with ⟨e, hp⟩ | ⟨p0, p1, p2⟩
  · exact .inl ⟨e, fun v hv => hp v ((h v).2 hv)⟩
  · exact .inr ⟨p0, (h p).1 p1, fun v hv => p2 v ((h v).2 hv)⟩
theorem Gr.uniq {P : Int → Prop} {p q : Int} (hp : Gr P p) (hq : Gr P q) : p = q := by
  rcases hp with ⟨rfl, hp⟩ | ⟨p0, p1, p2⟩
  · rcases hq with ⟨rfl, hq⟩ | ⟨q0, q1, q2⟩
    · rfl
    · exact absurd q1 (hp q)
  · rcases hq with ⟨rfl, hq⟩ | ⟨q0, q1, q2⟩
    · exact absurd p1 (hq p)
    · have := p2 q q1; have := q2 p p1; omega
/-- the greatest one with which it breaks -/
theorem step_brk {bd : Int} {a n : Rng} (ha : GoodR a) (hn : n.1 ≤ n.2) (hbd : 0 < bd) : Gr (fun t => ∃ v m, InR a v ∧ InR n m ∧ t = max 0 (v + m) ∧ bd ≤ t) (stepR bd a n).2 := by
  unfold stepR
  by_cases h0 : a = noneR
  · rw [if_pos h0]
    exact .inl ⟨rfl, fun t ⟨v, m, hv, _⟩ => absurd (h0 ▸ hv) none_in⟩
  · have hb := ha.bd h0
    rw [if_neg h0]
    simp only
    split
    · rename_i h1
      exact .inr ⟨by omega, ⟨a.2, n.2, ⟨hb.2, Int.le_refl _⟩, ⟨hn, Int.le_refl _⟩, rfl, h1⟩, fun t ⟨v, m, hv, hm, e, _⟩ => by simp only [InR] at hv hm; omega⟩
    · exact .inl ⟨rfl, fun t ⟨v, m, hv, hm, e, h2⟩ => by simp only [InR] at hv hm; omega⟩
/-- two ranges that begin alike, or one of which has nothing -/
def Alike (a b : Rng) : Prop := a = noneR ∨ b = noneR ∨ a.1 = b.1
theorem step_alike {b1 b2 : Int} {a b n : Rng} (h : Alike a b) : Alike (stepR b1 a n).1 (stepR b2 b n).1 := by
  unfold stepR
  by_cases ha : a = noneR
  · exact .inl (by rw [if_pos ha])
  · by_cases hb : b = noneR
    · exact .inr (.inl (by rw [if_pos hb]))
    · have e : a.1 = b.1 := by rcases h with h | h | h <;> first | exact absurd h ha | exact absurd h hb | exact h
      rw [if_neg ha, if_neg hb]
      simp only
      split
      · exact .inl rfl
      · split
        · exact .inr (.inl rfl)
        · exact .inr (.inr (by simp only; rw [e]))
theorem join_in {a b : Rng} (ha : GoodR a) (hb : GoodR b) (h : Alike a b) {v : Int} : InR (joinR a b) v ↔ InR a v ∨ InR b v := by
  unfold joinR
  by_cases h1 : a = noneR
  · rw [if_pos h1]
    exact ⟨.inr, fun h => h.elim (fun h => absurd (h1 ▸ h) none_in) id⟩
  · rw [if_neg h1]
    by_cases h2 : b = noneR
    · rw [if_pos h2]
      exact ⟨.inl, fun h => h.elim id (fun h => absurd (h2 ▸ h) none_in)⟩
    · rw [if_neg h2]
      have e : a.1 = b.1 := by rcases h with h | h | h <;> first | exact absurd h h1 | exact absurd h h2 | exact h
      have := ha.bd h1; have := hb.bd h2
      simp only [InR]; omega
theorem join_good {a b : Rng} (ha : GoodR a) (hb : GoodR b) : GoodR (joinR a b) := by
  unfold joinR
  by_cases h1 : a = noneR
  · rw [if_pos h1]; exact hb
  · rw [if_neg h1]
    by_cases h2 : b = noneR
    · rw [if_pos h2]; exact ha
    · rw [if_neg h2]
      have := ha.bd h1; have := hb.bd h2
      exact .inr (by simp only; omega)
theorem join_none {a b : Rng} (ha : GoodR a) (hb : GoodR b) : joinR a b = noneR ↔ a = noneR ∧ b = noneR := by
  unfold joinR
  by_cases h1 : a = noneR
  · rw [if_pos h1]; simp [h1]
  · rw [if_neg h1]
    by_cases h2 : b = noneR
    · rw [if_pos h2]; simp [h1]
    · rw [if_neg h2]
      have := ha.bd h1; have := hb.bd h2
      simp only [h1, false_and, iff_false]
      intro e
      have e1 := congrArg Prod.fst e
      have e2 := congrArg Prod.snd e
      simp only [noneR] at e1 e2
      omega
theorem join_lo {a b c : Rng} (h1 : Alike a b) (h2 : Alike a c) (_ : GoodR b) (_ : GoodR c) (h3 : Alike b c) : Alike a (joinR b c) := by
  unfold joinR
  by_cases hb0 : b = noneR
  · rw [if_pos hb0]; exact h2
  · rw [if_neg hb0]
    by_cases hc0 : c = noneR
    · rw [if_pos hc0]; exact h1
    · rw [if_neg hc0]
      have e : b.1 = c.1 := by rcases h3 with h | h | h <;> first | exact absurd h hb0 | exact absurd h hc0 | exact h
      rcases h1 with h | h | h
      · exact .inl h
      · exact absurd h hb0
      · exact .inr (.inr (by simp only; omega))

/-- as long as the dam is hard, it does not matter when it is soft -/
theorem Rch_hard {l : Lak} {ns : List Rng} {s s' : Int} : ∀ {h : Nat} {v : Int}, (h : Int) ≤ s → (h : Int) ≤ s' → Rch l ns s h v → Rch l ns s' h v
  | 0, v, _, _, hr => hr
  | h + 1, v', h1, h2, ⟨v, n, r, hr, hn, a, b, c, d⟩ => by
    refine ⟨v, n, r, Rch_hard (by omega) (by omega) hr, hn, a, b, c, ?_⟩
    rw [decide_eq_false (by omega)] at d ⊢
    exact d
/-- the nets of a valid lake rise -/
def NetOk (ns : List Rng) : Prop := ∀ (h : Nat) (r : Rng), ns[h]? = some r → r.1 ≤ r.2
/-- what is known of the volumes before an hour -/
structure NowOk (l : Lak) (ns : List Rng) (h : Nat) : Prop where
  g1 : GoodR (nowAt l ns h).1
  g2 : GoodR (nowAt l ns h).2
  al : Alike (nowAt l ns h).1 (nowAt l ns h).2
  i1 : ∀ v, InR (nowAt l ns h).1 v ↔ ∃ s, l.soft.1 ≤ s ∧ s ≤ l.soft.2 ∧ (h : Int) ≤ s ∧ Rch l ns s h v
  i2 : ∀ v, InR (nowAt l ns h).2 v ↔ ∃ s, l.soft.1 ≤ s ∧ s ≤ l.soft.2 ∧ s < (h : Int) ∧ Rch l ns s h v
theorem ite_good {c : Prop} [Decidable c] {a : Rng × Int} (ha : GoodR a.1) : GoodR (if c then a else (noneR, -1)).1 := by split; exact ha; exact none_good
theorem aft_in {l : Lak} {ns : List Rng} (hok : LOk l) (hn : NetOk ns) {h : Nat} (H : NowOk l ns h) {r : Rng} (hr : ns[h]? = some r) :
    (GoodR (aftOf l (nowAt l ns h).1 (nowAt l ns h).2 h r).hard ∧ GoodR (aftOf l (nowAt l ns h).1 (nowAt l ns h).2 h r).soft ∧ Alike (aftOf l (nowAt l ns h).1 (nowAt l ns h).2 h r).hard (aftOf l (nowAt l ns h).1 (nowAt l ns h).2 h r).soft) ∧
    (∀ v, InR (aftOf l (nowAt l ns h).1 (nowAt l ns h).2 h r).hard v ↔ ∃ s, l.soft.1 ≤ s ∧ s ≤ l.soft.2 ∧ ((h + 1 : Nat) : Int) ≤ s ∧ Rch l ns s (h + 1) v) ∧
    (∀ v, InR (aftOf l (nowAt l ns h).1 (nowAt l ns h).2 h r).soft v ↔ ∃ s, l.soft.1 ≤ s ∧ s ≤ l.soft.2 ∧ s < ((h + 1 : Nat) : Int) ∧ Rch l ns s (h + 1) v) := by
  have hrr := hn h r hr
  have hg : ∀ bd a, GoodR a → GoodR (stepR bd a r).1 := fun _ _ ha => step_good ha hrr
  have gb : GoodR (if inB h l.soft.1 l.soft.2 then stepR (bdK l true) (nowAt l ns h).1 r else (noneR, -1)).1 := ite_good (hg _ _ H.g1)
  have hal1 : ∀ bb b2, Alike (stepR bb (nowAt l ns h).1 r).1 (stepR b2 (nowAt l ns h).2 r).1 := fun _ _ => step_alike H.al
  have hal2 : ∀ bb b2, Alike (stepR bb (nowAt l ns h).1 r).1 (stepR b2 (nowAt l ns h).1 r).1 := fun _ _ => step_alike (.inr (.inr rfl))
  have hbc : Alike (if inB h l.soft.1 l.soft.2 then stepR (bdK l true) (nowAt l ns h).1 r else (noneR, -1)).1 (stepR (bdK l true) (nowAt l ns h).2 r).1 := by
    split
    · exact hal1 _ _
    · exact .inl rfl
  refine ⟨⟨ite_good (hg _ _ H.g1), join_good gb (hg _ _ H.g2), ?_⟩, fun v => ?_, fun v => ?_⟩
  · simp only [aftOf]
    refine join_lo ?_ ?_ gb (hg _ _ H.g2) hbc
    · split
      · split
        · exact hal2 _ _
        · exact .inr (.inl rfl)
      · exact .inl rfl
    · split
      · exact hal1 _ _
      · exact .inl rfl
  · simp only [aftOf]
    have hb0 : ∀ s : Int, ((h + 1 : Nat) : Int) ≤ s → decide (s ≤ (h : Int)) = false := fun s hs => decide_eq_false (by omega)
    by_cases hc : (h : Int) < l.soft.2
    · rw [if_pos hc, step_in H.g1 hrr]
      constructor
      · rintro ⟨u, m, h1, h2, h3, h4⟩
        obtain ⟨s, s1, s2, s3, s4⟩ := (H.i1 u).1 h1
        refine ⟨l.soft.2, hok.soft.2.1, Int.le_refl _, by omega, u, m, r, Rch_hard s3 (by omega) s4, hr, h2.1, h2.2, h3, ?_⟩
        rw [hb0 _ (by omega)]; exact h4
      · rintro ⟨s, s1, s2, s3, u, m, r', k1, k2, k3, k4, k5, k6⟩
        rw [hr] at k2; cases k2
        rw [hb0 _ s3] at k6
        exact ⟨u, m, (H.i1 u).2 ⟨s, s1, s2, by omega, k1⟩, ⟨k3, k4⟩, k5, k6⟩
    · rw [if_neg hc]
      exact ⟨fun h => absurd h none_in, fun ⟨s, s1, s2, s3, _⟩ => by omega⟩
  · simp only [aftOf]
    rw [join_in gb (hg _ _ H.g2) hbc, step_in H.g2 hrr]
    have hb0 : ∀ s : Int, s < ((h + 1 : Nat) : Int) → decide (s ≤ (h : Int)) = true := fun s hs => decide_eq_true (by omega)
    constructor
    · rintro (h1 | ⟨u, m, h1, h2, h3, h4⟩)
      · by_cases hc : inB h l.soft.1 l.soft.2 = true
        · rw [if_pos hc, step_in H.g1 hrr] at h1
          obtain ⟨u, m, h1, h2, h3, h4⟩ := h1
          obtain ⟨s, s1, s2, s3, s4⟩ := (H.i1 u).1 h1
          have hi := inB_iff.1 hc
          refine ⟨h, hi.1, hi.2, by omega, u, m, r, Rch_hard s3 (Int.le_refl _) s4, hr, h2.1, h2.2, h3, ?_⟩
          rw [hb0 _ (by omega)]; exact h4
        · rw [if_neg hc] at h1
          exact absurd h1 none_in
      · obtain ⟨s, s1, s2, s3, s4⟩ := (H.i2 u).1 h1
        refine ⟨s, s1, s2, by omega, u, m, r, s4, hr, h2.1, h2.2, h3, ?_⟩
        rw [hb0 _ (by omega)]; exact h4
    · rintro ⟨s, s1, s2, s3, u, m, r', k1, k2, k3, k4, k5, k6⟩
      rw [hr] at k2; cases k2
      rw [hb0 _ s3] at k6
      rcases Int.lt_or_le s (h : Int) with hs | hs
      · exact .inr ⟨u, m, (H.i2 u).2 ⟨s, s1, s2, hs, k1⟩, ⟨k3, k4⟩, k5, k6⟩
      · obtain rfl : s = (h : Int) := by omega
        have hc : inB h l.soft.1 l.soft.2 = true := inB_iff.2 ⟨s1, s2⟩
        rw [if_pos hc, step_in H.g1 hrr]
        exact .inl ⟨u, m, (H.i1 u).2 ⟨_, s1, s2, Int.le_refl _, k1⟩, ⟨k3, k4⟩, k5, k6⟩
theorem now_ok {l : Lak} {ns : List Rng} (hok : LOk l) (hn : NetOk ns) : ∀ {h : Nat}, h ≤ ns.length → NowOk l ns h
  | 0, _ => by
    refine ⟨.inr ⟨hok.start.1, hok.start.2.1⟩, none_good, .inr (.inl rfl), fun v => ?_, fun v => ?_⟩
    · have := hok.soft
      exact ⟨fun h => ⟨l.soft.2, by omega, by omega, by omega, h⟩, fun ⟨s, _, _, _, h⟩ => h⟩
    · have := hok.soft
      exact ⟨fun h => absurd h none_in, fun ⟨s, h1, _, h2, _⟩ => by omega⟩
  | h + 1, hh => by
    have H := now_ok hok hn (h := h) (by omega)
    have hr := List.getElem?_eq_getElem (show h < ns.length by omega)
    have hx := aft_in hok hn H hr
    have e := nowAt_succ (aftL_get (l := l) hr)
    refine ⟨?_, ?_, ?_, ?_, ?_⟩ <;> rw [e]
    · exact hx.1.1
    · exact hx.1.2.1
    · exact hx.1.2.2
    · exact hx.2.1
    · exact hx.2.2
/-- what may be after an hour, of all dams together -/
theorem all_in {l : Lak} {ns : List Rng} (hok : LOk l) (hn : NetOk ns) {h : Nat} {x : Aft} (hx : (aftL l ns)[h]? = some x) :
    GoodR (joinR x.hard x.soft) ∧ ∀ v, InR (joinR x.hard x.soft) v ↔ ∃ s, l.soft.1 ≤ s ∧ s ≤ l.soft.2 ∧ Rch l ns s (h + 1) v := by
  have hl := lt_of_get hx
  rw [aftL_len] at hl
  have H := now_ok hok hn (h := h + 1) hl
  have e := nowAt_succ hx
  have g1 := H.g1; have g2 := H.g2; have al := H.al; have i1 := H.i1; have i2 := H.i2
  rw [e] at g1 g2 al i1 i2
  refine ⟨join_good g1 g2, fun v => ?_⟩
  rw [join_in g1 g2 al, i1, i2]
  constructor
  · rintro (⟨s, a, b, _, c⟩ | ⟨s, a, b, _, c⟩) <;> exact ⟨s, a, b, c⟩
  · rintro ⟨s, a, b, c⟩
    rcases Int.lt_or_le s ((h + 1 : Nat) : Int) with hs | hs
    · exact .inr ⟨s, a, b, hs, c⟩
    · exact .inl ⟨s, a, b, hs, c⟩
/-- the greatest volume with which the dam may break in an hour -/
theorem brk_in {l : Lak} {ns : List Rng} (hok : LOk l) (hn : NetOk ns) {h : Nat} {x : Aft} (hx : (aftL l ns)[h]? = some x) :
    Gr (fun v => ∃ s, l.soft.1 ≤ s ∧ s ≤ l.soft.2 ∧ Brk l ns s h v) x.brk := by
  have hl := lt_of_get hx
  rw [aftL_len] at hl
  have hr := List.getElem?_eq_getElem hl
  have H := now_ok hok hn (h := h) (by omega)
  obtain ⟨r, hr'⟩ : ∃ r, ns[h]? = some r := ⟨_, hr⟩
  clear hr
  rw [aftL_get hr'] at hx
  cases hx
  have hrr := hn h r hr'
  have hw := hok.weakV
  have P1 : Gr (fun t => (h : Int) < l.soft.2 ∧ ∃ v m, InR (nowAt l ns h).1 v ∧ InR r m ∧ t = max 0 (v + m) ∧ bdK l false ≤ t) (if (h : Int) < l.soft.2 then stepR (bdK l false) (nowAt l ns h).1 r else (noneR, -1)).2 := by
    split
    · rename_i hc
      exact (step_brk H.g1 hrr (by simp only [bdK]; simp; omega)).congr fun v => ⟨fun h => ⟨hc, h⟩, fun h => h.2⟩
    · rename_i hc
      exact .inl ⟨rfl, fun v h => hc h.1⟩
  have P2 : Gr (fun t => (l.soft.1 ≤ (h : Int) ∧ (h : Int) ≤ l.soft.2) ∧ ∃ v m, InR (nowAt l ns h).1 v ∧ InR r m ∧ t = max 0 (v + m) ∧ bdK l true ≤ t) (if inB h l.soft.1 l.soft.2 then stepR (bdK l true) (nowAt l ns h).1 r else (noneR, -1)).2 := by
    split
    · rename_i hc
      exact (step_brk H.g1 hrr (by simp only [bdK]; simp; omega)).congr fun v => ⟨fun h => ⟨inB_iff.1 hc, h⟩, fun h => h.2⟩
    · rename_i hc
      exact .inl ⟨rfl, fun v h => hc (inB_iff.2 h.1)⟩
  have P3 := step_brk (bd := bdK l true) H.g2 hrr (by simp only [bdK]; simp; omega)
  refine (((Gr.nil.both P1).both P2).both P3).congr fun t => ?_
  constructor
  · rintro (((h0 | ⟨hc, v, m, h1, h2, h3, h4⟩) | ⟨hc, v, m, h1, h2, h3, h4⟩) | ⟨v, m, h1, h2, h3, h4⟩)
    · exact h0.elim
    · obtain ⟨s, s1, s2, s3, s4⟩ := (H.i1 v).1 h1
      refine ⟨l.soft.2, hok.soft.2.1, Int.le_refl _, v, m, r, Rch_hard s3 (by omega) s4, hr', h2.1, h2.2, h3, ?_⟩
      rw [decide_eq_false (by omega)]; exact h4
    · obtain ⟨s, s1, s2, s3, s4⟩ := (H.i1 v).1 h1
      refine ⟨h, hc.1, hc.2, v, m, r, Rch_hard s3 (Int.le_refl _) s4, hr', h2.1, h2.2, h3, ?_⟩
      rw [decide_eq_true (Int.le_refl _)]; exact h4
    · obtain ⟨s, s1, s2, s3, s4⟩ := (H.i2 v).1 h1
      refine ⟨s, s1, s2, v, m, r, s4, hr', h2.1, h2.2, h3, ?_⟩
      rw [decide_eq_true (by omega)]; exact h4
  · rintro ⟨s, s1, s2, v, m, r', k1, k2, k3, k4, k5, k6⟩
    rw [hr'] at k2; cases k2
    rcases Int.lt_trichotomy s (h : Int) with hs | hs | hs
    · rw [decide_eq_true (by omega)] at k6
      exact .inr ⟨v, m, (H.i2 v).2 ⟨s, s1, s2, hs, k1⟩, ⟨k3, k4⟩, k5, k6⟩
    · rw [decide_eq_true (by omega)] at k6
      exact .inl (.inr ⟨by omega, v, m, (H.i1 v).2 ⟨s, s1, s2, by omega, k1⟩, ⟨k3, k4⟩, k5, k6⟩)
    · rw [decide_eq_false (by omega)] at k6
      exact .inl (.inl (.inr ⟨by omega, v, m, (H.i1 v).2 ⟨s, s1, s2, by omega, k1⟩, ⟨k3, k4⟩, k5, k6⟩))
end Go.Proofs.Ytpijmfbpdglchaa
