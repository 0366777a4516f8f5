/- PLAIN LAWS of a lake: with more pumped, or less that comes, the dam breaks no earlier; all works together; the first hours alone. -/
import Derived.Test.YtpijmfbpdglchaaKFillLaw
import Derived.Test.YtpijmfbpdglchaaKCheapLaw
namespace Go.Proofs.Ytpijmfbpdglchaa

/-- when the first hour of the break is -1, and when it is some hour -/
theorem brkF_spec {l : Lak} {ns : List Rng} (hok : LOk l) (hn : NetOk ns) :
    (brkF (aftL l ns) = -1 ∧ ∀ (h : Nat) (s v : Int), h < ns.length → l.soft.1 ≤ s → s ≤ l.soft.2 → ¬ Brk l ns s h v) ∨
    ∃ k : Nat, k < ns.length ∧ brkF (aftL l ns) = (k : Int) ∧ (∃ s v, l.soft.1 ≤ s ∧ s ≤ l.soft.2 ∧ Brk l ns s k v) ∧ ∀ (h : Nat) (s v : Int), h < k → l.soft.1 ≤ s → s ≤ l.soft.2 → ¬ Brk l ns s h v := by
  rcases firstL_cases (fun x : Aft => decide (0 ≤ x.brk)) (aftL l ns) with ⟨h1, h2⟩ | ⟨k, x, h1, h2, h3, h4⟩
  · refine .inl ⟨h1, fun h s v hh s1 s2 hb => ?_⟩
    have ha := List.getElem?_eq_getElem (show h < (aftL l ns).length by rw [aftL_len]; exact hh)
    have h3 := h2 h _ ha
    rcases brk_in hok hn ha with ⟨_, h4⟩ | ⟨h4, _, _⟩
    · exact h4 v ⟨s, s1, s2, hb⟩
    · simp at h3; omega
  · have hl := lt_of_get h1
    rw [aftL_len] at hl
    refine .inr ⟨k, hl, h2, ?_, fun h s v hh s1 s2 hb => ?_⟩
    · rcases brk_in hok hn h1 with ⟨h5, _⟩ | ⟨_, ⟨s, s1, s2, s3⟩, _⟩
      · rw [h5] at h3; simp at h3
      · exact ⟨s, x.brk, s1, s2, s3⟩
    · have ha := List.getElem?_eq_getElem (show h < (aftL l ns).length by rw [aftL_len]; omega)
      have h5 := h4 h _ hh ha
      rcases brk_in hok hn ha with ⟨_, h6⟩ | ⟨h6, _, _⟩
      · exact h6 v ⟨s, s1, s2, hb⟩
      · simp at h5; omega
theorem enB_iff {l : Lak} {ws : List Wrk} {c : List Int} : enB l ws c = true ↔ brkF (aftL l (netL l ws c)) < 0 := by
  unfold enB
  rw [List.all_eq_true]
  rcases firstL_cases (fun x : Aft => decide (0 ≤ x.brk)) (aftL l (netL l ws c)) with ⟨h1, h2⟩ | ⟨k, x, h1, h2, h3, h4⟩
  · unfold brkF
    rw [h1]
    refine ⟨fun _ => by omega, fun _ x hx => ?_⟩
    obtain ⟨i, hi⟩ := List.getElem?_of_mem hx
    have := h2 i x hi
    simp at this ⊢; omega
  · unfold brkF
    rw [h2]
    refine ⟨fun h => ?_, fun h => by omega⟩
    have := h x (List.mem_of_getElem? h1)
    simp at this h3; omega
theorem enB_not {l : Lak} {ws : List Wrk} {c : List Int} : enB l ws c = false ↔ 0 ≤ brkF (aftL l (netL l ws c)) := by
  rw [← Bool.not_eq_true, enB_iff]; omega
theorem enB_congr {l : Lak} {ws : List Wrk} {c c' : List Int} (h : netL l ws c = netL l ws c') : enB l ws c = enB l ws c' := by unfold enB; rw [h]
theorem netL_congr {l : Lak} {ws : List Wrk} {c c' : List Int} (h : ∀ k : Nat, k < l.inflow.length → outAt ws c k = outAt ws c' k) : netL l ws c = netL l ws c' := by
  refine List.ext_getElem? fun k => ?_
  rcases Nat.lt_or_ge k l.inflow.length with hk | hk
  · have hr := List.getElem?_eq_getElem hk
    rw [netL_get hr, netL_get hr, h k hk]
  · rw [List.getElem?_eq_none (by rw [netL_len]; exact hk), List.getElem?_eq_none (by rw [netL_len]; exact hk)]

/-- nets that are not greater -/
def NetLe (ns' ns : List Rng) : Prop := ns'.length = ns.length ∧ ∀ (h : Nat) (r r' : Rng), ns[h]? = some r → ns'[h]? = some r' → r'.1 ≤ r.1 ∧ r'.2 ≤ r.2
theorem rch_less {l : Lak} {ns ns' : List Rng} (hn : NetOk ns) (hle : NetLe ns' ns) {s : Int} : ∀ {h : Nat} {v' : Int}, Rch l ns' s h v' → (∃ j v, j < h ∧ Brk l ns s j v) ∨ ∃ v, v' ≤ v ∧ Rch l ns s h v
  | 0, v', hr => .inr ⟨v', Int.le_refl _, hr⟩
  | h + 1, v', ⟨u', n', r', h1, h2, h3, h4, h5, h6⟩ => by
    rcases rch_less hn hle h1 with ⟨j, v, hj, hb⟩ | ⟨u, hu, hr⟩
    · exact .inl ⟨j, v, by omega, hb⟩
    · have hl := lt_of_get h2
      rw [hle.1] at hl
      have hg := List.getElem?_eq_getElem hl
      obtain ⟨r, hg'⟩ : ∃ r, ns[h]? = some r := ⟨_, hg⟩
      clear hg
      have k1 := hle.2 h r r' hg' h2
      have k2 := hn h r hg'
      rcases Int.lt_or_le (max 0 (u + max n' r.1)) (bdK l (decide (s ≤ (h : Int)))) with h7 | h7
      · exact .inr ⟨max 0 (u + max n' r.1), by omega, u, max n' r.1, r, hr, hg', by omega, by omega, rfl, h7⟩
      · exact .inl ⟨h, max 0 (u + max n' r.1), by omega, u, max n' r.1, r, hr, hg', by omega, by omega, rfl, h7⟩
theorem brk_less {l : Lak} {ns ns' : List Rng} (hn : NetOk ns) (hle : NetLe ns' ns) {s : Int} {h : Nat} {v' : Int} (hb : Brk l ns' s h v') : ∃ j v, j ≤ h ∧ Brk l ns s j v := by
  obtain ⟨u', n', r', h1, h2, h3, h4, h5, h6⟩ := hb
  rcases rch_less hn hle h1 with ⟨j, v, hj, hb⟩ | ⟨u, hu, hr⟩
  · exact ⟨j, v, by omega, hb⟩
  · have hl := lt_of_get h2
    rw [hle.1] at hl
    have hg := List.getElem?_eq_getElem hl
    obtain ⟨r, hg'⟩ : ∃ r, ns[h]? = some r := ⟨_, hg⟩
    clear hg
    have k1 := hle.2 h r r' hg' h2
    have k2 := hn h r hg'
    exact ⟨h, max 0 (u + max n' r.1), Nat.le_refl _, u, max n' r.1, r, hr, hg', by omega, by omega, rfl, by omega⟩
/-- with nets that are not greater the dam breaks no earlier -/
theorem brkF_less {l : Lak} {ns ns' : List Rng} (hok : LOk l) (hn : NetOk ns) (hn' : NetOk ns') (hle : NetLe ns' ns) :
    (brkF (aftL l ns) = -1 → brkF (aftL l ns') = -1) ∧ (brkF (aftL l ns') = -1 ∨ brkF (aftL l ns) ≤ brkF (aftL l ns')) := by
  rcases brkF_spec hok hn' with ⟨h1, _⟩ | ⟨k, h1, h2, ⟨s, v, s1, s2, s3⟩, _⟩
  · exact ⟨fun _ => h1, .inl h1⟩
  · obtain ⟨j, u, hj, hb⟩ := brk_less hn hle s3
    have hl := hle.1
    rcases brkF_spec hok hn with ⟨_, h4⟩ | ⟨k', h4, h5, _, h7⟩
    · exact absurd hb (h4 j s u (by omega) s1 s2)
    · refine ⟨fun h => by omega, .inr ?_⟩
      rw [h2, h5]
      rcases Nat.lt_or_ge k k' with h8 | h8
      · exact absurd hb (h7 j s u (by omega) s1 s2)
      · omega
/-- another inflow -/
def withI (l : Lak) (I : List Rng) : Lak := ⟨l.vols, l.crest, l.weak, l.soft, l.start, l.seep, I⟩
theorem nowAt_withI (l : Lak) (I : List Rng) (ns : List Rng) : ∀ h, nowAt (withI l I) ns h = nowAt l ns h
  | 0 => rfl
  | h + 1 => by
    simp only [nowAt, nowAt_withI l I ns h]
    rfl
theorem aftL_withI (l : Lak) (I : List Rng) (ns : List Rng) : aftL (withI l I) ns = aftL l ns := by
  unfold aftL
  congr 1
  funext h n
  rw [nowAt_withI]
  rfl
/-- the lake is as good with an inflow as good -/
theorem withI_ok {l : Lak} (h : LOk l) {I : List Rng} (hI : I.length ≤ 60) (hi : ∀ (i : Nat) (r : Rng), I[i]? = some r → 0 ≤ r.1 ∧ r.1 ≤ r.2 ∧ r.2 ≤ 1000000) : LOk (withI l I) :=
  ⟨h.n, hI, h.v0, h.vm, h.crest, h.weak, h.rise, h.soft, h.start, h.seep, hi⟩

/-- a sum over a list -/
def sumL (f : Int → Int) : List Int → Int
  | [] => 0
  | a :: l => f a + sumL f l
theorem sumL_app (f : Int → Int) : ∀ a b, sumL f (a ++ b) = sumL f a + sumL f b
  | [], b => by simp [sumL]
  | x :: a, b => by simp only [List.cons_append, sumL, sumL_app f a b]; omega
theorem outTo_sum (ws : List Wrk) (c : List Int) (h : Int) : ∀ k, outTo ws c h k = sumL (fun i => flowAt ws i h) (c.take k)
  | 0 => rfl
  | k + 1 => by
    simp only [outTo, outTo_sum ws c h k]
    rw [List.take_add_one, sumL_app]
    cases hc : c[k]? <;> simp [sumL]
theorem outAt_sum (ws : List Wrk) (c : List Int) (h : Int) : outAt ws c h = sumL (fun i => flowAt ws i h) c := by rw [outAt, outTo_sum, List.take_length]
theorem sumL_pos {f : Int → Int} (hf : ∀ i, 0 ≤ f i) : ∀ l, 0 ≤ sumL f l
  | [] => Int.le_refl _
  | a :: l => by have := hf a; have := sumL_pos hf l; simp only [sumL]; omega
theorem sumL_sub {f : Int → Int} (hf : ∀ i, 0 ≤ f i) : ∀ {c c' : List Int}, riseB c = true → riseB c' = true → (∀ x ∈ c, x ∈ c') → sumL f c ≤ sumL f c'
  | [], c', _, _, _ => sumL_pos hf c'
  | b :: t, [], _, _, h => absurd (h b List.mem_cons_self) (by simp)
  | b :: t, a :: t', h1, h2, h => by
    have g1 : ∀ x ∈ t, b < x := fun x hx => by
      obtain ⟨i, hi⟩ := List.getElem?_of_mem hx
      exact riseB_lt h1 (i + 1) 0 b x (by omega) rfl (by simpa using hi)
    have g2 : ∀ x ∈ t', a < x := fun x hx => by
      obtain ⟨i, hi⟩ := List.getElem?_of_mem hx
      exact riseB_lt h2 (i + 1) 0 a x (by omega) rfl (by simpa using hi)
    have r1 : riseB t = true := by
      cases t with
      | nil => rfl
      | cons y t => simp only [riseB, Bool.and_eq_true] at h1; exact h1.2
    have r2 : riseB t' = true := by
      cases t' with
      | nil => rfl
      | cons y t => simp only [riseB, Bool.and_eq_true] at h2; exact h2.2
    rcases List.mem_cons.1 (h b List.mem_cons_self) with rfl | hb
    · have := sumL_sub hf r1 r2 fun x hx => by
        rcases List.mem_cons.1 (h x (List.mem_cons_of_mem _ hx)) with rfl | h3
        · have := g1 x hx; omega
        · exact h3
      simp only [sumL]; omega
    · have hab := g2 b hb
      have := sumL_sub hf (c := b :: t) h1 r2 fun x hx => by
        rcases List.mem_cons.1 (h x hx) with rfl | h3
        · rcases List.mem_cons.1 hx with rfl | hx
          · omega
          · have := g1 x hx; omega
        · exact h3
      have := hf a
      simp only [sumL] at *; omega
theorem outAt_sub {ws : List Wrk} (hw : WOk ws) {c c' : List Int} {n n' : Nat} (h1 : choB n c = true) (h2 : choB n' c' = true) (h : ∀ x ∈ c, x ∈ c') (k : Int) : outAt ws c k ≤ outAt ws c' k := by
  rw [outAt_sum, outAt_sum]
  simp only [choB, Bool.and_eq_true] at h1 h2
  exact sumL_sub (fun i => (flowAt_bd hw i k).1) h1.2 h2.2 h
theorem outTo_le {ws ws' : List Wrk} {c : List Int} {h : Int} (hf : ∀ i, flowAt ws i h ≤ flowAt ws' i h) : ∀ k, outTo ws c h k ≤ outTo ws' c h k
  | 0 => Int.le_refl _
  | k + 1 => by
    have ih := outTo_le (c := c) hf k
    simp only [outTo]
    cases hc : c[k]?
    · simp only; omega
    · rename_i i; simp only; have := hf i; omega
/-- more is pumped, or less comes -/
theorem netL_le {l : Lak} {ws ws' : List Wrk} {c c' : List Int} {I : List Rng} (hI : I.length = l.inflow.length) (hi : ∀ (h : Nat) (r r' : Rng), l.inflow[h]? = some r → I[h]? = some r' → r'.1 ≤ r.1 ∧ r'.2 ≤ r.2) (ho : ∀ h : Nat, outAt ws c h ≤ outAt ws' c' h) :
    NetLe (netL (withI l I) ws' c') (netL l ws c) := by
  refine ⟨by rw [netL_len, netL_len]; exact hI, fun h r r' hr hr' => ?_⟩
  have hl := lt_of_get hr
  rw [netL_len] at hl
  have a1 := List.getElem?_eq_getElem hl
  have a2 := List.getElem?_eq_getElem (show h < (withI l I).inflow.length by show h < I.length; omega)
  rw [netL_get a1] at hr; cases hr
  rw [netL_get a2] at hr'; cases hr'
  have := hi h _ _ a1 a2
  have := ho h
  simp only [withI] at *; omega
theorem withI_self (l : Lak) : withI l l.inflow = l := rfl
theorem more_law {l : Lak} {ws ws' : List Wrk} {c c' : List Int} {I : List Rng} (hok : LOk l) (hok' : LOk (withI l I)) (hI : I.length = l.inflow.length) (hi : ∀ (h : Nat) (r r' : Rng), l.inflow[h]? = some r → I[h]? = some r' → r'.1 ≤ r.1 ∧ r'.2 ≤ r.2) (ho : ∀ h : Nat, outAt ws c h ≤ outAt ws' c' h) :
    (brkF (aftL l (netL l ws c)) = -1 → brkF (aftL (withI l I) (netL (withI l I) ws' c')) = -1) ∧ (brkF (aftL (withI l I) (netL (withI l I) ws' c')) = -1 ∨ brkF (aftL l (netL l ws c)) ≤ brkF (aftL (withI l I) (netL (withI l I) ws' c'))) := by
  have h := brkF_less hok (netOk hok ws c) (netOk hok' ws' c') (netL_le hI hi ho)
  rw [aftL_withI]
  exact h
theorem brkF_lt (l : Lak) (ns : List Rng) : -1 ≤ brkF (aftL l ns) ∧ brkF (aftL l ns) < (ns.length : Int) := by
  have := firstL_lt (fun x : Aft => decide (0 ≤ x.brk)) (aftL l ns)
  rw [aftL_len] at this
  exact this
/-- a choice with more works is enough if it was -/
theorem en_sub {l : Lak} {ws : List Wrk} (hok : LOk l) (hw : WOk ws) {c c' : List Int} (h1 : choB ws.length c = true) (h2 : choB ws.length c' = true) (h : ∀ x ∈ c, x ∈ c') (he : enB l ws c = true) : enB l ws c' = true := by
  have hm := (more_law (I := l.inflow) hok hok rfl (fun h r r' a b => by rw [a] at b; cases b; exact ⟨Int.le_refl _, Int.le_refl _⟩) fun k => outAt_sub hw h1 h2 h k).1
  rw [enB_iff] at he ⊢
  have := brkF_lt l (netL l ws c)
  have h4 := hm (by omega)
  rw [withI_self] at h4
  omega
/-- all works -/
def allW (n : Nat) : List Int := (List.range n).map fun (i : Nat) => (i : Int)
theorem allW_get {n i : Nat} (h : i < n) : (allW n)[i]? = some (i : Int) := by simp [allW, List.getElem?_range h]
theorem allW_len (n : Nat) : (allW n).length = n := by simp [allW]
theorem allW_cho (n : Nat) : choB n (allW n) = true := by
  rw [choB_iff]
  constructor
  · intro i x hx
    have hl := lt_of_get hx
    rw [allW_len] at hl
    rw [allW_get hl] at hx; cases hx; omega
  · intro i a b ha hb
    have hl := lt_of_get hb
    rw [allW_len] at hl
    rw [allW_get hl] at hb; rw [allW_get (by omega)] at ha; cases ha; cases hb; omega
theorem allW_mem {n : Nat} {c : List Int} (h : choB n c = true) : ∀ x ∈ c, x ∈ allW n := fun x hx => by
  obtain ⟨i, hi⟩ := List.getElem?_of_mem hx
  have := (choB_iff.1 h).1 i x hi
  exact List.mem_of_getElem? (i := x.toNat) (by rw [allW_get (by omega)]; simp; omega)
theorem en_all {l : Lak} {ws : List Wrk} (hok : LOk l) (hw : WOk ws) {c : List Int} (h1 : choB ws.length c = true) (he : enB l ws c = true) : enB l ws (allW ws.length) = true := en_sub hok hw h1 (allW_cho _) (allW_mem h1) he

/-- the first hours alone -/
theorem nowAt_take (l : Lak) (ns : List Rng) (n : Nat) : ∀ h, h ≤ n → nowAt l (ns.take n) h = nowAt l ns h
  | 0, _ => rfl
  | h + 1, hh => by
    simp only [nowAt, nowAt_take l ns n h (by omega)]
    rw [List.getElem?_take_of_lt (by omega)]
theorem aftL_take (l : Lak) (ns : List Rng) (n : Nat) : aftL l (ns.take n) = (aftL l ns).take n := by
  refine List.ext_getElem? fun k => ?_
  rcases Nat.lt_or_ge k n with hk | hk
  · rw [List.getElem?_take_of_lt hk]
    simp only [aftL, List.getElem?_mapIdx, List.getElem?_take_of_lt hk, nowAt_take l ns n k (by omega)]
  · rw [List.getElem?_eq_none (by rw [aftL_len, List.length_take]; omega), List.getElem?_eq_none (by rw [List.length_take]; omega)]
theorem netL_take (l : Lak) (ws : List Wrk) (c : List Int) (n : Nat) : netL (withI l (l.inflow.take n)) ws c = (netL l ws c).take n := by
  refine List.ext_getElem? fun k => ?_
  rcases Nat.lt_or_ge k n with hk | hk
  · rw [List.getElem?_take_of_lt hk]
    simp only [netL, withI, List.getElem?_mapIdx, List.getElem?_take_of_lt hk]
  · rw [List.getElem?_eq_none (by rw [netL_len]; simp only [withI, List.length_take]; omega), List.getElem?_eq_none (by rw [List.length_take]; omega)]
theorem rain_aft (l : Lak) (ws : List Wrk) (c : List Int) (n : Nat) : aftL (withI l (l.inflow.take n)) (netL (withI l (l.inflow.take n)) ws c) = (aftL l (netL l ws c)).take n := by
  rw [aftL_withI, netL_take, aftL_take]
theorem firstN_take (p : Nat → Bool) {n m : Nat} (h : n ≤ m) : (firstN p n = -1 ∧ (firstN p m = -1 ∨ (n : Int) ≤ firstN p m)) ∨ (0 ≤ firstN p n ∧ firstN p n = firstN p m) := by
  rcases firstN_cases p n with ⟨h1, h2⟩ | ⟨k, h1, h2, h3, h4⟩
  · refine .inl ⟨h1, ?_⟩
    rcases firstN_cases p m with ⟨h3, _⟩ | ⟨k, h3, h4, h5, _⟩
    · exact .inl h3
    · refine .inr ?_
      rw [h4]
      rcases Nat.lt_or_ge k n with h6 | h6
      · rw [h2 k h6] at h5; cases h5
      · omega
  · refine .inr ⟨by omega, ?_⟩
    rw [h2, firstN_at (n := m) (by omega) h3 h4]
theorem firstL_take {α : Type} (p : α → Bool) (L : List α) {n : Nat} (h : n ≤ L.length) : (firstL p (L.take n) = -1 ∧ (firstL p L = -1 ∨ (n : Int) ≤ firstL p L)) ∨ (0 ≤ firstL p (L.take n) ∧ firstL p (L.take n) = firstL p L) := by
  have e : firstL p (L.take n) = firstN (fun h => match L[h]? with | some x => p x | none => false) n := by
    unfold firstL
    rw [List.length_take, Nat.min_eq_left h]
    refine firstN_congr fun j hj => ?_
    rw [List.getElem?_take_of_lt hj]
    cases L[j]? <;> rfl
  rw [e]
  exact firstN_take _ h
end Go.Proofs.Ytpijmfbpdglchaa
