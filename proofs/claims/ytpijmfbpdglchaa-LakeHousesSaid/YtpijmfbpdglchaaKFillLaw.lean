/- PLAIN LAWS of a lake: the first hour of something, states, volumes of a Real, and what the ranges say of them. -/
import Derived.Test.YtpijmfbpdglchaaKReach
namespace Go.Proofs.Ytpijmfbpdglchaa

/-- the first number below n that is right, -1 if there is none -/
def firstN (p : Nat → Bool) : Nat → Int
  | 0 => -1
  | n + 1 => if 0 ≤ firstN p n then firstN p n else if p n then (n : Int) else -1
theorem firstN_cases (p : Nat → Bool) : ∀ n, (firstN p n = -1 ∧ ∀ j, j < n → p j = false) ∨ ∃ k : Nat, k < n ∧ firstN p n = (k : Int) ∧ p k = true ∧ ∀ j, j < k → p j = false
  | 0 => .inl ⟨rfl, fun j h => absurd h (by omega)⟩
  | n + 1 => by
    rcases firstN_cases p n with ⟨h1, h2⟩ | ⟨k, h1, h2, h3, h4⟩
    · cases hp : p n
      · exact .inl ⟨by simp [firstN, h1, hp], fun j hj => by
          rcases Nat.lt_or_ge j n with h | h
          · exact h2 j h
          · obtain rfl : j = n := by omega
            exact hp⟩
      · exact .inr ⟨n, by omega, by simp [firstN, h1, hp], hp, h2⟩
    · exact .inr ⟨k, by omega, by rw [firstN, if_pos (by omega), h2], h3, h4⟩
theorem firstN_at {p : Nat → Bool} {n k : Nat} (hk : k < n) (hp : p k = true) (h : ∀ j, j < k → p j = false) : firstN p n = (k : Int) := by
  rcases firstN_cases p n with ⟨_, h2⟩ | ⟨k', h1, h2, h3, h4⟩
  · rw [h2 k hk] at hp; cases hp
  · rw [h2]
    rcases Nat.lt_trichotomy k k' with h5 | h5 | h5
    · rw [h4 k h5] at hp; cases hp
    · rw [h5]
    · rw [h k' h5] at h3; cases h3
theorem firstN_none {p : Nat → Bool} {n : Nat} (h : ∀ j, j < n → p j = false) : firstN p n = -1 := by
  rcases firstN_cases p n with ⟨h1, _⟩ | ⟨k', h1, h2, h3, h4⟩
  · exact h1
  · rw [h k' h1] at h3; cases h3
theorem firstN_lt (p : Nat → Bool) (n : Nat) : -1 ≤ firstN p n ∧ firstN p n < (n : Int) := by
  rcases firstN_cases p n with ⟨h1, _⟩ | ⟨k', h1, h2, h3, h4⟩ <;> omega
theorem firstN_congr {p q : Nat → Bool} : ∀ {n : Nat}, (∀ j, j < n → p j = q j) → firstN p n = firstN q n
  | 0, _ => rfl
  | n + 1, h => by
    simp only [firstN]
    rw [firstN_congr (p := p) (q := q) fun j hj => h j (by omega), h n (by omega)]
/-- the first one of a list -/
def firstL {α : Type} (p : α → Bool) (l : List α) : Int := firstN (fun h => match l[h]? with | some x => p x | none => false) l.length
theorem firstL_cases {α : Type} (p : α → Bool) (l : List α) : (firstL p l = -1 ∧ ∀ (j : Nat) (x : α), l[j]? = some x → p x = false) ∨ ∃ (k : Nat) (x : α), l[k]? = some x ∧ firstL p l = (k : Int) ∧ p x = true ∧ ∀ (j : Nat) (y : α), j < k → l[j]? = some y → p y = false := by
  rcases firstN_cases (fun h => match l[h]? with | some x => p x | none => false) l.length with ⟨h1, h2⟩ | ⟨k, h1, h2, h3, h4⟩
  · exact .inl ⟨h1, fun j x hx => by have := h2 j (lt_of_get hx); rw [hx] at this; exact this⟩
  · have hx := List.getElem?_eq_getElem h1
    refine .inr ⟨k, _, hx, h2, by rw [hx] at h3; exact h3, fun j y hj hy => by have := h4 j hj; rw [hy] at this; exact this⟩
theorem firstL_at {α : Type} {p : α → Bool} {l : List α} {k : Nat} {x : α} (hx : l[k]? = some x) (hp : p x = true) (h : ∀ (j : Nat) (y : α), j < k → l[j]? = some y → p y = false) : firstL p l = (k : Int) := by
  refine firstN_at (lt_of_get hx) (by simp only [hx]; exact hp) fun j hj => ?_
  have hy := List.getElem?_eq_getElem (show j < l.length by have := lt_of_get hx; omega)
  simp only [hy]; exact h j _ hj hy
theorem firstL_none {α : Type} {p : α → Bool} {l : List α} (h : ∀ (j : Nat) (y : α), l[j]? = some y → p y = false) : firstL p l = -1 := by
  refine firstN_none fun j hj => ?_
  have hy := List.getElem?_eq_getElem hj
  simp only [hy]; exact h j _ hy

theorem firstL_lt {α : Type} (p : α → Bool) (l : List α) : -1 ≤ firstL p l ∧ firstL p l < (l.length : Int) := firstN_lt _ _
/-- the hours of the break -/
def brkF (L : List Aft) : Int := firstL (fun x => decide (0 ≤ x.brk)) L
def brkE (L : List Aft) : Int := firstL (fun x => decide (x.hard = noneR) && decide (x.soft = noneR)) L
/-- the greatest level whose volume is at most some volume, of the first k -/
def levTo (vs : List Int) (v : Int) : Nat → Int
  | 0 => 0
  | k + 1 => match vs[k]? with | some x => if x ≤ v then (k : Int) else levTo vs v k | none => levTo vs v k
def levOf (vs : List Int) (v : Int) : Int := levTo vs v vs.length
/-- a state: does the dam hold, least and greatest volume, level -/
structure Stt where
  holds : Bool
  lo : Int
  hi : Int
  lev : Int
  deriving DecidableEq
def encT (x : Stt) : List Value := [.bool x.holds, .int .i64 x.lo, .int .i64 x.hi, .int .i64 x.lev]
theorem encT_len (x : Stt) : (encT x).length = 4 := rfl
def sttOf (vs : List Int) (x : Aft) : Stt := if joinR x.hard x.soft = noneR then ⟨false, 0, 0, 0⟩ else ⟨true, (joinR x.hard x.soft).1, (joinR x.hard x.soft).2, levOf vs (joinR x.hard x.soft).2⟩

/-- A Real. -/
structure Rel where
  inflow : List Int
  seep : List Int
  start : Int
  soft : Int
/-- is everything in a Real of its range? -/
def fitsB (l : Lak) (x : Rel) : Bool :=
  decide (x.inflow.length = l.inflow.length) && (decide (x.seep.length = l.inflow.length) && (allB (fun s => inB s l.seep.1 l.seep.2) x.seep &&
    (allB (fun p : Rng × Int => inB p.2 p.1.1 p.1.2) (l.inflow.zip x.inflow) && (inB x.start l.start.1 l.start.2 && inB x.soft l.soft.1 l.soft.2))))
structure Fits (l : Lak) (x : Rel) : Prop where
  n : x.inflow.length = l.inflow.length
  m : x.seep.length = l.inflow.length
  seep : ∀ (h : Nat) (s : Int), x.seep[h]? = some s → l.seep.1 ≤ s ∧ s ≤ l.seep.2
  inflow : ∀ (h : Nat) (r : Rng) (i : Int), l.inflow[h]? = some r → x.inflow[h]? = some i → r.1 ≤ i ∧ i ≤ r.2
  start : l.start.1 ≤ x.start ∧ x.start ≤ l.start.2
  soft : l.soft.1 ≤ x.soft ∧ x.soft ≤ l.soft.2
theorem fitsB_iff {l : Lak} {x : Rel} : fitsB l x = true ↔ Fits l x := by
  simp only [fitsB, Bool.and_eq_true, decide_eq_true_eq, allB_iff, inB_iff]
  constructor
  · rintro ⟨h1, h2, h3, h4, h5, h6⟩
    exact ⟨h1, h2, h3, fun h r i hr hi => h4 h (r, i) (by rw [List.getElem?_zip_eq_some]; exact ⟨hr, hi⟩), h5, h6⟩
  · rintro ⟨h1, h2, h3, h4, h5, h6⟩
    exact ⟨h1, h2, h3, fun h p hp => by rw [List.getElem?_zip_eq_some] at hp; exact h4 h _ _ hp.1 hp.2, h5, h6⟩
/-- the volume before an hour -/
def vAt (ws : List Wrk) (c : List Int) (x : Rel) : Nat → Int
  | 0 => x.start
  | h + 1 => max 0 (vAt ws c x h + atI x.inflow h - atI x.seep h - outAt ws c h)
/-- does the dam break in an hour? -/
def brkB (l : Lak) (ws : List Wrk) (c : List Int) (x : Rel) (h : Nat) : Bool := decide (bdK l (decide (x.soft ≤ (h : Int))) ≤ vAt ws c x (h + 1))
/-- the hour of the break, or -1; the volumes -/
def fillB (l : Lak) (ws : List Wrk) (c : List Int) (x : Rel) : Int := firstN (brkB l ws c x) l.inflow.length
def volsTo (ws : List Wrk) (c : List Int) (x : Rel) (n : Nat) : List Int := (List.range n).map fun h => vAt ws c x (h + 1)
def fillN (l : Lak) (ws : List Wrk) (c : List Int) (x : Rel) : Nat := if 0 ≤ fillB l ws c x then (fillB l ws c x).toNat + 1 else l.inflow.length
def fillV (l : Lak) (ws : List Wrk) (c : List Int) (x : Rel) : List Int := volsTo ws c x (fillN l ws c x)
theorem volsTo_len (ws : List Wrk) (c : List Int) (x : Rel) (n : Nat) : (volsTo ws c x n).length = n := by simp [volsTo]
theorem volsTo_succ (ws : List Wrk) (c : List Int) (x : Rel) (n : Nat) : volsTo ws c x (n + 1) = volsTo ws c x n ++ [vAt ws c x (n + 1)] := by simp [volsTo, List.range_succ]
theorem volsTo_get {ws : List Wrk} {c : List Int} {x : Rel} {n h : Nat} (hh : h < n) : (volsTo ws c x n)[h]? = some (vAt ws c x (h + 1)) := by simp [volsTo, List.getElem?_range hh]
theorem netOk {l : Lak} (hok : LOk l) (ws : List Wrk) (c : List Int) : NetOk (netL l ws c) := by
  intro h r hr
  have hl := lt_of_get hr
  rw [netL_len] at hl
  have hx := List.getElem?_eq_getElem hl
  rw [netL_get hx] at hr
  cases hr
  have := hok.inflow h _ hx
  have := hok.seep
  simp only; omega
section
variable {l : Lak} {ws : List Wrk} {c : List Int} {x : Rel}
/-- the volumes of a Real are reached -/
theorem fill_reach (hf : Fits l x) : ∀ h, h ≤ l.inflow.length → (∀ j, j < h → brkB l ws c x j = false) → Rch l (netL l ws c) x.soft h (vAt ws c x h)
  | 0, _, _ => hf.start
  | h + 1, hh, hn => by
    have ih := fill_reach hf h (by omega) fun j hj => hn j (by omega)
    have hr := List.getElem?_eq_getElem (show h < l.inflow.length by omega)
    have hi := List.getElem?_eq_getElem (show h < x.inflow.length by rw [hf.n]; omega)
    have hs := List.getElem?_eq_getElem (show h < x.seep.length by rw [hf.m]; omega)
    have h1 := hf.inflow h _ _ hr hi
    have h2 := hf.seep h _ hs
    have h3 := hn h (by omega)
    refine ⟨vAt ws c x h, atI x.inflow h - atI x.seep h - outAt ws c h, _, ih, netL_get hr, ?_, ?_, ?_, ?_⟩
    · rw [atI_get hi, atI_get hs]; simp only; omega
    · rw [atI_get hi, atI_get hs]; simp only; omega
    · simp only [vAt]; congr 1; omega
    · simpa [brkB] using h3
theorem fill_break (hf : Fits l x) {h : Nat} (hh : h < l.inflow.length) (hn : ∀ j, j < h → brkB l ws c x j = false) (hb : brkB l ws c x h = true) : Brk l (netL l ws c) x.soft h (vAt ws c x (h + 1)) := by
  have ih := fill_reach (ws := ws) (c := c) hf h (by omega) hn
  have hr := List.getElem?_eq_getElem hh
  have hi := List.getElem?_eq_getElem (show h < x.inflow.length by rw [hf.n]; omega)
  have hs := List.getElem?_eq_getElem (show h < x.seep.length by rw [hf.m]; omega)
  have h1 := hf.inflow h _ _ hr hi
  have h2 := hf.seep h _ hs
  refine ⟨vAt ws c x h, atI x.inflow h - atI x.seep h - outAt ws c h, _, ih, netL_get hr, ?_, ?_, ?_, ?_⟩
  · rw [atI_get hi, atI_get hs]; simp only; omega
  · rw [atI_get hi, atI_get hs]; simp only; omega
  · simp only [vAt]; congr 1; omega
  · simpa [brkB] using hb
theorem vAt_pos (hf : Fits l x) (hok : LOk l) : ∀ h, 0 ≤ vAt ws c x h
  | 0 => by have := hf.start; have := hok.start; simp only [vAt]; omega
  | h + 1 => by simp only [vAt]; omega
theorem aft_at (l : Lak) (ws : List Wrk) (c : List Int) {h : Nat} (hh : h < l.inflow.length) : ∃ a, (aftL l (netL l ws c))[h]? = some a := ⟨_, List.getElem?_eq_getElem (by rw [aftL_len, netL_len]; exact hh)⟩
theorem join_noneR {x : Aft} (h1 : GoodR x.hard) (h2 : GoodR x.soft) : joinR x.hard x.soft = noneR ↔ x.hard = noneR ∧ x.soft = noneR := join_none h1 h2
theorem aft_good {ns : List Rng} (hok : LOk l) (hn : NetOk ns) {h : Nat} {x : Aft} (hx : (aftL l ns)[h]? = some x) : GoodR x.hard ∧ GoodR x.soft := by
  have hl := lt_of_get hx
  rw [aftL_len] at hl
  have H := now_ok hok hn (h := h + 1) hl
  have e := nowAt_succ hx
  have g1 := H.g1; have g2 := H.g2
  rw [e] at g1 g2
  exact ⟨g1, g2⟩
/-- while the dam holds, the volume is in the range of the hour -/
theorem held_in (hok : LOk l) (hf : Fits l x) {h : Nat} (hh : h < l.inflow.length) (hn : ∀ j, j ≤ h → brkB l ws c x j = false) {a : Aft} (ha : (aftL l (netL l ws c))[h]? = some a) :
    joinR a.hard a.soft ≠ noneR ∧ InR (joinR a.hard a.soft) (vAt ws c x (h + 1)) := by
  have hr := fill_reach (ws := ws) (c := c) hf (h + 1) (by omega) fun j hj => hn j (by omega)
  have := (all_in hok (netOk hok ws c) ha).2 (vAt ws c x (h + 1))
  have hin := this.2 ⟨x.soft, hf.soft.1, hf.soft.2, hr⟩
  exact ⟨fun e => none_in (e ▸ hin), hin⟩
theorem held_stt (hok : LOk l) (hf : Fits l x) {h : Nat} (hh : h < l.inflow.length) (hn : ∀ j, j ≤ h → brkB l ws c x j = false) {a : Aft} (ha : (aftL l (netL l ws c))[h]? = some a) :
    (sttOf l.vols a).holds = true ∧ (sttOf l.vols a).lo ≤ vAt ws c x (h + 1) ∧ vAt ws c x (h + 1) ≤ (sttOf l.vols a).hi ∧ (sttOf l.vols a).lev = levOf l.vols (sttOf l.vols a).hi := by
  have := held_in hok hf hh hn ha
  unfold sttOf
  rw [if_neg this.1]
  exact ⟨rfl, this.2.1, this.2.2, rfl⟩
/-- the dam breaks with at most the greatest volume of the hour -/
theorem break_le (hok : LOk l) (hf : Fits l x) {h : Nat} (hh : h < l.inflow.length) (hn : ∀ j, j < h → brkB l ws c x j = false) (hb : brkB l ws c x h = true) {a : Aft} (ha : (aftL l (netL l ws c))[h]? = some a) :
    0 < a.brk ∧ vAt ws c x (h + 1) ≤ a.brk := by
  have h1 := fill_break hf hh hn hb
  rcases brk_in hok (netOk hok ws c) ha with ⟨_, h2⟩ | ⟨h2, _, h3⟩
  · exact absurd ⟨x.soft, hf.soft.1, hf.soft.2, h1⟩ (h2 _)
  · exact ⟨h2, h3 _ ⟨x.soft, hf.soft.1, hf.soft.2, h1⟩⟩
theorem brkF_le (hok : LOk l) (hf : Fits l x) {h : Nat} (hh : h < l.inflow.length) (hn : ∀ j, j < h → brkB l ws c x j = false) (hb : brkB l ws c x h = true) : 0 ≤ brkF (aftL l (netL l ws c)) ∧ brkF (aftL l (netL l ws c)) ≤ (h : Int) := by
  obtain ⟨a, ha⟩ := aft_at l ws c hh
  have h1 := break_le hok hf hh hn hb ha
  rcases firstL_cases (fun x : Aft => decide (0 ≤ x.brk)) (aftL l (netL l ws c)) with ⟨_, h2⟩ | ⟨k, y, h2, h3, h4, h5⟩
  · have := h2 h a ha
    simp at this; omega
  · unfold brkF
    rw [h3]
    refine ⟨by omega, ?_⟩
    rcases Nat.lt_or_ge h k with h6 | h6
    · have := h5 h a h6 ha
      simp at this; omega
    · omega
theorem brkE_ge (hok : LOk l) (hf : Fits l x) {h : Nat} (hh : h ≤ l.inflow.length) (hn : ∀ j, j < h → brkB l ws c x j = false) : brkE (aftL l (netL l ws c)) = -1 ∨ (h : Int) ≤ brkE (aftL l (netL l ws c)) := by
  rcases firstL_cases (fun x : Aft => decide (x.hard = noneR) && decide (x.soft = noneR)) (aftL l (netL l ws c)) with ⟨h1, _⟩ | ⟨k, y, h2, h3, h4, h5⟩
  · exact .inl h1
  · right
    unfold brkE
    rw [h3]
    rcases Nat.lt_or_ge k h with h6 | h6
    · exfalso
      have := held_in hok hf (ws := ws) (c := c) (h := k) (by omega) (fun j hj => hn j (by omega)) h2
      simp at h4
      exact this.1 (by rw [h4.1, h4.2]; rfl)
    · omega
theorem brkE_lt : brkE (aftL l (netL l ws c)) < (l.inflow.length : Int) := by
  rcases firstL_cases (fun x : Aft => decide (x.hard = noneR) && decide (x.soft = noneR)) (aftL l (netL l ws c)) with ⟨h1, _⟩ | ⟨k, y, h2, h3, h4, h5⟩
  · unfold brkE; omega
  · have := lt_of_get h2
    rw [aftL_len, netL_len] at this
    unfold brkE; omega
end
end Go.Proofs.Ytpijmfbpdglchaa
