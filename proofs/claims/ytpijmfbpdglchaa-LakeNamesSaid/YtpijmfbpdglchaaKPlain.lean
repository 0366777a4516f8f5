/- PLAIN LAWS of a lake: what is valid, what is pumped, what may be after each hour. No program in sight. -/
import Derived.Test.YtpijmfbpdglchaaVoc
set_option linter.unusedVariables false
set_option linter.unusedSimpArgs false
namespace Go.Proofs.Ytpijmfbpdglchaa
open Go.RowKit

abbrev Rng := Int × Int
def inB (n lo hi : Int) : Bool := decide (lo ≤ n) && decide (n ≤ hi)
theorem inB_iff {n lo hi : Int} : inB n lo hi = true ↔ lo ≤ n ∧ n ≤ hi := by simp [inB]
theorem inB_not {n lo hi : Int} : inB n lo hi = false ↔ n < lo ∨ hi < n := by
  rw [← Bool.not_eq_true, inB_iff]; omega
def upB (r : Rng) (m : Int) : Bool := decide (0 ≤ r.1) && (decide (r.1 ≤ r.2) && decide (r.2 ≤ m))
theorem upB_iff {r : Rng} {m : Int} : upB r m = true ↔ 0 ≤ r.1 ∧ r.1 ≤ r.2 ∧ r.2 ≤ m := by simp [upB]
/-- 'all' of a list, by a name that no rule opens -/
def allB {α : Type} (p : α → Bool) (l : List α) : Bool := l.all p
theorem allB_iff {α : Type} {p : α → Bool} {l : List α} : allB p l = true ↔ ∀ (i : Nat) (x : α), l[i]? = some x → p x = true := by
  simp only [allB, List.all_eq_true]
  constructor
  · intro h i x hx; exact h x (List.mem_of_getElem? hx)
  · intro h x hx; obtain ⟨i, hi⟩ := List.getElem?_of_mem hx; exact h i x hi
theorem allB_not {α : Type} {p : α → Bool} {l : List α} : allB p l = false ↔ ∃ (i : Nat) (x : α), l[i]? = some x ∧ p x = false := by
  rw [← Bool.not_eq_true, allB_iff]
  constructor
  · intro h
    refine Classical.byContradiction fun hn => h fun i x hx => ?_
    cases hp : p x
    · exact absurd ⟨i, x, hx, hp⟩ hn
    · rfl
  · rintro ⟨i, x, hx, hp⟩ h
    rw [h i x hx] at hp; cases hp
theorem lt_of_get {α : Type} {l : List α} {i : Nat} {x : α} (h : l[i]? = some x) : i < l.length := (List.getElem?_eq_some_iff.1 h).1

/-- A lake. -/
structure Lak where
  vols : List Int
  crest : Int
  weak : Int
  soft : Rng
  start : Rng
  seep : Rng
  inflow : List Rng
/-- A work. -/
structure Wrk where
  frm : Int
  flow : Int
  price : Int
  deriving DecidableEq
def encW (x : Wrk) : List Value := [.int .i64 x.frm, .int .i64 x.flow, .int .i64 x.price]
theorem encW_len (x : Wrk) : (encW x).length = 3 := rfl
/-- the number at an index, 0 if there is none -/
def atI (l : List Int) (i : Int) : Int := match l[i.toNat]? with | some v => v | none => 0
theorem atI_get {l : List Int} {i : Nat} {v : Int} (h : l[i]? = some v) : atI l (i : Int) = v := by simp [atI, h]
/-- does a list rise? -/
def riseB : List Int → Bool
  | [] => true
  | [_] => true
  | a :: b :: l => decide (a < b) && riseB (b :: l)
theorem riseB_iff : ∀ {l : List Int}, riseB l = true ↔ ∀ (i : Nat) (a b : Int), l[i]? = some a → l[i + 1]? = some b → a < b
  | [] => by simp [riseB]
  | [x] => by simp [riseB]
  | x :: y :: l => by
    have ih := riseB_iff (l := y :: l)
    simp only [riseB, Bool.and_eq_true, decide_eq_true_eq, ih]
    constructor
    · rintro ⟨h1, h2⟩ i a b ha hb
      cases i with
      | zero => simp at ha hb; omega
      | succ i => exact h2 i a b (by simpa using ha) (by simpa using hb)
    · intro h
      exact ⟨h 0 x y rfl rfl, fun i a b ha hb => h (i + 1) a b (by simpa using ha) (by simpa using hb)⟩
theorem riseB_lt {l : List Int} (h : riseB l = true) : ∀ (j i : Nat) (a b : Int), i < j → l[i]? = some a → l[j]? = some b → a < b
  | 0, i, a, b, hij, _, _ => by omega
  | j + 1, i, a, b, hij, ha, hb => by
    rcases Nat.lt_or_ge i j with h1 | h1
    · obtain ⟨c, hc⟩ : ∃ c, l[j]? = some c := ⟨_, List.getElem?_eq_getElem (by have := lt_of_get hb; omega)⟩
      have := riseB_lt h j i a c h1 ha hc
      have := riseB_iff.1 h j c b hc hb
      omega
    · obtain rfl : i = j := by omega
      exact riseB_iff.1 h i a b ha hb

/-- is a lake too great? -/
def bigL (l : Lak) : Bool := decide (30 < l.vols.length) || decide (60 < l.inflow.length)
/-- is a lake, that is not too great, valid? -/
def okL (l : Lak) : Bool :=
  decide (2 ≤ l.vols.length) && (decide (atI l.vols 0 = 0) && (decide (atI l.vols ((l.vols.length : Int) - 1) ≤ 1000000) && (inB l.crest 1 ((l.vols.length : Int) - 1) && (inB l.weak 1 l.crest &&
    (riseB l.vols && (upB l.soft 60 && (upB l.start (atI l.vols l.weak - 1) && (upB l.seep 1000000 && allB (fun r => upB r 1000000) l.inflow))))))))
def errL (l : Lak) : Int := if bigL l then 3 else if okL l then 0 else 1
/-- A valid lake. -/
structure LOk (l : Lak) : Prop where
  n : 2 ≤ l.vols.length ∧ l.vols.length ≤ 30
  h : l.inflow.length ≤ 60
  v0 : atI l.vols 0 = 0
  vm : atI l.vols ((l.vols.length : Int) - 1) ≤ 1000000
  crest : 1 ≤ l.crest ∧ l.crest ≤ (l.vols.length : Int) - 1
  weak : 1 ≤ l.weak ∧ l.weak ≤ l.crest
  rise : riseB l.vols = true
  soft : 0 ≤ l.soft.1 ∧ l.soft.1 ≤ l.soft.2 ∧ l.soft.2 ≤ 60
  start : 0 ≤ l.start.1 ∧ l.start.1 ≤ l.start.2 ∧ l.start.2 ≤ atI l.vols l.weak - 1
  seep : 0 ≤ l.seep.1 ∧ l.seep.1 ≤ l.seep.2 ∧ l.seep.2 ≤ 1000000
  inflow : ∀ (i : Nat) (r : Rng), l.inflow[i]? = some r → 0 ≤ r.1 ∧ r.1 ≤ r.2 ∧ r.2 ≤ 1000000
theorem okL_iff {l : Lak} (hb : bigL l = false) : okL l = true ↔ LOk l := by
  have hb' : l.vols.length ≤ 30 ∧ l.inflow.length ≤ 60 := by
    simp only [bigL, Bool.or_eq_false_iff, decide_eq_false_iff_not] at hb; omega
  simp only [okL, Bool.and_eq_true, decide_eq_true_eq, inB_iff, upB_iff, allB_iff]
  constructor
  · rintro ⟨h1, h2, h3, h4, h5, h6, h7, h8, h9, h10⟩
    exact ⟨⟨h1, hb'.1⟩, hb'.2, h2, h3, h4, h5, h6, h7, h8, h9, h10⟩
  · rintro ⟨h1, h2, h3, h4, h5, h6, h7, h8, h9, h10, h11⟩
    exact ⟨h1.1, h3, h4, h5, h6, h7, h8, h9, h10, h11⟩
theorem errL_zero {l : Lak} : errL l = 0 ↔ LOk l := by
  unfold errL
  cases hb : bigL l
  · have := okL_iff hb
    cases ho : okL l
    · simp [ho] at this ⊢
      exact this
    · simp [ho] at this ⊢; exact this
  · simp
    intro h
    have := h.n; have := h.h
    simp [bigL] at hb
    omega
theorem errL_vals (l : Lak) : errL l = 0 ∨ errL l = 1 ∨ errL l = 3 := by
  unfold errL; split
  · exact .inr (.inr rfl)
  · split
    · exact .inl rfl
    · exact .inr (.inl rfl)
theorem atI_lt {l : List Int} {i : Int} (h0 : 0 ≤ i) (h1 : i < l.length) : l[i.toNat]? = some (atI l i) := by
  have := List.getElem?_eq_getElem (show i.toNat < l.length by omega)
  simp [atI, this]
section
variable {l : Lak}
theorem LOk.vol (h : LOk l) {i : Int} (h0 : 0 ≤ i) (h1 : i < l.vols.length) : 0 ≤ atI l.vols i ∧ atI l.vols i ≤ 1000000 ∧ (0 < i → 0 < atI l.vols i) := by
  have hn := h.n
  have g := atI_lt h0 h1
  have g0 := atI_lt (l := l.vols) (i := 0) (by omega) (by omega)
  have gm := atI_lt (l := l.vols) (i := (l.vols.length : Int) - 1) (by omega) (by omega)
  have r1 : 0 < i → atI l.vols 0 < atI l.vols i := fun hi => riseB_lt h.rise i.toNat (0 : Int).toNat _ _ (by omega) g0 g
  have r2 : i < (l.vols.length : Int) - 1 → atI l.vols i < atI l.vols ((l.vols.length : Int) - 1) := fun hi => riseB_lt h.rise ((l.vols.length : Int) - 1).toNat i.toNat _ _ (by omega) g gm
  have := h.v0; have := h.vm
  refine ⟨?_, ?_, fun hi => by have := r1 hi; omega⟩
  · rcases Int.lt_or_le 0 i with hi | hi
    · have := r1 hi; omega
    · obtain rfl : i = 0 := by omega
      omega
  · rcases Int.lt_or_le i ((l.vols.length : Int) - 1) with hi | hi
    · have := r2 hi; omega
    · obtain rfl : i = (l.vols.length : Int) - 1 := by omega
      omega
theorem LOk.weakV (h : LOk l) : 0 < atI l.vols l.weak ∧ atI l.vols l.weak ≤ atI l.vols l.crest ∧ atI l.vols l.crest ≤ 1000000 := by
  have hw := h.weak; have hc := h.crest
  have g1 := h.vol (i := l.weak) (by omega) (by omega)
  have g2 := h.vol (i := l.crest) (by omega) (by omega)
  refine ⟨g1.2.2 (by omega), ?_, g2.2.1⟩
  rcases Int.lt_or_le l.weak l.crest with hi | hi
  · have := riseB_lt h.rise l.crest.toNat l.weak.toNat _ _ (by omega) (atI_lt (by omega) (by omega)) (atI_lt (by omega) (by omega)); omega
  · obtain e : l.weak = l.crest := by omega
    rw [e]; exact Int.le_refl _
end

/-- is a work valid? -/
def okW (x : Wrk) : Bool := inB x.frm 0 60 && (inB x.flow 0 1000000 && inB x.price 0 1000000)
theorem okW_iff {x : Wrk} : okW x = true ↔ (0 ≤ x.frm ∧ x.frm ≤ 60) ∧ (0 ≤ x.flow ∧ x.flow ≤ 1000000) ∧ (0 ≤ x.price ∧ x.price ≤ 1000000) := by simp [okW, inB_iff]
def errW (ws : List Wrk) : Int := if 10 < ws.length then 3 else if allB okW ws then 0 else 1
structure WOk (ws : List Wrk) : Prop where
  n : ws.length ≤ 10
  all : ∀ (i : Nat) (x : Wrk), ws[i]? = some x → okW x = true
theorem errW_zero {ws : List Wrk} : errW ws = 0 ↔ WOk ws := by
  unfold errW
  split
  · exact ⟨fun h => by simp at h, fun h => by have := h.n; omega⟩
  · split
    · rename_i h1 h2
      exact ⟨fun _ => ⟨by omega, allB_iff.1 h2⟩, fun _ => rfl⟩
    · rename_i h1 h2
      exact ⟨fun h => by simp at h, fun h => absurd (allB_iff.2 h.all) h2⟩
/-- is a list a choice of n works? -/
def choB (n : Nat) (c : List Int) : Bool := allB (fun x => inB x 0 ((n : Int) - 1)) c && riseB c
theorem choB_iff {n : Nat} {c : List Int} : choB n c = true ↔ (∀ (i : Nat) (x : Int), c[i]? = some x → 0 ≤ x ∧ x ≤ (n : Int) - 1) ∧ ∀ (i : Nat) (a b : Int), c[i]? = some a → c[i + 1]? = some b → a < b := by
  simp [choB, allB_iff, riseB_iff, inB_iff]
theorem cho_low {n : Nat} {c : List Int} (h : choB n c = true) : ∀ (i : Nat) (x : Int), c[i]? = some x → (i : Int) ≤ x
  | 0, x, hx => by have := (choB_iff.1 h).1 0 x hx; omega
  | i + 1, x, hx => by
    obtain ⟨y, hy⟩ : ∃ y, c[i]? = some y := ⟨_, List.getElem?_eq_getElem (by have := lt_of_get hx; omega)⟩
    have := cho_low h i y hy
    have := (choB_iff.1 h).2 i y x hy hx
    omega
theorem cho_len {n : Nat} {c : List Int} (h : choB n c = true) : c.length ≤ n := by
  rcases Nat.eq_zero_or_pos c.length with h0 | h0
  · omega
  · have hx := List.getElem?_eq_getElem (show c.length - 1 < c.length by omega)
    have := cho_low h _ _ hx
    have := (choB_iff.1 h).1 _ _ hx
    omega
/-- the error of a lake with works and a choice -/
def errA (l : Lak) (ws : List Wrk) (c : List Int) : Int := if errL l ≠ 0 then errL l else if errW ws ≠ 0 then errW ws else if choB ws.length c then 0 else 2
structure AOk (l : Lak) (ws : List Wrk) (c : List Int) : Prop where
  l : LOk l
  w : WOk ws
  c : choB ws.length c = true
theorem errA_zero {l : Lak} {ws : List Wrk} {c : List Int} : errA l ws c = 0 ↔ AOk l ws c := by
  unfold errA
  split
  · rename_i h; exact ⟨fun e => absurd e h, fun e => absurd (errL_zero.2 e.l) h⟩
  · rename_i h
    split
    · rename_i h2; exact ⟨fun e => absurd e h2, fun e => absurd (errW_zero.2 e.w) h2⟩
    · rename_i h2
      split
      · rename_i h3; exact ⟨fun _ => ⟨errL_zero.1 (by simpa using h), errW_zero.1 (by simpa using h2), h3⟩, fun _ => rfl⟩
      · rename_i h3; exact ⟨fun e => by simp at e, fun e => absurd e.c h3⟩

/-- what one work of a choice pumps in an hour -/
def flowAt (ws : List Wrk) (i h : Int) : Int := match ws[i.toNat]? with | some x => if x.frm ≤ h then x.flow else 0 | none => 0
/-- what the first k works of a choice pump in an hour -/
def outTo (ws : List Wrk) (c : List Int) (h : Int) : Nat → Int
  | 0 => 0
  | k + 1 => outTo ws c h k + match c[k]? with | some i => flowAt ws i h | none => 0
def outAt (ws : List Wrk) (c : List Int) (h : Int) : Int := outTo ws c h c.length
theorem flowAt_bd {ws : List Wrk} (hw : WOk ws) (i h : Int) : 0 ≤ flowAt ws i h ∧ flowAt ws i h ≤ 1000000 := by
  unfold flowAt
  split
  · rename_i x hx
    have := okW_iff.1 (hw.all _ _ hx)
    split <;> omega
  · omega
theorem outTo_bd {ws : List Wrk} (hw : WOk ws) (c : List Int) (h : Int) : ∀ k, 0 ≤ outTo ws c h k ∧ outTo ws c h k ≤ k * 1000000
  | 0 => by simp [outTo]
  | k + 1 => by
    have ih := outTo_bd hw c h k
    unfold outTo
    split
    · rename_i i _
      have := flowAt_bd hw i h
      push_cast; omega
    · push_cast; omega
theorem outAt_bd {ws : List Wrk} (hw : WOk ws) {c : List Int} (hc : choB ws.length c = true) (h : Int) : 0 ≤ outAt ws c h ∧ outAt ws c h ≤ 10000000 := by
  have h1 := outTo_bd hw c h c.length
  have h2 := cho_len hc
  have h3 := hw.n
  unfold outAt
  have : (c.length : Int) * 1000000 ≤ 10 * 1000000 := Int.mul_le_mul_of_nonneg_right (by omega) (by omega)
  omega

/-- what comes more in each hour: least and greatest -/
def netL (l : Lak) (ws : List Wrk) (c : List Int) : List Rng := l.inflow.mapIdx fun h r => (r.1 - l.seep.2 - outAt ws c h, r.2 - l.seep.1 - outAt ws c h)
theorem netL_len (l : Lak) (ws : List Wrk) (c : List Int) : (netL l ws c).length = l.inflow.length := by simp [netL]
theorem netL_get {l : Lak} {ws : List Wrk} {c : List Int} {h : Nat} {r : Rng} (hr : l.inflow[h]? = some r) : (netL l ws c)[h]? = some (r.1 - l.seep.2 - outAt ws c h, r.2 - l.seep.1 - outAt ws c h) := by
  simp [netL, List.getElem?_mapIdx, hr]
/-- the volume at which the dam breaks -/
def bdK (l : Lak) (soft : Bool) : Int := if soft then atI l.vols l.weak else atI l.vols l.crest
def noneR : Rng := (1, 0)
/-- what comes of volumes, with a bound -/
def stepR (bd : Int) (a n : Rng) : Rng × Int :=
  if a = noneR then (noneR, -1) else
    let lo := max 0 (a.1 + n.1); let hi := max 0 (a.2 + n.2)
    (if bd ≤ lo then noneR else (lo, min hi (bd - 1)), if bd ≤ hi then hi else -1)
def joinR (a b : Rng) : Rng := if a = noneR then b else if b = noneR then a else (min a.1 b.1, max a.2 b.2)
/-- what may be after an hour -/
structure Aft where
  hard : Rng
  soft : Rng
  brk : Int
  deriving DecidableEq
def encA (x : Aft) : List Value := [.int .i64 x.hard.1, .int .i64 x.hard.2, .int .i64 x.soft.1, .int .i64 x.soft.2, .int .i64 x.brk]
theorem encA_len (x : Aft) : (encA x).length = 5 := rfl
def aftOf (l : Lak) (hd sf : Rng) (h : Int) (n : Rng) : Aft :=
  let a := if h < l.soft.2 then stepR (bdK l false) hd n else (noneR, -1)
  let b := if inB h l.soft.1 l.soft.2 then stepR (bdK l true) hd n else (noneR, -1)
  let c := stepR (bdK l true) sf n
  ⟨a.1, joinR b.1 c.1, max (max (max (-1) a.2) b.2) c.2⟩
/-- the volumes before an hour: of hard dams, and of soft ones -/
def nowAt (l : Lak) (ns : List Rng) : Nat → Rng × Rng
  | 0 => (l.start, noneR)
  | h + 1 => match ns[h]? with
    | some n => let x := aftOf l (nowAt l ns h).1 (nowAt l ns h).2 h n; (x.hard, x.soft)
    | none => (noneR, noneR)
def aftL (l : Lak) (ns : List Rng) : List Aft := ns.mapIdx fun h n => aftOf l (nowAt l ns h).1 (nowAt l ns h).2 h n
theorem aftL_len (l : Lak) (ns : List Rng) : (aftL l ns).length = ns.length := by simp [aftL]
theorem aftL_get {l : Lak} {ns : List Rng} {h : Nat} {n : Rng} (hn : ns[h]? = some n) : (aftL l ns)[h]? = some (aftOf l (nowAt l ns h).1 (nowAt l ns h).2 h n) := by
  simp [aftL, List.getElem?_mapIdx, hn]
theorem nowAt_succ {l : Lak} {ns : List Rng} {h : Nat} {x : Aft} (hx : (aftL l ns)[h]? = some x) : nowAt l ns (h + 1) = (x.hard, x.soft) := by
  have hl := lt_of_get hx
  rw [aftL_len] at hl
  have hn := List.getElem?_eq_getElem hl
  rw [aftL_get hn] at hx
  cases hx
  simp [nowAt, hn]

/-- a volume that may be before an hour, in a lake whose dam is soft from the hour s on, while the dam holds -/
def Rch (l : Lak) (ns : List Rng) (s : Int) : Nat → Int → Prop
  | 0, v => l.start.1 ≤ v ∧ v ≤ l.start.2
  | h + 1, v' => ∃ v n r, Rch l ns s h v ∧ ns[h]? = some r ∧ r.1 ≤ n ∧ n ≤ r.2 ∧ v' = max 0 (v + n) ∧ v' < bdK l (decide (s ≤ (h : Int)))
/-- a volume with which the dam may break in an hour -/
def Brk (l : Lak) (ns : List Rng) (s : Int) (h : Nat) (v' : Int) : Prop :=
  ∃ v n r, Rch l ns s h v ∧ ns[h]? = some r ∧ r.1 ≤ n ∧ n ≤ r.2 ∧ v' = max 0 (v + n) ∧ bdK l (decide (s ≤ (h : Int))) ≤ v'
/-- is a volume of a range? -/
def InR (r : Rng) (v : Int) : Prop := r.1 ≤ v ∧ v ≤ r.2
theorem none_in {v : Int} : ¬ InR noneR v := by simp [InR, noneR]; omega
/-- what comes of a range of volumes -/
theorem step_reach {a n : Rng} (ha : a.1 ≤ a.2) (hn : n.1 ≤ n.2) {t : Int} : (∃ v m, InR a v ∧ InR n m ∧ t = max 0 (v + m)) ↔ max 0 (a.1 + n.1) ≤ t ∧ t ≤ max 0 (a.2 + n.2) := by
  simp only [InR]
  constructor
  · rintro ⟨v, m, h1, h2, rfl⟩
    omega
  · rintro ⟨h1, h2⟩
    by_cases h3 : a.2 + n.2 < 0
    · exact ⟨a.1, n.1, by omega, by omega, by omega⟩
    · by_cases h4 : t - n.1 ≤ a.2
      · by_cases h5 : a.1 ≤ t - n.1
        · exact ⟨t - n.1, n.1, by omega, by omega, by omega⟩
        · exact ⟨a.1, n.1, by omega, by omega, by omega⟩
      · exact ⟨a.2, t - a.2, by omega, by omega, by omega⟩
end Go.Proofs.Ytpijmfbpdglchaa

namespace Go.Proofs.Ytpijmfbpdglchaa

/-- a range that has nothing, or has its ends -/
def GoodR (r : Rng) : Prop := r = noneR ∨ (0 ≤ r.1 ∧ r.1 ≤ r.2)
theorem none_good : GoodR noneR := .inl rfl
theorem GoodR.none_iff {r : Rng} (h : GoodR r) : r = noneR ↔ ∀ v, ¬ InR r v := by
  constructor
  · rintro rfl v; exact none_in
  · intro hn
    rcases h with h | h
    · exact h
    · exact absurd (show InR r r.1 from ⟨Int.le_refl _, h.2⟩) (hn _)
theorem GoodR.bd {r : Rng} (h : GoodR r) (hn : r ≠ noneR) : 0 ≤ r.1 ∧ r.1 ≤ r.2 := by
  rcases h with h | h
  · exact absurd h hn
  · exact h
/-- what a step makes of a range: those that hold -/
theorem step_good {bd : Int} {a n : Rng} (ha : GoodR a) (hn : n.1 ≤ n.2) : GoodR (stepR bd a n).1 := by
  unfold stepR
  by_cases h0 : a = noneR
  · rw [if_pos h0]; exact none_good
  · have hb := ha.bd h0
    rw [if_neg h0]
    simp only
    split
    · exact none_good
    · exact .inr (by simp only; omega)
theorem step_in {bd : Int} {a n : Rng} (ha : GoodR a) (hn : n.1 ≤ n.2) {t : Int} : InR (stepR bd a n).1 t ↔ ∃ v m, InR a v ∧ InR n m ∧ t = max 0 (v + m) ∧ t < bd := by
  unfold stepR
  by_cases h0 : a = noneR
  · rw [if_pos h0]
    exact ⟨fun h => absurd h none_in, fun ⟨v, _, hv, _⟩ => absurd (h0 ▸ hv) none_in⟩
  · have hb := ha.bd h0
    have hr := step_reach (a := a) (n := n) hb.2 hn (t := t)
    rw [if_neg h0]
    have e : (∃ v m, InR a v ∧ InR n m ∧ t = max 0 (v + m) ∧ t < bd) ↔ (∃ v m, InR a v ∧ InR n m ∧ t = max 0 (v + m)) ∧ t < bd :=
      ⟨fun ⟨v, m, h1, h2, h3, h4⟩ => ⟨⟨v, m, h1, h2, h3⟩, h4⟩, fun ⟨⟨v, m, h1, h2, h3⟩, h4⟩ => ⟨v, m, h1, h2, h3, h4⟩⟩
    rw [e, hr]
    simp only
    split
    · exact ⟨fun h => absurd h none_in, fun h => by omega⟩
    · simp only [InR]; omega
/-- the greatest one of some numbers above 0, -1 if there are none -/
def Gr (P : Int → Prop) (p : Int) : Prop := (p = -1 ∧ ∀ v, ¬ P v) ∨ (0 < p ∧ P p ∧ ∀ v, P v → v ≤ p)
theorem Gr.nil : Gr (fun _ => False) (-1) := .inl ⟨rfl, fun _ h => h⟩
theorem Gr.both {P Q : Int → Prop} {p q : Int} (hp : Gr P p) (hq : Gr Q q) : Gr (fun v => P v ∨ Q v) (max p q) := by
  rcases hp with ⟨rfl, hp⟩ | ⟨p0, p1, p2⟩
  · rcases hq with ⟨rfl, hq⟩ | ⟨q0, q1, q2⟩
    · exact .inl ⟨by omega, fun v h => h.elim (hp v) (hq v)⟩
    · have e : max (-1) q = q := by omega
      rw [e]
      exact .inr ⟨q0, .inr q1, fun v h => h.elim (fun h => absurd h (hp v)) (q2 v)⟩
  · rcases hq with ⟨rfl, hq⟩ | ⟨q0, q1, q2⟩
    · have e : max p (-1) = p := by omega
      rw [e]
      exact .inr ⟨p0, .inl p1, fun v h => h.elim (p2 v) (fun h => absurd h (hq v))⟩
    · refine .inr ⟨by omega, ?_, fun v h => h.elim (fun h => by have := p2 v h; omega) (fun h => by have := q2 v h; omega)⟩
      rcases Int.le_total p q with h | h
      · rw [show max p q = q by omega]; exact .inr q1
      · rw [show max p q = p by omega]; exact .inl p1
theorem Gr.congr {P Q : Int → Prop} {p : Int} (hp : Gr P p) (h : ∀ v, P v ↔ Q v) : Gr Q p := by
  rcases hp with ⟨e, hp⟩ | ⟨p0, p1, p2⟩
  · exact .inl ⟨e, fun v hv => hp v ((h v).2 hv)⟩
  · exact .inr ⟨p0, (h p).1 p1, fun v hv => p2 v ((h v).2 hv)⟩
theorem Gr.uniq {P : Int → Prop} {p q : Int} (hp : Gr P p) (hq : Gr P q) : p = q := by
  rcases hp with ⟨rfl, hp⟩ | ⟨p0, p1, p2⟩
  · rcases hq with ⟨rfl, hq⟩ | ⟨q0, q1, q2⟩
    · rfl
    · exact absurd q1 (hp q)
  · rcases hq with ⟨rfl, hq⟩ | ⟨q0, q1, q2⟩
    · exact absurd p1 (hq p)
    · have := p2 q q1; have := q2 p p1; omega
/-- the greatest one with which it breaks -/
theorem step_brk {bd : Int} {a n : Rng} (ha : GoodR a) (hn : n.1 ≤ n.2) (hbd : 0 < bd) : Gr (fun t => ∃ v m, InR a v ∧ InR n m ∧ t = max 0 (v + m) ∧ bd ≤ t) (stepR bd a n).2 := by
  unfold stepR
  by_cases h0 : a = noneR
  · rw [if_pos h0]
    exact .inl ⟨rfl, fun t ⟨v, m, hv, _⟩ => absurd (h0 ▸ hv) none_in⟩
  · have hb := ha.bd h0
    rw [if_neg h0]
    simp only
    split
    · rename_i h1
      exact .inr ⟨by omega, ⟨a.2, n.2, ⟨hb.2, Int.le_refl _⟩, ⟨hn, Int.le_refl _⟩, rfl, h1⟩, fun t ⟨v, m, hv, hm, e, _⟩ => by simp only [InR] at hv hm; omega⟩
    · exact .inl ⟨rfl, fun t ⟨v, m, hv, hm, e, h2⟩ => by simp only [InR] at hv hm; omega⟩
/-- two ranges that begin alike, or one of which has nothing -/
def Alike (a b : Rng) : Prop := a = noneR ∨ b = noneR ∨ a.1 = b.1
theorem step_alike {b1 b2 : Int} {a b n : Rng} (h : Alike a b) : Alike (stepR b1 a n).1 (stepR b2 b n).1 := by
  unfold stepR
  by_cases ha : a = noneR
  · exact .inl (by rw [if_pos ha])
  · by_cases hb : b = noneR
    · exact .inr (.inl (by rw [if_pos hb]))
    · have e : a.1 = b.1 := by rcases h with h | h | h <;> first | exact absurd h ha | exact absurd h hb | exact h
      rw [if_neg ha, if_neg hb]
      simp only
      split
      · exact .inl rfl
      · split
        · exact .inr (.inl rfl)
        · exact .inr (.inr (by simp only; rw [e]))
theorem join_in {a b : Rng} (ha : GoodR a) (hb : GoodR b) (h : Alike a b) {v : Int} : InR (joinR a b) v ↔ InR a v ∨ InR b v := by
  unfold joinR
  by_cases h1 : a = noneR
  · rw [if_pos h1]
    exact ⟨.inr, fun h => h.elim (fun h => absurd (h1 ▸ h) none_in) id⟩
  · rw [if_neg h1]
    by_cases h2 : b = noneR
    · rw [if_pos h2]
      exact ⟨.inl, fun h => h.elim id (fun h => absurd (h2 ▸ h) none_in)⟩
    · rw [if_neg h2]
      have e : a.1 = b.1 := by rcases h with h | h | h <;> first | exact absurd h h1 | exact absurd h h2 | exact h
      have := ha.bd h1; have := hb.bd h2
      simp only [InR]; omega
theorem join_good {a b : Rng} (ha : GoodR a) (hb : GoodR b) : GoodR (joinR a b) := by
  unfold joinR
  by_cases h1 : a = noneR
  · rw [if_pos h1]; exact hb
  · rw [if_neg h1]
    by_cases h2 : b = noneR
    · rw [if_pos h2]; exact ha
    · rw [if_neg h2]
      have := ha.bd h1; have := hb.bd h2
      exact .inr (by simp only; omega)
theorem join_none {a b : Rng} (ha : GoodR a) (hb : GoodR b) : joinR a b = noneR ↔ a = noneR ∧ b = noneR := by
  unfold joinR
  by_cases h1 : a = noneR
  · rw [if_pos h1]; simp [h1]
  · rw [if_neg h1]
    by_cases h2 : b = noneR
    · rw [if_pos h2]; simp [h1]
    · rw [if_neg h2]
      have := ha.bd h1; have := hb.bd h2
      simp only [h1, false_and, iff_false]
      intro e
      have e1 := congrArg Prod.fst e
      have e2 := congrArg Prod.snd e
      simp only [noneR] at e1 e2
      omega
theorem join_lo {a b c : Rng} (h1 : Alike a b) (h2 : Alike a c) (_ : GoodR b) (_ : GoodR c) (h3 : Alike b c) : Alike a (joinR b c) := by
  unfold joinR
  by_cases hb0 : b = noneR
  · rw [if_pos hb0]; exact h2
  · rw [if_neg hb0]
    by_cases hc0 : c = noneR
    · rw [if_pos hc0]; exact h1
    · rw [if_neg hc0]
      have e : b.1 = c.1 := by rcases h3 with h | h | h <;> first | exact absurd h hb0 | exact absurd h hc0 | exact h
      rcases h1 with h | h | h
      · exact .inl h
      · exact absurd h hb0
      · exact .inr (.inr (by simp only; omega))

/-- as long as the dam is hard, it does not matter when it is soft -/
theorem Rch_hard {l : Lak} {ns : List Rng} {s s' : Int} : ∀ {h : Nat} {v : Int}, (h : Int) ≤ s → (h : Int) ≤ s' → Rch l ns s h v → Rch l ns s' h v
  | 0, v, _, _, hr => hr
  | h + 1, v', h1, h2, ⟨v, n, r, hr, hn, a, b, c, d⟩ => by
    refine ⟨v, n, r, Rch_hard (by omega) (by omega) hr, hn, a, b, c, ?_⟩
    rw [decide_eq_false (by omega)] at d ⊢
    exact d
/-- the nets of a valid lake rise -/
def NetOk (ns : List Rng) : Prop := ∀ (h : Nat) (r : Rng), ns[h]? = some r → r.1 ≤ r.2
/-- what is known of the volumes before an hour -/
structure NowOk (l : Lak) (ns : List Rng) (h : Nat) : Prop where
  g1 : GoodR (nowAt l ns h).1
  g2 : GoodR (nowAt l ns h).2
  al : Alike (nowAt l ns h).1 (nowAt l ns h).2
  i1 : ∀ v, InR (nowAt l ns h).1 v ↔ ∃ s, l.soft.1 ≤ s ∧ s ≤ l.soft.2 ∧ (h : Int) ≤ s ∧ Rch l ns s h v
  i2 : ∀ v, InR (nowAt l ns h).2 v ↔ ∃ s, l.soft.1 ≤ s ∧ s ≤ l.soft.2 ∧ s < (h : Int) ∧ Rch l ns s h v
theorem ite_good {c : Prop} [Decidable c] {a : Rng × Int} (ha : GoodR a.1) : GoodR (if c then a else (noneR, -1)).1 := by split; exact ha; exact none_good
theorem aft_in {l : Lak} {ns : List Rng} (hok : LOk l) (hn : NetOk ns) {h : Nat} (H : NowOk l ns h) {r : Rng} (hr : ns[h]? = some r) :
    (GoodR (aftOf l (nowAt l ns h).1 (nowAt l ns h).2 h r).hard ∧ GoodR (aftOf l (nowAt l ns h).1 (nowAt l ns h).2 h r).soft ∧ Alike (aftOf l (nowAt l ns h).1 (nowAt l ns h).2 h r).hard (aftOf l (nowAt l ns h).1 (nowAt l ns h).2 h r).soft) ∧
    (∀ v, InR (aftOf l (nowAt l ns h).1 (nowAt l ns h).2 h r).hard v ↔ ∃ s, l.soft.1 ≤ s ∧ s ≤ l.soft.2 ∧ ((h + 1 : Nat) : Int) ≤ s ∧ Rch l ns s (h + 1) v) ∧
    (∀ v, InR (aftOf l (nowAt l ns h).1 (nowAt l ns h).2 h r).soft v ↔ ∃ s, l.soft.1 ≤ s ∧ s ≤ l.soft.2 ∧ s < ((h + 1 : Nat) : Int) ∧ Rch l ns s (h + 1) v) := by
  have hrr := hn h r hr
  have hg : ∀ bd a, GoodR a → GoodR (stepR bd a r).1 := fun _ _ ha => step_good ha hrr
  have gb : GoodR (if inB h l.soft.1 l.soft.2 then stepR (bdK l true) (nowAt l ns h).1 r else (noneR, -1)).1 := ite_good (hg _ _ H.g1)
  have hal1 : ∀ bb b2, Alike (stepR bb (nowAt l ns h).1 r).1 (stepR b2 (nowAt l ns h).2 r).1 := fun _ _ => step_alike H.al
  have hal2 : ∀ bb b2, Alike (stepR bb (nowAt l ns h).1 r).1 (stepR b2 (nowAt l ns h).1 r).1 := fun _ _ => step_alike (.inr (.inr rfl))
  have hbc : Alike (if inB h l.soft.1 l.soft.2 then stepR (bdK l true) (nowAt l ns h).1 r else (noneR, -1)).1 (stepR (bdK l true) (nowAt l ns h).2 r).1 := by
    split
    · exact hal1 _ _
    · exact .inl rfl
  refine ⟨⟨ite_good (hg _ _ H.g1), join_good gb (hg _ _ H.g2), ?_⟩, fun v => ?_, fun v => ?_⟩
  · simp only [aftOf]
    refine join_lo ?_ ?_ gb (hg _ _ H.g2) hbc
    · split
      · split
        · exact hal2 _ _
        · exact .inr (.inl rfl)
      · exact .inl rfl
    · split
      · exact hal1 _ _
      · exact .inl rfl
  · simp only [aftOf]
    have hb0 : ∀ s : Int, ((h + 1 : Nat) : Int) ≤ s → decide (s ≤ (h : Int)) = false := fun s hs => decide_eq_false (by omega)
    by_cases hc : (h : Int) < l.soft.2
    · rw [if_pos hc, step_in H.g1 hrr]
      constructor
      · rintro ⟨u, m, h1, h2, h3, h4⟩
        obtain ⟨s, s1, s2, s3, s4⟩ := (H.i1 u).1 h1
        refine ⟨l.soft.2, hok.soft.2.1, Int.le_refl _, by omega, u, m, r, Rch_hard s3 (by omega) s4, hr, h2.1, h2.2, h3, ?_⟩
        rw [hb0 _ (by omega)]; exact h4
      · rintro ⟨s, s1, s2, s3, u, m, r', k1, k2, k3, k4, k5, k6⟩
        rw [hr] at k2; cases k2
        rw [hb0 _ s3] at k6
        exact ⟨u, m, (H.i1 u).2 ⟨s, s1, s2, by omega, k1⟩, ⟨k3, k4⟩, k5, k6⟩
    · rw [if_neg hc]
      exact ⟨fun h => absurd h none_in, fun ⟨s, s1, s2, s3, _⟩ => by omega⟩
  · simp only [aftOf]
    rw [join_in gb (hg _ _ H.g2) hbc, step_in H.g2 hrr]
    have hb0 : ∀ s : Int, s < ((h + 1 : Nat) : Int) → decide (s ≤ (h : Int)) = true := fun s hs => decide_eq_true (by omega)
    constructor
    · rintro (h1 | ⟨u, m, h1, h2, h3, h4⟩)
      · by_cases hc : inB h l.soft.1 l.soft.2 = true
        · rw [if_pos hc, step_in H.g1 hrr] at h1
          obtain ⟨u, m, h1, h2, h3, h4⟩ := h1
          obtain ⟨s, s1, s2, s3, s4⟩ := (H.i1 u).1 h1
          have hi := inB_iff.1 hc
          refine ⟨h, hi.1, hi.2, by omega, u, m, r, Rch_hard s3 (Int.le_refl _) s4, hr, h2.1, h2.2, h3, ?_⟩
          rw [hb0 _ (by omega)]; exact h4
        · rw [if_neg hc] at h1
          exact absurd h1 none_in
      · obtain ⟨s, s1, s2, s3, s4⟩ := (H.i2 u).1 h1
        refine ⟨s, s1, s2, by omega, u, m, r, s4, hr, h2.1, h2.2, h3, ?_⟩
        rw [hb0 _ (by omega)]; exact h4
    · rintro ⟨s, s1, s2, s3, u, m, r', k1, k2, k3, k4, k5, k6⟩
      rw [hr] at k2; cases k2
      rw [hb0 _ s3] at k6
      rcases Int.lt_or_le s (h : Int) with hs | hs
      · exact .inr ⟨u, m, (H.i2 u).2 ⟨s, s1, s2, hs, k1⟩, ⟨k3, k4⟩, k5, k6⟩
      · obtain rfl : s = (h : Int) := by omega
        have hc : inB h l.soft.1 l.soft.2 = true := inB_iff.2 ⟨s1, s2⟩
        rw [if_pos hc, step_in H.g1 hrr]
        exact .inl ⟨u, m, (H.i1 u).2 ⟨_, s1, s2, Int.le_refl _, k1⟩, ⟨k3, k4⟩, k5, k6⟩
theorem now_ok {l : Lak} {ns : List Rng} (hok : LOk l) (hn : NetOk ns) : ∀ {h : Nat}, h ≤ ns.length → NowOk l ns h
  | 0, _ => by
    refine ⟨.inr ⟨hok.start.1, hok.start.2.1⟩, none_good, .inr (.inl rfl), fun v => ?_, fun v => ?_⟩
    · have := hok.soft
      exact ⟨fun h => ⟨l.soft.2, by omega, by omega, by omega, h⟩, fun ⟨s, _, _, _, h⟩ => h⟩
    · have := hok.soft
      exact ⟨fun h => absurd h none_in, fun ⟨s, h1, _, h2, _⟩ => by omega⟩
  | h + 1, hh => by
    have H := now_ok hok hn (h := h) (by omega)
    have hr := List.getElem?_eq_getElem (show h < ns.length by omega)
    have hx := aft_in hok hn H hr
    have e := nowAt_succ (aftL_get (l := l) hr)
    refine ⟨?_, ?_, ?_, ?_, ?_⟩ <;> rw [e]
    · exact hx.1.1
    · exact hx.1.2.1
    · exact hx.1.2.2
    · exact hx.2.1
    · exact hx.2.2
/-- what may be after an hour, of all dams together -/
theorem all_in {l : Lak} {ns : List Rng} (hok : LOk l) (hn : NetOk ns) {h : Nat} {x : Aft} (hx : (aftL l ns)[h]? = some x) :
    GoodR (joinR x.hard x.soft) ∧ ∀ v, InR (joinR x.hard x.soft) v ↔ ∃ s, l.soft.1 ≤ s ∧ s ≤ l.soft.2 ∧ Rch l ns s (h + 1) v := by
  have hl := lt_of_get hx
  rw [aftL_len] at hl
  have H := now_ok hok hn (h := h + 1) hl
  have e := nowAt_succ hx
  have g1 := H.g1; have g2 := H.g2; have al := H.al; have i1 := H.i1; have i2 := H.i2
  rw [e] at g1 g2 al i1 i2
  refine ⟨join_good g1 g2, fun v => ?_⟩
  rw [join_in g1 g2 al, i1, i2]
  constructor
  · rintro (⟨s, a, b, _, c⟩ | ⟨s, a, b, _, c⟩) <;> exact ⟨s, a, b, c⟩
  · rintro ⟨s, a, b, c⟩
    rcases Int.lt_or_le s ((h + 1 : Nat) : Int) with hs | hs
    · exact .inr ⟨s, a, b, hs, c⟩
    · exact .inl ⟨s, a, b, hs, c⟩
/-- the greatest volume with which the dam may break in an hour -/
theorem brk_in {l : Lak} {ns : List Rng} (hok : LOk l) (hn : NetOk ns) {h : Nat} {x : Aft} (hx : (aftL l ns)[h]? = some x) :
    Gr (fun v => ∃ s, l.soft.1 ≤ s ∧ s ≤ l.soft.2 ∧ Brk l ns s h v) x.brk := by
  have hl := lt_of_get hx
  rw [aftL_len] at hl
  have hr := List.getElem?_eq_getElem hl
  have H := now_ok hok hn (h := h) (by omega)
  obtain ⟨r, hr'⟩ : ∃ r, ns[h]? = some r := ⟨_, hr⟩
  clear hr
  rw [aftL_get hr'] at hx
  cases hx
  have hrr := hn h r hr'
  have hw := hok.weakV
  have P1 : Gr (fun t => (h : Int) < l.soft.2 ∧ ∃ v m, InR (nowAt l ns h).1 v ∧ InR r m ∧ t = max 0 (v + m) ∧ bdK l false ≤ t) (if (h : Int) < l.soft.2 then stepR (bdK l false) (nowAt l ns h).1 r else (noneR, -1)).2 := by
    split
    · rename_i hc
      exact (step_brk H.g1 hrr (by simp only [bdK]; simp; omega)).congr fun v => ⟨fun h => ⟨hc, h⟩, fun h => h.2⟩
    · rename_i hc
      exact .inl ⟨rfl, fun v h => hc h.1⟩
  have P2 : Gr (fun t => (l.soft.1 ≤ (h : Int) ∧ (h : Int) ≤ l.soft.2) ∧ ∃ v m, InR (nowAt l ns h).1 v ∧ InR r m ∧ t = max 0 (v + m) ∧ bdK l true ≤ t) (if inB h l.soft.1 l.soft.2 then stepR (bdK l true) (nowAt l ns h).1 r else (noneR, -1)).2 := by
    split
    · rename_i hc
      exact (step_brk H.g1 hrr (by simp only [bdK]; simp; omega)).congr fun v => ⟨fun h => ⟨inB_iff.1 hc, h⟩, fun h => h.2⟩
    · rename_i hc
      exact .inl ⟨rfl, fun v h => hc (inB_iff.2 h.1)⟩
  have P3 := step_brk (bd := bdK l true) H.g2 hrr (by simp only [bdK]; simp; omega)
  refine (((Gr.nil.both P1).both P2).both P3).congr fun t => ?_
  constructor
  · rintro (((h0 | ⟨hc, v, m, h1, h2, h3, h4⟩) | ⟨hc, v, m, h1, h2, h3, h4⟩) | ⟨v, m, h1, h2, h3, h4⟩)
    · exact h0.elim
    · obtain ⟨s, s1, s2, s3, s4⟩ := (H.i1 v).1 h1
      refine ⟨l.soft.2, hok.soft.2.1, Int.le_refl _, v, m, r, Rch_hard s3 (by omega) s4, hr', h2.1, h2.2, h3, ?_⟩
      rw [decide_eq_false (by omega)]; exact h4
    · obtain ⟨s, s1, s2, s3, s4⟩ := (H.i1 v).1 h1
      refine ⟨h, hc.1, hc.2, v, m, r, Rch_hard s3 (Int.le_refl _) s4, hr', h2.1, h2.2, h3, ?_⟩
      rw [decide_eq_true (Int.le_refl _)]; exact h4
    · obtain ⟨s, s1, s2, s3, s4⟩ := (H.i2 v).1 h1
      refine ⟨s, s1, s2, v, m, r, s4, hr', h2.1, h2.2, h3, ?_⟩
      rw [decide_eq_true (by omega)]; exact h4
  · rintro ⟨s, s1, s2, v, m, r', k1, k2, k3, k4, k5, k6⟩
    rw [hr'] at k2; cases k2
    rcases Int.lt_trichotomy s (h : Int) with hs | hs | hs
    · rw [decide_eq_true (by omega)] at k6
      exact .inr ⟨v, m, (H.i2 v).2 ⟨s, s1, s2, hs, k1⟩, ⟨k3, k4⟩, k5, k6⟩
    · rw [decide_eq_true (by omega)] at k6
      exact .inl (.inr ⟨by omega, v, m, (H.i1 v).2 ⟨s, s1, s2, by omega, k1⟩, ⟨k3, k4⟩, k5, k6⟩)
    · rw [decide_eq_false (by omega)] at k6
      exact .inl (.inl (.inr ⟨by omega, v, m, (H.i1 v).2 ⟨s, s1, s2, by omega, k1⟩, ⟨k3, k4⟩, k5, k6⟩))
end Go.Proofs.Ytpijmfbpdglchaa

namespace Go.Proofs.Ytpijmfbpdglchaa

/-- the first number below n that is right, -1 if there is none -/
def firstN (p : Nat → Bool) : Nat → Int
  | 0 => -1
  | n + 1 => if 0 ≤ firstN p n then firstN p n else if p n then (n : Int) else -1
theorem firstN_cases (p : Nat → Bool) : ∀ n, (firstN p n = -1 ∧ ∀ j, j < n → p j = false) ∨ ∃ k : Nat, k < n ∧ firstN p n = (k : Int) ∧ p k = true ∧ ∀ j, j < k → p j = false
  | 0 => .inl ⟨rfl, fun j h => absurd h (by omega)⟩
  | n + 1 => by
    rcases firstN_cases p n with ⟨h1, h2⟩ | ⟨k, h1, h2, h3, h4⟩
    · cases hp : p n
      · exact .inl ⟨by simp [firstN, h1, hp], fun j hj => by
          rcases Nat.lt_or_ge j n with h | h
          · exact h2 j h
          · obtain rfl : j = n := by omega
            exact hp⟩
      · exact .inr ⟨n, by omega, by simp [firstN, h1, hp], hp, h2⟩
    · exact .inr ⟨k, by omega, by rw [firstN, if_pos (by omega), h2], h3, h4⟩
theorem firstN_at {p : Nat → Bool} {n k : Nat} (hk : k < n) (hp : p k = true) (h : ∀ j, j < k → p j = false) : firstN p n = (k : Int) := by
  rcases firstN_cases p n with ⟨_, h2⟩ | ⟨k', h1, h2, h3, h4⟩
  · rw [h2 k hk] at hp; cases hp
  · rw [h2]
    rcases Nat.lt_trichotomy k k' with h5 | h5 | h5
    · rw [h4 k h5] at hp; cases hp
    · rw [h5]
    · rw [h k' h5] at h3; cases h3
theorem firstN_none {p : Nat → Bool} {n : Nat} (h : ∀ j, j < n → p j = false) : firstN p n = -1 := by
  rcases firstN_cases p n with ⟨h1, _⟩ | ⟨k', h1, h2, h3, h4⟩
  · exact h1
  · rw [h k' h1] at h3; cases h3
theorem firstN_lt (p : Nat → Bool) (n : Nat) : -1 ≤ firstN p n ∧ firstN p n < (n : Int) := by
  rcases firstN_cases p n with ⟨h1, _⟩ | ⟨k', h1, h2, h3, h4⟩ <;> omega
theorem firstN_congr {p q : Nat → Bool} : ∀ {n : Nat}, (∀ j, j < n → p j = q j) → firstN p n = firstN q n
  | 0, _ => rfl
  | n + 1, h => by
    simp only [firstN]
    rw [firstN_congr (p := p) (q := q) fun j hj => h j (by omega), h n (by omega)]
/-- the first one of a list -/
def firstL {α : Type} (p : α → Bool) (l : List α) : Int := firstN (fun h => match l[h]? with | some x => p x | none => false) l.length
theorem firstL_cases {α : Type} (p : α → Bool) (l : List α) : (firstL p l = -1 ∧ ∀ (j : Nat) (x : α), l[j]? = some x → p x = false) ∨ ∃ (k : Nat) (x : α), l[k]? = some x ∧ firstL p l = (k : Int) ∧ p x = true ∧ ∀ (j : Nat) (y : α), j < k → l[j]? = some y → p y = false := by
  rcases firstN_cases (fun h => match l[h]? with | some x => p x | none => false) l.length with ⟨h1, h2⟩ | ⟨k, h1, h2, h3, h4⟩
  · exact .inl ⟨h1, fun j x hx => by have := h2 j (lt_of_get hx); rw [hx] at this; exact this⟩
  · have hx := List.getElem?_eq_getElem h1
    refine .inr ⟨k, _, hx, h2, by rw [hx] at h3; exact h3, fun j y hj hy => by have := h4 j hj; rw [hy] at this; exact this⟩
theorem firstL_at {α : Type} {p : α → Bool} {l : List α} {k : Nat} {x : α} (hx : l[k]? = some x) (hp : p x = true) (h : ∀ (j : Nat) (y : α), j < k → l[j]? = some y → p y = false) : firstL p l = (k : Int) := by
  refine firstN_at (lt_of_get hx) (by simp only [hx]; exact hp) fun j hj => ?_
  have hy := List.getElem?_eq_getElem (show j < l.length by have := lt_of_get hx; omega)
  simp only [hy]; exact h j _ hj hy
theorem firstL_none {α : Type} {p : α → Bool} {l : List α} (h : ∀ (j : Nat) (y : α), l[j]? = some y → p y = false) : firstL p l = -1 := by
  refine firstN_none fun j hj => ?_
  have hy := List.getElem?_eq_getElem hj
  simp only [hy]; exact h j _ hy

theorem firstL_lt {α : Type} (p : α → Bool) (l : List α) : -1 ≤ firstL p l ∧ firstL p l < (l.length : Int) := firstN_lt _ _
/-- the hours of the break -/
def brkF (L : List Aft) : Int := firstL (fun x => decide (0 ≤ x.brk)) L
def brkE (L : List Aft) : Int := firstL (fun x => decide (x.hard = noneR) && decide (x.soft = noneR)) L
/-- the greatest level whose volume is at most some volume, of the first k -/
def levTo (vs : List Int) (v : Int) : Nat → Int
  | 0 => 0
  | k + 1 => match vs[k]? with | some x => if x ≤ v then (k : Int) else levTo vs v k | none => levTo vs v k
def levOf (vs : List Int) (v : Int) : Int := levTo vs v vs.length
/-- a state: does the dam hold, least and greatest volume, level -/
structure Stt where
  holds : Bool
  lo : Int
  hi : Int
  lev : Int
  deriving DecidableEq
def encT (x : Stt) : List Value := [.bool x.holds, .int .i64 x.lo, .int .i64 x.hi, .int .i64 x.lev]
theorem encT_len (x : Stt) : (encT x).length = 4 := rfl
def sttOf (vs : List Int) (x : Aft) : Stt := if joinR x.hard x.soft = noneR then ⟨false, 0, 0, 0⟩ else ⟨true, (joinR x.hard x.soft).1, (joinR x.hard x.soft).2, levOf vs (joinR x.hard x.soft).2⟩

/-- A Real. -/
structure Rel where
  inflow : List Int
  seep : List Int
  start : Int
  soft : Int
/-- is everything in a Real of its range? -/
def fitsB (l : Lak) (x : Rel) : Bool :=
  decide (x.inflow.length = l.inflow.length) && (decide (x.seep.length = l.inflow.length) && (allB (fun s => inB s l.seep.1 l.seep.2) x.seep &&
    (allB (fun p : Rng × Int => inB p.2 p.1.1 p.1.2) (l.inflow.zip x.inflow) && (inB x.start l.start.1 l.start.2 && inB x.soft l.soft.1 l.soft.2))))
structure Fits (l : Lak) (x : Rel) : Prop where
  n : x.inflow.length = l.inflow.length
  m : x.seep.length = l.inflow.length
  seep : ∀ (h : Nat) (s : Int), x.seep[h]? = some s → l.seep.1 ≤ s ∧ s ≤ l.seep.2
  inflow : ∀ (h : Nat) (r : Rng) (i : Int), l.inflow[h]? = some r → x.inflow[h]? = some i → r.1 ≤ i ∧ i ≤ r.2
  start : l.start.1 ≤ x.start ∧ x.start ≤ l.start.2
  soft : l.soft.1 ≤ x.soft ∧ x.soft ≤ l.soft.2
theorem fitsB_iff {l : Lak} {x : Rel} : fitsB l x = true ↔ Fits l x := by
  simp only [fitsB, Bool.and_eq_true, decide_eq_true_eq, allB_iff, inB_iff]
  constructor
  · rintro ⟨h1, h2, h3, h4, h5, h6⟩
    exact ⟨h1, h2, h3, fun h r i hr hi => h4 h (r, i) (by rw [List.getElem?_zip_eq_some]; exact ⟨hr, hi⟩), h5, h6⟩
  · rintro ⟨h1, h2, h3, h4, h5, h6⟩
    exact ⟨h1, h2, h3, fun h p hp => by rw [List.getElem?_zip_eq_some] at hp; exact h4 h _ _ hp.1 hp.2, h5, h6⟩
/-- the volume before an hour -/
def vAt (ws : List Wrk) (c : List Int) (x : Rel) : Nat → Int
  | 0 => x.start
  | h + 1 => max 0 (vAt ws c x h + atI x.inflow h - atI x.seep h - outAt ws c h)
/-- does the dam break in an hour? -/
def brkB (l : Lak) (ws : List Wrk) (c : List Int) (x : Rel) (h : Nat) : Bool := decide (bdK l (decide (x.soft ≤ (h : Int))) ≤ vAt ws c x (h + 1))
/-- the hour of the break, or -1; the volumes -/
def fillB (l : Lak) (ws : List Wrk) (c : List Int) (x : Rel) : Int := firstN (brkB l ws c x) l.inflow.length
def volsTo (ws : List Wrk) (c : List Int) (x : Rel) (n : Nat) : List Int := (List.range n).map fun h => vAt ws c x (h + 1)
def fillN (l : Lak) (ws : List Wrk) (c : List Int) (x : Rel) : Nat := if 0 ≤ fillB l ws c x then (fillB l ws c x).toNat + 1 else l.inflow.length
def fillV (l : Lak) (ws : List Wrk) (c : List Int) (x : Rel) : List Int := volsTo ws c x (fillN l ws c x)
theorem volsTo_len (ws : List Wrk) (c : List Int) (x : Rel) (n : Nat) : (volsTo ws c x n).length = n := by simp [volsTo]
theorem volsTo_succ (ws : List Wrk) (c : List Int) (x : Rel) (n : Nat) : volsTo ws c x (n + 1) = volsTo ws c x n ++ [vAt ws c x (n + 1)] := by simp [volsTo, List.range_succ]
theorem volsTo_get {ws : List Wrk} {c : List Int} {x : Rel} {n h : Nat} (hh : h < n) : (volsTo ws c x n)[h]? = some (vAt ws c x (h + 1)) := by simp [volsTo, List.getElem?_range hh]
theorem netOk {l : Lak} (hok : LOk l) (ws : List Wrk) (c : List Int) : NetOk (netL l ws c) := by
  intro h r hr
  have hl := lt_of_get hr
  rw [netL_len] at hl
  have hx := List.getElem?_eq_getElem hl
  rw [netL_get hx] at hr
  cases hr
  have := hok.inflow h _ hx
  have := hok.seep
  simp only; omega
section
variable {l : Lak} {ws : List Wrk} {c : List Int} {x : Rel}
/-- the volumes of a Real are reached -/
theorem fill_reach (hf : Fits l x) : ∀ h, h ≤ l.inflow.length → (∀ j, j < h → brkB l ws c x j = false) → Rch l (netL l ws c) x.soft h (vAt ws c x h)
  | 0, _, _ => hf.start
  | h + 1, hh, hn => by
    have ih := fill_reach hf h (by omega) fun j hj => hn j (by omega)
    have hr := List.getElem?_eq_getElem (show h < l.inflow.length by omega)
    have hi := List.getElem?_eq_getElem (show h < x.inflow.length by rw [hf.n]; omega)
    have hs := List.getElem?_eq_getElem (show h < x.seep.length by rw [hf.m]; omega)
    have h1 := hf.inflow h _ _ hr hi
    have h2 := hf.seep h _ hs
    have h3 := hn h (by omega)
    refine ⟨vAt ws c x h, atI x.inflow h - atI x.seep h - outAt ws c h, _, ih, netL_get hr, ?_, ?_, ?_, ?_⟩
    · rw [atI_get hi, atI_get hs]; simp only; omega
    · rw [atI_get hi, atI_get hs]; simp only; omega
    · simp only [vAt]; congr 1; omega
    · simpa [brkB] using h3
theorem fill_break (hf : Fits l x) {h : Nat} (hh : h < l.inflow.length) (hn : ∀ j, j < h → brkB l ws c x j = false) (hb : brkB l ws c x h = true) : Brk l (netL l ws c) x.soft h (vAt ws c x (h + 1)) := by
  have ih := fill_reach (ws := ws) (c := c) hf h (by omega) hn
  have hr := List.getElem?_eq_getElem hh
  have hi := List.getElem?_eq_getElem (show h < x.inflow.length by rw [hf.n]; omega)
  have hs := List.getElem?_eq_getElem (show h < x.seep.length by rw [hf.m]; omega)
  have h1 := hf.inflow h _ _ hr hi
  have h2 := hf.seep h _ hs
  refine ⟨vAt ws c x h, atI x.inflow h - atI x.seep h - outAt ws c h, _, ih, netL_get hr, ?_, ?_, ?_, ?_⟩
  · rw [atI_get hi, atI_get hs]; simp only; omega
  · rw [atI_get hi, atI_get hs]; simp only; omega
  · simp only [vAt]; congr 1; omega
  · simpa [brkB] using hb
theorem vAt_pos (hf : Fits l x) (hok : LOk l) : ∀ h, 0 ≤ vAt ws c x h
  | 0 => by have := hf.start; have := hok.start; simp only [vAt]; omega
  | h + 1 => by simp only [vAt]; omega
theorem aft_at (l : Lak) (ws : List Wrk) (c : List Int) {h : Nat} (hh : h < l.inflow.length) : ∃ a, (aftL l (netL l ws c))[h]? = some a := ⟨_, List.getElem?_eq_getElem (by rw [aftL_len, netL_len]; exact hh)⟩
theorem join_noneR {x : Aft} (h1 : GoodR x.hard) (h2 : GoodR x.soft) : joinR x.hard x.soft = noneR ↔ x.hard = noneR ∧ x.soft = noneR := join_none h1 h2
theorem aft_good {ns : List Rng} (hok : LOk l) (hn : NetOk ns) {h : Nat} {x : Aft} (hx : (aftL l ns)[h]? = some x) : GoodR x.hard ∧ GoodR x.soft := by
  have hl := lt_of_get hx
  rw [aftL_len] at hl
  have H := now_ok hok hn (h := h + 1) hl
  have e := nowAt_succ hx
  have g1 := H.g1; have g2 := H.g2
  rw [e] at g1 g2
  exact ⟨g1, g2⟩
/-- while the dam holds, the volume is in the range of the hour -/
theorem held_in (hok : LOk l) (hf : Fits l x) {h : Nat} (hh : h < l.inflow.length) (hn : ∀ j, j ≤ h → brkB l ws c x j = false) {a : Aft} (ha : (aftL l (netL l ws c))[h]? = some a) :
    joinR a.hard a.soft ≠ noneR ∧ InR (joinR a.hard a.soft) (vAt ws c x (h + 1)) := by
  have hr := fill_reach (ws := ws) (c := c) hf (h + 1) (by omega) fun j hj => hn j (by omega)
  have := (all_in hok (netOk hok ws c) ha).2 (vAt ws c x (h + 1))
  have hin := this.2 ⟨x.soft, hf.soft.1, hf.soft.2, hr⟩
  exact ⟨fun e => none_in (e ▸ hin), hin⟩
theorem held_stt (hok : LOk l) (hf : Fits l x) {h : Nat} (hh : h < l.inflow.length) (hn : ∀ j, j ≤ h → brkB l ws c x j = false) {a : Aft} (ha : (aftL l (netL l ws c))[h]? = some a) :
    (sttOf l.vols a).holds = true ∧ (sttOf l.vols a).lo ≤ vAt ws c x (h + 1) ∧ vAt ws c x (h + 1) ≤ (sttOf l.vols a).hi ∧ (sttOf l.vols a).lev = levOf l.vols (sttOf l.vols a).hi := by
  have := held_in hok hf hh hn ha
  unfold sttOf
  rw [if_neg this.1]
  exact ⟨rfl, this.2.1, this.2.2, rfl⟩
/-- the dam breaks with at most the greatest volume of the hour -/
theorem break_le (hok : LOk l) (hf : Fits l x) {h : Nat} (hh : h < l.inflow.length) (hn : ∀ j, j < h → brkB l ws c x j = false) (hb : brkB l ws c x h = true) {a : Aft} (ha : (aftL l (netL l ws c))[h]? = some a) :
    0 < a.brk ∧ vAt ws c x (h + 1) ≤ a.brk := by
  have h1 := fill_break hf hh hn hb
  rcases brk_in hok (netOk hok ws c) ha with ⟨_, h2⟩ | ⟨h2, _, h3⟩
  · exact absurd ⟨x.soft, hf.soft.1, hf.soft.2, h1⟩ (h2 _)
  · exact ⟨h2, h3 _ ⟨x.soft, hf.soft.1, hf.soft.2, h1⟩⟩
theorem brkF_le (hok : LOk l) (hf : Fits l x) {h : Nat} (hh : h < l.inflow.length) (hn : ∀ j, j < h → brkB l ws c x j = false) (hb : brkB l ws c x h = true) : 0 ≤ brkF (aftL l (netL l ws c)) ∧ brkF (aftL l (netL l ws c)) ≤ (h : Int) := by
  obtain ⟨a, ha⟩ := aft_at l ws c hh
  have h1 := break_le hok hf hh hn hb ha
  rcases firstL_cases (fun x : Aft => decide (0 ≤ x.brk)) (aftL l (netL l ws c)) with ⟨_, h2⟩ | ⟨k, y, h2, h3, h4, h5⟩
  · have := h2 h a ha
    simp at this; omega
  · unfold brkF
    rw [h3]
    refine ⟨by omega, ?_⟩
    rcases Nat.lt_or_ge h k with h6 | h6
    · have := h5 h a h6 ha
      simp at this; omega
    · omega
theorem brkE_ge (hok : LOk l) (hf : Fits l x) {h : Nat} (hh : h ≤ l.inflow.length) (hn : ∀ j, j < h → brkB l ws c x j = false) : brkE (aftL l (netL l ws c)) = -1 ∨ (h : Int) ≤ brkE (aftL l (netL l ws c)) := by
  rcases firstL_cases (fun x : Aft => decide (x.hard = noneR) && decide (x.soft = noneR)) (aftL l (netL l ws c)) with ⟨h1, _⟩ | ⟨k, y, h2, h3, h4, h5⟩
  · exact .inl h1
  · right
    unfold brkE
    rw [h3]
    rcases Nat.lt_or_ge k h with h6 | h6
    · exfalso
      have := held_in hok hf (ws := ws) (c := c) (h := k) (by omega) (fun j hj => hn j (by omega)) h2
      simp at h4
      exact this.1 (by rw [h4.1, h4.2]; rfl)
    · omega
theorem brkE_lt : brkE (aftL l (netL l ws c)) < (l.inflow.length : Int) := by
  rcases firstL_cases (fun x : Aft => decide (x.hard = noneR) && decide (x.soft = noneR)) (aftL l (netL l ws c)) with ⟨h1, _⟩ | ⟨k, y, h2, h3, h4, h5⟩
  · unfold brkE; omega
  · have := lt_of_get h2
    rw [aftL_len, netL_len] at this
    unfold brkE; omega
end
end Go.Proofs.Ytpijmfbpdglchaa

namespace Go.Proofs.Ytpijmfbpdglchaa

/-- all choices that go on from one with works behind the first n - k ones, but for itself -/
def restC (n : Nat) : Nat → List Int → List (List Int)
  | 0, _ => []
  | k + 1, c => (c ++ [((n - (k + 1) : Nat) : Int)]) :: (restC n k (c ++ [((n - (k + 1) : Nat) : Int)]) ++ restC n k c)
def treeC (n k : Nat) (c : List Int) : List (List Int) := c :: restC n k c
theorem restC_len (n : Nat) : ∀ (k : Nat) (c : List Int), (restC n k c).length = 2 ^ k - 1
  | 0, c => rfl
  | k + 1, c => by
    have h1 := restC_len n k (c ++ [((n - (k + 1) : Nat) : Int)])
    have h2 := restC_len n k c
    have h3 : 0 < 2 ^ k := Nat.two_pow_pos k
    simp only [restC, List.length_cons, List.length_append, h1, h2, Nat.pow_succ]
    omega
theorem treeC_len (n k : Nat) (c : List Int) : (treeC n k c).length = 2 ^ k := by
  have h3 : 0 < 2 ^ k := Nat.two_pow_pos k
  simp [treeC, restC_len]; omega
/-- which they are -/
theorem restC_mem (n : Nat) : ∀ (k : Nat) (c : List Int) (x : List Int), k ≤ n → (x ∈ restC n k c ↔ ∃ d, d ≠ [] ∧ x = c ++ d ∧ riseB d = true ∧ ∀ (i : Nat) (y : Int), d[i]? = some y → ((n - k : Nat) : Int) ≤ y ∧ y ≤ (n : Int) - 1)
  | 0, c, x, hk => by
    simp only [restC, List.not_mem_nil, false_iff]
    rintro ⟨d, h1, h2, h3, h4⟩
    cases d with
    | nil => exact h1 rfl
    | cons y d => have := h4 0 y rfl; omega
  | k + 1, c, x, hk => by
    have ih1 := restC_mem n k (c ++ [((n - (k + 1) : Nat) : Int)]) x (by omega)
    have ih2 := restC_mem n k c x (by omega)
    simp only [restC, List.mem_cons, List.mem_append, ih1, ih2]
    constructor
    · rintro (h | ⟨d, h1, h2, h3, h4⟩ | ⟨d, h1, h2, h3, h4⟩)
      · refine ⟨[((n - (k + 1) : Nat) : Int)], by simp, h, rfl, fun i y hy => ?_⟩
        cases i with
        | zero => simp at hy; omega
        | succ i => simp at hy
      · refine ⟨((n - (k + 1) : Nat) : Int) :: d, by simp, by rw [h2]; simp, ?_, fun i y hy => ?_⟩
        · cases d with
          | nil => exact absurd rfl h1
          | cons y d =>
            have := h4 0 y rfl
            simp only [riseB, Bool.and_eq_true, decide_eq_true_eq]
            exact ⟨by omega, h3⟩
        · cases i with
          | zero => simp at hy; omega
          | succ i => have := h4 i y (by simpa using hy); omega
      · exact ⟨d, h1, h2, h3, fun i y hy => by have := h4 i y hy; omega⟩
    · rintro ⟨d, h1, h2, h3, h4⟩
      cases d with
      | nil => exact absurd rfl h1
      | cons y d =>
        have h0 := h4 0 y rfl
        have hlt : ∀ (i : Nat) (z : Int), d[i]? = some z → y < z := fun i z hz => riseB_lt h3 (i + 1) 0 y z (by omega) rfl (by simpa using hz)
        rcases Int.lt_or_le ((n - (k + 1) : Nat) : Int) y with hy | hy
        · refine .inr (.inr ⟨y :: d, h1, h2, h3, fun i z hz => ⟨?_, (h4 i z hz).2⟩⟩)
          cases i with
          | zero => simp at hz; omega
          | succ i => have := hlt i z (by simpa using hz); omega
        · obtain rfl : y = ((n - (k + 1) : Nat) : Int) := by omega
          cases d with
          | nil => exact .inl h2
          | cons z d =>
            refine .inr (.inl ⟨z :: d, by simp, by rw [h2]; simp, ?_, fun i u hu => ⟨?_, (h4 (i + 1) u (by simpa using hu)).2⟩⟩)
            · simp only [riseB, Bool.and_eq_true] at h3; exact h3.2
            · have := hlt i u hu; omega
theorem treeC_mem {n : Nat} {x : List Int} : x ∈ treeC n n [] ↔ choB n x = true := by
  have h := restC_mem n n [] x (Nat.le_refl _)
  simp only [treeC, List.mem_cons, h, choB, Bool.and_eq_true, allB_iff, inB_iff, List.nil_append, Nat.sub_self]
  constructor
  · rintro (rfl | ⟨d, _, rfl, h3, h4⟩)
    · exact ⟨fun i y hy => by simp at hy, rfl⟩
    · exact ⟨fun i y hy => by have := h4 i y hy; omega, h3⟩
  · rintro ⟨h1, h2⟩
    cases x with
    | nil => exact .inl rfl
    | cons y x => exact .inr ⟨y :: x, by simp, rfl, h2, fun i z hz => by have := h1 i z hz; omega⟩
theorem restC_nodup (n : Nat) : ∀ (k : Nat) (c : List Int), k ≤ n → (restC n k c).Nodup
  | 0, c, _ => List.nodup_nil
  | k + 1, c, hk => by
    have i1 := restC_nodup n k (c ++ [((n - (k + 1) : Nat) : Int)]) (by omega)
    have i2 := restC_nodup n k c (by omega)
    simp only [restC]
    refine List.nodup_cons.2 ⟨fun hm => ?_, List.nodup_append.2 ⟨i1, i2, fun a ha b hb hab => ?_⟩⟩
    · rcases List.mem_append.1 hm with h | h
      · obtain ⟨d, h1, h2, _⟩ := (restC_mem n k _ _ (by omega)).1 h
        exact h1 (by simpa using h2)
      · obtain ⟨d, h1, h2, _, h4⟩ := (restC_mem n k _ _ (by omega)).1 h
        have := List.append_cancel_left h2
        subst this
        have := h4 0 _ rfl
        omega
    · subst hab
      obtain ⟨d, _, h2, _⟩ := (restC_mem n k _ _ (by omega)).1 ha
      obtain ⟨d', _, h2', _, h4⟩ := (restC_mem n k _ _ (by omega)).1 hb
      rw [h2, List.append_assoc] at h2'
      have := List.append_cancel_left h2'
      subst this
      have := h4 0 _ rfl
      omega
theorem treeC_nodup (n : Nat) : (treeC n n []).Nodup := by
  refine List.nodup_cons.2 ⟨fun h => ?_, restC_nodup n n [] (Nat.le_refl _)⟩
  obtain ⟨d, h1, h2, _⟩ := (restC_mem n n _ _ (Nat.le_refl _)).1 h
  exact h1 (by simpa using h2.symm)

/-- the price of the first k works of a choice, and of all -/
def priceTo (ws : List Wrk) (c : List Int) : Nat → Int
  | 0 => 0
  | k + 1 => priceTo ws c k + match c[k]? with | some i => (match ws[i.toNat]? with | some x => x.price | none => 0) | none => 0
def priceC (ws : List Wrk) (c : List Int) : Int := priceTo ws c c.length
theorem priceTo_app (ws : List Wrk) (c d : List Int) : ∀ k, k ≤ c.length → priceTo ws (c ++ d) k = priceTo ws c k
  | 0, _ => rfl
  | k + 1, h => by
    simp only [priceTo]
    rw [priceTo_app ws c d k (by omega), List.getElem?_append_left (by omega)]
theorem priceC_snoc {ws : List Wrk} {c : List Int} {i : Nat} {x : Wrk} (h : ws[i]? = some x) : priceC ws (c ++ [(i : Int)]) = priceC ws c + x.price := by
  simp only [priceC, List.length_append, List.length_cons, List.length_nil, priceTo]
  rw [priceTo_app ws c _ c.length (Nat.le_refl _)]
  simp [h]
theorem priceTo_bd {ws : List Wrk} (hw : WOk ws) (c : List Int) : ∀ k : Nat, 0 ≤ priceTo ws c k ∧ priceTo ws c k ≤ k * 1000000
  | 0 => by simp [priceTo]
  | k + 1 => by
    have ih := priceTo_bd hw c k
    simp only [priceTo]
    split
    · split
      · rename_i x hx
        have := okW_iff.1 (hw.all _ _ hx)
        push_cast; omega
      · push_cast; omega
    · push_cast; omega

/-- the first difference of two lists -/
def cmpL : List Int → List Int → Int
  | [], [] => 0
  | [], _ :: _ => -1
  | _ :: _, [] => 1
  | a :: x, b :: y => if a < b then -1 else if b < a then 1 else cmpL x y
theorem cmpL_self : ∀ x, cmpL x x = 0
  | [] => rfl
  | a :: x => by simp [cmpL, cmpL_self x]
theorem cmpL_eq : ∀ {x y : List Int}, cmpL x y = 0 → x = y
  | [], [], _ => rfl
  | [], _ :: _, h => by simp [cmpL] at h
  | _ :: _, [], h => by simp [cmpL] at h
  | a :: x, b :: y, h => by
    simp only [cmpL] at h
    split at h
    · omega
    · split at h
      · omega
      · rw [cmpL_eq h, show a = b by omega]
theorem cmpL_neg : ∀ (x y : List Int), cmpL y x = - cmpL x y
  | [], [] => rfl
  | [], _ :: _ => rfl
  | _ :: _, [] => rfl
  | a :: x, b :: y => by
    have := cmpL_neg x y
    simp only [cmpL]
    split <;> split <;> first | omega | (split <;> omega) | skip
theorem cmpL_trans : ∀ (x y z : List Int), cmpL x y ≤ 0 → cmpL y z ≤ 0 → cmpL x z ≤ 0
  | [], y, [], _, _ => by simp [cmpL]
  | [], y, _ :: _, _, _ => by simp [cmpL]
  | a :: x, [], z, h, _ => by simp [cmpL] at h
  | a :: x, b :: y, [], _, h => by simp [cmpL] at h
  | a :: x, b :: y, c :: z, h1, h2 => by
    have ih := cmpL_trans x y z
    simp only [cmpL] at h1 h2 ⊢
    split at h1
    · split at h2
      · rw [if_pos (by omega)]; omega
      · split at h2
        · omega
        · rw [if_pos (by omega)]; omega
    · split at h1
      · omega
      · split at h2
        · rw [if_pos (by omega)]; omega
        · split at h2
          · omega
          · rw [if_neg (by omega), if_neg (by omega)]
            exact ih h1 h2
theorem cmpL_bd : ∀ (x y : List Int), -1 ≤ cmpL x y ∧ cmpL x y ≤ 1
  | [], [] => by simp [cmpL]
  | [], _ :: _ => by simp [cmpL]
  | _ :: _, [] => by simp [cmpL]
  | a :: x, b :: y => by
    have := cmpL_bd x y
    simp only [cmpL]
    split
    · omega
    · split <;> omega
def sgn (a b : Int) : Int := if a < b then -1 else if b < a then 1 else 0
theorem sgn_zero {a b : Int} : sgn a b = 0 ↔ a = b := by
  unfold sgn; split
  · omega
  · split <;> omega
/-- a choice compared with another one -/
def cmpC (pa pb : Int) (x y : List Int) : Int := if sgn pa pb ≠ 0 then sgn pa pb else if sgn x.length y.length ≠ 0 then sgn x.length y.length else cmpL x y
/-- is a choice better than another one? -/
def ltC (ws : List Wrk) (x y : List Int) : Bool := decide (cmpC (priceC ws x) (priceC ws y) x y < 0)
theorem sgn_lt {a b : Int} (h : a < b) : sgn a b = -1 := by unfold sgn; rw [if_pos h]
theorem sgn_gt {a b : Int} (h : b < a) : sgn a b = 1 := by unfold sgn; rw [if_neg (by omega), if_pos h]
theorem cmpC_neg {pa pb : Int} {x y : List Int} : cmpC pa pb x y < 0 ↔ pa < pb ∨ (pa = pb ∧ (x.length < y.length ∨ (x.length = y.length ∧ cmpL x y < 0))) := by
  unfold cmpC
  rcases Int.lt_trichotomy pa pb with h | h | h
  · rw [sgn_lt h, if_pos (by omega)]; omega
  · rw [sgn_zero.2 h, if_neg (by omega)]
    rcases Nat.lt_trichotomy x.length y.length with h2 | h2 | h2
    · rw [sgn_lt (by omega), if_pos (by omega)]; omega
    · rw [sgn_zero.2 (by omega), if_neg (by omega)]; omega
    · rw [sgn_gt (by omega), if_pos (by omega)]; omega
  · rw [sgn_gt h, if_pos (by omega)]; omega
theorem ltC_iff {ws : List Wrk} {x y : List Int} : ltC ws x y = true ↔ priceC ws x < priceC ws y ∨ (priceC ws x = priceC ws y ∧ (x.length < y.length ∨ (x.length = y.length ∧ cmpL x y < 0))) := by
  simp only [ltC, decide_eq_true_eq, cmpC_neg]
theorem ltC_not {ws : List Wrk} {x y : List Int} : ltC ws x y = false ↔ priceC ws y < priceC ws x ∨ (priceC ws x = priceC ws y ∧ (y.length < x.length ∨ (x.length = y.length ∧ 0 ≤ cmpL x y))) := by
  rw [← Bool.not_eq_true, ltC_iff]; omega
theorem ltC_irrefl (ws : List Wrk) (x : List Int) : ltC ws x x = false := by
  rw [ltC_not]; exact .inr ⟨rfl, .inr ⟨rfl, by rw [cmpL_self]; omega⟩⟩
theorem ltC_total {ws : List Wrk} {x y : List Int} (h : ltC ws x y = false) (h' : ltC ws y x = false) : x = y := by
  rw [ltC_not] at h h'
  have := cmpL_neg x y
  exact cmpL_eq (by omega)
theorem ltC_ntrans {ws : List Wrk} {x y z : List Int} (h : ltC ws y x = false) (h' : ltC ws z y = false) : ltC ws z x = false := by
  rw [ltC_not] at *
  have h1 := cmpL_trans x y z
  have := cmpL_neg x y; have := cmpL_neg y z; have := cmpL_neg x z
  omega
theorem ltC_trans {ws : List Wrk} {x y z : List Int} (h : ltC ws x y = true) (h' : ltC ws y z = true) : ltC ws x z = true := by
  cases hc : ltC ws x z
  · exfalso
    have h1 : ltC ws y x = false := by
      rw [ltC_iff] at h; rw [ltC_not]; have := cmpL_neg x y; omega
    -- z ≤ x ≤ y, so z ≤ y, against y < z
    have h2 := ltC_ntrans (x := z) (y := x) (z := y) hc h1
    rw [h2] at h'; cases h'
  · rfl

/-- does the dam hold whatever happens? -/
def enB (l : Lak) (ws : List Wrk) (c : List Int) : Bool := (aftL l (netL l ws c)).all fun x => decide (x.brk < 0)
/-- the first of a list that is enough -/
def firstE (l : Lak) (ws : List Wrk) : List (List Int) → Option (List Int)
  | [] => none
  | c :: cs => if enB l ws c then some c else firstE l ws cs
theorem firstE_none {l : Lak} {ws : List Wrk} : ∀ {cs : List (List Int)}, firstE l ws cs = none ↔ ∀ c ∈ cs, enB l ws c = false
  | [] => by simp [firstE]
  | c :: cs => by
    simp only [firstE, List.mem_cons, forall_eq_or_imp]
    cases h : enB l ws c
    · simp [firstE_none (cs := cs)]
    · simp
theorem firstE_some {l : Lak} {ws : List Wrk} {b : List Int} : ∀ {cs : List (List Int)}, List.Pairwise (fun x y => ltC ws y x = false) cs → firstE l ws cs = some b → b ∈ cs ∧ enB l ws b = true ∧ ∀ c ∈ cs, enB l ws c = true → ltC ws c b = false
  | [], _, h => by simp [firstE] at h
  | c :: cs, hp, h => by
    simp only [firstE] at h
    cases he : enB l ws c
    · rw [he] at h
      obtain ⟨h1, h2, h3⟩ := firstE_some (List.pairwise_cons.1 hp).2 (by simpa using h)
      refine ⟨List.mem_cons_of_mem _ h1, h2, fun d hd hde => ?_⟩
      rcases List.mem_cons.1 hd with rfl | hd
      · rw [he] at hde; cases hde
      · exact h3 d hd hde
    · rw [he] at h
      obtain rfl : c = b := by simpa using h
      refine ⟨List.mem_cons_self, he, fun d hd hde => ?_⟩
      rcases List.mem_cons.1 hd with rfl | hd
      · exact ltC_irrefl _ _
      · exact (List.pairwise_cons.1 hp).1 d hd
/-- The cheapest choice that is enough, if there is one. -/
structure Best (l : Lak) (ws : List Wrk) (b : List Int) : Prop where
  cho : choB ws.length b = true
  en : enB l ws b = true
  le : ∀ c, choB ws.length c = true → enB l ws c = true → ltC ws c b = false
theorem Best.uniq {l : Lak} {ws : List Wrk} {b b' : List Int} (h : Best l ws b) (h' : Best l ws b') : b = b' := ltC_total (h'.le b h.cho h.en) (h.le b' h'.cho h'.en)
end Go.Proofs.Ytpijmfbpdglchaa

namespace Go.Proofs.Ytpijmfbpdglchaa

/-- A house; a river; how a wave may come. -/
structure Hou where
  far : Int
  high : Int
  wide : Int
  deriving DecidableEq
def encH (x : Hou) : List Value := [.int .i64 x.far, .int .i64 x.high, .int .i64 x.wide]
theorem encH_len (x : Hou) : (encH x).length = 3 := rfl
structure Riv where
  loss : Int
  pace : Rng
structure Rea where
  may : Bool
  height : Int
  frm : Int
  deriving DecidableEq
def encQ (x : Rea) : List Value := [.bool x.may, .int .i64 x.height, .int .i64 x.frm]
theorem encQ_len (x : Rea) : (encQ x).length = 3 := rfl
def okH (x : Hou) : Bool := inB x.far 0 200 && (inB x.high 0 10000 && inB x.wide 1 10000)
theorem okH_iff {x : Hou} : okH x = true ↔ (0 ≤ x.far ∧ x.far ≤ 200) ∧ (0 ≤ x.high ∧ x.high ≤ 10000) ∧ (1 ≤ x.wide ∧ x.wide ≤ 10000) := by simp [okH, inB_iff]
def okRi (r : Riv) : Bool := inB r.loss 0 1000000 && upB r.pace 60
theorem okRi_iff {r : Riv} : okRi r = true ↔ (0 ≤ r.loss ∧ r.loss ≤ 1000000) ∧ (0 ≤ r.pace.1 ∧ r.pace.1 ≤ r.pace.2 ∧ r.pace.2 ≤ 60) := by simp [okRi, inB_iff, upB_iff]
def errH (r : Riv) (hs : List Hou) : Int := if 20 < hs.length then 3 else if okRi r && allB okH hs then 0 else 1
structure HOk (r : Riv) (hs : List Hou) : Prop where
  n : hs.length ≤ 20
  r : okRi r = true
  h : ∀ (i : Nat) (x : Hou), hs[i]? = some x → okH x = true
theorem errH_zero {r : Riv} {hs : List Hou} : errH r hs = 0 ↔ HOk r hs := by
  unfold errH
  split
  · exact ⟨fun h => by simp at h, fun h => by have := h.n; omega⟩
  · split
    · rename_i h1 h2
      rw [Bool.and_eq_true] at h2
      exact ⟨fun _ => ⟨by omega, h2.1, allB_iff.1 h2.2⟩, fun _ => rfl⟩
    · rename_i h1 h2
      rw [Bool.and_eq_true] at h2
      exact ⟨fun h => by simp at h, fun h => absurd ⟨h.r, allB_iff.2 h.h⟩ h2⟩
/-- the height of a wave at a house -/
def hgt (r : Riv) (x : Hou) (v : Int) : Int := (max 0 (v - r.loss * x.far) + x.wide - 1) / x.wide
theorem hgt_pos {r : Riv} {x : Hou} {v : Int} (h : 1 ≤ x.wide) : 0 ≤ hgt r x v := Int.ediv_nonneg (by omega) (by omega)
theorem hgt_mono {r : Riv} {x : Hou} {v v' : Int} (h : 1 ≤ x.wide) (hv : v ≤ v') : hgt r x v ≤ hgt r x v' := Int.ediv_le_ediv (by omega) (by omega)
theorem hgt_low {r : Riv} {x : Hou} {v : Int} (h : 1 ≤ x.wide) (hv : v - r.loss * x.far ≤ 0) : hgt r x v = 0 := by
  unfold hgt
  rw [show max 0 (v - r.loss * x.far) = 0 by omega]
  exact Int.ediv_eq_zero_of_lt (by omega) (by omega)
theorem hgt_high {r : Riv} {x : Hou} {v : Int} (hv : 0 < v - r.loss * x.far) : hgt r x v = (v - r.loss * x.far + x.wide - 1) / x.wide := by
  unfold hgt
  rw [show max 0 (v - r.loss * x.far) = v - r.loss * x.far by omega]
theorem hgt_bd {r : Riv} {x : Hou} {v : Int} (h : 1 ≤ x.wide) (hr : 0 ≤ r.loss * x.far) (hv : 0 ≤ v) : hgt r x v ≤ v + x.wide := by
  unfold hgt
  refine Int.le_trans (Int.ediv_le_self _ (by omega)) (by omega)
theorem hgt_farther {r : Riv} {x y : Hou} {v : Int} (hl : 0 ≤ r.loss) (hx : 1 ≤ x.wide) (hf : x.far ≤ y.far) (hw : x.wide ≤ y.wide) : hgt r y v ≤ hgt r x v := by
  have h1 : r.loss * x.far ≤ r.loss * y.far := Int.mul_le_mul_of_nonneg_left hf hl
  have h2 : hgt r y v = (max 0 (v - r.loss * y.far) + y.wide - 1) / y.wide := rfl
  -- the least number whose product with the width is not less than what is left
  have h3 := Int.ediv_mul_le (max 0 (v - r.loss * y.far) + y.wide - 1) (b := y.wide) (by omega)
  have h4 : max 0 (v - r.loss * x.far) + x.wide - 1 < (hgt r x v + 1) * x.wide := by
    unfold hgt
    have := Int.lt_ediv_add_one_mul_self (max 0 (v - r.loss * x.far) + x.wide - 1) (show 0 < x.wide by omega)
    exact this
  rw [← h2] at h3
  rcases Int.lt_or_le (hgt r x v) (hgt r y v) with h | h
  · exfalso
    have p0 := hgt_pos (r := r) (v := v) hx
    have q1 : (hgt r x v + 1) * y.wide ≤ hgt r y v * y.wide := Int.mul_le_mul_of_nonneg_right (by omega) (by omega)
    have q2 : hgt r x v * x.wide ≤ hgt r x v * y.wide := Int.mul_le_mul_of_nonneg_left hw p0
    rw [Int.add_mul] at h4 q1
    omega
  · exact h

/-- how a wave comes in the first k hours -/
def rchTo (r : Riv) (x : Hou) (L : List Aft) : Nat → Rea
  | 0 => ⟨false, 0, 0⟩
  | h + 1 => match L[h]? with
    | some a => if a.brk < 0 then rchTo r x L h else
      if x.high < hgt r x a.brk ∧ (rchTo r x L h).may = false then ⟨true, max (rchTo r x L h).height (hgt r x a.brk), 60 * (h : Int) + x.far * r.pace.1⟩ else ⟨(rchTo r x L h).may, max (rchTo r x L h).height (hgt r x a.brk), (rchTo r x L h).frm⟩
    | none => rchTo r x L h
def rchOf (r : Riv) (x : Hou) (L : List Aft) : Rea := rchTo r x L L.length
/-- what is known of it -/
structure RcP (r : Riv) (x : Hou) (L : List Aft) (k : Nat) (y : Rea) : Prop where
  pos : 0 ≤ y.height
  ge : ∀ (h : Nat) (a : Aft), h < k → L[h]? = some a → 0 ≤ a.brk → hgt r x a.brk ≤ y.height
  at_ : y.height = 0 ∨ ∃ (h : Nat) (a : Aft), h < k ∧ L[h]? = some a ∧ 0 ≤ a.brk ∧ y.height = hgt r x a.brk
  may : y.may = true ↔ x.high < y.height
  from_ : y.may = true → ∃ (h : Nat) (a : Aft), h < k ∧ L[h]? = some a ∧ 0 ≤ a.brk ∧ x.high < hgt r x a.brk ∧ y.frm = 60 * (h : Int) + x.far * r.pace.1 ∧ ∀ (j : Nat) (b : Aft), j < h → L[j]? = some b → 0 ≤ b.brk → hgt r x b.brk ≤ x.high
  none_ : y.may = false → y.frm = 0
theorem rchTo_p {r : Riv} {x : Hou} (L : List Aft) (hh : 0 ≤ x.high) : ∀ k, k ≤ L.length → RcP r x L k (rchTo r x L k)
  | 0, _ => by
    refine ⟨Int.le_refl _, fun h a hk => absurd hk (by omega), .inl rfl, ?_, fun h => ?_, fun _ => rfl⟩
    · simp [rchTo]; omega
    · simp [rchTo] at h
  | k + 1, hk => by
    have ih := rchTo_p (r := r) L hh k (by omega)
    have ha := List.getElem?_eq_getElem (show k < L.length by omega)
    obtain ⟨a, ha'⟩ : ∃ a, L[k]? = some a := ⟨_, ha⟩
    clear ha
    have hs : ∀ {h : Nat} {b : Aft}, h < k + 1 → L[h]? = some b → h < k ∨ (h = k ∧ b = a) := fun {h b} h1 h2 => by
      rcases Nat.lt_or_ge h k with h3 | h3
      · exact .inl h3
      · obtain rfl : h = k := by omega
        rw [ha'] at h2; cases h2
        exact .inr ⟨rfl, rfl⟩
    simp only [rchTo, ha']
    obtain ⟨i1, i2, i3, i4, i5, i6⟩ := ih
    by_cases h1 : a.brk < 0
    · rw [if_pos h1]
      refine ⟨i1, fun h b h2 h3 h4 => ?_, ?_, i4, fun h => ?_, i6⟩
      · rcases hs h2 h3 with h5 | ⟨_, rfl⟩
        · exact i2 h b h5 h3 h4
        · omega
      · rcases i3 with h2 | ⟨h, b, h2, h3⟩
        · exact .inl h2
        · exact .inr ⟨h, b, by omega, h3⟩
      · obtain ⟨h, b, h2, h3⟩ := i5 h
        exact ⟨h, b, by omega, h3⟩
    · rw [if_neg h1]
      have ge : ∀ (h : Nat) (b : Aft), h < k + 1 → L[h]? = some b → 0 ≤ b.brk → hgt r x b.brk ≤ max (rchTo r x L k).height (hgt r x a.brk) := fun h b h2 h3 h4 => by
        rcases hs h2 h3 with h5 | ⟨_, rfl⟩
        · have := i2 h b h5 h3 h4; omega
        · omega
      have at_ : max (rchTo r x L k).height (hgt r x a.brk) = 0 ∨ ∃ (h : Nat) (b : Aft), h < k + 1 ∧ L[h]? = some b ∧ 0 ≤ b.brk ∧ max (rchTo r x L k).height (hgt r x a.brk) = hgt r x b.brk := by
        rcases Int.lt_or_le (rchTo r x L k).height (hgt r x a.brk) with h2 | h2
        · exact .inr ⟨k, a, by omega, ha', by omega, by omega⟩
        · rcases i3 with h3 | ⟨h, b, h3, h4, h5, h6⟩
          · exact .inl (by omega)
          · exact .inr ⟨h, b, by omega, h4, h5, by omega⟩
      by_cases h2 : x.high < hgt r x a.brk ∧ (rchTo r x L k).may = false
      · rw [if_pos h2]
        refine ⟨by simp only; omega, ge, at_, ?_, fun _ => ⟨k, a, by omega, ha', by omega, h2.1, rfl, fun j b hj hb hb0 => ?_⟩, fun h => by simp at h⟩
        · simp only [true_iff]; omega
        · have := i2 j b hj hb hb0
          have := mt i4.2 (by rw [h2.2]; simp)
          omega
      · rw [if_neg h2]
        refine ⟨by simp only; omega, ge, at_, ?_, fun h => ?_, i6⟩
        · simp only
          rw [i4]
          constructor
          · intro h; omega
          · intro h
            rcases Int.lt_or_le x.high (hgt r x a.brk) with h3 | h3
            · cases hm : (rchTo r x L k).may
              · exact absurd ⟨h3, hm⟩ h2
              · exact i4.1 hm
            · omega
        · obtain ⟨h, b, h3, h4⟩ := i5 h
          exact ⟨h, b, by omega, h4⟩
theorem rchOf_p {r : Riv} {x : Hou} (L : List Aft) (hh : 0 ≤ x.high) : RcP r x L L.length (rchOf r x L) := rchTo_p L hh _ (Nat.le_refl _)
theorem RcP.uniq {r : Riv} {x : Hou} {L : List Aft} {k : Nat} {y z : Rea} (h : RcP r x L k y) (h' : RcP r x L k z) : y = z := by
  have e : y.height = z.height := by
    have p := h.pos; have p' := h'.pos
    have a1 : y.height ≤ z.height := by
      rcases h.at_ with h1 | ⟨j, a, h1, h2, h3, h4⟩
      · omega
      · have := h'.ge j a h1 h2 h3; omega
    have a2 : z.height ≤ y.height := by
      rcases h'.at_ with h1 | ⟨j, a, h1, h2, h3, h4⟩
      · omega
      · have := h.ge j a h1 h2 h3; omega
    omega
  have e2 : y.may = z.may := by
    have := h.may; have := h'.may
    cases h1 : y.may <;> cases h2 : z.may <;> simp_all <;> omega
  have e3 : y.frm = z.frm := by
    cases h1 : y.may
    · rw [h.none_ h1, h'.none_ (by rw [← e2]; exact h1)]
    · obtain ⟨i, a, a1, a2, a3, a4, a5, a6⟩ := h.from_ h1
      obtain ⟨j, b, b1, b2, b3, b4, b5, b6⟩ := h'.from_ (by rw [← e2]; exact h1)
      rcases Nat.lt_trichotomy i j with h2 | h2 | h2
      · have := b6 i a h2 a2 a3; omega
      · subst h2; rw [a5, b5]
      · have := a6 j b h2 b2 b3; omega
  cases y; cases z; simp_all
section
variable {l : Lak} {ws : List Wrk} {c : List Int} {x : Rel} {r : Riv} {y : Hou}
/-- the wave of a Real -/
theorem wave_below (hok : LOk l) (hf : Fits l x) (hy : okH y = true) {h : Nat} (hh : h < l.inflow.length) (hn : ∀ j, j < h → brkB l ws c x j = false) (hb : brkB l ws c x h = true) {p : Int} (hp : r.pace.1 ≤ p) :
    hgt r y (vAt ws c x (h + 1)) ≤ (rchOf r y (aftL l (netL l ws c))).height ∧ (y.high < hgt r y (vAt ws c x (h + 1)) → (rchOf r y (aftL l (netL l ws c))).may = true ∧ (rchOf r y (aftL l (netL l ws c))).frm ≤ 60 * (h : Int) + y.far * p) := by
  obtain ⟨a, ha⟩ := aft_at l ws c hh
  have h1 := break_le hok hf hh hn hb ha
  have h2 := okH_iff.1 hy
  have h3 := hgt_mono (r := r) h2.2.2.1 h1.2
  have P := rchOf_p (r := r) (x := y) (aftL l (netL l ws c)) h2.2.1.1
  have h4 := P.ge h a (lt_of_get ha) ha (by omega)
  refine ⟨by omega, fun h5 => ?_⟩
  have hm := P.may.2 (by omega)
  refine ⟨hm, ?_⟩
  obtain ⟨j, b, b1, b2, b3, b4, b5, b6⟩ := P.from_ hm
  rcases Nat.lt_or_ge h j with h6 | h6
  · have := b6 h a h6 ha (by omega); omega
  · have : y.far * r.pace.1 ≤ y.far * p := Int.mul_le_mul_of_nonneg_left hp h2.1.1
    omega
theorem wave_other {L : List Aft} {z : Hou} (hy : okH y = true) (hr : okRi r = true) (h1 : y.far ≤ z.far) (h2 : y.high ≤ z.high) (h3 : y.wide ≤ z.wide) :
    (rchOf r z L).height ≤ (rchOf r y L).height ∧ ((rchOf r z L).may = true → (rchOf r y L).may = true ∧ (rchOf r y L).frm ≤ (rchOf r z L).frm) := by
  have hy' := okH_iff.1 hy
  have hr' := okRi_iff.1 hr
  have P := rchOf_p (r := r) (x := y) L hy'.2.1.1
  have Q := rchOf_p (r := r) (x := z) L (by omega)
  have hg : ∀ v, hgt r z v ≤ hgt r y v := fun v => hgt_farther hr'.1.1 hy'.2.2.1 h1 h3
  refine ⟨?_, fun hm => ?_⟩
  · rcases Q.at_ with h4 | ⟨j, a, h4, h5, h6, h7⟩
    · have := P.pos; omega
    · have := P.ge j a h4 h5 h6; have := hg a.brk; omega
  · obtain ⟨j, b, b1, b2, b3, b4, b5, b6⟩ := Q.from_ hm
    have h4 := P.ge j b b1 b2 b3
    have h5 := hg b.brk
    have hm' := P.may.2 (by omega)
    refine ⟨hm', ?_⟩
    obtain ⟨i, a, a1, a2, a3, a4, a5, a6⟩ := P.from_ hm'
    rcases Nat.lt_or_ge j i with h6 | h6
    · have := a6 j b h6 b2 b3; omega
    · have : y.far * r.pace.1 ≤ z.far * r.pace.1 := Int.mul_le_mul_of_nonneg_right h1 hr'.2.1
      omega
end
end Go.Proofs.Ytpijmfbpdglchaa

namespace Go.Proofs.Ytpijmfbpdglchaa

/-- when the first hour of the break is -1, and when it is some hour -/
theorem brkF_spec {l : Lak} {ns : List Rng} (hok : LOk l) (hn : NetOk ns) :
    (brkF (aftL l ns) = -1 ∧ ∀ (h : Nat) (s v : Int), h < ns.length → l.soft.1 ≤ s → s ≤ l.soft.2 → ¬ Brk l ns s h v) ∨
    ∃ k : Nat, k < ns.length ∧ brkF (aftL l ns) = (k : Int) ∧ (∃ s v, l.soft.1 ≤ s ∧ s ≤ l.soft.2 ∧ Brk l ns s k v) ∧ ∀ (h : Nat) (s v : Int), h < k → l.soft.1 ≤ s → s ≤ l.soft.2 → ¬ Brk l ns s h v := by
  rcases firstL_cases (fun x : Aft => decide (0 ≤ x.brk)) (aftL l ns) with ⟨h1, h2⟩ | ⟨k, x, h1, h2, h3, h4⟩
  · refine .inl ⟨h1, fun h s v hh s1 s2 hb => ?_⟩
    have ha := List.getElem?_eq_getElem (show h < (aftL l ns).length by rw [aftL_len]; exact hh)
    have h3 := h2 h _ ha
    rcases brk_in hok hn ha with ⟨_, h4⟩ | ⟨h4, _, _⟩
    · exact h4 v ⟨s, s1, s2, hb⟩
    · simp at h3; omega
  · have hl := lt_of_get h1
    rw [aftL_len] at hl
    refine .inr ⟨k, hl, h2, ?_, fun h s v hh s1 s2 hb => ?_⟩
    · rcases brk_in hok hn h1 with ⟨h5, _⟩ | ⟨_, ⟨s, s1, s2, s3⟩, _⟩
      · rw [h5] at h3; simp at h3
      · exact ⟨s, x.brk, s1, s2, s3⟩
    · have ha := List.getElem?_eq_getElem (show h < (aftL l ns).length by rw [aftL_len]; omega)
      have h5 := h4 h _ hh ha
      rcases brk_in hok hn ha with ⟨_, h6⟩ | ⟨h6, _, _⟩
      · exact h6 v ⟨s, s1, s2, hb⟩
      · simp at h5; omega
theorem enB_iff {l : Lak} {ws : List Wrk} {c : List Int} : enB l ws c = true ↔ brkF (aftL l (netL l ws c)) < 0 := by
  unfold enB
  rw [List.all_eq_true]
  rcases firstL_cases (fun x : Aft => decide (0 ≤ x.brk)) (aftL l (netL l ws c)) with ⟨h1, h2⟩ | ⟨k, x, h1, h2, h3, h4⟩
  · unfold brkF
    rw [h1]
    refine ⟨fun _ => by omega, fun _ x hx => ?_⟩
    obtain ⟨i, hi⟩ := List.getElem?_of_mem hx
    have := h2 i x hi
    simp at this ⊢; omega
  · unfold brkF
    rw [h2]
    refine ⟨fun h => ?_, fun h => by omega⟩
    have := h x (List.mem_of_getElem? h1)
    simp at this h3; omega
theorem enB_not {l : Lak} {ws : List Wrk} {c : List Int} : enB l ws c = false ↔ 0 ≤ brkF (aftL l (netL l ws c)) := by
  rw [← Bool.not_eq_true, enB_iff]; omega
theorem enB_congr {l : Lak} {ws : List Wrk} {c c' : List Int} (h : netL l ws c = netL l ws c') : enB l ws c = enB l ws c' := by unfold enB; rw [h]
theorem netL_congr {l : Lak} {ws : List Wrk} {c c' : List Int} (h : ∀ k : Nat, k < l.inflow.length → outAt ws c k = outAt ws c' k) : netL l ws c = netL l ws c' := by
  refine List.ext_getElem? fun k => ?_
  rcases Nat.lt_or_ge k l.inflow.length with hk | hk
  · have hr := List.getElem?_eq_getElem hk
    rw [netL_get hr, netL_get hr, h k hk]
  · rw [List.getElem?_eq_none (by rw [netL_len]; exact hk), List.getElem?_eq_none (by rw [netL_len]; exact hk)]

/-- nets that are not greater -/
def NetLe (ns' ns : List Rng) : Prop := ns'.length = ns.length ∧ ∀ (h : Nat) (r r' : Rng), ns[h]? = some r → ns'[h]? = some r' → r'.1 ≤ r.1 ∧ r'.2 ≤ r.2
theorem rch_less {l : Lak} {ns ns' : List Rng} (hn : NetOk ns) (hle : NetLe ns' ns) {s : Int} : ∀ {h : Nat} {v' : Int}, Rch l ns' s h v' → (∃ j v, j < h ∧ Brk l ns s j v) ∨ ∃ v, v' ≤ v ∧ Rch l ns s h v
  | 0, v', hr => .inr ⟨v', Int.le_refl _, hr⟩
  | h + 1, v', ⟨u', n', r', h1, h2, h3, h4, h5, h6⟩ => by
    rcases rch_less hn hle h1 with ⟨j, v, hj, hb⟩ | ⟨u, hu, hr⟩
    · exact .inl ⟨j, v, by omega, hb⟩
    · have hl := lt_of_get h2
      rw [hle.1] at hl
      have hg := List.getElem?_eq_getElem hl
      obtain ⟨r, hg'⟩ : ∃ r, ns[h]? = some r := ⟨_, hg⟩
      clear hg
      have k1 := hle.2 h r r' hg' h2
      have k2 := hn h r hg'
      rcases Int.lt_or_le (max 0 (u + max n' r.1)) (bdK l (decide (s ≤ (h : Int)))) with h7 | h7
      · exact .inr ⟨max 0 (u + max n' r.1), by omega, u, max n' r.1, r, hr, hg', by omega, by omega, rfl, h7⟩
      · exact .inl ⟨h, max 0 (u + max n' r.1), by omega, u, max n' r.1, r, hr, hg', by omega, by omega, rfl, h7⟩
theorem brk_less {l : Lak} {ns ns' : List Rng} (hn : NetOk ns) (hle : NetLe ns' ns) {s : Int} {h : Nat} {v' : Int} (hb : Brk l ns' s h v') : ∃ j v, j ≤ h ∧ Brk l ns s j v := by
  obtain ⟨u', n', r', h1, h2, h3, h4, h5, h6⟩ := hb
  rcases rch_less hn hle h1 with ⟨j, v, hj, hb⟩ | ⟨u, hu, hr⟩
  · exact ⟨j, v, by omega, hb⟩
  · have hl := lt_of_get h2
    rw [hle.1] at hl
    have hg := List.getElem?_eq_getElem hl
    obtain ⟨r, hg'⟩ : ∃ r, ns[h]? = some r := ⟨_, hg⟩
    clear hg
    have k1 := hle.2 h r r' hg' h2
    have k2 := hn h r hg'
    exact ⟨h, max 0 (u + max n' r.1), Nat.le_refl _, u, max n' r.1, r, hr, hg', by omega, by omega, rfl, by omega⟩
/-- with nets that are not greater the dam breaks no earlier -/
theorem brkF_less {l : Lak} {ns ns' : List Rng} (hok : LOk l) (hn : NetOk ns) (hn' : NetOk ns') (hle : NetLe ns' ns) :
    (brkF (aftL l ns) = -1 → brkF (aftL l ns') = -1) ∧ (brkF (aftL l ns') = -1 ∨ brkF (aftL l ns) ≤ brkF (aftL l ns')) := by
  rcases brkF_spec hok hn' with ⟨h1, _⟩ | ⟨k, h1, h2, ⟨s, v, s1, s2, s3⟩, _⟩
  · exact ⟨fun _ => h1, .inl h1⟩
  · obtain ⟨j, u, hj, hb⟩ := brk_less hn hle s3
    have hl := hle.1
    rcases brkF_spec hok hn with ⟨_, h4⟩ | ⟨k', h4, h5, _, h7⟩
    · exact absurd hb (h4 j s u (by omega) s1 s2)
    · refine ⟨fun h => by omega, .inr ?_⟩
      rw [h2, h5]
      rcases Nat.lt_or_ge k k' with h8 | h8
      · exact absurd hb (h7 j s u (by omega) s1 s2)
      · omega
/-- another inflow -/
def withI (l : Lak) (I : List Rng) : Lak := ⟨l.vols, l.crest, l.weak, l.soft, l.start, l.seep, I⟩
theorem nowAt_withI (l : Lak) (I : List Rng) (ns : List Rng) : ∀ h, nowAt (withI l I) ns h = nowAt l ns h
  | 0 => rfl
  | h + 1 => by
    simp only [nowAt, nowAt_withI l I ns h]
    rfl
theorem aftL_withI (l : Lak) (I : List Rng) (ns : List Rng) : aftL (withI l I) ns = aftL l ns := by
  unfold aftL
  congr 1
  funext h n
  rw [nowAt_withI]
  rfl
/-- the lake is as good with an inflow as good -/
theorem withI_ok {l : Lak} (h : LOk l) {I : List Rng} (hI : I.length ≤ 60) (hi : ∀ (i : Nat) (r : Rng), I[i]? = some r → 0 ≤ r.1 ∧ r.1 ≤ r.2 ∧ r.2 ≤ 1000000) : LOk (withI l I) :=
  ⟨h.n, hI, h.v0, h.vm, h.crest, h.weak, h.rise, h.soft, h.start, h.seep, hi⟩

/-- a sum over a list -/
def sumL (f : Int → Int) : List Int → Int
  | [] => 0
  | a :: l => f a + sumL f l
theorem sumL_app (f : Int → Int) : ∀ a b, sumL f (a ++ b) = sumL f a + sumL f b
  | [], b => by simp [sumL]
  | x :: a, b => by simp only [List.cons_append, sumL, sumL_app f a b]; omega
theorem outTo_sum (ws : List Wrk) (c : List Int) (h : Int) : ∀ k, outTo ws c h k = sumL (fun i => flowAt ws i h) (c.take k)
  | 0 => rfl
  | k + 1 => by
    simp only [outTo, outTo_sum ws c h k]
    rw [List.take_add_one, sumL_app]
    cases hc : c[k]? <;> simp [sumL]
theorem outAt_sum (ws : List Wrk) (c : List Int) (h : Int) : outAt ws c h = sumL (fun i => flowAt ws i h) c := by rw [outAt, outTo_sum, List.take_length]
theorem sumL_pos {f : Int → Int} (hf : ∀ i, 0 ≤ f i) : ∀ l, 0 ≤ sumL f l
  | [] => Int.le_refl _
  | a :: l => by have := hf a; have := sumL_pos hf l; simp only [sumL]; omega
theorem sumL_sub {f : Int → Int} (hf : ∀ i, 0 ≤ f i) : ∀ {c c' : List Int}, riseB c = true → riseB c' = true → (∀ x ∈ c, x ∈ c') → sumL f c ≤ sumL f c'
  | [], c', _, _, _ => sumL_pos hf c'
  | b :: t, [], _, _, h => absurd (h b List.mem_cons_self) (by simp)
  | b :: t, a :: t', h1, h2, h => by
    have g1 : ∀ x ∈ t, b < x := fun x hx => by
      obtain ⟨i, hi⟩ := List.getElem?_of_mem hx
      exact riseB_lt h1 (i + 1) 0 b x (by omega) rfl (by simpa using hi)
    have g2 : ∀ x ∈ t', a < x := fun x hx => by
      obtain ⟨i, hi⟩ := List.getElem?_of_mem hx
      exact riseB_lt h2 (i + 1) 0 a x (by omega) rfl (by simpa using hi)
    have r1 : riseB t = true := by
      cases t with
      | nil => rfl
      | cons y t => simp only [riseB, Bool.and_eq_true] at h1; exact h1.2
    have r2 : riseB t' = true := by
      cases t' with
      | nil => rfl
      | cons y t => simp only [riseB, Bool.and_eq_true] at h2; exact h2.2
    rcases List.mem_cons.1 (h b List.mem_cons_self) with rfl | hb
    · have := sumL_sub hf r1 r2 fun x hx => by
        rcases List.mem_cons.1 (h x (List.mem_cons_of_mem _ hx)) with rfl | h3
        · have := g1 x hx; omega
        · exact h3
      simp only [sumL]; omega
    · have hab := g2 b hb
      have := sumL_sub hf (c := b :: t) h1 r2 fun x hx => by
        rcases List.mem_cons.1 (h x hx) with rfl | h3
        · rcases List.mem_cons.1 hx with rfl | hx
          · omega
          · have := g1 x hx; omega
        · exact h3
      have := hf a
      simp only [sumL] at *; omega
theorem outAt_sub {ws : List Wrk} (hw : WOk ws) {c c' : List Int} {n n' : Nat} (h1 : choB n c = true) (h2 : choB n' c' = true) (h : ∀ x ∈ c, x ∈ c') (k : Int) : outAt ws c k ≤ outAt ws c' k := by
  rw [outAt_sum, outAt_sum]
  simp only [choB, Bool.and_eq_true] at h1 h2
  exact sumL_sub (fun i => (flowAt_bd hw i k).1) h1.2 h2.2 h
theorem outTo_le {ws ws' : List Wrk} {c : List Int} {h : Int} (hf : ∀ i, flowAt ws i h ≤ flowAt ws' i h) : ∀ k, outTo ws c h k ≤ outTo ws' c h k
  | 0 => Int.le_refl _
  | k + 1 => by
    have ih := outTo_le (c := c) hf k
    simp only [outTo]
    cases hc : c[k]?
    · simp only; omega
    · rename_i i; simp only; have := hf i; omega
/-- more is pumped, or less comes -/
theorem netL_le {l : Lak} {ws ws' : List Wrk} {c c' : List Int} {I : List Rng} (hI : I.length = l.inflow.length) (hi : ∀ (h : Nat) (r r' : Rng), l.inflow[h]? = some r → I[h]? = some r' → r'.1 ≤ r.1 ∧ r'.2 ≤ r.2) (ho : ∀ h : Nat, outAt ws c h ≤ outAt ws' c' h) :
    NetLe (netL (withI l I) ws' c') (netL l ws c) := by
  refine ⟨by rw [netL_len, netL_len]; exact hI, fun h r r' hr hr' => ?_⟩
  have hl := lt_of_get hr
  rw [netL_len] at hl
  have a1 := List.getElem?_eq_getElem hl
  have a2 := List.getElem?_eq_getElem (show h < (withI l I).inflow.length by show h < I.length; omega)
  rw [netL_get a1] at hr; cases hr
  rw [netL_get a2] at hr'; cases hr'
  have := hi h _ _ a1 a2
  have := ho h
  simp only [withI] at *; omega
theorem withI_self (l : Lak) : withI l l.inflow = l := rfl
theorem more_law {l : Lak} {ws ws' : List Wrk} {c c' : List Int} {I : List Rng} (hok : LOk l) (hok' : LOk (withI l I)) (hI : I.length = l.inflow.length) (hi : ∀ (h : Nat) (r r' : Rng), l.inflow[h]? = some r → I[h]? = some r' → r'.1 ≤ r.1 ∧ r'.2 ≤ r.2) (ho : ∀ h : Nat, outAt ws c h ≤ outAt ws' c' h) :
    (brkF (aftL l (netL l ws c)) = -1 → brkF (aftL (withI l I) (netL (withI l I) ws' c')) = -1) ∧ (brkF (aftL (withI l I) (netL (withI l I) ws' c')) = -1 ∨ brkF (aftL l (netL l ws c)) ≤ brkF (aftL (withI l I) (netL (withI l I) ws' c'))) := by
  have h := brkF_less hok (netOk hok ws c) (netOk hok' ws' c') (netL_le hI hi ho)
  rw [aftL_withI]
  exact h
theorem brkF_lt (l : Lak) (ns : List Rng) : -1 ≤ brkF (aftL l ns) ∧ brkF (aftL l ns) < (ns.length : Int) := by
  have := firstL_lt (fun x : Aft => decide (0 ≤ x.brk)) (aftL l ns)
  rw [aftL_len] at this
  exact this
/-- a choice with more works is enough if it was -/
theorem en_sub {l : Lak} {ws : List Wrk} (hok : LOk l) (hw : WOk ws) {c c' : List Int} (h1 : choB ws.length c = true) (h2 : choB ws.length c' = true) (h : ∀ x ∈ c, x ∈ c') (he : enB l ws c = true) : enB l ws c' = true := by
  have hm := (more_law (I := l.inflow) hok hok rfl (fun h r r' a b => by rw [a] at b; cases b; exact ⟨Int.le_refl _, Int.le_refl _⟩) fun k => outAt_sub hw h1 h2 h k).1
  rw [enB_iff] at he ⊢
  have := brkF_lt l (netL l ws c)
  have h4 := hm (by omega)
  rw [withI_self] at h4
  omega
/-- all works -/
def allW (n : Nat) : List Int := (List.range n).map fun (i : Nat) => (i : Int)
theorem allW_get {n i : Nat} (h : i < n) : (allW n)[i]? = some (i : Int) := by simp [allW, List.getElem?_range h]
theorem allW_len (n : Nat) : (allW n).length = n := by simp [allW]
theorem allW_cho (n : Nat) : choB n (allW n) = true := by
  rw [choB_iff]
  constructor
  · intro i x hx
    have hl := lt_of_get hx
    rw [allW_len] at hl
    rw [allW_get hl] at hx; cases hx; omega
  · intro i a b ha hb
    have hl := lt_of_get hb
    rw [allW_len] at hl
    rw [allW_get hl] at hb; rw [allW_get (by omega)] at ha; cases ha; cases hb; omega
theorem allW_mem {n : Nat} {c : List Int} (h : choB n c = true) : ∀ x ∈ c, x ∈ allW n := fun x hx => by
  obtain ⟨i, hi⟩ := List.getElem?_of_mem hx
  have := (choB_iff.1 h).1 i x hi
  exact List.mem_of_getElem? (i := x.toNat) (by rw [allW_get (by omega)]; simp; omega)
theorem en_all {l : Lak} {ws : List Wrk} (hok : LOk l) (hw : WOk ws) {c : List Int} (h1 : choB ws.length c = true) (he : enB l ws c = true) : enB l ws (allW ws.length) = true := en_sub hok hw h1 (allW_cho _) (allW_mem h1) he

/-- the first hours alone -/
theorem nowAt_take (l : Lak) (ns : List Rng) (n : Nat) : ∀ h, h ≤ n → nowAt l (ns.take n) h = nowAt l ns h
  | 0, _ => rfl
  | h + 1, hh => by
    simp only [nowAt, nowAt_take l ns n h (by omega)]
    rw [List.getElem?_take_of_lt (by omega)]
theorem aftL_take (l : Lak) (ns : List Rng) (n : Nat) : aftL l (ns.take n) = (aftL l ns).take n := by
  refine List.ext_getElem? fun k => ?_
  rcases Nat.lt_or_ge k n with hk | hk
  · rw [List.getElem?_take_of_lt hk]
    simp only [aftL, List.getElem?_mapIdx, List.getElem?_take_of_lt hk, nowAt_take l ns n k (by omega)]
  · rw [List.getElem?_eq_none (by rw [aftL_len, List.length_take]; omega), List.getElem?_eq_none (by rw [List.length_take]; omega)]
theorem netL_take (l : Lak) (ws : List Wrk) (c : List Int) (n : Nat) : netL (withI l (l.inflow.take n)) ws c = (netL l ws c).take n := by
  refine List.ext_getElem? fun k => ?_
  rcases Nat.lt_or_ge k n with hk | hk
  · rw [List.getElem?_take_of_lt hk]
    simp only [netL, withI, List.getElem?_mapIdx, List.getElem?_take_of_lt hk]
  · rw [List.getElem?_eq_none (by rw [netL_len]; simp only [withI, List.length_take]; omega), List.getElem?_eq_none (by rw [List.length_take]; omega)]
theorem rain_aft (l : Lak) (ws : List Wrk) (c : List Int) (n : Nat) : aftL (withI l (l.inflow.take n)) (netL (withI l (l.inflow.take n)) ws c) = (aftL l (netL l ws c)).take n := by
  rw [aftL_withI, netL_take, aftL_take]
theorem firstN_take (p : Nat → Bool) {n m : Nat} (h : n ≤ m) : (firstN p n = -1 ∧ (firstN p m = -1 ∨ (n : Int) ≤ firstN p m)) ∨ (0 ≤ firstN p n ∧ firstN p n = firstN p m) := by
  rcases firstN_cases p n with ⟨h1, h2⟩ | ⟨k, h1, h2, h3, h4⟩
  · refine .inl ⟨h1, ?_⟩
    rcases firstN_cases p m with ⟨h3, _⟩ | ⟨k, h3, h4, h5, _⟩
    · exact .inl h3
    · refine .inr ?_
      rw [h4]
      rcases Nat.lt_or_ge k n with h6 | h6
      · rw [h2 k h6] at h5; cases h5
      · omega
  · refine .inr ⟨by omega, ?_⟩
    rw [h2, firstN_at (n := m) (by omega) h3 h4]
theorem firstL_take {α : Type} (p : α → Bool) (L : List α) {n : Nat} (h : n ≤ L.length) : (firstL p (L.take n) = -1 ∧ (firstL p L = -1 ∨ (n : Int) ≤ firstL p L)) ∨ (0 ≤ firstL p (L.take n) ∧ firstL p (L.take n) = firstL p L) := by
  have e : firstL p (L.take n) = firstN (fun h => match L[h]? with | some x => p x | none => false) n := by
    unfold firstL
    rw [List.length_take, Nat.min_eq_left h]
    refine firstN_congr fun j hj => ?_
    rw [List.getElem?_take_of_lt hj]
    (try (cases L[j]? <;> rfl))
  rw [e]
  exact firstN_take _ h
end Go.Proofs.Ytpijmfbpdglchaa

namespace Go.Proofs.Ytpijmfbpdglchaa

/-- is a place of a row set? -/
def rowB (r : List Bool) (v : Nat) : Bool := match r[v]? with | some b => b | none => false
/-- the last set place of the first k, or -1; the first one -/
def lastTo (r : List Bool) : Nat → Int
  | 0 => -1
  | k + 1 => if rowB r k then (k : Int) else lastTo r k
theorem lastTo_cases (r : List Bool) : ∀ k, (lastTo r k = -1 ∧ ∀ j, j < k → rowB r j = false) ∨ ∃ j : Nat, j < k ∧ lastTo r k = (j : Int) ∧ rowB r j = true ∧ ∀ i, j < i → i < k → rowB r i = false
  | 0 => .inl ⟨rfl, fun j h => absurd h (by omega)⟩
  | k + 1 => by
    cases hb : rowB r k
    · rcases lastTo_cases r k with ⟨h1, h2⟩ | ⟨j, h1, h2, h3, h4⟩
      · refine .inl ⟨by simp [lastTo, hb, h1], fun j hj => ?_⟩
        rcases Nat.lt_or_ge j k with h | h
        · exact h2 j h
        · obtain rfl : j = k := by omega
          exact hb
      · refine .inr ⟨j, by omega, by simp [lastTo, hb, h2], h3, fun i h5 h6 => ?_⟩
        rcases Nat.lt_or_ge i k with h | h
        · exact h4 i h5 h
        · obtain rfl : i = k := by omega
          exact hb
    · exact .inr ⟨k, by omega, by simp [lastTo, hb], hb, fun i h5 h6 => by omega⟩
/-- the state of a row of volumes that are held, as the reference finds it in the first k ones -/
def stRow (r : List Bool) (k : Nat) : Bool × Int × Int := (decide (0 ≤ lastTo r k), max 0 (firstN (rowB r) k), max 0 (lastTo r k))
theorem stRow_zero (r : List Bool) : stRow r 0 = (false, 0, 0) := rfl
theorem stRow_set {r : List Bool} {k : Nat} (h : rowB r k = true) : stRow r (k + 1) = (true, if (stRow r k).1 then (stRow r k).2.1 else (k : Int), (k : Int)) := by
  have e1 : (0 : Int) ≤ (k : Int) := by omega
  rcases lastTo_cases r k with ⟨h1, h2⟩ | ⟨j, h1, h2, h3, h4⟩
  · have e2 : firstN (rowB r) k = -1 := firstN_none h2
    simp only [stRow, lastTo, h, if_true, firstN, e2, h1]
    refine Prod.ext (by simp) (Prod.ext ?_ (by simp only; omega))
    simp
  · have e2 : 0 ≤ firstN (rowB r) k := by
      rcases firstN_cases (rowB r) k with ⟨_, h5⟩ | ⟨i, _, h6, _, _⟩
      · rw [h5 j h1] at h3; cases h3
      · omega
    simp only [stRow, lastTo, h, if_true, firstN, if_pos e2, h2]
    refine Prod.ext (by simp) (Prod.ext ?_ (by simp only; omega))
    simp
theorem stRow_not {r : List Bool} {k : Nat} (h : rowB r k = false) : stRow r (k + 1) = stRow r k := by
  simp only [stRow, lastTo, h, firstN]
  simp only [Bool.false_eq_true, if_false]
  refine Prod.ext rfl (Prod.ext ?_ rfl)
  simp only
  have := firstN_lt (rowB r) k
  split <;> omega
section
variable {l : Lak} {ns : List Rng} {ws : List Wrk} {c : List Int}
/-- what is held after an hour, with what it breaks -/
def HeldP (l : Lak) (ns : List Rng) (h : Nat) (v : Int) : Prop := ∃ s, l.soft.1 ≤ s ∧ s ≤ l.soft.2 ∧ Rch l ns s (h + 1) v
def BrokP (l : Lak) (ns : List Rng) (h : Nat) (v : Int) : Prop := ∃ s, l.soft.1 ≤ s ∧ s ≤ l.soft.2 ∧ Brk l ns s h v
/-- a row tells of numbers below m -/
def Tells (r : List Bool) (m : Nat) (P : Int → Prop) : Prop := r.length = m ∧ (∀ v : Nat, rowB r v = true ↔ P (v : Int)) ∧ ∀ v, P v → 0 ≤ v ∧ v < (m : Int)
theorem Tells.held {r : List Bool} {m : Nat} {R : Rng} (h : Tells r m (InR R)) (hg : GoodR R) : stRow r m = if R = noneR then (false, 0, 0) else (true, R.1, R.2) := by
  obtain ⟨_, h2, h3⟩ := h
  split
  · rename_i e
    have hn : ∀ j, j < m → rowB r j = false := fun j _ => by
      cases hb : rowB r j
      · rfl
      · exact absurd (e ▸ (h2 j).1 hb) none_in
    have e1 : firstN (rowB r) m = -1 := firstN_none hn
    have e2 : lastTo r m = -1 := by
      rcases lastTo_cases r m with ⟨h1, _⟩ | ⟨j, h4, _, h5, _⟩
      · exact h1
      · rw [hn j h4] at h5; cases h5
    simp only [stRow, e1, e2]
    rfl
  · rename_i e
    have hb := hg.bd e
    have b1 := h3 R.1 ⟨Int.le_refl _, hb.2⟩
    have b2 := h3 R.2 ⟨hb.2, Int.le_refl _⟩
    have s1 : rowB r R.1.toNat = true := (h2 _).2 (by rw [Int.toNat_of_nonneg hb.1]; exact ⟨Int.le_refl _, hb.2⟩)
    have s2 : rowB r R.2.toNat = true := (h2 _).2 (by rw [Int.toNat_of_nonneg (by omega)]; exact ⟨hb.2, Int.le_refl _⟩)
    have e1 : firstN (rowB r) m = R.1 := by
      rw [firstN_at (k := R.1.toNat) (by omega) s1 fun j hj => ?_]
      · omega
      · cases hx : rowB r j
        · rfl
        · have := ((h2 j).1 hx).1; omega
    have e2 : lastTo r m = R.2 := by
      rcases lastTo_cases r m with ⟨_, h4⟩ | ⟨j, h4, h5, h6, h7⟩
      · rw [h4 R.2.toNat (by omega)] at s2; cases s2
      · rw [h5]
        have q := ((h2 j).1 h6).2
        rcases Nat.lt_or_ge j R.2.toNat with h8 | h8
        · rw [h7 _ h8 (by omega)] at s2; cases s2
        · omega
    simp only [stRow, e1, e2]
    refine Prod.ext (by simp; omega) (Prod.ext (by simp only; omega) (by simp only; omega))
theorem Tells.greatest {r : List Bool} {m : Nat} {P : Int → Prop} {p : Int} (h : Tells r m P) (hp : Gr P p) : lastTo r m = p := by
  obtain ⟨_, h2, h3⟩ := h
  rcases hp with ⟨rfl, hp⟩ | ⟨p0, p1, p2⟩
  · rcases lastTo_cases r m with ⟨h1, _⟩ | ⟨j, h4, _, h5, _⟩
    · exact h1
    · exact absurd ((h2 j).1 h5) (hp _)
  · have b := h3 p p1
    have s1 : rowB r p.toNat = true := (h2 _).2 (by rw [Int.toNat_of_nonneg (by omega)]; exact p1)
    rcases lastTo_cases r m with ⟨_, h4⟩ | ⟨j, h4, h5, h6, h7⟩
    · rw [h4 p.toNat (by omega)] at s1; cases s1
    · rw [h5]
      have q := p2 j ((h2 j).1 h6)
      rcases Nat.lt_or_ge j p.toNat with h8 | h8
      · rw [h7 _ h8 (by omega)] at s1; cases s1
      · omega
theorem Tells.congr {r : List Bool} {m : Nat} {P Q : Int → Prop} (h : Tells r m P) (hpq : ∀ v, P v ↔ Q v) : Tells r m Q := ⟨h.1, fun v => (h.2.1 v).trans (hpq v), fun v hv => h.2.2 v ((hpq v).2 hv)⟩
/-- the state of an hour of the reference -/
theorem held_row (hok : LOk l) (hn : NetOk ns) {h : Nat} {x : Aft} (hx : (aftL l ns)[h]? = some x) {r : List Bool} {m : Nat} (ht : Tells r m (HeldP l ns h)) :
    stRow r m = ((sttOf l.vols x).holds, (sttOf l.vols x).lo, (sttOf l.vols x).hi) ∧ (sttOf l.vols x).lev = if (sttOf l.vols x).holds then levOf l.vols (sttOf l.vols x).hi else 0 := by
  have ha := all_in hok hn hx
  rw [(ht.congr (Q := InR (joinR x.hard x.soft)) fun v => (ha.2 v).symm).held ha.1]
  unfold sttOf
  split <;> simp
theorem brok_row (hok : LOk l) (hn : NetOk ns) {h : Nat} {x : Aft} (hx : (aftL l ns)[h]? = some x) {r : List Bool} {m : Nat} (ht : Tells r m (BrokP l ns h)) : lastTo r m = x.brk := ht.greatest (brk_in hok hn hx)
theorem stt_holds (hok : LOk l) (hn : NetOk ns) {h : Nat} {x : Aft} (hx : (aftL l ns)[h]? = some x) : (!(sttOf l.vols x).holds) = (decide (x.hard = noneR) && decide (x.soft = noneR)) := by
  have hg := aft_good hok hn hx
  have := join_none hg.1 hg.2
  unfold sttOf
  split
  · rename_i h; have := this.1 h; simp [this.1, this.2]
  · rename_i h
    have h' := mt this.2 h
    simp only [Bool.not_true]
    cases hb : (decide (x.hard = noneR) && decide (x.soft = noneR))
    · rfl
    · simp at hb; exact absurd hb h'

/-- the most that comes in the first k hours -/
def mostTo (l : Lak) : Nat → Int
  | 0 => l.start.2 + 1
  | k + 1 => mostTo l k + match l.inflow[k]? with | some r => r.2 | none => 0
theorem mostTo_mono (hok : LOk l) : ∀ k, mostTo l k ≤ mostTo l (k + 1) := fun k => by
  simp only [mostTo]
  split
  · rename_i r hr; have := hok.inflow k r hr; omega
  · omega
theorem mostTo_le (hok : LOk l) {i j : Nat} (h : i ≤ j) : mostTo l i ≤ mostTo l j := by
  induction j with
  | zero => obtain rfl : i = 0 := by omega
            exact Int.le_refl _
  | succ j ih =>
    rcases Nat.lt_or_ge i (j + 1) with h1 | h1
    · have := ih (by omega); have := mostTo_mono hok j; omega
    · obtain rfl : i = j + 1 := by omega
      exact Int.le_refl _
theorem mostTo_pos (hok : LOk l) (k : Nat) : 0 < mostTo l k := by
  have := mostTo_le hok (Nat.zero_le k)
  have h0 : mostTo l 0 = l.start.2 + 1 := rfl
  have := hok.start; omega
theorem reach_bd (hok : LOk l) (hw : WOk ws) (hc : choB ws.length c = true) {s : Int} : ∀ {h : Nat} {v : Int}, Rch l (netL l ws c) s h v → 0 ≤ v ∧ v < mostTo l h
  | 0, v, hr => by
    have h0 : mostTo l 0 = l.start.2 + 1 := rfl
    have := hok.start; have h1 := hr.1; have h2 := hr.2; omega
  | h + 1, v', ⟨v, n, r, h1, h2, h3, h4, h5, h6⟩ => by
    have ih := reach_bd hok hw hc h1
    have hl := lt_of_get h2
    rw [netL_len] at hl
    obtain ⟨q, hg⟩ : ∃ q, l.inflow[h]? = some q := ⟨_, List.getElem?_eq_getElem hl⟩
    rw [netL_get hg] at h2; cases h2
    have := outAt_bd hw hc h
    have := hok.seep
    have := hok.inflow h q hg
    have e : mostTo l (h + 1) = mostTo l h + q.2 := by simp only [mostTo, hg]
    simp only at h4
    omega
theorem brk_bd (hok : LOk l) (hw : WOk ws) (hc : choB ws.length c = true) {s : Int} {h : Nat} {v : Int} (hb : Brk l (netL l ws c) s h v) : 0 ≤ v ∧ v < mostTo l (h + 1) := by
  obtain ⟨u, n, r, h1, h2, h3, h4, h5, h6⟩ := hb
  have ih := reach_bd hok hw hc h1
  have hl := lt_of_get h2
  rw [netL_len] at hl
  obtain ⟨q, hg⟩ : ∃ q, l.inflow[h]? = some q := ⟨_, List.getElem?_eq_getElem hl⟩
  rw [netL_get hg] at h2; cases h2
  have := outAt_bd hw hc h
  have := hok.seep
  have := hok.inflow h q hg
  have e : mostTo l (h + 1) = mostTo l h + q.2 := by simp only [mostTo, hg]
  simp only at h4
  omega
end
/-- what is known of a wave of the hours from k on -/
structure RcR (r : Riv) (x : Hou) (L : List Aft) (k : Nat) (y : Rea) : Prop where
  pos : 0 ≤ y.height
  ge : ∀ (h : Nat) (a : Aft), k ≤ h → L[h]? = some a → 0 ≤ a.brk → hgt r x a.brk ≤ y.height
  at_ : y.height = 0 ∨ ∃ (h : Nat) (a : Aft), k ≤ h ∧ L[h]? = some a ∧ 0 ≤ a.brk ∧ y.height = hgt r x a.brk
  may : y.may = true ↔ x.high < y.height
  from_ : y.may = true → ∃ (h : Nat) (a : Aft), k ≤ h ∧ L[h]? = some a ∧ 0 ≤ a.brk ∧ x.high < hgt r x a.brk ∧ y.frm = 60 * (h : Int) + x.far * r.pace.1 ∧ ∀ (j : Nat) (b : Aft), k ≤ j → j < h → L[j]? = some b → 0 ≤ b.brk → hgt r x b.brk ≤ x.high
  none_ : y.may = false → y.frm = 0
theorem RcR.start (r : Riv) (x : Hou) (L : List Aft) (hh : 0 ≤ x.high) : RcR r x L L.length ⟨false, 0, 0⟩ :=
  ⟨Int.le_refl _, fun h a h1 h2 => absurd (lt_of_get h2) (by omega), .inl rfl, by simp; omega, fun h => by simp at h, fun _ => rfl⟩
theorem RcR.skip {r : Riv} {x : Hou} {L : List Aft} {k : Nat} {y : Rea} (H : RcR r x L (k + 1) y) {a : Aft} (ha : L[k]? = some a) (hb : a.brk < 0) : RcR r x L k y := by
  have hs : ∀ {h : Nat} {b : Aft}, k ≤ h → L[h]? = some b → 0 ≤ b.brk → k + 1 ≤ h := fun {h b} h1 h2 h3 => by
    rcases Nat.lt_or_ge k h with h4 | h4
    · exact h4
    · obtain rfl : h = k := by omega
      rw [ha] at h2; cases h2; omega
  refine ⟨H.pos, fun h b h1 h2 h3 => H.ge h b (hs h1 h2 h3) h2 h3, ?_, H.may, fun hm => ?_, H.none_⟩
  · rcases H.at_ with h | ⟨h, b, h1, h2⟩
    · exact .inl h
    · exact .inr ⟨h, b, by omega, h2⟩
  · obtain ⟨h, b, b1, b2, b3, b4, b5, b6⟩ := H.from_ hm
    exact ⟨h, b, by omega, b2, b3, b4, b5, fun j d d1 d2 d3 d4 => b6 j d (hs d1 d3 d4) d2 d3 d4⟩
theorem RcR.step {r : Riv} {x : Hou} {L : List Aft} {k : Nat} {y : Rea} (H : RcR r x L (k + 1) y) {a : Aft} (ha : L[k]? = some a) (hb : 0 ≤ a.brk) :
    RcR r x L k (if x.high < hgt r x a.brk then ⟨true, max y.height (hgt r x a.brk), 60 * (k : Int) + x.far * r.pace.1⟩ else ⟨y.may, max y.height (hgt r x a.brk), y.frm⟩) := by
  have hs : ∀ {h : Nat} {b : Aft}, k ≤ h → L[h]? = some b → k + 1 ≤ h ∨ (h = k ∧ b = a) := fun {h b} h1 h2 => by
    rcases Nat.lt_or_ge k h with h4 | h4
    · exact .inl h4
    · obtain rfl : h = k := by omega
      rw [ha] at h2; cases h2; exact .inr ⟨rfl, rfl⟩
  have ge : ∀ (h : Nat) (b : Aft), k ≤ h → L[h]? = some b → 0 ≤ b.brk → hgt r x b.brk ≤ max y.height (hgt r x a.brk) := fun h b h1 h2 h3 => by
    rcases hs h1 h2 with h4 | ⟨_, rfl⟩
    · have := H.ge h b h4 h2 h3; omega
    · omega
  have at_ : max y.height (hgt r x a.brk) = 0 ∨ ∃ (h : Nat) (b : Aft), k ≤ h ∧ L[h]? = some b ∧ 0 ≤ b.brk ∧ max y.height (hgt r x a.brk) = hgt r x b.brk := by
    rcases Int.lt_or_le y.height (hgt r x a.brk) with h2 | h2
    · exact .inr ⟨k, a, Nat.le_refl _, ha, hb, by omega⟩
    · rcases H.at_ with h3 | ⟨h, b, h3, h4, h5, h6⟩
      · exact .inl (by omega)
      · exact .inr ⟨h, b, by omega, h4, h5, by omega⟩
  have hp := H.pos
  by_cases h2 : x.high < hgt r x a.brk
  · rw [if_pos h2]
    refine ⟨by simp only; omega, ge, at_, by simp only [true_iff]; omega, fun _ => ⟨k, a, Nat.le_refl _, ha, hb, h2, rfl, fun j b h3 h4 => absurd h3 (by omega)⟩, fun h => by simp at h⟩
  · rw [if_neg h2]
    refine ⟨by simp only; omega, ge, at_, ?_, fun hm => ?_, H.none_⟩
    · simp only; rw [H.may]; omega
    · obtain ⟨h, b, b1, b2, b3, b4, b5, b6⟩ := H.from_ hm
      refine ⟨h, b, by omega, b2, b3, b4, b5, fun j d d1 d2 d3 d4 => ?_⟩
      rcases hs d1 d3 with h5 | ⟨_, rfl⟩
      · exact b6 j d h5 d2 d3 d4
      · omega
theorem RcR.all {r : Riv} {x : Hou} {L : List Aft} {y : Rea} (H : RcR r x L 0 y) (hh : 0 ≤ x.high) : y = rchOf r x L := by
  refine RcP.uniq (k := L.length) ⟨H.pos, fun h a _ h2 h3 => H.ge h a (Nat.zero_le _) h2 h3, ?_, H.may, fun hm => ?_, H.none_⟩ (rchOf_p L hh)
  · rcases H.at_ with h | ⟨h, b, h1, h2, h3⟩
    · exact .inl h
    · exact .inr ⟨h, b, lt_of_get h2, h2, h3⟩
  · obtain ⟨h, b, b1, b2, b3, b4, b5, b6⟩ := H.from_ hm
    exact ⟨h, b, lt_of_get b2, b2, b3, b4, b5, fun j d d1 d2 d3 => b6 j d (Nat.zero_le _) d1 d2 d3⟩
/-- the first of the numbers from k to n that is right, or -1, going down -/
def downN (p : Nat → Bool) (n k : Nat) (r : Int) : Prop := (r = -1 ∧ ∀ j, k ≤ j → j < n → p j = false) ∨ ∃ i : Nat, k ≤ i ∧ i < n ∧ r = (i : Int) ∧ p i = true ∧ ∀ j, k ≤ j → j < i → p j = false
theorem downN_start (p : Nat → Bool) (n : Nat) : downN p n n (-1) := .inl ⟨rfl, fun j h1 h2 => absurd h1 (by omega)⟩
theorem downN_step {p : Nat → Bool} {n k : Nat} {r : Int} (h : downN p n (k + 1) r) (hk : k < n) : downN p n k (if p k then (k : Int) else r) := by
  cases hp : p k
  · simp only [Bool.false_eq_true, if_false]
    have hs : ∀ j, k ≤ j → k + 1 ≤ j ∨ j = k := fun j h => by omega
    rcases h with ⟨h1, h2⟩ | ⟨i, h1, h2, h3, h4, h5⟩
    · refine .inl ⟨h1, fun j h3 h4 => ?_⟩
      rcases hs j h3 with h5 | rfl
      · exact h2 j h5 h4
      · exact hp
    · refine .inr ⟨i, by omega, h2, h3, h4, fun j h6 h7 => ?_⟩
      rcases hs j h6 with h8 | rfl
      · exact h5 j h8 h7
      · exact hp
  · simp only [if_true]
    exact .inr ⟨k, Nat.le_refl _, hk, rfl, hp, fun j h1 h2 => absurd h1 (by omega)⟩
theorem downN_all {p : Nat → Bool} {n : Nat} {r : Int} (h : downN p n 0 r) : r = firstN p n := by
  rcases h with ⟨h1, h2⟩ | ⟨i, h1, h2, h3, h4, h5⟩
  · rw [h1, firstN_none fun j hj => h2 j (Nat.zero_le _) hj]
  · rw [h3, firstN_at h2 h4 fun j hj => h5 j (Nat.zero_le _) hj]
end Go.Proofs.Ytpijmfbpdglchaa

namespace Go.Proofs.Ytpijmfbpdglchaa

theorem bdK_le {l : Lak} (hok : LOk l) : bdK l true ≤ bdK l false := by have := hok.weakV; simp only [bdK]; simp; omega
theorem bdK_pos {l : Lak} (hok : LOk l) (b : Bool) : 0 < bdK l b := by have := hok.weakV; cases b <;> simp only [bdK] <;> simp <;> omega
/-- a dam that is soft later holds what one that is soft earlier holds -/
theorem rch_later {l : Lak} (hok : LOk l) {ns : List Rng} {s s' : Int} (hs : s ≤ s') : ∀ {h : Nat} {v : Int}, Rch l ns s h v → Rch l ns s' h v
  | 0, _, hr => hr
  | h + 1, v', ⟨v, n, r, h1, h2, h3, h4, h5, h6⟩ => by
    refine ⟨v, n, r, rch_later hok hs h1, h2, h3, h4, h5, ?_⟩
    have := bdK_le hok
    by_cases a : s ≤ (h : Int)
    · rw [decide_eq_true a] at h6
      by_cases b : s' ≤ (h : Int)
      · rw [decide_eq_true b]; exact h6
      · rw [decide_eq_false b]; omega
    · rw [decide_eq_false a] at h6
      rw [decide_eq_false (by omega)]; exact h6
/-- what may be after an hour is what the dam that is soft last holds -/
theorem all_last {l : Lak} {ns : List Rng} (hok : LOk l) (hn : NetOk ns) {h : Nat} {x : Aft} (hx : (aftL l ns)[h]? = some x) {v : Int} : InR (joinR x.hard x.soft) v ↔ Rch l ns l.soft.2 (h + 1) v := by
  rw [(all_in hok hn hx).2]
  exact ⟨fun ⟨s, _, s2, hr⟩ => rch_later hok s2 hr, fun hr => ⟨l.soft.2, hok.soft.2.1, Int.le_refl _, hr⟩⟩
/-- least and greatest volume before an hour, of a dam that is soft last -/
def lowAt (l : Lak) (L : List Aft) (h : Nat) : Rng := match h with
  | 0 => l.start
  | h + 1 => match L[h]? with | some x => joinR x.hard x.soft | none => noneR
theorem lowAt_in {l : Lak} {ns : List Rng} (hok : LOk l) (hn : NetOk ns) {h : Nat} (hh : h ≤ ns.length) {v : Int} : InR (lowAt l (aftL l ns) h) v ↔ Rch l ns l.soft.2 h v := by
  cases h with
  | zero => exact Iff.rfl
  | succ h =>
    have hx := List.getElem?_eq_getElem (show h < (aftL l ns).length by rw [aftL_len]; omega)
    obtain ⟨x, hx'⟩ : ∃ x, (aftL l ns)[h]? = some x := ⟨_, hx⟩
    simp only [lowAt, hx']
    exact all_last hok hn hx'
theorem lowAt_good {l : Lak} {ns : List Rng} (hok : LOk l) (hn : NetOk ns) {h : Nat} (hh : h ≤ ns.length) : GoodR (lowAt l (aftL l ns) h) := by
  cases h with
  | zero => exact .inr ⟨hok.start.1, hok.start.2.1⟩
  | succ h =>
    have hx := List.getElem?_eq_getElem (show h < (aftL l ns).length by rw [aftL_len]; omega)
    obtain ⟨x, hx'⟩ : ∃ x, (aftL l ns)[h]? = some x := ⟨_, hx⟩
    simp only [lowAt, hx']
    exact (all_in hok hn hx').1
/-- one step back: from a volume after an hour, to one before it -/
theorem back_step {l : Lak} {ns : List Rng} (hok : LOk l) (hn : NetOk ns) {h : Nat} {r : Rng} (hr : ns[h]? = some r) {v : Int} (hv : Rch l ns l.soft.2 (h + 1) v) :
    lowAt l (aftL l ns) h ≠ noneR ∧ (lowAt l (aftL l ns) h).1 ≤ min (lowAt l (aftL l ns) h).2 (v - r.1) ∧ Rch l ns l.soft.2 h (min (lowAt l (aftL l ns) h).2 (v - r.1)) ∧
    (v ≠ 0 → v - min (lowAt l (aftL l ns) h).2 (v - r.1) ≤ r.2) ∧ r.1 ≤ v - min (lowAt l (aftL l ns) h).2 (v - r.1) ∧ v < bdK l (decide (l.soft.2 ≤ (h : Int))) ∧ 0 ≤ v := by
  have hl := lt_of_get hr
  obtain ⟨u, m, r', h1, h2, h3, h4, h5, h6⟩ := hv
  rw [hr] at h2; cases h2
  have hu := (lowAt_in hok hn (h := h) (by omega)).2 h1
  have hrr := hn h r hr
  have hne : lowAt l (aftL l ns) h ≠ noneR := fun e => none_in (e ▸ hu)
  have hu1 := hu.1; have hu2 := hu.2
  refine ⟨hne, by omega, ?_, fun h0 => by omega, by omega, h6, by omega⟩
  refine (lowAt_in hok hn (h := h) (by omega)).1 ⟨by omega, by omega⟩
/-- volumes that go back from a goal: after the hour h, up to the hour k -/
def Chain (l : Lak) (ws : List Wrk) (c : List Int) (I S : List Int) (h k : Nat) (v goal : Int) : Prop :=
  ∃ u : Nat → Int, u h = v ∧ u (k + 1) = goal ∧ ∀ j, h ≤ j → j ≤ k → u (j + 1) = max 0 (u j + atI I j - atI S j - outAt ws c j) ∧ u (j + 1) < bdK l (decide (l.soft.2 ≤ (j : Int)))
theorem Chain.none (l : Lak) (ws : List Wrk) (c : List Int) (I S : List Int) (k : Nat) (goal : Int) : Chain l ws c I S (k + 1) k goal goal := ⟨fun _ => goal, rfl, rfl, fun j h1 h2 => absurd h1 (by omega)⟩
theorem Chain.step {l : Lak} {ws : List Wrk} {c : List Int} {I S I' S' : List Int} {h k : Nat} {v goal b i s : Int} (hk : h ≤ k) (hc : Chain l ws c I S (h + 1) k v goal) (hI : ∀ j : Nat, h < j → atI I' j = atI I j) (hS : ∀ j : Nat, h < j → atI S' j = atI S j)
    (hi : atI I' h = i) (hs : atI S' h = s) (hv : v = max 0 (b + i - s - outAt ws c h)) (hb : v < bdK l (decide (l.soft.2 ≤ (h : Int)))) : Chain l ws c I' S' h k b goal := by
  obtain ⟨u, h1, h2, h3⟩ := hc
  refine ⟨fun j => if j ≤ h then b else u j, by simp, ?_, fun j h4 h5 => ?_⟩
  · simp only; rw [if_neg (by omega)]; exact h2
  · simp only
    rw [if_neg (show ¬ j + 1 ≤ h by omega)]
    rcases Nat.lt_or_ge h j with h6 | h6
    · rw [if_neg (by omega), hI j h6, hS j h6]
      exact h3 j (by omega) h5
    · obtain rfl : j = h := by omega
      rw [if_pos (Nat.le_refl _), hi, hs, h1, ← hv]
      exact ⟨rfl, hb⟩
/-- a Real that goes by a chain from its start on -/
theorem chain_fill {l : Lak} {ws : List Wrk} {c : List Int} {x : Rel} {k : Nat} {goal : Int} (hx : x.soft = l.soft.2) (h : Chain l ws c x.inflow x.seep 0 k x.start goal) :
    vAt ws c x (k + 1) = goal ∧ ∀ j, j ≤ k → brkB l ws c x j = false := by
  obtain ⟨u, h1, h2, h3⟩ := h
  have e : ∀ j, j ≤ k + 1 → vAt ws c x j = u j := by
    intro j
    induction j with
    | zero => intro _; rw [h1]; rfl
    | succ j ih =>
      intro hj
      rw [(h3 j (by omega) (by omega)).1, ← ih (by omega)]
      rfl
  refine ⟨by rw [e (k + 1) (Nat.le_refl _), h2], fun j hj => ?_⟩
  have := (h3 j (by omega) hj).2
  rw [← e (j + 1) (by omega)] at this
  simp only [brkB, decide_eq_false_iff_not, hx]
  omega

/-- the worst Real -/
def worstX (l : Lak) : Rel := ⟨l.inflow.map (·.2), l.inflow.map fun _ => l.seep.1, l.start.2, l.soft.1⟩
theorem worst_fits {l : Lak} (hok : LOk l) : Fits l (worstX l) := by
  refine ⟨by simp [worstX], by simp [worstX], fun h s hs => ?_, fun h r i hr hi => ?_, ?_, ?_⟩
  · simp only [worstX, List.getElem?_map, Option.map_eq_some_iff] at hs
    obtain ⟨_, _, rfl⟩ := hs
    have := hok.seep; omega
  · simp only [worstX, List.getElem?_map, hr, Option.map_some, Option.some.injEq] at hi
    subst hi
    have := hok.inflow h r hr; omega
  · have := hok.start; simp only [worstX]; omega
  · have := hok.soft; simp only [worstX]; omega
theorem worst_in (l : Lak) {h : Nat} {r : Rng} (hr : l.inflow[h]? = some r) : atI (worstX l).inflow h = r.2 ∧ atI (worstX l).seep h = l.seep.1 := by
  constructor
  · exact atI_get (by simp [worstX, hr])
  · exact atI_get (by simp [worstX, hr])
/-- no volume is greater before the worst Real breaks -/
theorem worst_ge {l : Lak} (hok : LOk l) (ws : List Wrk) (c : List Int) {s : Int} (hs : l.soft.1 ≤ s) : ∀ {h : Nat} {v : Int}, Rch l (netL l ws c) s h v → v ≤ vAt ws c (worstX l) h
  | 0, v, hr => hr.2
  | h + 1, v', ⟨v, n, r, h1, h2, h3, h4, h5, _⟩ => by
    have ih := worst_ge hok ws c hs h1
    have hl := lt_of_get h2
    rw [netL_len] at hl
    have hg := List.getElem?_eq_getElem hl
    rw [netL_get hg] at h2; cases h2
    have := worst_in l hg
    simp only at h4
    simp only [vAt, this.1, this.2]
    omega
theorem worst_first {l : Lak} (hok : LOk l) (ws : List Wrk) (c : List Int) : fillB l ws c (worstX l) = brkF (aftL l (netL l ws c)) := by
  have hn := netOk hok ws c
  have hf := worst_fits hok
  rcases firstN_cases (brkB l ws c (worstX l)) l.inflow.length with ⟨h1, h2⟩ | ⟨k, h1, h2, h3, h4⟩
  · unfold fillB
    rw [h1]
    rcases brkF_spec hok hn with ⟨h3, _⟩ | ⟨k, h3, h4, ⟨s, v, s1, s2, hb⟩, _⟩
    · rw [h3]
    · exfalso
      rw [netL_len] at h3
      have := h2 k h3
      obtain ⟨u, n, r, k1, k2, k3, k4, k5, k6⟩ := hb
      have ge := worst_ge hok ws c s1 k1
      have hg := List.getElem?_eq_getElem h3
      rw [netL_get hg] at k2; cases k2
      have hw := worst_in l hg
      simp only [brkB, decide_eq_false_iff_not, vAt, hw.1, hw.2] at this
      simp only at k4
      have e : bdK l (decide ((worstX l).soft ≤ (k : Int))) ≤ bdK l (decide (s ≤ (k : Int))) := by
        have := bdK_le hok
        show bdK l (decide (l.soft.1 ≤ (k : Int))) ≤ _
        by_cases a : s ≤ (k : Int)
        · rw [decide_eq_true a, decide_eq_true (by omega)]; exact Int.le_refl _
        · rw [decide_eq_false a]
          by_cases b : l.soft.1 ≤ (k : Int)
          · rw [decide_eq_true b]; exact this
          · rw [decide_eq_false b]; exact Int.le_refl _
      omega
  · have hb := fill_break (ws := ws) (c := c) hf h1 h4 h3
    have hle := brkF_le hok hf h1 h4 h3
    unfold fillB
    rw [h2]
    rcases brkF_spec hok hn with ⟨h5, _⟩ | ⟨j, h5, h6, ⟨s, v, s1, s2, hb'⟩, _⟩
    · omega
    · rw [h6] at hle ⊢
      rcases Nat.lt_or_ge j k with h7 | h7
      · exfalso
        have := h4 j h7
        obtain ⟨u, n, r, k1, k2, k3, k4, k5, k6⟩ := hb'
        have ge := worst_ge hok ws c s1 k1
        obtain ⟨q, hg⟩ : ∃ q, l.inflow[j]? = some q := ⟨_, List.getElem?_eq_getElem (show j < l.inflow.length by omega)⟩
        rw [netL_get hg] at k2; cases k2
        have hw := worst_in l hg
        simp only [brkB, decide_eq_false_iff_not, vAt, hw.1, hw.2] at this
        simp only at k4
        have e : bdK l (decide ((worstX l).soft ≤ (j : Int))) ≤ bdK l (decide (s ≤ (j : Int))) := by
          have := bdK_le hok
          show bdK l (decide (l.soft.1 ≤ (j : Int))) ≤ _
          by_cases a : s ≤ (j : Int)
          · rw [decide_eq_true a, decide_eq_true (by omega)]; exact Int.le_refl _
          · rw [decide_eq_false a]
            by_cases b : l.soft.1 ≤ (j : Int)
            · rw [decide_eq_true b]; exact this
            · rw [decide_eq_false b]; exact Int.le_refl _
        omega
      · omega
end Go.Proofs.Ytpijmfbpdglchaa

namespace Go.Proofs.Ytpijmfbpdglchaa
/-- a table with one place set -/
def updB (P : Nat → Bool) (j : Nat) : Nat → Bool := fun i => if i = j then true else P i
theorem updB_iff {P : Nat → Bool} {j i : Nat} : updB P j i = true ↔ P i = true ∨ i = j := by
  unfold updB; split
  · rename_i h; simp [h]
  · rename_i h; simp [h]
def updT (T : Nat → Nat → Bool) (k j : Nat) : Nat → Nat → Bool := fun h => if h = k then updB (T k) j else T h
theorem updT_iff {T : Nat → Nat → Bool} {k j h u : Nat} : updT T k j h u = true ↔ T h u = true ∨ (h = k ∧ u = j) := by
  unfold updT; split
  · rename_i e; subst e; rw [updB_iff]; simp
  · rename_i e; simp [e]
theorem updT_self {T : Nat → Nat → Bool} {k j : Nat} : updT T k j k = updB (T k) j := by simp [updT]
theorem updT_ne {T : Nat → Nat → Bool} {k j h : Nat} (e : h ≠ k) : updT T k j h = T h := by simp [updT, e]
def rowOf (m : Nat) (P : Nat → Bool) : List Bool := (List.range m).map P
theorem rowOf_len (m : Nat) (P : Nat → Bool) : (rowOf m P).length = m := by simp [rowOf]
theorem rowOf_get {m : Nat} {P : Nat → Bool} {j : Nat} (h : j < m) : (rowOf m P)[j]? = some (P j) := by simp [rowOf, List.getElem?_range h]
theorem rowB_of {m : Nat} {P : Nat → Bool} {j : Nat} (h : j < m) : rowB (rowOf m P) j = P j := by simp [rowB, rowOf_get h]
theorem rowB_out {m : Nat} {P : Nat → Bool} {j : Nat} (h : ¬ j < m) : rowB (rowOf m P) j = false := by
  have : (rowOf m P)[j]? = none := List.getElem?_eq_none (by rw [rowOf_len]; omega)
  simp [rowB, this]
section
variable {l : Lak} {ns : List Rng} {s : Int}
/-- volumes of an hour, out of the first volumes before it -/
def FromT (l : Lak) (ns : List Rng) (s : Int) (h : Nat) (r : Rng) (j : Nat) (u : Int) : Prop := ∃ v n : Int, v < (j : Int) ∧ Rch l ns s h v ∧ r.1 ≤ n ∧ n ≤ r.2 ∧ u = max 0 (v + n)
/-- and of the next one with what comes below some number -/
def FromP (l : Lak) (ns : List Rng) (s : Int) (h : Nat) (r : Rng) (j : Nat) (cur : Int) (u : Int) : Prop := FromT l ns s h r j u ∨ ∃ n : Int, r.1 ≤ n ∧ n < cur ∧ u = max 0 ((j : Int) + n)
theorem fromT_zero {h : Nat} {r : Rng} (hp : ∀ v, Rch l ns s h v → 0 ≤ v) (u : Int) : ¬ FromT l ns s h r 0 u := fun ⟨v, n, h1, h2, _⟩ => by have := hp v h2; omega
theorem fromP_start {h : Nat} {r : Rng} {j : Nat} (u : Int) : FromP l ns s h r j r.1 u ↔ FromT l ns s h r j u := ⟨fun hh => hh.elim id fun ⟨n, a, b, _⟩ => by omega, .inl⟩
theorem fromP_step {h : Nat} {r : Rng} {j : Nat} {cur : Int} (hc : r.1 ≤ cur) (u : Int) : FromP l ns s h r j (cur + 1) u ↔ FromP l ns s h r j cur u ∨ u = max 0 ((j : Int) + cur) := by
  constructor
  · rintro (h1 | ⟨n, a, b, c⟩)
    · exact .inl (.inl h1)
    · rcases Int.lt_or_le n cur with h2 | h2
      · exact .inl (.inr ⟨n, a, h2, c⟩)
      · obtain rfl : n = cur := by omega
        exact .inr c
  · rintro ((h1 | ⟨n, a, b, c⟩) | h1)
    · exact .inl h1
    · exact .inr ⟨n, a, by omega, c⟩
    · exact .inr ⟨cur, hc, by omega, h1⟩
theorem fromP_end {h : Nat} {r : Rng} {j : Nat} (hj : Rch l ns s h (j : Int)) (u : Int) : FromP l ns s h r j (r.2 + 1) u ↔ FromT l ns s h r (j + 1) u := by
  constructor
  · rintro (⟨v, n, a, b, c⟩ | ⟨n, a, b, c⟩)
    · exact ⟨v, n, by omega, b, c⟩
    · exact ⟨j, n, by omega, hj, a, by omega, c⟩
  · rintro ⟨v, n, a, b, c, d, e⟩
    rcases Int.lt_or_le v (j : Int) with h1 | h1
    · exact .inl ⟨v, n, h1, b, c, d, e⟩
    · obtain rfl : v = (j : Int) := by omega
      exact .inr ⟨n, c, by omega, e⟩
theorem fromT_skip {h : Nat} {r : Rng} {j : Nat} (hj : ¬ Rch l ns s h (j : Int)) (u : Int) : FromT l ns s h r j u ↔ FromT l ns s h r (j + 1) u := by
  constructor
  · rintro ⟨v, n, a, b⟩; exact ⟨v, n, by omega, b⟩
  · rintro ⟨v, n, a, b, c⟩
    rcases Int.lt_or_le v (j : Int) with h1 | h1
    · exact ⟨v, n, h1, b, c⟩
    · obtain rfl : v = (j : Int) := by omega
      exact absurd b hj
theorem fromT_rch {h : Nat} {r : Rng} {m : Nat} (hr : ns[h]? = some r) (hm : ∀ v, Rch l ns s h v → v < (m : Int)) (u : Int) : (FromT l ns s h r m u ∧ u < bdK l (decide (s ≤ (h : Int)))) ↔ Rch l ns s (h + 1) u := by
  constructor
  · rintro ⟨⟨v, n, a, b, c, d, e⟩, f⟩; exact ⟨v, n, r, b, hr, c, d, e, f⟩
  · rintro ⟨v, n, r', b, hr', c, d, e, f⟩
    rw [hr] at hr'; cases hr'
    exact ⟨⟨v, n, hm v b, b, c, d, e⟩, f⟩
theorem fromT_brk {h : Nat} {r : Rng} {m : Nat} (hr : ns[h]? = some r) (hm : ∀ v, Rch l ns s h v → v < (m : Int)) (u : Int) : (FromT l ns s h r m u ∧ bdK l (decide (s ≤ (h : Int))) ≤ u) ↔ Brk l ns s h u := by
  constructor
  · rintro ⟨⟨v, n, a, b, c, d, e⟩, f⟩; exact ⟨v, n, r, b, hr, c, d, e, f⟩
  · rintro ⟨v, n, r', b, hr', c, d, e, f⟩
    rw [hr] at hr'; cases hr'
    exact ⟨⟨v, n, hm v b, b, c, d, e⟩, f⟩
/-- what dams that are soft before some hour hold, and break with -/
def HeldTo (l : Lak) (ns : List Rng) (s : Int) (h : Nat) (u : Int) : Prop := ∃ s', l.soft.1 ≤ s' ∧ s' < s ∧ Rch l ns s' (h + 1) u
def BrokTo (l : Lak) (ns : List Rng) (s : Int) (h : Nat) (u : Int) : Prop := ∃ s', l.soft.1 ≤ s' ∧ s' < s ∧ Brk l ns s' h u
/-- the tables while the hours of a dam are followed: the hours before k are done, in the hour k the volumes of Q -/
structure HInv (l : Lak) (ns : List Rng) (N : Nat) (s : Int) (k : Nat) (Q : Int → Prop) (Hd Bk : Nat → Nat → Bool) : Prop where
  held : ∀ h, h < N → ∀ u : Nat, Hd h u = true ↔ HeldTo l ns s h u ∨ (h < k ∧ Rch l ns s (h + 1) u) ∨ (h = k ∧ Q u ∧ (u : Int) < bdK l (decide (s ≤ (k : Int))))
  brok : ∀ h, h < N → ∀ u : Nat, Bk h u = true ↔ BrokTo l ns s h u ∨ (h < k ∧ Brk l ns s h u) ∨ (h = k ∧ Q u ∧ bdK l (decide (s ≤ (k : Int))) ≤ (u : Int))
variable {N k : Nat} {Q Q' : Int → Prop} {Hd Bk : Nat → Nat → Bool}
theorem HInv.congr (H : HInv l ns N s k Q Hd Bk) (hq : ∀ u, Q u ↔ Q' u) : HInv l ns N s k Q' Hd Bk :=
  ⟨fun h hh u => by rw [H.held h hh u, hq], fun h hh u => by rw [H.brok h hh u, hq]⟩
theorem HInv.addH (H : HInv l ns N s k Q Hd Bk) {t : Nat} (ht : (t : Int) < bdK l (decide (s ≤ (k : Int)))) (hq : ∀ u, Q' u ↔ Q u ∨ u = (t : Int)) : HInv l ns N s k Q' (updT Hd k t) Bk := by
  refine ⟨fun h hh u => ?_, fun h hh u => ?_⟩
  · rw [updT_iff, H.held h hh u, hq]
    constructor
    · rintro ((a | a | ⟨a, b, c⟩) | ⟨a, b⟩)
      · exact .inl a
      · exact .inr (.inl a)
      · exact .inr (.inr ⟨a, .inl b, c⟩)
      · subst b; exact .inr (.inr ⟨a, .inr rfl, ht⟩)
    · rintro (a | a | ⟨a, b | b, c⟩)
      · exact .inl (.inl a)
      · exact .inl (.inr (.inl a))
      · exact .inl (.inr (.inr ⟨a, b, c⟩))
      · exact .inr ⟨a, by omega⟩
  · rw [H.brok h hh u, hq]
    constructor
    · rintro (a | a | ⟨a, b, c⟩)
      · exact .inl a
      · exact .inr (.inl a)
      · exact .inr (.inr ⟨a, .inl b, c⟩)
    · rintro (a | a | ⟨a, b | b, c⟩)
      · exact .inl a
      · exact .inr (.inl a)
      · exact .inr (.inr ⟨a, b, c⟩)
      · omega
theorem HInv.addB (H : HInv l ns N s k Q Hd Bk) {t : Nat} (ht : bdK l (decide (s ≤ (k : Int))) ≤ (t : Int)) (hq : ∀ u, Q' u ↔ Q u ∨ u = (t : Int)) : HInv l ns N s k Q' Hd (updT Bk k t) := by
  refine ⟨fun h hh u => ?_, fun h hh u => ?_⟩
  · rw [H.held h hh u, hq]
    constructor
    · rintro (a | a | ⟨a, b, c⟩)
      · exact .inl a
      · exact .inr (.inl a)
      · exact .inr (.inr ⟨a, .inl b, c⟩)
    · rintro (a | a | ⟨a, b | b, c⟩)
      · exact .inl a
      · exact .inr (.inl a)
      · exact .inr (.inr ⟨a, b, c⟩)
      · omega
  · rw [updT_iff, H.brok h hh u, hq]
    constructor
    · rintro ((a | a | ⟨a, b, c⟩) | ⟨a, b⟩)
      · exact .inl a
      · exact .inr (.inl a)
      · exact .inr (.inr ⟨a, .inl b, c⟩)
      · subst b; exact .inr (.inr ⟨a, .inr rfl, ht⟩)
    · rintro (a | a | ⟨a, b | b, c⟩)
      · exact .inl (.inl a)
      · exact .inl (.inr (.inl a))
      · exact .inl (.inr (.inr ⟨a, b, c⟩))
      · exact .inr ⟨a, by omega⟩
theorem HInv.hour {r : Rng} {m : Nat} (H : HInv l ns N s k (FromT l ns s k r m) Hd Bk) (hr : ns[k]? = some r) (hm : ∀ v, Rch l ns s k v → v < (m : Int)) : HInv l ns N s (k + 1) (fun _ => False) Hd Bk := by
  refine ⟨fun h hh u => ?_, fun h hh u => ?_⟩
  · rw [H.held h hh u]
    constructor
    · rintro (a | ⟨a, b⟩ | ⟨a, b⟩)
      · exact .inl a
      · exact .inr (.inl ⟨by omega, b⟩)
      · subst a; exact .inr (.inl ⟨by omega, (fromT_rch hr hm _).1 b⟩)
    · rintro (a | ⟨a, b⟩ | ⟨_, b, _⟩)
      · exact .inl a
      · rcases Nat.lt_or_ge h k with h1 | h1
        · exact .inr (.inl ⟨h1, b⟩)
        · obtain rfl : h = k := by omega
          exact .inr (.inr ⟨rfl, (fromT_rch hr hm _).2 b⟩)
      · exact b.elim
  · rw [H.brok h hh u]
    constructor
    · rintro (a | ⟨a, b⟩ | ⟨a, b⟩)
      · exact .inl a
      · exact .inr (.inl ⟨by omega, b⟩)
      · subst a; exact .inr (.inl ⟨by omega, (fromT_brk hr hm _).1 b⟩)
    · rintro (a | ⟨a, b⟩ | ⟨_, b, _⟩)
      · exact .inl a
      · rcases Nat.lt_or_ge h k with h1 | h1
        · exact .inr (.inl ⟨h1, b⟩)
        · obtain rfl : h = k := by omega
          exact .inr (.inr ⟨rfl, (fromT_brk hr hm _).2 b⟩)
      · exact b.elim
theorem HInv.dam (H : HInv l ns N s N (fun _ => False) Hd Bk) (hs : l.soft.1 ≤ s) : HInv l ns N (s + 1) 0 (fun _ => False) Hd Bk := by
  refine ⟨fun h hh u => ?_, fun h hh u => ?_⟩
  · rw [H.held h hh u]
    constructor
    · rintro (⟨q, a, b, c⟩ | ⟨a, b⟩ | ⟨_, b, _⟩)
      · exact .inl ⟨q, a, by omega, c⟩
      · exact .inl ⟨s, hs, by omega, b⟩
      · exact b.elim
    · rintro (⟨q, a, b, c⟩ | ⟨a, _⟩ | ⟨_, b, _⟩)
      · rcases Int.lt_or_le q s with h1 | h1
        · exact .inl ⟨q, a, h1, c⟩
        · obtain rfl : q = s := by omega
          exact .inr (.inl ⟨hh, c⟩)
      · omega
      · exact b.elim
  · rw [H.brok h hh u]
    constructor
    · rintro (⟨q, a, b, c⟩ | ⟨a, b⟩ | ⟨_, b, _⟩)
      · exact .inl ⟨q, a, by omega, c⟩
      · exact .inl ⟨s, hs, by omega, b⟩
      · exact b.elim
    · rintro (⟨q, a, b, c⟩ | ⟨a, _⟩ | ⟨_, b, _⟩)
      · rcases Int.lt_or_le q s with h1 | h1
        · exact .inl ⟨q, a, h1, c⟩
        · obtain rfl : q = s := by omega
          exact .inr (.inl ⟨hh, c⟩)
      · omega
      · exact b.elim
theorem HInv.start (l : Lak) (ns : List Rng) (N : Nat) : HInv l ns N l.soft.1 0 (fun _ => False) (fun _ _ => false) (fun _ _ => false) := by
  refine ⟨fun h hh u => ?_, fun h hh u => ?_⟩
  · simp only [Bool.false_eq_true, false_iff]
    rintro (⟨q, a, b, c⟩ | ⟨a, _⟩ | ⟨_, b, _⟩)
    · omega
    · omega
    · exact b.elim
  · simp only [Bool.false_eq_true, false_iff]
    rintro (⟨q, a, b, c⟩ | ⟨a, _⟩ | ⟨_, b, _⟩)
    · omega
    · omega
    · exact b.elim
end
section
variable {l : Lak} {ws : List Wrk} {c : List Int} {Hd Bk : Nat → Nat → Bool} {m : Nat}
/-- at the end the tables tell of what is held, and of what it breaks with -/
theorem HInv.tells (hok : LOk l) (hwk : WOk ws) (hcho : choB ws.length c = true) (hm : (m : Int) = mostTo l l.inflow.length) (H : HInv l (netL l ws c) l.inflow.length (l.soft.2 + 1) 0 (fun _ => False) Hd Bk) {h : Nat} (hh : h < l.inflow.length) : Tells (rowOf m (Hd h)) m (HeldP l (netL l ws c) h) ∧ Tells (rowOf m (Bk h)) m (BrokP l (netL l ws c) h) := by
  have b1 : ∀ v, HeldP l (netL l ws c) h v → 0 ≤ v ∧ v < (m : Int) := fun v ⟨s, s1, s2, hr⟩ => by
    have := reach_bd hok hwk hcho hr
    have := mostTo_le hok (i := h + 1) (j := l.inflow.length) (by omega)
    omega
  have b2 : ∀ v, BrokP l (netL l ws c) h v → 0 ≤ v ∧ v < (m : Int) := fun v ⟨s, s1, s2, hr⟩ => by
    have := brk_bd hok hwk hcho hr
    have := mostTo_le hok (i := h + 1) (j := l.inflow.length) (by omega)
    omega
  refine ⟨⟨rowOf_len _ _, fun v => ?_, b1⟩, ⟨rowOf_len _ _, fun v => ?_, b2⟩⟩
  · have hx := H.held h hh v
    have hx2 : Hd h v = true ↔ HeldP l (netL l ws c) h (v : Int) := by
      rw [hx]
      constructor
      · rintro (⟨q, a, b, d⟩ | ⟨a, _⟩ | ⟨_, b, _⟩)
        · exact ⟨q, a, by omega, d⟩
        · omega
        · exact b.elim
      · rintro ⟨q, a, b, d⟩; exact .inl ⟨q, a, by omega, d⟩
    by_cases hv : v < m
    · rw [rowB_of hv]; exact hx2
    · rw [rowB_out hv]
      refine ⟨(fun h => by cases h), (fun h => ?_)⟩
      have := b1 _ h; omega
  · have hx := H.brok h hh v
    have hx2 : Bk h v = true ↔ BrokP l (netL l ws c) h (v : Int) := by
      rw [hx]
      constructor
      · rintro (⟨q, a, b, d⟩ | ⟨a, _⟩ | ⟨_, b, _⟩)
        · exact ⟨q, a, by omega, d⟩
        · omega
        · exact b.elim
      · rintro ⟨q, a, b, d⟩; exact .inl ⟨q, a, by omega, d⟩
    by_cases hv : v < m
    · rw [rowB_of hv]; exact hx2
    · rw [rowB_out hv]
      refine ⟨(fun h => by cases h), (fun h => ?_)⟩
      have := b2 _ h; omega
end
end Go.Proofs.Ytpijmfbpdglchaa
