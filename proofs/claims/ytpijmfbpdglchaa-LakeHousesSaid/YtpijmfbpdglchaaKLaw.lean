/- PLAIN LAWS of a lake: what is valid, what is pumped, what may be after each hour. No program in sight. -/
import Derived.Test.YtpijmfbpdglchaaVoc
namespace Go.Proofs.Ytpijmfbpdglchaa
open Go.RowKit

abbrev Rng := Int × Int
def inB (n lo hi : Int) : Bool := decide (lo ≤ n) && decide (n ≤ hi)
theorem inB_iff {n lo hi : Int} : inB n lo hi = true ↔ lo ≤ n ∧ n ≤ hi := by simp [inB]
theorem inB_not {n lo hi : Int} : inB n lo hi = false ↔ n < lo ∨ hi < n := by
  rw [← Bool.not_eq_true, inB_iff]; omega
def upB (r : Rng) (m : Int) : Bool := decide (0 ≤ r.1) && (decide (r.1 ≤ r.2) && decide (r.2 ≤ m))
theorem upB_iff {r : Rng} {m : Int} : upB r m = true ↔ 0 ≤ r.1 ∧ r.1 ≤ r.2 ∧ r.2 ≤ m := by simp [upB]
/-- 'all' of a list, by a name that no rule opens -/
def allB {α : Type} (p : α → Bool) (l : List α) : Bool := l.all p
theorem allB_iff {α : Type} {p : α → Bool} {l : List α} : allB p l = true ↔ ∀ (i : Nat) (x : α), l[i]? = some x → p x = true := by
  simp only [allB, List.all_eq_true]
  constructor
  · intro h i x hx; exact h x (List.mem_of_getElem? hx)
  · intro h x hx; obtain ⟨i, hi⟩ := List.getElem?_of_mem hx; exact h i x hi
theorem allB_not {α : Type} {p : α → Bool} {l : List α} : allB p l = false ↔ ∃ (i : Nat) (x : α), l[i]? = some x ∧ p x = false := by
  rw [← Bool.not_eq_true, allB_iff]
  constructor
  · intro h
    refine Classical.byContradiction fun hn => h fun i x hx => ?_
    cases hp : p x
    · exact absurd ⟨i, x, hx, hp⟩ hn
    · rfl
  · rintro ⟨i, x, hx, hp⟩ h
    rw [h i x hx] at hp; cases hp
theorem lt_of_get {α : Type} {l : List α} {i : Nat} {x : α} (h : l[i]? = some x) : i < l.length := (List.getElem?_eq_some_iff.1 h).1

/-- A lake. -/
structure Lak where
  vols : List Int
  crest : Int
  weak : Int
  soft : Rng
  start : Rng
  seep : Rng
  inflow : List Rng
/-- A work. -/
structure Wrk where
  frm : Int
  flow : Int
  price : Int
  deriving DecidableEq
def encW (x : Wrk) : List Value := [.int .i64 x.frm, .int .i64 x.flow, .int .i64 x.price]
theorem encW_len (x : Wrk) : (encW x).length = 3 := rfl
/-- the number at an index, 0 if there is none -/
def atI (l : List Int) (i : Int) : Int := match l[i.toNat]? with | some v => v | none => 0
theorem atI_get {l : List Int} {i : Nat} {v : Int} (h : l[i]? = some v) : atI l (i : Int) = v := by simp [atI, h]
/-- does a list rise? -/
def riseB : List Int → Bool
  | [] => true
  | [_] => true
  | a :: b :: l => decide (a < b) && riseB (b :: l)
theorem riseB_iff : ∀ {l : List Int}, riseB l = true ↔ ∀ (i : Nat) (a b : Int), l[i]? = some a → l[i + 1]? = some b → a < b
  | [] => by simp [riseB]
  | [x] => by simp [riseB]
  | x :: y :: l => by
    have ih := riseB_iff (l := y :: l)
    simp only [riseB, Bool.and_eq_true, decide_eq_true_eq, ih]
    constructor
    · rintro ⟨h1, h2⟩ i a b ha hb
      cases i with
      | zero => simp at ha hb; omega
      | succ i => exact h2 i a b (by simpa using ha) (by simpa using hb)
    · intro h
      exact ⟨h 0 x y rfl rfl, fun i a b ha hb => h (i + 1) a b (by simpa using ha) (by simpa using hb)⟩
theorem riseB_lt {l : List Int} (h : riseB l = true) : ∀ (j i : Nat) (a b : Int), i < j → l[i]? = some a → l[j]? = some b → a < b
  | 0, i, a, b, hij, _, _ => by omega
  | j + 1, i, a, b, hij, ha, hb => by
    rcases Nat.lt_or_ge i j with h1 | h1
    · obtain ⟨c, hc⟩ : ∃ c, l[j]? = some c := ⟨_, List.getElem?_eq_getElem (by have := lt_of_get hb; omega)⟩
      have := riseB_lt h j i a c h1 ha hc
      have := riseB_iff.1 h j c b hc hb
      omega
    · obtain rfl : i = j := by omega
      exact riseB_iff.1 h i a b ha hb

/-- is a lake too great? -/
def bigL (l : Lak) : Bool := decide (30 < l.vols.length) || decide (60 < l.inflow.length)
/-- is a lake, that is not too great, valid? -/
def okL (l : Lak) : Bool :=
  decide (2 ≤ l.vols.length) && (decide (atI l.vols 0 = 0) && (decide (atI l.vols ((l.vols.length : Int) - 1) ≤ 1000000) && (inB l.crest 1 ((l.vols.length : Int) - 1) && (inB l.weak 1 l.crest &&
    (riseB l.vols && (upB l.soft 60 && (upB l.start (atI l.vols l.weak - 1) && (upB l.seep 1000000 && allB (fun r => upB r 1000000) l.inflow))))))))
def errL (l : Lak) : Int := if bigL l then 3 else if okL l then 0 else 1
/-- A valid lake. -/
structure LOk (l : Lak) : Prop where
  n : 2 ≤ l.vols.length ∧ l.vols.length ≤ 30
  h : l.inflow.length ≤ 60
  v0 : atI l.vols 0 = 0
  vm : atI l.vols ((l.vols.length : Int) - 1) ≤ 1000000
  crest : 1 ≤ l.crest ∧ l.crest ≤ (l.vols.length : Int) - 1
  weak : 1 ≤ l.weak ∧ l.weak ≤ l.crest
  rise : riseB l.vols = true
  soft : 0 ≤ l.soft.1 ∧ l.soft.1 ≤ l.soft.2 ∧ l.soft.2 ≤ 60
  start : 0 ≤ l.start.1 ∧ l.start.1 ≤ l.start.2 ∧ l.start.2 ≤ atI l.vols l.weak - 1
  seep : 0 ≤ l.seep.1 ∧ l.seep.1 ≤ l.seep.2 ∧ l.seep.2 ≤ 1000000
  inflow : ∀ (i : Nat) (r : Rng), l.inflow[i]? = some r → 0 ≤ r.1 ∧ r.1 ≤ r.2 ∧ r.2 ≤ 1000000
theorem okL_iff {l : Lak} (hb : bigL l = false) : okL l = true ↔ LOk l := by
  have hb' : l.vols.length ≤ 30 ∧ l.inflow.length ≤ 60 := by
    simp only [bigL, Bool.or_eq_false_iff, decide_eq_false_iff_not] at hb; omega
  simp only [okL, Bool.and_eq_true, decide_eq_true_eq, inB_iff, upB_iff, allB_iff]
  constructor
  · rintro ⟨h1, h2, h3, h4, h5, h6, h7, h8, h9, h10⟩
    exact ⟨⟨h1, hb'.1⟩, hb'.2, h2, h3, h4, h5, h6, h7, h8, h9, h10⟩
  · rintro ⟨h1, h2, h3, h4, h5, h6, h7, h8, h9, h10, h11⟩
    exact ⟨h1.1, h3, h4, h5, h6, h7, h8, h9, h10, h11⟩
theorem errL_zero {l : Lak} : errL l = 0 ↔ LOk l := by
  unfold errL
  cases hb : bigL l
  · have := okL_iff hb
    cases ho : okL l
    · simp [ho] at this ⊢
      exact this
    · simp [ho] at this ⊢; exact this
  · simp
    intro h
    have := h.n; have := h.h
    simp [bigL] at hb
    omega
theorem errL_vals (l : Lak) : errL l = 0 ∨ errL l = 1 ∨ errL l = 3 := by
  unfold errL; split
  · exact .inr (.inr rfl)
  · split
    · exact .inl rfl
    · exact .inr (.inl rfl)
theorem atI_lt {l : List Int} {i : Int} (h0 : 0 ≤ i) (h1 : i < l.length) : l[i.toNat]? = some (atI l i) := by
  have := List.getElem?_eq_getElem (show i.toNat < l.length by omega)
  simp [atI, this]
section
variable {l : Lak}
theorem LOk.vol (h : LOk l) {i : Int} (h0 : 0 ≤ i) (h1 : i < l.vols.length) : 0 ≤ atI l.vols i ∧ atI l.vols i ≤ 1000000 ∧ (0 < i → 0 < atI l.vols i) := by
  have hn := h.n
  have g := atI_lt h0 h1
  have g0 := atI_lt (l := l.vols) (i := 0) (by omega) (by omega)
  have gm := atI_lt (l := l.vols) (i := (l.vols.length : Int) - 1) (by omega) (by omega)
  have r1 : 0 < i → atI l.vols 0 < atI l.vols i := fun hi => riseB_lt h.rise i.toNat (0 : Int).toNat _ _ (by omega) g0 g
  have r2 : i < (l.vols.length : Int) - 1 → atI l.vols i < atI l.vols ((l.vols.length : Int) - 1) := fun hi => riseB_lt h.rise ((l.vols.length : Int) - 1).toNat i.toNat _ _ (by omega) g gm
  have := h.v0; have := h.vm
  refine ⟨?_, ?_, fun hi => by have := r1 hi; omega⟩
  · rcases Int.lt_or_le 0 i with hi | hi
    · have := r1 hi; omega
    · obtain rfl : i = 0 := by omega
      omega
  · rcases Int.lt_or_le i ((l.vols.length : Int) - 1) with hi | hi
    · have := r2 hi; omega
    · obtain rfl : i = (l.vols.length : Int) - 1 := by omega
      omega
theorem LOk.weakV (h : LOk l) : 0 < atI l.vols l.weak ∧ atI l.vols l.weak ≤ atI l.vols l.crest ∧ atI l.vols l.crest ≤ 1000000 := by
  have hw := h.weak; have hc := h.crest
  have g1 := h.vol (i := l.weak) (by omega) (by omega)
  have g2 := h.vol (i := l.crest) (by omega) (by omega)
  refine ⟨g1.2.2 (by omega), ?_, g2.2.1⟩
  rcases Int.lt_or_le l.weak l.crest with hi | hi
  · have := riseB_lt h.rise l.crest.toNat l.weak.toNat _ _ (by omega) (atI_lt (by omega) (by omega)) (atI_lt (by omega) (by omega)); omega
  · obtain e : l.weak = l.crest := by omega
    rw [e]; exact Int.le_refl _
end

/-- is a work valid? -/
def okW (x : Wrk) : Bool := inB x.frm 0 60 && (inB x.flow 0 1000000 && inB x.price 0 1000000)
theorem okW_iff {x : Wrk} : okW x = true ↔ (0 ≤ x.frm ∧ x.frm ≤ 60) ∧ (0 ≤ x.flow ∧ x.flow ≤ 1000000) ∧ (0 ≤ x.price ∧ x.price ≤ 1000000) := by simp [okW, inB_iff]
def errW (ws : List Wrk) : Int := if 10 < ws.length then 3 else if allB okW ws then 0 else 1
structure WOk (ws : List Wrk) : Prop where
  n : ws.length ≤ 10
  all : ∀ (i : Nat) (x : Wrk), ws[i]? = some x → okW x = true
theorem errW_zero {ws : List Wrk} : errW ws = 0 ↔ WOk ws := by
  unfold errW
  split
  · exact ⟨fun h => by simp at h, fun h => by have := h.n; omega⟩
  · split
    · rename_i h1 h2
      exact ⟨fun _ => ⟨by omega, allB_iff.1 h2⟩, fun _ => rfl⟩
    · rename_i h1 h2
      exact ⟨fun h => by simp at h, fun h => absurd (allB_iff.2 h.all) h2⟩
/-- is a list a choice of n works? -/
def choB (n : Nat) (c : List Int) : Bool := allB (fun x => inB x 0 ((n : Int) - 1)) c && riseB c
theorem choB_iff {n : Nat} {c : List Int} : choB n c = true ↔ (∀ (i : Nat) (x : Int), c[i]? = some x → 0 ≤ x ∧ x ≤ (n : Int) - 1) ∧ ∀ (i : Nat) (a b : Int), c[i]? = some a → c[i + 1]? = some b → a < b := by
  simp [choB, allB_iff, riseB_iff, inB_iff]
theorem cho_low {n : Nat} {c : List Int} (h : choB n c = true) : ∀ (i : Nat) (x : Int), c[i]? = some x → (i : Int) ≤ x
  | 0, x, hx => by have := (choB_iff.1 h).1 0 x hx; omega
  | i + 1, x, hx => by
    obtain ⟨y, hy⟩ : ∃ y, c[i]? = some y := ⟨_, List.getElem?_eq_getElem (by have := lt_of_get hx; omega)⟩
    have := cho_low h i y hy
    have := (choB_iff.1 h).2 i y x hy hx
    omega
theorem cho_len {n : Nat} {c : List Int} (h : choB n c = true) : c.length ≤ n := by
  rcases Nat.eq_zero_or_pos c.length with h0 | h0
  · omega
  · have hx := List.getElem?_eq_getElem (show c.length - 1 < c.length by omega)
    have := cho_low h _ _ hx
    have := (choB_iff.1 h).1 _ _ hx
    omega
/-- the error of a lake with works and a choice -/
def errA (l : Lak) (ws : List Wrk) (c : List Int) : Int := if errL l ≠ 0 then errL l else if errW ws ≠ 0 then errW ws else if choB ws.length c then 0 else 2
structure AOk (l : Lak) (ws : List Wrk) (c : List Int) : Prop where
  l : LOk l
  w : WOk ws
  c : choB ws.length c = true
theorem errA_zero {l : Lak} {ws : List Wrk} {c : List Int} : errA l ws c = 0 ↔ AOk l ws c := by
  unfold errA
  split
  · rename_i h; exact ⟨fun e => absurd e h, fun e => absurd (errL_zero.2 e.l) h⟩
  · rename_i h
    split
    · rename_i h2; exact ⟨fun e => absurd e h2, fun e => absurd (errW_zero.2 e.w) h2⟩
    · rename_i h2
      split
      · rename_i h3; exact ⟨fun _ => ⟨errL_zero.1 (by simpa using h), errW_zero.1 (by simpa using h2), h3⟩, fun _ => rfl⟩
      · rename_i h3; exact ⟨fun e => by simp at e, fun e => absurd e.c h3⟩

/-- what one work of a choice pumps in an hour -/
def flowAt (ws : List Wrk) (i h : Int) : Int := match ws[i.toNat]? with | some x => if x.frm ≤ h then x.flow else 0 | none => 0
/-- what the first k works of a choice pump in an hour -/
def outTo (ws : List Wrk) (c : List Int) (h : Int) : Nat → Int
  | 0 => 0
  | k + 1 => outTo ws c h k + match c[k]? with | some i => flowAt ws i h | none => 0
def outAt (ws : List Wrk) (c : List Int) (h : Int) : Int := outTo ws c h c.length
theorem flowAt_bd {ws : List Wrk} (hw : WOk ws) (i h : Int) : 0 ≤ flowAt ws i h ∧ flowAt ws i h ≤ 1000000 := by
  unfold flowAt
  split
  · rename_i x hx
    have := okW_iff.1 (hw.all _ _ hx)
    split <;> omega
  · omega
theorem outTo_bd {ws : List Wrk} (hw : WOk ws) (c : List Int) (h : Int) : ∀ k, 0 ≤ outTo ws c h k ∧ outTo ws c h k ≤ k * 1000000
  | 0 => by simp [outTo]
  | k + 1 => by
    have ih := outTo_bd hw c h k
    unfold outTo
    split
    · rename_i i _
      have := flowAt_bd hw i h
      push_cast; omega
    · push_cast; omega
theorem outAt_bd {ws : List Wrk} (hw : WOk ws) {c : List Int} (hc : choB ws.length c = true) (h : Int) : 0 ≤ outAt ws c h ∧ outAt ws c h ≤ 10000000 := by
  have h1 := outTo_bd hw c h c.length
  have h2 := cho_len hc
  have h3 := hw.n
  unfold outAt
  have : (c.length : Int) * 1000000 ≤ 10 * 1000000 := Int.mul_le_mul_of_nonneg_right (by omega) (by omega)
  omega

/-- what comes more in each hour: least and greatest -/
def netL (l : Lak) (ws : List Wrk) (c : List Int) : List Rng := l.inflow.mapIdx fun h r => (r.1 - l.seep.2 - outAt ws c h, r.2 - l.seep.1 - outAt ws c h)
theorem netL_len (l : Lak) (ws : List Wrk) (c : List Int) : (netL l ws c).length = l.inflow.length := by simp [netL]
theorem netL_get {l : Lak} {ws : List Wrk} {c : List Int} {h : Nat} {r : Rng} (hr : l.inflow[h]? = some r) : (netL l ws c)[h]? = some (r.1 - l.seep.2 - outAt ws c h, r.2 - l.seep.1 - outAt ws c h) := by
  simp [netL, List.getElem?_mapIdx, hr]
/-- the volume at which the dam breaks -/
def bdK (l : Lak) (soft : Bool) : Int := if soft then atI l.vols l.weak else atI l.vols l.crest
def noneR : Rng := (1, 0)
/-- what comes of volumes, with a bound -/
def stepR (bd : Int) (a n : Rng) : Rng × Int :=
  if a = noneR then (noneR, -1) else
    let lo := max 0 (a.1 + n.1); let hi := max 0 (a.2 + n.2)
    (if bd ≤ lo then noneR else (lo, min hi (bd - 1)), if bd ≤ hi then hi else -1)
def joinR (a b : Rng) : Rng := if a = noneR then b else if b = noneR then a else (min a.1 b.1, max a.2 b.2)
/-- what may be after an hour -/
structure Aft where
  hard : Rng
  soft : Rng
  brk : Int
  deriving DecidableEq
def encA (x : Aft) : List Value := [.int .i64 x.hard.1, .int .i64 x.hard.2, .int .i64 x.soft.1, .int .i64 x.soft.2, .int .i64 x.brk]
theorem encA_len (x : Aft) : (encA x).length = 5 := rfl
def aftOf (l : Lak) (hd sf : Rng) (h : Int) (n : Rng) : Aft :=
  let a := if h < l.soft.2 then stepR (bdK l false) hd n else (noneR, -1)
  let b := if inB h l.soft.1 l.soft.2 then stepR (bdK l true) hd n else (noneR, -1)
  let c := stepR (bdK l true) sf n
  ⟨a.1, joinR b.1 c.1, max (max (max (-1) a.2) b.2) c.2⟩
/-- the volumes before an hour: of hard dams, and of soft ones -/
def nowAt (l : Lak) (ns : List Rng) : Nat → Rng × Rng
  | 0 => (l.start, noneR)
  | h + 1 => match ns[h]? with
    | some n => let x := aftOf l (nowAt l ns h).1 (nowAt l ns h).2 h n; (x.hard, x.soft)
    | none => (noneR, noneR)
def aftL (l : Lak) (ns : List Rng) : List Aft := ns.mapIdx fun h n => aftOf l (nowAt l ns h).1 (nowAt l ns h).2 h n
theorem aftL_len (l : Lak) (ns : List Rng) : (aftL l ns).length = ns.length := by simp [aftL]
theorem aftL_get {l : Lak} {ns : List Rng} {h : Nat} {n : Rng} (hn : ns[h]? = some n) : (aftL l ns)[h]? = some (aftOf l (nowAt l ns h).1 (nowAt l ns h).2 h n) := by
  simp [aftL, List.getElem?_mapIdx, hn]
theorem nowAt_succ {l : Lak} {ns : List Rng} {h : Nat} {x : Aft} (hx : (aftL l ns)[h]? = some x) : nowAt l ns (h + 1) = (x.hard, x.soft) := by
  have hl := lt_of_get hx
  rw [aftL_len] at hl
  have hn := List.getElem?_eq_getElem hl
  rw [aftL_get hn] at hx
  cases hx
  simp [nowAt, hn]

/-- a volume that may be before an hour, in a lake whose dam is soft from the hour s on, while the dam holds -/
def Rch (l : Lak) (ns : List Rng) (s : Int) : Nat → Int → Prop
  | 0, v => l.start.1 ≤ v ∧ v ≤ l.start.2
  | h + 1, v' => ∃ v n r, Rch l ns s h v ∧ ns[h]? = some r ∧ r.1 ≤ n ∧ n ≤ r.2 ∧ v' = max 0 (v + n) ∧ v' < bdK l (decide (s ≤ (h : Int)))
/-- a volume with which the dam may break in an hour -/
def Brk (l : Lak) (ns : List Rng) (s : Int) (h : Nat) (v' : Int) : Prop :=
  ∃ v n r, Rch l ns s h v ∧ ns[h]? = some r ∧ r.1 ≤ n ∧ n ≤ r.2 ∧ v' = max 0 (v + n) ∧ bdK l (decide (s ≤ (h : Int))) ≤ v'
/-- is a volume of a range? -/
def InR (r : Rng) (v : Int) : Prop := r.1 ≤ v ∧ v ≤ r.2
theorem none_in {v : Int} : ¬ InR noneR v := by simp [InR, noneR]; omega
/-- what comes of a range of volumes -/
theorem step_reach {a n : Rng} (ha : a.1 ≤ a.2) (hn : n.1 ≤ n.2) {t : Int} : (∃ v m, InR a v ∧ InR n m ∧ t = max 0 (v + m)) ↔ max 0 (a.1 + n.1) ≤ t ∧ t ≤ max 0 (a.2 + n.2) := by
  simp only [InR]
  constructor
  · rintro ⟨v, m, h1, h2, rfl⟩
    omega
  · rintro ⟨h1, h2⟩
    by_cases h3 : a.2 + n.2 < 0
    · exact ⟨a.1, n.1, by omega, by omega, by omega⟩
    · by_cases h4 : t - n.1 ≤ a.2
      · by_cases h5 : a.1 ≤ t - n.1
        · exact ⟨t - n.1, n.1, by omega, by omega, by omega⟩
        · exact ⟨a.1, n.1, by omega, by omega, by omega⟩
      · exact ⟨a.2, t - a.2, by omega, by omega, by omega⟩
end Go.Proofs.Ytpijmfbpdglchaa
