/- PLAIN LAWS of readings in their order: sorting, names that are there twice, gaps. No program in sight. -/
import Derived.Test.YtkgoojilmnkgiaaWrite
namespace Go.Proofs.Ytkgoojilmnkgiaa

/-- does a reading stand before another one? -/
def rlt (x y : Rdg) : Bool := decide (x.ins < y.ins ∨ (x.ins = y.ins ∧ (x.num < y.num ∨ (x.num = y.num ∧ (x.tim < y.tim ∨ (x.tim = y.tim ∧ x.val < y.val))))))
theorem rlt_iff {x y : Rdg} : rlt x y = true ↔ (x.ins < y.ins ∨ (x.ins = y.ins ∧ (x.num < y.num ∨ (x.num = y.num ∧ (x.tim < y.tim ∨ (x.tim = y.tim ∧ x.val < y.val)))))) := by simp [rlt]
theorem rlt_not {x y : Rdg} : rlt x y = false ↔ ¬ (x.ins < y.ins ∨ (x.ins = y.ins ∧ (x.num < y.num ∨ (x.num = y.num ∧ (x.tim < y.tim ∨ (x.tim = y.tim ∧ x.val < y.val)))))) := by rw [← rlt_iff]; simp
theorem rlt_irrefl (x : Rdg) : rlt x x = false := by rw [rlt_not]; omega
theorem rlt_trans {x y z : Rdg} (h : rlt x y = true) (h' : rlt y z = true) : rlt x z = true := by rw [rlt_iff] at *; omega
theorem rlt_ntrans {x y z : Rdg} (h : rlt x y = false) (h' : rlt y z = false) : rlt x z = false := by rw [rlt_not] at *; omega
theorem rlt_tri {x y : Rdg} (h : rlt x y = false) (h' : rlt y x = false) : x = y := by
  rw [rlt_not] at *
  obtain ⟨a, b, c, d⟩ := x
  obtain ⟨a', b', c', d'⟩ := y
  simp only at h h'
  simp only [Rdg.mk.injEq]
  omega
theorem rlt_asym {x y : Rdg} (h : rlt x y = true) : rlt y x = false := by rw [rlt_iff] at h; rw [rlt_not]; omega
/-- in their order -/
def Ord (s : List Rdg) : Prop := s.Pairwise fun x y => rlt y x = false
theorem Ord.uniq : ∀ {s s' : List Rdg}, Ord s → Ord s' → s.Perm s' → s = s'
  | [], s', _, _, hp => (List.nil_perm.1 hp).symm
  | x :: s, [], _, _, hp => by simpa using hp.length_eq
  | x :: s, y :: s', h, h', hp => by
    have hx := List.pairwise_cons.1 h
    have hy := List.pairwise_cons.1 h'
    have hxy : x = y := by
      have m1 : x ∈ y :: s' := hp.subset (by simp)
      have m2 : y ∈ x :: s := hp.symm.subset (by simp)
      rcases List.mem_cons.1 m1 with e | m1
      · exact e
      rcases List.mem_cons.1 m2 with e | m2
      · exact e.symm
      exact rlt_tri (hy.1 x m1) (hx.1 y m2)
    subst hxy
    rw [Ord.uniq hx.2 hy.2 (List.perm_cons x |>.1 hp)]

/-- of one name? -/
def nameB (x y : Rdg) : Bool := decide (x.ins = y.ins ∧ x.num = y.num)
theorem nameB_iff {x y : Rdg} : nameB x y = true ↔ x.ins = y.ins ∧ x.num = y.num := by simp [nameB]
theorem nameB_not {x y : Rdg} : nameB x y = false ↔ ¬ (x.ins = y.ins ∧ x.num = y.num) := by simp [nameB]
/-- no two of one name -/
def Names (l : List Rdg) : Prop := l.Pairwise fun x y => nameB x y = false
theorem Names.perm {l l' : List Rdg} (h : Names l) (hp : l.Perm l') : Names l' := (hp.pairwise_iff (fun h => by rw [nameB_not] at *; omega)).1 h
theorem names_iff {l : List Rdg} : Names l ↔ ∀ (i k : Nat) (x y : Rdg), i < k → l[i]? = some x → l[k]? = some y → nameB x y = false := by
  unfold Names
  rw [List.pairwise_iff_getElem]
  constructor
  · intro h i k x y hik hx hy
    obtain ⟨hi, rfl⟩ := List.getElem?_eq_some_iff.1 hx
    obtain ⟨hk, rfl⟩ := List.getElem?_eq_some_iff.1 hy
    exact h i k hi hk hik
  · intro h i j hi hj hij
    exact h i j _ _ hij (List.getElem?_eq_getElem hi) (List.getElem?_eq_getElem hj)
theorem ord_at {s : List Rdg} (h : Ord s) {i k : Nat} {x y : Rdg} (hik : i < k) (hx : s[i]? = some x) (hy : s[k]? = some y) : rlt y x = false := by
  obtain ⟨hi, rfl⟩ := List.getElem?_eq_some_iff.1 hx
  obtain ⟨hk, rfl⟩ := List.getElem?_eq_some_iff.1 hy
  exact List.pairwise_iff_getElem.1 h i k hi hk hik
/-- In order, two of one name stand side by side somewhere. -/
theorem names_adj {s : List Rdg} (h : Ord s) (ha : ∀ (i : Nat) (x y : Rdg), s[i]? = some x → s[i + 1]? = some y → nameB x y = false) : Names s := by
  rw [names_iff]
  intro i k x y hik hx hy
  cases hn : nameB x y
  · rfl
  · exfalso
    obtain ⟨z, hz⟩ : ∃ z, s[i + 1]? = some z := by
      have hk := (List.getElem?_eq_some_iff.1 hy).1
      exact ⟨_, List.getElem?_eq_getElem (by omega)⟩
    have h1 := ha i x z hx hz
    rcases Nat.lt_or_ge (i + 1) k with hlt | hge
    · have h2 := ord_at h (show i < i + 1 by omega) hx hz
      have h3 := ord_at h hlt hz hy
      rw [nameB_iff] at hn
      rw [nameB_not] at h1
      rw [rlt_not] at h2 h3
      omega
    · obtain rfl : k = i + 1 := by omega
      rw [hz] at hy; cases hy
      rw [hn] at h1; cases h1

/-- the gap between two readings that stand side by side -/
def gapStep (x y : Rdg) : List (Int × Int × Int) := if x.ins = y.ins ∧ x.num + 1 < y.num then [(x.ins, x.num + 1, y.num - 1)] else []
def gapAt (s : List Rdg) (i : Nat) : List (Int × Int × Int) := match s[i]?, s[i + 1]? with
  | some x, some y => gapStep x y
  | _, _ => []
theorem gapAt_of {s : List Rdg} {i : Nat} {x y : Rdg} (hx : s[i]? = some x) (hy : s[i + 1]? = some y) : gapAt s i = gapStep x y := by simp [gapAt, hx, hy]
/-- the gaps among the first readings -/
def gapsTo (s : List Rdg) (n : Nat) : List (Int × Int × Int) := (List.range n).flatMap (gapAt s)
theorem gapsTo_succ (s : List Rdg) (n : Nat) : gapsTo s (n + 1) = gapsTo s n ++ gapAt s n := by simp [gapsTo, List.range_succ]
theorem gapStep_len (x y : Rdg) : (gapStep x y).length ≤ 1 := by unfold gapStep; split <;> simp
theorem gapAt_len (s : List Rdg) (i : Nat) : (gapAt s i).length ≤ 1 := by
  unfold gapAt
  split
  · exact gapStep_len _ _
  · simp
theorem gapsTo_len (s : List Rdg) : ∀ n, (gapsTo s n).length ≤ n
  | 0 => by simp [gapsTo]
  | n + 1 => by rw [gapsTo_succ, List.length_append]; have := gapsTo_len s n; have := gapAt_len s n; omega
def encG (g : Int × Int × Int) : List Value := [.int .i64 g.1, .int .i64 g.2.1, .int .i64 g.2.2]
theorem encG_len (g : Int × Int × Int) : (encG g).length = 3 := rfl

/-- a reading set into readings that stand in their order -/
def insR (x : Rdg) : List Rdg → List Rdg
  | [] => [x]
  | y :: l => if rlt x y then x :: y :: l else y :: insR x l
/-- the readings in their order, each once -/
def stepR (s : List Rdg) (x : Rdg) : List Rdg := if x ∈ s then s else insR x s
def sortedR (l : List Rdg) : List Rdg := l.foldl stepR []
/-- strictly in order -/
def Sord (s : List Rdg) : Prop := s.Pairwise fun x y => rlt x y = true
theorem Sord.ord {s : List Rdg} (h : Sord s) : Ord s := h.imp fun h => rlt_asym h
theorem insR_perm (x : Rdg) : ∀ l, (insR x l).Perm (x :: l)
  | [] => List.Perm.refl _
  | y :: l => by
    unfold insR
    split
    · exact List.Perm.refl _
    · exact (List.Perm.cons y (insR_perm x l)).trans (List.Perm.swap x y l)
theorem insR_len (x : Rdg) (l : List Rdg) : (insR x l).length = l.length + 1 := by rw [(insR_perm x l).length_eq]; rfl
theorem insR_sord (x : Rdg) : ∀ l, Sord l → x ∉ l → Sord (insR x l)
  | [], _, _ => by simp [insR, Sord]
  | y :: l, h, hx => by
    have hy := List.pairwise_cons.1 h
    unfold insR
    split
    · rename_i hl
      refine List.pairwise_cons.2 ⟨fun z hz => ?_, h⟩
      rcases List.mem_cons.1 hz with rfl | hz
      · exact hl
      · exact rlt_trans hl (hy.1 z hz)
    · rename_i hl
      have hl' : rlt x y = false := by simpa using hl
      refine List.pairwise_cons.2 ⟨fun z hz => ?_, insR_sord x l hy.2 (fun hm => hx (by simp [hm]))⟩
      rcases List.mem_cons.1 ((insR_perm x l).subset hz) with rfl | hz
      · cases hr : rlt y z
        · exact absurd (rlt_tri hl' hr) (fun e => hx (by simp [e]))
        · rfl
      · exact hy.1 z hz
theorem stepR_ok {s : List Rdg} (h : Sord s) (x : Rdg) : Sord (stepR s x) ∧ ∀ y, y ∈ stepR s x ↔ y ∈ s ∨ y = x := by
  unfold stepR
  split
  · rename_i hx
    exact ⟨h, fun y => ⟨.inl, fun hy => by rcases hy with hy | rfl; exact hy; exact hx⟩⟩
  · rename_i hx
    exact ⟨insR_sord x s h hx, fun y => by rw [(insR_perm x s).mem_iff]; simp [or_comm]⟩
theorem foldR_ok : ∀ (l s : List Rdg), Sord s → Sord (l.foldl stepR s) ∧ ∀ y, y ∈ l.foldl stepR s ↔ y ∈ s ∨ y ∈ l
  | [], s, h => ⟨h, fun y => by simp⟩
  | x :: l, s, h => by
    obtain ⟨h1, h2⟩ := stepR_ok h x
    obtain ⟨h3, h4⟩ := foldR_ok l (stepR s x) h1
    exact ⟨h3, fun y => by rw [List.foldl_cons, h4, h2]; simp [or_assoc]⟩
theorem sortedR_ok (l : List Rdg) : Sord (sortedR l) ∧ ∀ y, y ∈ sortedR l ↔ y ∈ l := by
  obtain ⟨h1, h2⟩ := foldR_ok l [] List.Pairwise.nil
  exact ⟨h1, fun y => by rw [sortedR, h2]; simp⟩
theorem stepR_len (s : List Rdg) (x : Rdg) : (stepR s x).length ≤ s.length + 1 := by
  unfold stepR; split
  · omega
  · rw [insR_len]; exact Nat.le_refl _
theorem foldR_len : ∀ (l s : List Rdg), (l.foldl stepR s).length ≤ s.length + l.length
  | [], s => by simp
  | x :: l, s => by
    have := foldR_len l (stepR s x); have := stepR_len s x
    simp only [List.foldl_cons, List.length_cons]; omega
theorem sortedR_len (l : List Rdg) : (sortedR l).length ≤ l.length := by have := foldR_len l []; simpa [sortedR] using this
theorem Sord.nodup {s : List Rdg} (h : Sord s) : s.Nodup := h.imp fun h e => by subst e; rw [rlt_irrefl] at h; cases h
theorem Names.nodup {l : List Rdg} (h : Names l) : l.Nodup := h.imp fun h e => by subst e; rw [nameB_not] at h; exact h ⟨rfl, rfl⟩
/-- Where no reading is there twice, the reference's order is the order. -/
theorem sortedR_eq {l s : List Rdg} (hn : l.Nodup) (ho : Ord s) (hp : s.Perm l) : sortedR l = s := by
  obtain ⟨h1, h2⟩ := sortedR_ok l
  refine Ord.uniq h1.ord ho ?_
  exact ((List.perm_ext_iff_of_nodup h1.nodup hn).2 h2).trans hp.symm
end Go.Proofs.Ytkgoojilmnkgiaa
