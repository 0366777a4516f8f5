/- PLAIN LAWS of choices of works: all choices, their order, and the cheapest one that is enough. -/
import Derived.Test.YtpijmfbpdglchaaKReach
namespace Go.Proofs.Ytpijmfbpdglchaa

/-- all choices that go on from one with works behind the first n - k ones, but for itself -/
def restC (n : Nat) : Nat → List Int → List (List Int)
  | 0, _ => []
  | k + 1, c => (c ++ [((n - (k + 1) : Nat) : Int)]) :: (restC n k (c ++ [((n - (k + 1) : Nat) : Int)]) ++ restC n k c)
def treeC (n k : Nat) (c : List Int) : List (List Int) := c :: restC n k c
theorem restC_len (n : Nat) : ∀ (k : Nat) (c : List Int), (restC n k c).length = 2 ^ k - 1
  | 0, c => rfl
  | k + 1, c => by
    have h1 := restC_len n k (c ++ [((n - (k + 1) : Nat) : Int)])
    have h2 := restC_len n k c
    have h3 : 0 < 2 ^ k := Nat.two_pow_pos k
    simp only [restC, List.length_cons, List.length_append, h1, h2, Nat.pow_succ]
    omega
theorem treeC_len (n k : Nat) (c : List Int) : (treeC n k c).length = 2 ^ k := by
  have h3 : 0 < 2 ^ k := Nat.two_pow_pos k
  simp [treeC, restC_len]; omega
/-- which they are -/
theorem restC_mem (n : Nat) : ∀ (k : Nat) (c : List Int) (x : List Int), k ≤ n → (x ∈ restC n k c ↔ ∃ d, d ≠ [] ∧ x = c ++ d ∧ riseB d = true ∧ ∀ (i : Nat) (y : Int), d[i]? = some y → ((n - k : Nat) : Int) ≤ y ∧ y ≤ (n : Int) - 1)
  | 0, c, x, hk => by
    simp only [restC, List.not_mem_nil, false_iff]
    rintro ⟨d, h1, h2, h3, h4⟩
    cases d with
    | nil => exact h1 rfl
    | cons y d => have := h4 0 y rfl; omega
  | k + 1, c, x, hk => by
    have ih1 := restC_mem n k (c ++ [((n - (k + 1) : Nat) : Int)]) x (by omega)
    have ih2 := restC_mem n k c x (by omega)
    simp only [restC, List.mem_cons, List.mem_append, ih1, ih2]
    constructor
    · rintro (h | ⟨d, h1, h2, h3, h4⟩ | ⟨d, h1, h2, h3, h4⟩)
      · refine ⟨[((n - (k + 1) : Nat) : Int)], by simp, h, rfl, fun i y hy => ?_⟩
        cases i with
        | zero => simp at hy; omega
        | succ i => simp at hy
      · refine ⟨((n - (k + 1) : Nat) : Int) :: d, by simp, by rw [h2]; simp, ?_, fun i y hy => ?_⟩
        · cases d with
          | nil => exact absurd rfl h1
          | cons y d =>
            have := h4 0 y rfl
            simp only [riseB, Bool.and_eq_true, decide_eq_true_eq]
            exact ⟨by omega, h3⟩
        · cases i with
          | zero => simp at hy; omega
          | succ i => have := h4 i y (by simpa using hy); omega
      · exact ⟨d, h1, h2, h3, fun i y hy => by have := h4 i y hy; omega⟩
    · rintro ⟨d, h1, h2, h3, h4⟩
      cases d with
      | nil => exact absurd rfl h1
      | cons y d =>
        have h0 := h4 0 y rfl
        have hlt : ∀ (i : Nat) (z : Int), d[i]? = some z → y < z := fun i z hz => riseB_lt h3 (i + 1) 0 y z (by omega) rfl (by simpa using hz)
        rcases Int.lt_or_le ((n - (k + 1) : Nat) : Int) y with hy | hy
        · refine .inr (.inr ⟨y :: d, h1, h2, h3, fun i z hz => ⟨?_, (h4 i z hz).2⟩⟩)
          cases i with
          | zero => simp at hz; omega
          | succ i => have := hlt i z (by simpa using hz); omega
        · obtain rfl : y = ((n - (k + 1) : Nat) : Int) := by omega
          cases d with
          | nil => exact .inl h2
          | cons z d =>
            refine .inr (.inl ⟨z :: d, by simp, by rw [h2]; simp, ?_, fun i u hu => ⟨?_, (h4 (i + 1) u (by simpa using hu)).2⟩⟩)
            · simp only [riseB, Bool.and_eq_true] at h3; exact h3.2
            · have := hlt i u hu; omega
theorem treeC_mem {n : Nat} {x : List Int} : x ∈ treeC n n [] ↔ choB n x = true := by
  have h := restC_mem n n [] x (Nat.le_refl _)
  simp only [treeC, List.mem_cons, h, choB, Bool.and_eq_true, allB_iff, inB_iff, List.nil_append, Nat.sub_self]
  constructor
  · rintro (rfl | ⟨d, _, rfl, h3, h4⟩)
    · exact ⟨fun i y hy => by simp at hy, rfl⟩
    · exact ⟨fun i y hy => by have := h4 i y hy; omega, h3⟩
  · rintro ⟨h1, h2⟩
    cases x with
    | nil => exact .inl rfl
    | cons y x => exact .inr ⟨y :: x, by simp, rfl, h2, fun i z hz => by have := h1 i z hz; omega⟩
theorem restC_nodup (n : Nat) : ∀ (k : Nat) (c : List Int), k ≤ n → (restC n k c).Nodup
  | 0, c, _ => List.nodup_nil
  | k + 1, c, hk => by
    have i1 := restC_nodup n k (c ++ [((n - (k + 1) : Nat) : Int)]) (by omega)
    have i2 := restC_nodup n k c (by omega)
    simp only [restC]
    refine List.nodup_cons.2 ⟨fun hm => ?_, List.nodup_append.2 ⟨i1, i2, fun a ha b hb hab => ?_⟩⟩
    · rcases List.mem_append.1 hm with h | h
      · obtain ⟨d, h1, h2, _⟩ := (restC_mem n k _ _ (by omega)).1 h
        exact h1 (by simpa using h2)
      · obtain ⟨d, h1, h2, _, h4⟩ := (restC_mem n k _ _ (by omega)).1 h
        have := List.append_cancel_left h2
        subst this
        have := h4 0 _ rfl
        omega
    · subst hab
      obtain ⟨d, _, h2, _⟩ := (restC_mem n k _ _ (by omega)).1 ha
      obtain ⟨d', _, h2', _, h4⟩ := (restC_mem n k _ _ (by omega)).1 hb
      rw [h2, List.append_assoc] at h2'
      have := List.append_cancel_left h2'
      subst this
      have := h4 0 _ rfl
      omega
theorem treeC_nodup (n : Nat) : (treeC n n []).Nodup := by
  refine List.nodup_cons.2 ⟨fun h => ?_, restC_nodup n n [] (Nat.le_refl _)⟩
  obtain ⟨d, h1, h2, _⟩ := (restC_mem n n _ _ (Nat.le_refl _)).1 h
  exact h1 (by simpa using h2.symm)

/-- the price of the first k works of a choice, and of all -/
def priceTo (ws : List Wrk) (c : List Int) : Nat → Int
  | 0 => 0
  | k + 1 => priceTo ws c k + match c[k]? with | some i => (match ws[i.toNat]? with | some x => x.price | none => 0) | none => 0
def priceC (ws : List Wrk) (c : List Int) : Int := priceTo ws c c.length
theorem priceTo_app (ws : List Wrk) (c d : List Int) : ∀ k, k ≤ c.length → priceTo ws (c ++ d) k = priceTo ws c k
  | 0, _ => rfl
  | k + 1, h => by
    simp only [priceTo]
    rw [priceTo_app ws c d k (by omega), List.getElem?_append_left (by omega)]
theorem priceC_snoc {ws : List Wrk} {c : List Int} {i : Nat} {x : Wrk} (h : ws[i]? = some x) : priceC ws (c ++ [(i : Int)]) = priceC ws c + x.price := by
  simp only [priceC, List.length_append, List.length_cons, List.length_nil, priceTo]
  rw [priceTo_app ws c _ c.length (Nat.le_refl _)]
  simp [h]
theorem priceTo_bd {ws : List Wrk} (hw : WOk ws) (c : List Int) : ∀ k : Nat, 0 ≤ priceTo ws c k ∧ priceTo ws c k ≤ k * 1000000
  | 0 => by simp [priceTo]
  | k + 1 => by
    have ih := priceTo_bd hw c k
    simp only [priceTo]
    split
    · split
      · rename_i x hx
        have := okW_iff.1 (hw.all _ _ hx)
        push_cast; omega
      · push_cast; omega
    · push_cast; omega

/-- the first difference of two lists -/
def cmpL : List Int → List Int → Int
  | [], [] => 0
  | [], _ :: _ => -1
  | _ :: _, [] => 1
  | a :: x, b :: y => if a < b then -1 else if b < a then 1 else cmpL x y
theorem cmpL_self : ∀ x, cmpL x x = 0
  | [] => rfl
  | a :: x => by simp [cmpL, cmpL_self x]
theorem cmpL_eq : ∀ {x y : List Int}, cmpL x y = 0 → x = y
  | [], [], _ => rfl
  | [], _ :: _, h => by simp [cmpL] at h
  | _ :: _, [], h => by simp [cmpL] at h
  | a :: x, b :: y, h => by
    simp only [cmpL] at h
    split at h
    · omega
    · split at h
      · omega
      · rw [cmpL_eq h, show a = b by omega]
theorem cmpL_neg : ∀ (x y : List Int), cmpL y x = - cmpL x y
  | [], [] => rfl
  | [], _ :: _ => rfl
  | _ :: _, [] => rfl
  | a :: x, b :: y => by
    have := cmpL_neg x y
    simp only [cmpL]
    split <;> split <;> first | omega | (split <;> omega) | skip
theorem cmpL_trans : ∀ (x y z : List Int), cmpL x y ≤ 0 → cmpL y z ≤ 0 → cmpL x z ≤ 0
  | [], y, [], _, _ => by simp [cmpL]
  | [], y, _ :: _, _, _ => by simp [cmpL]
  | a :: x, [], z, h, _ => by simp [cmpL] at h
  | a :: x, b :: y, [], _, h => by simp [cmpL] at h
  | a :: x, b :: y, c :: z, h1, h2 => by
    have ih := cmpL_trans x y z
    simp only [cmpL] at h1 h2 ⊢
    split at h1
    · split at h2
      · rw [if_pos (by omega)]; omega
      · split at h2
        · omega
        · rw [if_pos (by omega)]; omega
    · split at h1
      · omega
      · split at h2
        · rw [if_pos (by omega)]; omega
        · split at h2
          · omega
          · rw [if_neg (by omega), if_neg (by omega)]
            exact ih h1 h2
theorem cmpL_bd : ∀ (x y : List Int), -1 ≤ cmpL x y ∧ cmpL x y ≤ 1
  | [], [] => by simp [cmpL]
  | [], _ :: _ => by simp [cmpL]
  | _ :: _, [] => by simp [cmpL]
  | a :: x, b :: y => by
    have := cmpL_bd x y
    simp only [cmpL]
    split
    · omega
    · split <;> omega
def sgn (a b : Int) : Int := if a < b then -1 else if b < a then 1 else 0
theorem sgn_zero {a b : Int} : sgn a b = 0 ↔ a = b := by
  unfold sgn; split
  · omega
  · split <;> omega
/-- a choice compared with another one -/
def cmpC (pa pb : Int) (x y : List Int) : Int := if sgn pa pb ≠ 0 then sgn pa pb else if sgn x.length y.length ≠ 0 then sgn x.length y.length else cmpL x y
/-- is a choice better than another one? -/
def ltC (ws : List Wrk) (x y : List Int) : Bool := decide (cmpC (priceC ws x) (priceC ws y) x y < 0)
theorem sgn_lt {a b : Int} (h : a < b) : sgn a b = -1 := by unfold sgn; rw [if_pos h]
theorem sgn_gt {a b : Int} (h : b < a) : sgn a b = 1 := by unfold sgn; rw [if_neg (by omega), if_pos h]
theorem cmpC_neg {pa pb : Int} {x y : List Int} : cmpC pa pb x y < 0 ↔ pa < pb ∨ (pa = pb ∧ (x.length < y.length ∨ (x.length = y.length ∧ cmpL x y < 0))) := by
  unfold cmpC
  rcases Int.lt_trichotomy pa pb with h | h | h
  · rw [sgn_lt h, if_pos (by omega)]; omega
  · rw [sgn_zero.2 h, if_neg (by omega)]
    rcases Nat.lt_trichotomy x.length y.length with h2 | h2 | h2
    · rw [sgn_lt (by omega), if_pos (by omega)]; omega
    · rw [sgn_zero.2 (by omega), if_neg (by omega)]; omega
    · rw [sgn_gt (by omega), if_pos (by omega)]; omega
  · rw [sgn_gt h, if_pos (by omega)]; omega
theorem ltC_iff {ws : List Wrk} {x y : List Int} : ltC ws x y = true ↔ priceC ws x < priceC ws y ∨ (priceC ws x = priceC ws y ∧ (x.length < y.length ∨ (x.length = y.length ∧ cmpL x y < 0))) := by
  simp only [ltC, decide_eq_true_eq, cmpC_neg]
theorem ltC_not {ws : List Wrk} {x y : List Int} : ltC ws x y = false ↔ priceC ws y < priceC ws x ∨ (priceC ws x = priceC ws y ∧ (y.length < x.length ∨ (x.length = y.length ∧ 0 ≤ cmpL x y))) := by
  rw [← Bool.not_eq_true, ltC_iff]; omega
theorem ltC_irrefl (ws : List Wrk) (x : List Int) : ltC ws x x = false := by
  rw [ltC_not]; exact .inr ⟨rfl, .inr ⟨rfl, by rw [cmpL_self]; omega⟩⟩
theorem ltC_total {ws : List Wrk} {x y : List Int} (h : ltC ws x y = false) (h' : ltC ws y x = false) : x = y := by
  rw [ltC_not] at h h'
  have := cmpL_neg x y
  exact cmpL_eq (by omega)
theorem ltC_ntrans {ws : List Wrk} {x y z : List Int} (h : ltC ws y x = false) (h' : ltC ws z y = false) : ltC ws z x = false := by
  rw [ltC_not] at *
  have h1 := cmpL_trans x y z
  have := cmpL_neg x y; have := cmpL_neg y z; have := cmpL_neg x z
  omega
theorem ltC_trans {ws : List Wrk} {x y z : List Int} (h : ltC ws x y = true) (h' : ltC ws y z = true) : ltC ws x z = true := by
  cases hc : ltC ws x z
  · exfalso
    have h1 : ltC ws y x = false := by
      rw [ltC_iff] at h; rw [ltC_not]; have := cmpL_neg x y; omega
    -- z ≤ x ≤ y, so z ≤ y, against y < z
    have h2 := ltC_ntrans (x := z) (y := x) (z := y) hc h1
    rw [h2] at h'; cases h'
  · rfl

/-- does the dam hold whatever happens? -/
def enB (l : Lak) (ws : List Wrk) (c : List Int) : Bool := (aftL l (netL l ws c)).all fun x => decide (x.brk < 0)
/-- the first of a list that is enough -/
def firstE (l : Lak) (ws : List Wrk) : List (List Int) → Option (List Int)
  | [] => none
  | c :: cs => if enB l ws c then some c else firstE l ws cs
theorem firstE_none {l : Lak} {ws : List Wrk} : ∀ {cs : List (List Int)}, firstE l ws cs = none ↔ ∀ c ∈ cs, enB l ws c = false
  | [] => by simp [firstE]
  | c :: cs => by
    simp only [firstE, List.mem_cons, forall_eq_or_imp]
    cases h : enB l ws c
    · simp [firstE_none (cs := cs)]
    · simp
theorem firstE_some {l : Lak} {ws : List Wrk} {b : List Int} : ∀ {cs : List (List Int)}, List.Pairwise (fun x y => ltC ws y x = false) cs → firstE l ws cs = some b → b ∈ cs ∧ enB l ws b = true ∧ ∀ c ∈ cs, enB l ws c = true → ltC ws c b = false
  | [], _, h => by simp [firstE] at h
  | c :: cs, hp, h => by
    simp only [firstE] at h
    cases he : enB l ws c
    · rw [he] at h
      obtain ⟨h1, h2, h3⟩ := firstE_some (List.pairwise_cons.1 hp).2 (by simpa using h)
      refine ⟨List.mem_cons_of_mem _ h1, h2, fun d hd hde => ?_⟩
      rcases List.mem_cons.1 hd with rfl | hd
      · rw [he] at hde; cases hde
      · exact h3 d hd hde
    · rw [he] at h
      obtain rfl : c = b := by simpa using h
      refine ⟨List.mem_cons_self, he, fun d hd hde => ?_⟩
      rcases List.mem_cons.1 hd with rfl | hd
      · exact ltC_irrefl _ _
      · exact (List.pairwise_cons.1 hp).1 d hd
/-- The cheapest choice that is enough, if there is one. -/
structure Best (l : Lak) (ws : List Wrk) (b : List Int) : Prop where
  cho : choB ws.length b = true
  en : enB l ws b = true
  le : ∀ c, choB ws.length c = true → enB l ws c = true → ltC ws c b = false
theorem Best.uniq {l : Lak} {ws : List Wrk} {b b' : List Int} (h : Best l ws b) (h' : Best l ws b') : b = b' := ltC_total (h'.le b h.cho h.en) (h.le b' h'.cho h'.en)
end Go.Proofs.Ytpijmfbpdglchaa
