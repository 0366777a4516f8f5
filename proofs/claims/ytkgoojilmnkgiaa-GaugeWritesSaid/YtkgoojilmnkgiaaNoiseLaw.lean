/- PLAIN LAWS of records among noise, and of a record with one byte changed. No program in sight. -/
import Derived.Test.YtkgoojilmnkgiaaEachLaw
namespace Go.Proofs.Ytkgoojilmnkgiaa

abbrev Itm := UInt8 ⊕ Rdg
def bI : Itm → List UInt8
  | .inl x => [x]
  | .inr r => recB r
def bOf (l : List Itm) : List UInt8 := l.flatMap bI
def rI : Itm → List Rdg
  | .inl _ => []
  | .inr r => [r]
def rsOf (l : List Itm) : List Rdg := l.flatMap rI
def dueAt : Nat → List Itm → List Nat
  | _, [] => []
  | o, .inl _ :: t => o :: dueAt (o + 1) t
  | o, .inr _ :: t => dueAt (o + 16) t
def gI : Itm → Prop
  | .inl x => x ≠ 165
  | .inr r => validB r = true
def Good (l : List Itm) : Prop := ∀ i ∈ l, gI i
theorem bOf_app (a b : List Itm) : bOf (a ++ b) = bOf a ++ bOf b := by simp [bOf]
theorem rsOf_app (a b : List Itm) : rsOf (a ++ b) = rsOf a ++ rsOf b := by simp [rsOf]
theorem dueAt_inl : ∀ (l : List Itm) (o : Nat) (x : UInt8), dueAt o (l ++ [.inl x]) = dueAt o l ++ [o + (bOf l).length]
  | [], o, x => by simp [dueAt, bOf]
  | .inl y :: t, o, x => by
    have := dueAt_inl t (o + 1) x
    simp only [List.cons_append, dueAt]
    rw [this]; simp [bOf, bI]; omega
  | .inr r :: t, o, x => by
    have := dueAt_inl t (o + 16) x
    simp only [List.cons_append, dueAt]
    rw [this]; simp [bOf, bI, recB_len]; omega
theorem dueAt_inr : ∀ (l : List Itm) (o : Nat) (r : Rdg), dueAt o (l ++ [.inr r]) = dueAt o l
  | [], o, x => by simp [dueAt]
  | .inl y :: t, o, x => by
    have := dueAt_inr t (o + 1) x
    simp only [List.cons_append, dueAt]
    rw [this]
  | .inr r :: t, o, x => by
    have := dueAt_inr t (o + 16) x
    simp only [List.cons_append, dueAt]
    rw [this]
theorem Good.snoc {l : List Itm} {i : Itm} (h : Good l) (hi : gI i) : Good (l ++ [i]) := fun j hj => by
  rcases List.mem_append.1 hj with hj | hj
  · exact h j hj
  · rw [List.mem_singleton.1 hj]; exact hi

theorem rec_zero (r : Rdg) : (recB r)[0]? = some 165 := by simp [recB, preB]
theorem isRec_out {bs : List UInt8} (h : isRec bs = true) : recB (rdgOf bs) = bs ∧ validB (rdgOf bs) = true := by
  cases hv : validB (rdgOf bs)
  · rw [isRec_no hv] at h; cases h
  · rw [isRec_yes hv] at h; exact ⟨of_decide_eq_true h, rfl⟩
theorem noise_no {bs : List UInt8} {x : UInt8} (h : bs[0]? = some x) (hx : x ≠ 165) : isRec bs = false := by
  rw [Bool.eq_false_iff]
  intro hr
  have := (isRec_out hr).1
  have h2 := rec_zero (rdgOf bs)
  rw [this, h] at h2
  cases h2; exact hx rfl
theorem win_at {a : Nat} {bs p q : List UInt8} (h : bs = p ++ q) (ha : a = p.length) : win bs a = q.take 16 := by
  subst h; subst ha; rw [win, List.drop_append_of_le_length (Nat.le_refl _), List.drop_eq_nil_of_le (Nat.le_refl _), List.nil_append]
theorem scan_skip {bs : List UInt8} {a : Nat} (h : a + 16 ≤ bs.length → isRec (win bs a) = false) : scan bs a = scan bs (a + 1) := by
  by_cases h16 : a + 16 ≤ bs.length
  · exact scan_no h16 (h h16)
  · rw [scan_end h16, scan_end (by omega)]
theorem scan_items : ∀ (suf pre : List Itm), Good suf → (scan (bOf (pre ++ suf)) (bOf pre).length).map (·.1) = rsOf suf ∧
    ∀ (s : List Nat) (next : Nat), next ≤ (bOf pre).length → ((scan (bOf (pre ++ suf)) (bOf pre).length).foldl lostStep (s, next)).1 ++ fromTo ((scan (bOf (pre ++ suf)) (bOf pre).length).foldl lostStep (s, next)).2 (bOf (pre ++ suf)).length = s ++ fromTo next (bOf pre).length ++ dueAt (bOf pre).length suf
  | [], pre, _ => by
    rw [List.append_nil, scan_end (by omega)]
    exact ⟨rfl, fun s next hn => by simp [dueAt]⟩
  | .inl x :: suf, pre, hg => by
    have ih := scan_items suf (pre ++ [.inl x]) (fun i hi => hg i (by simp [hi]))
    have hx : x ≠ 165 := hg (.inl x) (by simp)
    have e : pre ++ [.inl x] ++ suf = pre ++ .inl x :: suf := by simp
    have el : (bOf (pre ++ [Sum.inl x])).length = (bOf pre).length + 1 := by simp [bOf, bI]
    rw [e, el] at ih
    have hs : scan (bOf (pre ++ .inl x :: suf)) (bOf pre).length = scan (bOf (pre ++ .inl x :: suf)) ((bOf pre).length + 1) := by
      refine scan_skip fun h16 => noise_no (x := x) ?_ hx
      rw [win_at (p := bOf pre) (q := x :: bOf suf) (by rw [bOf_app]; rfl) rfl]; rfl
    rw [hs]
    refine ⟨by rw [ih.1]; simp [rsOf, rI], fun s next hn => ?_⟩
    rw [ih.2 s next (by omega), fromTo_snoc hn]
    simp [dueAt]
  | .inr r :: suf, pre, hg => by
    have ih := scan_items suf (pre ++ [.inr r]) (fun i hi => hg i (by simp [hi]))
    have hr : validB r = true := hg (.inr r) (by simp)
    have e : pre ++ [.inr r] ++ suf = pre ++ .inr r :: suf := by simp
    have el : (bOf (pre ++ [Sum.inr r])).length = (bOf pre).length + 16 := by simp [bOf, bI, recB_len]
    rw [e, el] at ih
    have hl : (bOf (pre ++ .inr r :: suf)).length = (bOf pre).length + 16 + (bOf suf).length := by rw [← e, bOf_app, List.length_append, el]
    have hw : win (bOf (pre ++ .inr r :: suf)) (bOf pre).length = recB r := by
      rw [win_at (p := bOf pre) (q := recB r ++ bOf suf) (by rw [bOf_app]; rfl) rfl, List.take_append_of_le_length (by rw [recB_len]; exact Nat.le_refl _), List.take_of_length_le (by rw [recB_len]; exact Nat.le_refl _)]
    have hs : scan (bOf (pre ++ .inr r :: suf)) (bOf pre).length = (r, (bOf pre).length) :: scan (bOf (pre ++ .inr r :: suf)) ((bOf pre).length + 16) := by
      rw [scan_yes (by omega) (by rw [hw]; exact rec_is hr), hw, rdg_rec hr]
    rw [hs]
    refine ⟨by rw [List.map_cons, ih.1]; simp [rsOf, rI], fun s next hn => ?_⟩
    rw [List.foldl_cons]
    have h2 := ih.2 (s ++ fromTo next (bOf pre).length) ((bOf pre).length + 16) (Nat.le_refl _)
    rw [fromTo_nil (Nat.le_refl _), List.append_nil] at h2
    exact h2
/-- Records among noise are read, and the noise is lost. -/
theorem read_items {l : List Itm} (h : Good l) : readOf (bOf l) = rsOf l ∧ lostOf (bOf l) = dueAt 0 l := by
  have h1 := scan_items l [] h
  have e : bOf ([] : List Itm) = [] := rfl
  rw [List.nil_append, e, List.length_nil] at h1
  refine ⟨h1.1, ?_⟩
  have h2 := h1.2 [] 0 (Nat.le_refl _)
  rw [fromTo_nil (Nat.le_refl _)] at h2
  exact h2

/- one byte changed -/
theorem ck_c {c c' : Int} (b : UInt8) (h0 : 0 ≤ c) (h1 : c < 16777213) (h2 : 0 ≤ c') (h3 : c' < 16777213) (h : c ≠ c') : ckStep c b ≠ ckStep c' b := by
  unfold ckStep; intro e; omega
theorem ck_b {c : Int} {b b' : UInt8} (h : b ≠ b') : ckStep c b ≠ ckStep c b' := by
  have h1 := b.toNat_lt; have h2 := b'.toNat_lt
  have h3 : b.toNat ≠ b'.toNat := fun e => h (UInt8.toNat.inj e)
  unfold ckStep; intro e; omega
theorem ck_run : ∀ (l : List UInt8) {c c' : Int}, 0 ≤ c → c < 16777213 → 0 ≤ c' → c' < 16777213 → c ≠ c' → l.foldl ckStep c ≠ l.foldl ckStep c'
  | [], _, _, _, _, _, _, h => h
  | b :: l, c, c', h0, h1, h2, h3, h => by
    have a := ckStep_bd c b; have a' := ckStep_bd c' b
    exact ck_run l a.1 a.2 a'.1 a'.2 (ck_c b h0 h1 h2 h3 h)
theorem ck_set : ∀ (l : List UInt8) (k : Nat) (x z : UInt8) (c : Int), l[k]? = some x → z ≠ x → (l.set k z).foldl ckStep c ≠ l.foldl ckStep c
  | [], k, x, z, c, h, _ => by simp at h
  | b :: l, 0, x, z, c, h, hz => by
    simp at h; subst h
    have a := ckStep_bd c z; have a' := ckStep_bd c b
    exact ck_run l a.1 a.2 a'.1 a'.2 (ck_b hz)
  | b :: l, k + 1, x, z, c, h, hz => ck_set l k x z (ckStep c b) (by simpa using h) hz
theorem numB3 {n : Int} (h0 : 0 ≤ n) (h1 : n < 16777216) : numB (beB n 3) = n := by
  simp only [beB, numB, List.foldl_cons, List.foldl_nil, byteOf_toNat]; omega
theorem ck_range (l : List UInt8) : 0 ≤ ck l ∧ ck l < 16777213 := ck_bd_aux l 1 (by omega) (by omega)
theorem take12 (r : Rdg) : (recB r).take 12 = preB r := by
  rw [recB, List.append_assoc, List.take_append_of_le_length (by rw [preB_len]; exact Nat.le_refl _), List.take_of_length_le (by rw [preB_len]; exact Nat.le_refl _)]
theorem rec_mid (r : Rdg) : ((recB r).drop 12).take 3 = beB (ck (preB r)) 3 := by
  rw [recB, List.append_assoc, List.drop_append_of_le_length (by rw [preB_len]; exact Nat.le_refl _), List.drop_eq_nil_of_le (by rw [preB_len]; exact Nat.le_refl _), List.nil_append, List.take_append_of_le_length (by rw [beB_len]; exact Nat.le_refl _), List.take_of_length_le (by rw [beB_len]; exact Nat.le_refl _)]
theorem rec_of_pre {q r : Rdg} (h : preB q = preB r) : recB q = recB r := by rw [recB, recB, h]
/-- A record with one byte changed is no record. -/
theorem hurt_no {r : Rdg} {k : Nat} {x z : UInt8} (hx : (recB r)[k]? = some x) (hz : z ≠ x) : isRec ((recB r).set k z) = false := by
  rw [Bool.eq_false_iff]
  intro hr
  obtain ⟨he, _⟩ := isRec_out hr
  generalize rdgOf ((recB r).set k z) = q at he
  have hk : k < 16 := by have := (List.getElem?_eq_some_iff.1 hx).1; rwa [recB_len] at this
  have hset : ((recB r).set k z)[k]? = some z := List.getElem?_set_self (by rw [recB_len]; exact hk)
  by_cases h12 : k < 12
  · have hp : preB q = (preB r).set k z := by rw [← take12 q, he, List.take_set, take12]
    have hc : beB (ck (preB q)) 3 = beB (ck (preB r)) 3 := by
      rw [← rec_mid q, ← rec_mid r, he, List.drop_set_of_lt (by omega)]
    have h1 := ck_range (preB q); have h2 := ck_range (preB r)
    have hn : ck (preB q) = ck (preB r) := by rw [← numB3 (n := ck (preB q)) h1.1 (by omega), hc, numB3 h2.1 (by omega)]
    rw [hp] at hn
    refine ck_set (preB r) k x z 1 ?_ hz hn
    rw [← take12 r, List.getElem?_take, if_pos h12]; exact hx
  · by_cases h15 : k = 15
    · subst h15
      have hl : ∀ r : Rdg, (recB r)[15]? = some 90 := fun r => by
        rw [recB, List.getElem?_append_right (by simp [preB_len, beB_len])]; simp [preB_len, beB_len]
      rw [hl r] at hx; rw [← he, hl q] at hset
      cases hx; cases hset; exact hz rfl
    · have hp : preB q = preB r := by rw [← take12 q, he, List.take_set_of_le (by omega), take12]
      have := rec_of_pre hp
      rw [he] at this
      rw [this, hx] at hset
      cases hset; exact hz rfl
theorem scan_pre : ∀ (suf pre : List Rdg) (tl : List UInt8), (∀ r ∈ suf, validB r = true) → ∃ P : List (Rdg × Nat), scan (bytesOf (pre ++ suf) ++ tl) (pre.length * 16) = P ++ scan (bytesOf (pre ++ suf) ++ tl) ((pre ++ suf).length * 16) ∧ P.map (·.1) = suf ∧
    ∀ s, P.foldl lostStep (s, pre.length * 16) = (s, (pre ++ suf).length * 16)
  | [], pre, tl, _ => ⟨[], by simp, rfl, fun s => by simp⟩
  | r :: suf, pre, tl, h => by
    have hr := h r (by simp)
    have e : bytesOf (pre ++ r :: suf) ++ tl = bytesOf pre ++ (recB r ++ (bytesOf suf ++ tl)) := by simp [bytesOf]
    have hw : win (bytesOf (pre ++ r :: suf) ++ tl) (pre.length * 16) = recB r := by
      rw [win_at e (by rw [bytesOf_len]), List.take_append_of_le_length (by rw [recB_len]; exact Nat.le_refl _), List.take_of_length_le (by rw [recB_len]; exact Nat.le_refl _)]
    have h16 : pre.length * 16 + 16 ≤ (bytesOf (pre ++ r :: suf) ++ tl).length := by rw [List.length_append, bytesOf_len]; simp only [List.length_append, List.length_cons]; omega
    obtain ⟨P, h1, h2, h3⟩ := scan_pre suf (pre ++ [r]) tl (fun x hx => h x (by simp [hx]))
    have hp0 : (pre ++ [r]).length * 16 = pre.length * 16 + 16 := by rw [List.length_append, List.length_singleton]; omega
    rw [List.append_assoc, List.singleton_append, hp0] at h1
    have hp1 : (pre ++ [r]).length * 16 = pre.length * 16 + 16 := by rw [List.length_append, List.length_singleton]; omega
    rw [List.append_assoc, List.singleton_append, hp1] at h3
    refine ⟨(r, pre.length * 16) :: P, ?_, by rw [List.map_cons, h2], fun s => ?_⟩
    · rw [scan_yes h16 (by rw [hw]; exact rec_is hr), hw, rdg_rec hr, h1]; rfl
    · rw [List.foldl_cons]
      show P.foldl lostStep (s ++ fromTo (pre.length * 16) (pre.length * 16), pre.length * 16 + 16) = _
      rw [fromTo_nil (Nat.le_refl _), List.append_nil, h3 s]
/-- Bytes with one changed: the records ahead are read, and the first byte of the hurt one is the first that is lost. -/
theorem read_hurt {rs : List Rdg} (hv : allB validB rs = true) {n : Nat} {x z : UInt8} (hx : (bytesOf rs)[n]? = some x) (hz : z ≠ x) :
    (∃ R, readOf ((bytesOf rs).set n z) = rs.take (n / 16) ++ R) ∧ (∃ L, lostOf ((bytesOf rs).set n z) = n / 16 * 16 :: L) := by
  have hn : n < rs.length * 16 := by have := (List.getElem?_eq_some_iff.1 hx).1; rwa [bytesOf_len] at this
  have hw : n / 16 < rs.length := by omega
  generalize hwd : n / 16 = w at *
  obtain ⟨r, hr⟩ : ∃ r, rs[w]? = some r := ⟨_, List.getElem?_eq_getElem hw⟩
  have hsplit : rs = rs.take w ++ r :: rs.drop (w + 1) := by
    rw [List.getElem?_eq_getElem hw] at hr; cases hr
    rw [← List.drop_eq_getElem_cons hw, List.take_append_drop]
  have hpl : (rs.take w).length = w := by rw [List.length_take]; omega
  have hvr : validB r = true := allB_iff.1 hv w r hr
  have hvp : ∀ q ∈ rs.take w, validB q = true := fun q hq => by
    obtain ⟨i, hi⟩ := List.getElem?_of_mem (List.mem_of_mem_take hq)
    exact allB_iff.1 hv i q hi
  have hb : bytesOf rs = bytesOf (rs.take w) ++ (recB r ++ bytesOf (rs.drop (w + 1))) := by
    conv => lhs; rw [hsplit]
    simp [bytesOf]
  have hbl : (bytesOf (rs.take w)).length = w * 16 := by rw [bytesOf_len, hpl]
  have hk : n - w * 16 < 16 := by omega
  have hset : (bytesOf rs).set n z = bytesOf (rs.take w) ++ ((recB r).set (n - w * 16) z ++ bytesOf (rs.drop (w + 1))) := by
    rw [hb, List.set_append_right _ _ (by omega), hbl, List.set_append_left _ _ (by rw [recB_len]; exact hk)]
  have hxr : (recB r)[n - w * 16]? = some x := by
    rw [hb, List.getElem?_append_right (by omega), hbl, List.getElem?_append_left (by rw [recB_len]; exact hk)] at hx
    exact hx
  have hno := hurt_no hxr hz
  obtain ⟨P, h1, h2, h3⟩ := scan_pre (rs.take w) [] ((recB r).set (n - w * 16) z ++ bytesOf (rs.drop (w + 1))) hvp
  rw [List.nil_append, ← hset, List.length_nil, Nat.zero_mul, hpl] at h1
  simp only [List.nil_append, List.length_nil, Nat.zero_mul] at h3
  rw [hpl] at h3
  have hwin : win ((bytesOf rs).set n z) (w * 16) = (recB r).set (n - w * 16) z := by
    rw [win_at hset (by rw [hbl]), List.take_append_of_le_length (by rw [List.length_set, recB_len]; exact Nat.le_refl _), List.take_of_length_le (by rw [List.length_set, recB_len]; exact Nat.le_refl _)]
  have h16 : w * 16 + 16 ≤ ((bytesOf rs).set n z).length := by rw [List.length_set, bytesOf_len]; omega
  have hsc : scan ((bytesOf rs).set n z) (w * 16) = scan ((bytesOf rs).set n z) (w * 16 + 1) := scan_no h16 (by rw [hwin]; exact hno)
  rw [hsc] at h1
  obtain ⟨L, _, h5⟩ := scan_mg (bs := (bytesOf rs).set n z) _ (w * 16 + 1) (Nat.le_refl _) (by omega)
  refine ⟨⟨(scan ((bytesOf rs).set n z) (w * 16 + 1)).map (·.1), by rw [readOf, h1, List.map_append, h2]⟩, ⟨L, ?_⟩⟩
  rw [lostOf, lostAcc, h1, List.foldl_append, h3 []]
  rw [h5 [] (w * 16) (by omega), fromTo_snoc (Nat.le_refl _), fromTo_nil (Nat.le_refl _)]
  rfl
end Go.Proofs.Ytkgoojilmnkgiaa
