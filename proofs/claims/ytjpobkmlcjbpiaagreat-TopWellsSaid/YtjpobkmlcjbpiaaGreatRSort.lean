/- PLAIN LAWS of reading and writing: what is found and what is lost are together all bytes; what is written is read again. No program in sight. -/
import Derived.Test.YtjpobkmlcjbpiaaGreatWrite
set_option linter.unusedVariables false
set_option linter.unusedSimpArgs false
namespace Go.Proofs.YtjpobkmlcjbpiaaGreat.Ga

/-- from a place on, the bytes are the lost places and the kept bytes, merged -/
inductive Mg (bs : List UInt8) : Nat → List Nat → List UInt8 → Prop
  | done : Mg bs bs.length [] []
  | lost {i : Nat} {L : List Nat} {W : List UInt8} : i < bs.length → Mg bs (i + 1) L W → Mg bs i (i :: L) W
  | kept {i : Nat} {x : UInt8} {L : List Nat} {W : List UInt8} : bs[i]? = some x → Mg bs (i + 1) L W → Mg bs i L (x :: W)
theorem Mg.ge {bs : List UInt8} {i : Nat} {L : List Nat} {W : List UInt8} (h : Mg bs i L W) : ∀ u ∈ L, i ≤ u := by
  induction h with
  | done => intro u hu; cases hu
  | lost _ _ ih =>
    intro u hu
    rcases List.mem_cons.1 hu with rfl | hu
    · exact Nat.le_refl _
    · have := ih u hu; omega
  | kept _ _ ih => intro u hu; have := ih u hu; omega
theorem Mg.len {bs : List UInt8} {i : Nat} {L : List Nat} {W : List UInt8} (h : Mg bs i L W) : L.length + W.length + i = bs.length := by
  induction h with
  | done => simp
  | lost _ _ ih => simp only [List.length_cons]; omega
  | kept _ _ ih => simp only [List.length_cons]; omega
theorem Mg.many {bs : List UInt8} {L : List Nat} {W : List UInt8} : ∀ (p : List UInt8) (a : Nat), (∀ (k : Nat) (x : UInt8), p[k]? = some x → bs[a + k]? = some x) → Mg bs (a + p.length) L W → Mg bs a L (p ++ W)
  | [], a, _, h => h
  | x :: p, a, hp, h => by
    refine .kept (by simpa using hp 0 x rfl) (Mg.many p (a + 1) (fun k y hk => ?_) ?_)
    · have := hp (k + 1) y (by simpa using hk)
      rwa [show a + 1 + k = a + (k + 1) by omega]
    · rwa [show a + 1 + p.length = a + (x :: p).length by simp; omega]
theorem Mg.rest {bs : List UInt8} : ∀ (n a : Nat), a + n = bs.length → Mg bs a (fromTo a bs.length) []
  | 0, a, h => by
    rw [fromTo_nil (by omega)]
    obtain rfl : a = bs.length := by omega
    exact .done
  | n + 1, a, h => by
    rw [fromTo_cons (by omega)]
    exact .lost (by omega) (Mg.rest n (a + 1) (by omega))
theorem fromTo_app {a b c : Nat} (h : a ≤ b) (h' : b ≤ c) : fromTo a c = fromTo a b ++ fromTo b c := by
  induction c with
  | zero => rw [fromTo_nil (a := a) (b := b) (by omega), fromTo_nil (a := b) (b := 0) (by omega), fromTo_nil (by omega)]; rfl
  | succ c ih =>
    rcases Nat.lt_or_ge c b with hc | hc
    · obtain rfl : b = c + 1 := by omega
      rw [fromTo_nil (a := c + 1) (by omega), List.append_nil]
    · rw [fromTo_snoc (by omega), fromTo_snoc hc, ih hc, List.append_assoc]
theorem scan_mg {bs : List UInt8} : ∀ (n a : Nat), bs.length - a ≤ n → a ≤ bs.length → ∃ L, Mg bs a L ((scan bs a).flatMap fun x => recB x.1) ∧
    ∀ (s : List Nat) (next : Nat), next ≤ a → ((scan bs a).foldl lostStep (s, next)).1 ++ fromTo ((scan bs a).foldl lostStep (s, next)).2 bs.length = s ++ fromTo next a ++ L := by
  intro n
  induction n with
  | zero =>
    intro a h ha
    rw [scan_end (by omega)]
    refine ⟨fromTo a bs.length, Mg.rest (bs.length - a) a (by omega), fun s next hn => ?_⟩
    simp only [List.foldl_nil]
    rw [List.append_assoc, fromTo_app hn ha]
  | succ n ih =>
    intro a h ha
    by_cases h16 : a + 16 ≤ bs.length
    · cases hr : isRec (win bs a)
      · obtain ⟨L, h1, h2⟩ := ih (a + 1) (by omega) (by omega)
        rw [scan_no h16 hr]
        refine ⟨a :: L, .lost (by omega) h1, fun s next hn => ?_⟩
        rw [h2 s next (by omega), fromTo_snoc hn]
        simp
      · obtain ⟨L, h1, h2⟩ := ih (a + 16) (by omega) (by omega)
        rw [scan_yes h16 hr]
        have hw : recB (rdgOf (win bs a)) = win bs a := by
          cases hv : validB (rdgOf (win bs a))
          · rw [isRec_no hv] at hr; cases hr
          · rw [isRec_yes hv] at hr; exact of_decide_eq_true hr
        refine ⟨L, ?_, fun s next hn => ?_⟩
        · rw [List.flatMap_cons, hw]
          refine Mg.many _ _ (fun k x hk => ?_) (by rw [win_len h16]; exact h1)
          rw [win, List.getElem?_take] at hk
          split at hk
          · rwa [List.getElem?_drop] at hk
          · cases hk
        · rw [List.foldl_cons]
          show ((scan bs (a + 16)).foldl lostStep (s ++ fromTo next a, a + 16)).1 ++ fromTo ((scan bs (a + 16)).foldl lostStep (s ++ fromTo next a, a + 16)).2 bs.length = _
          rw [h2 _ _ (Nat.le_refl _), fromTo_nil (a := a + 16) (Nat.le_refl _), List.append_nil]
    · rw [scan_end h16]
      refine ⟨fromTo a bs.length, Mg.rest (bs.length - a) a (by omega), fun s next hn => ?_⟩
      simp only [List.foldl_nil]
      rw [List.append_assoc, fromTo_app hn ha]
/-- Lost places and kept bytes are together all bytes. -/
theorem read_mg (bs : List UInt8) : Mg bs 0 (lostOf bs) (bytesOf (readOf bs)) := by
  obtain ⟨L, h1, h2⟩ := scan_mg (bs := bs) bs.length 0 (by omega) (by omega)
  have h3 := h2 [] 0 (Nat.le_refl _)
  rw [fromTo_nil (a := 0) (Nat.le_refl _)] at h3
  have h4 : lostOf bs = L := h3
  have h5 : bytesOf (readOf bs) = (scan bs 0).flatMap fun x => recB x.1 := by rw [bytesOf, readOf, List.flatMap_map]
  rw [h4, h5]; exact h1
theorem Mg.step {bs : List UInt8} {i a k : Nat} {L : List Nat} {W : List UInt8} (h : Mg bs i (L.drop a) (W.drop k)) (hi : i < bs.length) :
    (L[a]? = some i ∧ Mg bs (i + 1) (L.drop (a + 1)) (W.drop k)) ∨ (∃ x, bs[i]? = some x ∧ W[k]? = some x ∧ L[a]? ≠ some i ∧ Mg bs (i + 1) (L.drop a) (W.drop (k + 1))) := by
  generalize hL : L.drop a = L' at h
  generalize hW : W.drop k = W' at h
  cases h with
  | done => omega
  | @lost _ L1 _ _ h =>
    left
    have ha : L[a]? = some i := by have := congrArg (fun (l : List Nat) => l[0]?) hL; simpa using this
    have hL1 : L.drop (a + 1) = L1 := by have := congrArg List.tail hL; simpa using this
    rw [hL1]; exact ⟨ha, h⟩
  | @kept _ x _ W1 hx h =>
    right
    have hk : W[k]? = some x := by have := congrArg (fun (l : List UInt8) => l[0]?) hW; simpa using this
    have hW1 : W.drop (k + 1) = W1 := by have := congrArg List.tail hW; simpa using this
    refine ⟨x, hx, hk, fun e => ?_, by rw [hW1]; exact h⟩
    have h0 : i ∈ L' := by
      rw [← hL]
      exact List.mem_of_getElem? (i := 0) (by simpa using e)
    have := h.ge i h0
    omega
theorem read_ok {bs : List UInt8} (h : bs.length ≤ 2000) : (readOf bs).length ≤ 125 ∧ errR (readOf bs) = 0 := by
  have h1 := scan_len (bs := bs) bs.length 0 (by omega)
  have h2 : (readOf bs).length ≤ 125 := by rw [readOf, List.length_map]; omega
  refine ⟨h2, errR_zero.2 ⟨by omega, allB_iff.2 fun i x hx => ?_⟩⟩
  simp only [readOf, List.getElem?_map, Option.map_eq_some_iff] at hx
  obtain ⟨y, hy, rfl⟩ := hx
  have := scan_at (bs := bs) bs.length 0 (by omega) y (List.mem_of_getElem? hy)
  cases hv : validB y.1
  · rw [this.2.2.2] at hv
    rw [isRec_no hv] at this; exact absurd this.2.2.1 (by simp)
  · rfl

theorem rdg_rec {r : Rdg} (h : validB r = true) : rdgOf (recB r) = r := by
  have hv := validB_iff.1 h
  unfold recB
  generalize ck (preB r) = q
  obtain ⟨a, b, c, d⟩ := r
  simp only at hv
  simp only [rdgOf, preB, beB, List.cons_append, List.nil_append, List.drop_succ_cons, List.drop_zero, List.take_succ_cons, List.take_zero, numB, List.foldl_cons, List.foldl_nil, byteOf_toNat, signed, Rdg.mk.injEq]
  refine ⟨?_, ?_, ?_, ?_⟩
  · omega
  · omega
  · omega
  · split <;> omega
theorem rec_is {r : Rdg} (h : validB r = true) : isRec (recB r) = true := by
  rw [isRec_yes (by rw [rdg_rec h]; exact h), rdg_rec h]; simp
theorem scan_bytes : ∀ (suf pre : List Rdg), (∀ r ∈ suf, validB r = true) → ((scan (bytesOf (pre ++ suf)) (pre.length * 16)).map (·.1) = suf ∧
    ∀ s, (scan (bytesOf (pre ++ suf)) (pre.length * 16)).foldl lostStep (s, pre.length * 16) = (s, (pre ++ suf).length * 16))
  | [], pre, _ => by
    have : ¬ pre.length * 16 + 16 ≤ (bytesOf (pre ++ [])).length := by rw [bytesOf_len]; simp
    rw [scan_end this]; simp
  | r :: suf, pre, h => by
    have hr := h r (by simp)
    have hw : win (bytesOf (pre ++ r :: suf)) (pre.length * 16) = recB r := by
      have e : bytesOf (pre ++ r :: suf) = bytesOf pre ++ (recB r ++ bytesOf suf) := by simp [bytesOf]
      rw [win, e, List.drop_append_of_le_length (by rw [bytesOf_len]; exact Nat.le_refl _), List.drop_eq_nil_of_le (by rw [bytesOf_len]; exact Nat.le_refl _), List.nil_append, List.take_append_of_le_length (by rw [recB_len]; exact Nat.le_refl _), List.take_of_length_le (by rw [recB_len]; exact Nat.le_refl _)]
    have h16 : pre.length * 16 + 16 ≤ (bytesOf (pre ++ r :: suf)).length := by rw [bytesOf_len]; simp only [List.length_append, List.length_cons]; omega
    have ih := scan_bytes suf (pre ++ [r]) (fun x hx => h x (by simp [hx]))
    rw [List.append_assoc, List.singleton_append, List.length_append, List.length_singleton, Nat.add_mul, Nat.one_mul] at ih
    rw [scan_yes h16 (by rw [hw]; exact rec_is hr), hw, rdg_rec hr]
    refine ⟨by rw [List.map_cons, ih.1], fun s => ?_⟩
    rw [List.foldl_cons]
    show (scan (bytesOf (pre ++ r :: suf)) (pre.length * 16 + 16)).foldl lostStep (s ++ fromTo (pre.length * 16) (pre.length * 16), pre.length * 16 + 16) = _
    rw [fromTo_nil (Nat.le_refl _), List.append_nil, ih.2 s]
/-- What is written is read again, and nothing is lost. -/
theorem read_bytes {rs : List Rdg} (h : allB validB rs = true) : readOf (bytesOf rs) = rs ∧ lostOf (bytesOf rs) = [] := by
  have h1 := scan_bytes rs [] (fun r hr => by
    obtain ⟨i, hi⟩ := List.getElem?_of_mem hr
    exact allB_iff.1 h i r hi)
  simp only [List.nil_append, List.length_nil, Nat.zero_mul] at h1
  refine ⟨h1.1, ?_⟩
  rw [lostOf, lostAcc, h1.2 []]
  simp only [List.nil_append]
  exact fromTo_nil (by rw [bytesOf_len]; exact Nat.le_refl _)
end Go.Proofs.YtjpobkmlcjbpiaaGreat.Ga

namespace Go.Proofs.YtjpobkmlcjbpiaaGreat.Ga

abbrev Itm := UInt8 ⊕ Rdg
def bI : Itm → List UInt8
  | .inl x => [x]
  | .inr r => recB r
def bOf (l : List Itm) : List UInt8 := l.flatMap bI
def rI : Itm → List Rdg
  | .inl _ => []
  | .inr r => [r]
def rsOf (l : List Itm) : List Rdg := l.flatMap rI
def dueAt : Nat → List Itm → List Nat
  | _, [] => []
  | o, .inl _ :: t => o :: dueAt (o + 1) t
  | o, .inr _ :: t => dueAt (o + 16) t
def gI : Itm → Prop
  | .inl x => x ≠ 165
  | .inr r => validB r = true
def Good (l : List Itm) : Prop := ∀ i ∈ l, gI i
theorem bOf_app (a b : List Itm) : bOf (a ++ b) = bOf a ++ bOf b := by simp [bOf]
theorem rsOf_app (a b : List Itm) : rsOf (a ++ b) = rsOf a ++ rsOf b := by simp [rsOf]
theorem dueAt_inl : ∀ (l : List Itm) (o : Nat) (x : UInt8), dueAt o (l ++ [.inl x]) = dueAt o l ++ [o + (bOf l).length]
  | [], o, x => by simp [dueAt, bOf]
  | .inl y :: t, o, x => by
    have := dueAt_inl t (o + 1) x
    simp only [List.cons_append, dueAt]
    rw [this]; simp [bOf, bI]; omega
  | .inr r :: t, o, x => by
    have := dueAt_inl t (o + 16) x
    simp only [List.cons_append, dueAt]
    rw [this]; simp [bOf, bI, recB_len]; omega
theorem dueAt_inr : ∀ (l : List Itm) (o : Nat) (r : Rdg), dueAt o (l ++ [.inr r]) = dueAt o l
  | [], o, x => by simp [dueAt]
  | .inl y :: t, o, x => by
    have := dueAt_inr t (o + 1) x
    simp only [List.cons_append, dueAt]
    rw [this]
  | .inr r :: t, o, x => by
    have := dueAt_inr t (o + 16) x
    simp only [List.cons_append, dueAt]
    rw [this]
theorem Good.snoc {l : List Itm} {i : Itm} (h : Good l) (hi : gI i) : Good (l ++ [i]) := fun j hj => by
  rcases List.mem_append.1 hj with hj | hj
  · exact h j hj
  · rw [List.mem_singleton.1 hj]; exact hi

theorem rec_zero (r : Rdg) : (recB r)[0]? = some 165 := by simp [recB, preB]
theorem isRec_out {bs : List UInt8} (h : isRec bs = true) : recB (rdgOf bs) = bs ∧ validB (rdgOf bs) = true := by
  cases hv : validB (rdgOf bs)
  · rw [isRec_no hv] at h; cases h
  · rw [isRec_yes hv] at h; exact ⟨of_decide_eq_true h, rfl⟩
theorem noise_no {bs : List UInt8} {x : UInt8} (h : bs[0]? = some x) (hx : x ≠ 165) : isRec bs = false := by
  rw [Bool.eq_false_iff]
  intro hr
  have := (isRec_out hr).1
  have h2 := rec_zero (rdgOf bs)
  rw [this, h] at h2
  cases h2; exact hx rfl
theorem win_at {a : Nat} {bs p q : List UInt8} (h : bs = p ++ q) (ha : a = p.length) : win bs a = q.take 16 := by
  subst h; subst ha; rw [win, List.drop_append_of_le_length (Nat.le_refl _), List.drop_eq_nil_of_le (Nat.le_refl _), List.nil_append]
theorem scan_skip {bs : List UInt8} {a : Nat} (h : a + 16 ≤ bs.length → isRec (win bs a) = false) : scan bs a = scan bs (a + 1) := by
  by_cases h16 : a + 16 ≤ bs.length
  · exact scan_no h16 (h h16)
  · rw [scan_end h16, scan_end (by omega)]
theorem scan_items : ∀ (suf pre : List Itm), Good suf → (scan (bOf (pre ++ suf)) (bOf pre).length).map (·.1) = rsOf suf ∧
    ∀ (s : List Nat) (next : Nat), next ≤ (bOf pre).length → ((scan (bOf (pre ++ suf)) (bOf pre).length).foldl lostStep (s, next)).1 ++ fromTo ((scan (bOf (pre ++ suf)) (bOf pre).length).foldl lostStep (s, next)).2 (bOf (pre ++ suf)).length = s ++ fromTo next (bOf pre).length ++ dueAt (bOf pre).length suf
  | [], pre, _ => by
    rw [List.append_nil, scan_end (by omega)]
    exact ⟨rfl, fun s next hn => by simp [dueAt]⟩
  | .inl x :: suf, pre, hg => by
    have ih := scan_items suf (pre ++ [.inl x]) (fun i hi => hg i (by simp [hi]))
    have hx : x ≠ 165 := hg (.inl x) (by simp)
    have e : pre ++ [.inl x] ++ suf = pre ++ .inl x :: suf := by simp
    have el : (bOf (pre ++ [Sum.inl x])).length = (bOf pre).length + 1 := by simp [bOf, bI]
    rw [e, el] at ih
    have hs : scan (bOf (pre ++ .inl x :: suf)) (bOf pre).length = scan (bOf (pre ++ .inl x :: suf)) ((bOf pre).length + 1) := by
      refine scan_skip fun h16 => noise_no (x := x) ?_ hx
      rw [win_at (p := bOf pre) (q := x :: bOf suf) (by rw [bOf_app]; rfl) rfl]; rfl
    rw [hs]
    refine ⟨by rw [ih.1]; simp [rsOf, rI], fun s next hn => ?_⟩
    rw [ih.2 s next (by omega), fromTo_snoc hn]
    simp [dueAt]
  | .inr r :: suf, pre, hg => by
    have ih := scan_items suf (pre ++ [.inr r]) (fun i hi => hg i (by simp [hi]))
    have hr : validB r = true := hg (.inr r) (by simp)
    have e : pre ++ [.inr r] ++ suf = pre ++ .inr r :: suf := by simp
    have el : (bOf (pre ++ [Sum.inr r])).length = (bOf pre).length + 16 := by simp [bOf, bI, recB_len]
    rw [e, el] at ih
    have hl : (bOf (pre ++ .inr r :: suf)).length = (bOf pre).length + 16 + (bOf suf).length := by rw [← e, bOf_app, List.length_append, el]
    have hw : win (bOf (pre ++ .inr r :: suf)) (bOf pre).length = recB r := by
      rw [win_at (p := bOf pre) (q := recB r ++ bOf suf) (by rw [bOf_app]; rfl) rfl, List.take_append_of_le_length (by rw [recB_len]; exact Nat.le_refl _), List.take_of_length_le (by rw [recB_len]; exact Nat.le_refl _)]
    have hs : scan (bOf (pre ++ .inr r :: suf)) (bOf pre).length = (r, (bOf pre).length) :: scan (bOf (pre ++ .inr r :: suf)) ((bOf pre).length + 16) := by
      rw [scan_yes (by omega) (by rw [hw]; exact rec_is hr), hw, rdg_rec hr]
    rw [hs]
    refine ⟨by rw [List.map_cons, ih.1]; simp [rsOf, rI], fun s next hn => ?_⟩
    rw [List.foldl_cons]
    have h2 := ih.2 (s ++ fromTo next (bOf pre).length) ((bOf pre).length + 16) (Nat.le_refl _)
    rw [fromTo_nil (Nat.le_refl _), List.append_nil] at h2
    exact h2
/-- Records among noise are read, and the noise is lost. -/
theorem read_items {l : List Itm} (h : Good l) : readOf (bOf l) = rsOf l ∧ lostOf (bOf l) = dueAt 0 l := by
  have h1 := scan_items l [] h
  have e : bOf ([] : List Itm) = [] := rfl
  rw [List.nil_append, e, List.length_nil] at h1
  refine ⟨h1.1, ?_⟩
  have h2 := h1.2 [] 0 (Nat.le_refl _)
  rw [fromTo_nil (Nat.le_refl _)] at h2
  exact h2

/- one byte changed -/
end Go.Proofs.YtjpobkmlcjbpiaaGreat.Ga

namespace Go.Proofs.YtjpobkmlcjbpiaaGreat.Ga

/-- does a reading stand before another one? -/
def rlt (x y : Rdg) : Bool := decide (x.ins < y.ins ∨ (x.ins = y.ins ∧ (x.num < y.num ∨ (x.num = y.num ∧ (x.tim < y.tim ∨ (x.tim = y.tim ∧ x.val < y.val))))))
theorem rlt_iff {x y : Rdg} : rlt x y = true ↔ (x.ins < y.ins ∨ (x.ins = y.ins ∧ (x.num < y.num ∨ (x.num = y.num ∧ (x.tim < y.tim ∨ (x.tim = y.tim ∧ x.val < y.val)))))) := by simp [rlt]
theorem rlt_not {x y : Rdg} : rlt x y = false ↔ ¬ (x.ins < y.ins ∨ (x.ins = y.ins ∧ (x.num < y.num ∨ (x.num = y.num ∧ (x.tim < y.tim ∨ (x.tim = y.tim ∧ x.val < y.val)))))) := by rw [← rlt_iff]; simp
theorem rlt_irrefl (x : Rdg) : rlt x x = false := by rw [rlt_not]; omega
theorem rlt_trans {x y z : Rdg} (h : rlt x y = true) (h' : rlt y z = true) : rlt x z = true := by rw [rlt_iff] at *; omega
theorem rlt_ntrans {x y z : Rdg} (h : rlt x y = false) (h' : rlt y z = false) : rlt x z = false := by rw [rlt_not] at *; omega
theorem rlt_tri {x y : Rdg} (h : rlt x y = false) (h' : rlt y x = false) : x = y := by
  rw [rlt_not] at *
  obtain ⟨a, b, c, d⟩ := x
  obtain ⟨a', b', c', d'⟩ := y
  simp only at h h'
  simp only [Rdg.mk.injEq]
  omega
theorem rlt_asym {x y : Rdg} (h : rlt x y = true) : rlt y x = false := by rw [rlt_iff] at h; rw [rlt_not]; omega
/-- in their order -/
def Ord (s : List Rdg) : Prop := s.Pairwise fun x y => rlt y x = false
theorem Ord.uniq : ∀ {s s' : List Rdg}, Ord s → Ord s' → s.Perm s' → s = s'
  | [], s', _, _, hp => (List.nil_perm.1 hp).symm
  | x :: s, [], _, _, hp => by simpa using hp.length_eq
  | x :: s, y :: s', h, h', hp => by
    have hx := List.pairwise_cons.1 h
    have hy := List.pairwise_cons.1 h'
    have hxy : x = y := by
      have m1 : x ∈ y :: s' := hp.subset (by simp)
      have m2 : y ∈ x :: s := hp.symm.subset (by simp)
      rcases List.mem_cons.1 m1 with e | m1
      · exact e
      rcases List.mem_cons.1 m2 with e | m2
      · exact e.symm
      exact rlt_tri (hy.1 x m1) (hx.1 y m2)
    subst hxy
    rw [Ord.uniq hx.2 hy.2 (List.perm_cons x |>.1 hp)]

/-- of one name? -/
def nameB (x y : Rdg) : Bool := decide (x.ins = y.ins ∧ x.num = y.num)
theorem nameB_iff {x y : Rdg} : nameB x y = true ↔ x.ins = y.ins ∧ x.num = y.num := by simp [nameB]
theorem nameB_not {x y : Rdg} : nameB x y = false ↔ ¬ (x.ins = y.ins ∧ x.num = y.num) := by simp [nameB]
/-- no two of one name -/
def Names (l : List Rdg) : Prop := l.Pairwise fun x y => nameB x y = false
theorem Names.perm {l l' : List Rdg} (h : Names l) (hp : l.Perm l') : Names l' := (hp.pairwise_iff (fun h => by rw [nameB_not] at *; omega)).1 h
theorem names_iff {l : List Rdg} : Names l ↔ ∀ (i k : Nat) (x y : Rdg), i < k → l[i]? = some x → l[k]? = some y → nameB x y = false := by
  unfold Names
  rw [List.pairwise_iff_getElem]
  constructor
  · intro h i k x y hik hx hy
    obtain ⟨hi, rfl⟩ := List.getElem?_eq_some_iff.1 hx
    obtain ⟨hk, rfl⟩ := List.getElem?_eq_some_iff.1 hy
    exact h i k hi hk hik
  · intro h i j hi hj hij
    exact h i j _ _ hij (List.getElem?_eq_getElem hi) (List.getElem?_eq_getElem hj)
theorem ord_at {s : List Rdg} (h : Ord s) {i k : Nat} {x y : Rdg} (hik : i < k) (hx : s[i]? = some x) (hy : s[k]? = some y) : rlt y x = false := by
  obtain ⟨hi, rfl⟩ := List.getElem?_eq_some_iff.1 hx
  obtain ⟨hk, rfl⟩ := List.getElem?_eq_some_iff.1 hy
  exact List.pairwise_iff_getElem.1 h i k hi hk hik
/-- In order, two of one name stand side by side somewhere. -/
theorem names_adj {s : List Rdg} (h : Ord s) (ha : ∀ (i : Nat) (x y : Rdg), s[i]? = some x → s[i + 1]? = some y → nameB x y = false) : Names s := by
  rw [names_iff]
  intro i k x y hik hx hy
  cases hn : nameB x y
  · rfl
  · exfalso
    obtain ⟨z, hz⟩ : ∃ z, s[i + 1]? = some z := by
      have hk := (List.getElem?_eq_some_iff.1 hy).1
      exact ⟨_, List.getElem?_eq_getElem (by omega)⟩
    have h1 := ha i x z hx hz
    rcases Nat.lt_or_ge (i + 1) k with hlt | hge
    · have h2 := ord_at h (show i < i + 1 by omega) hx hz
      have h3 := ord_at h hlt hz hy
      rw [nameB_iff] at hn
      rw [nameB_not] at h1
      rw [rlt_not] at h2 h3
      omega
    · obtain rfl : k = i + 1 := by omega
      rw [hz] at hy; cases hy
      rw [hn] at h1; cases h1

/-- the gap between two readings that stand side by side -/
def gapStep (x y : Rdg) : List (Int × Int × Int) := if x.ins = y.ins ∧ x.num + 1 < y.num then [(x.ins, x.num + 1, y.num - 1)] else []
def gapAt (s : List Rdg) (i : Nat) : List (Int × Int × Int) := match s[i]?, s[i + 1]? with
  | some x, some y => gapStep x y
  | _, _ => []
theorem gapAt_of {s : List Rdg} {i : Nat} {x y : Rdg} (hx : s[i]? = some x) (hy : s[i + 1]? = some y) : gapAt s i = gapStep x y := by simp [gapAt, hx, hy]
/-- the gaps among the first readings -/
def gapsTo (s : List Rdg) (n : Nat) : List (Int × Int × Int) := (List.range n).flatMap (gapAt s)
theorem gapsTo_succ (s : List Rdg) (n : Nat) : gapsTo s (n + 1) = gapsTo s n ++ gapAt s n := by simp [gapsTo, List.range_succ]
theorem gapStep_len (x y : Rdg) : (gapStep x y).length ≤ 1 := by unfold gapStep; split <;> simp
theorem gapAt_len (s : List Rdg) (i : Nat) : (gapAt s i).length ≤ 1 := by
  unfold gapAt
  split
  · exact gapStep_len _ _
  · simp
theorem gapsTo_len (s : List Rdg) : ∀ n, (gapsTo s n).length ≤ n
  | 0 => by simp [gapsTo]
  | n + 1 => by rw [gapsTo_succ, List.length_append]; have := gapsTo_len s n; have := gapAt_len s n; omega
def encG (g : Int × Int × Int) : List Value := [.int .i64 g.1, .int .i64 g.2.1, .int .i64 g.2.2]
theorem encG_len (g : Int × Int × Int) : (encG g).length = 3 := rfl

/-- a reading set into readings that stand in their order -/
def insR (x : Rdg) : List Rdg → List Rdg
  | [] => [x]
  | y :: l => if rlt x y then x :: y :: l else y :: insR x l
/-- the readings in their order, each once -/
def stepR (s : List Rdg) (x : Rdg) : List Rdg := if x ∈ s then s else insR x s
def sortedR (l : List Rdg) : List Rdg := l.foldl stepR []
/-- strictly in order -/
def Sord (s : List Rdg) : Prop := s.Pairwise fun x y => rlt x y = true
theorem Sord.ord {s : List Rdg} (h : Sord s) : Ord s := h.imp fun h => rlt_asym h
theorem insR_perm (x : Rdg) : ∀ l, (insR x l).Perm (x :: l)
  | [] => List.Perm.refl _
  | y :: l => by
    unfold insR
    split
    · exact List.Perm.refl _
    · exact (List.Perm.cons y (insR_perm x l)).trans (List.Perm.swap x y l)
theorem insR_len (x : Rdg) (l : List Rdg) : (insR x l).length = l.length + 1 := by rw [(insR_perm x l).length_eq]; rfl
theorem insR_sord (x : Rdg) : ∀ l, Sord l → x ∉ l → Sord (insR x l)
  | [], _, _ => by simp [insR, Sord]
  | y :: l, h, hx => by
    have hy := List.pairwise_cons.1 h
    unfold insR
    split
    · rename_i hl
      refine List.pairwise_cons.2 ⟨fun z hz => ?_, h⟩
      rcases List.mem_cons.1 hz with rfl | hz
      · exact hl
      · exact rlt_trans hl (hy.1 z hz)
    · rename_i hl
      have hl' : rlt x y = false := by simpa using hl
      refine List.pairwise_cons.2 ⟨fun z hz => ?_, insR_sord x l hy.2 (fun hm => hx (by simp [hm]))⟩
      rcases List.mem_cons.1 ((insR_perm x l).subset hz) with rfl | hz
      · cases hr : rlt y z
        · exact absurd (rlt_tri hl' hr) (fun e => hx (by simp [e]))
        · rfl
      · exact hy.1 z hz
theorem stepR_ok {s : List Rdg} (h : Sord s) (x : Rdg) : Sord (stepR s x) ∧ ∀ y, y ∈ stepR s x ↔ y ∈ s ∨ y = x := by
  unfold stepR
  split
  · rename_i hx
    exact ⟨h, fun y => ⟨.inl, fun hy => by rcases hy with hy | rfl; exact hy; exact hx⟩⟩
  · rename_i hx
    exact ⟨insR_sord x s h hx, fun y => by rw [(insR_perm x s).mem_iff]; simp [or_comm]⟩
theorem foldR_ok : ∀ (l s : List Rdg), Sord s → Sord (l.foldl stepR s) ∧ ∀ y, y ∈ l.foldl stepR s ↔ y ∈ s ∨ y ∈ l
  | [], s, h => ⟨h, fun y => by simp⟩
  | x :: l, s, h => by
    obtain ⟨h1, h2⟩ := stepR_ok h x
    obtain ⟨h3, h4⟩ := foldR_ok l (stepR s x) h1
    exact ⟨h3, fun y => by rw [List.foldl_cons, h4, h2]; simp [or_assoc]⟩
theorem sortedR_ok (l : List Rdg) : Sord (sortedR l) ∧ ∀ y, y ∈ sortedR l ↔ y ∈ l := by
  obtain ⟨h1, h2⟩ := foldR_ok l [] List.Pairwise.nil
  exact ⟨h1, fun y => by rw [sortedR, h2]; simp⟩
theorem stepR_len (s : List Rdg) (x : Rdg) : (stepR s x).length ≤ s.length + 1 := by
  unfold stepR; split
  · omega
  · rw [insR_len]; exact Nat.le_refl _
theorem foldR_len : ∀ (l s : List Rdg), (l.foldl stepR s).length ≤ s.length + l.length
  | [], s => by simp
  | x :: l, s => by
    have := foldR_len l (stepR s x); have := stepR_len s x
    simp only [List.foldl_cons, List.length_cons]; omega
theorem sortedR_len (l : List Rdg) : (sortedR l).length ≤ l.length := by have := foldR_len l []; simpa [sortedR] using this
theorem Sord.nodup {s : List Rdg} (h : Sord s) : s.Nodup := h.imp fun h e => by subst e; rw [rlt_irrefl] at h; cases h
theorem Names.nodup {l : List Rdg} (h : Names l) : l.Nodup := h.imp fun h e => by subst e; rw [nameB_not] at h; exact h ⟨rfl, rfl⟩
/-- Where no reading is there twice, the reference's order is the order. -/
theorem sortedR_eq {l s : List Rdg} (hn : l.Nodup) (ho : Ord s) (hp : s.Perm l) : sortedR l = s := by
  obtain ⟨h1, h2⟩ := sortedR_ok l
  refine Ord.uniq h1.ord ho ?_
  exact ((List.perm_ext_iff_of_nodup h1.nodup hn).2 h2).trans hp.symm
end Go.Proofs.YtjpobkmlcjbpiaaGreat.Ga
