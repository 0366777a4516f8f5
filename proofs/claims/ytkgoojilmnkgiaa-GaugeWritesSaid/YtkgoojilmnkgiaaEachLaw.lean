/- PLAIN LAWS of reading and writing: what is found and what is lost are together all bytes; what is written is read again. No program in sight. -/
import Derived.Test.YtkgoojilmnkgiaaScan
import Derived.Test.YtkgoojilmnkgiaaWrite
namespace Go.Proofs.Ytkgoojilmnkgiaa

/-- from a place on, the bytes are the lost places and the kept bytes, merged -/
inductive Mg (bs : List UInt8) : Nat → List Nat → List UInt8 → Prop
  | done : Mg bs bs.length [] []
  | lost {i : Nat} {L : List Nat} {W : List UInt8} : i < bs.length → Mg bs (i + 1) L W → Mg bs i (i :: L) W
  | kept {i : Nat} {x : UInt8} {L : List Nat} {W : List UInt8} : bs[i]? = some x → Mg bs (i + 1) L W → Mg bs i L (x :: W)
theorem Mg.ge {bs : List UInt8} {i : Nat} {L : List Nat} {W : List UInt8} (h : Mg bs i L W) : ∀ u ∈ L, i ≤ u := by
  induction h with
  | done => intro u hu; cases hu
  | lost _ _ ih =>
    intro u hu
    rcases List.mem_cons.1 hu with rfl | hu
    · exact Nat.le_refl _
    · have := ih u hu; omega
  | kept _ _ ih => intro u hu; have := ih u hu; omega
theorem Mg.len {bs : List UInt8} {i : Nat} {L : List Nat} {W : List UInt8} (h : Mg bs i L W) : L.length + W.length + i = bs.length := by
  induction h with
  | done => simp
  | lost _ _ ih => simp only [List.length_cons]; omega
  | kept _ _ ih => simp only [List.length_cons]; omega
theorem Mg.many {bs : List UInt8} {L : List Nat} {W : List UInt8} : ∀ (p : List UInt8) (a : Nat), (∀ (k : Nat) (x : UInt8), p[k]? = some x → bs[a + k]? = some x) → Mg bs (a + p.length) L W → Mg bs a L (p ++ W)
  | [], a, _, h => h
  | x :: p, a, hp, h => by
    refine .kept (by simpa using hp 0 x rfl) (Mg.many p (a + 1) (fun k y hk => ?_) ?_)
    · have := hp (k + 1) y (by simpa using hk)
      rwa [show a + 1 + k = a + (k + 1) by omega]
    · rwa [show a + 1 + p.length = a + (x :: p).length by simp; omega]
theorem Mg.rest {bs : List UInt8} : ∀ (n a : Nat), a + n = bs.length → Mg bs a (fromTo a bs.length) []
  | 0, a, h => by
    rw [fromTo_nil (by omega)]
    obtain rfl : a = bs.length := by omega
    exact .done
  | n + 1, a, h => by
    rw [fromTo_cons (by omega)]
    exact .lost (by omega) (Mg.rest n (a + 1) (by omega))
theorem fromTo_app {a b c : Nat} (h : a ≤ b) (h' : b ≤ c) : fromTo a c = fromTo a b ++ fromTo b c := by
  induction c with
  | zero => rw [fromTo_nil (a := a) (b := b) (by omega), fromTo_nil (a := b) (b := 0) (by omega), fromTo_nil (by omega)]; rfl
  | succ c ih =>
    rcases Nat.lt_or_ge c b with hc | hc
    · obtain rfl : b = c + 1 := by omega
      rw [fromTo_nil (a := c + 1) (by omega), List.append_nil]
    · rw [fromTo_snoc (by omega), fromTo_snoc hc, ih hc, List.append_assoc]
theorem scan_mg {bs : List UInt8} : ∀ (n a : Nat), bs.length - a ≤ n → a ≤ bs.length → ∃ L, Mg bs a L ((scan bs a).flatMap fun x => recB x.1) ∧
    ∀ (s : List Nat) (next : Nat), next ≤ a → ((scan bs a).foldl lostStep (s, next)).1 ++ fromTo ((scan bs a).foldl lostStep (s, next)).2 bs.length = s ++ fromTo next a ++ L := by
  intro n
  induction n with
  | zero =>
    intro a h ha
    rw [scan_end (by omega)]
    refine ⟨fromTo a bs.length, Mg.rest (bs.length - a) a (by omega), fun s next hn => ?_⟩
    simp only [List.foldl_nil]
    rw [List.append_assoc, fromTo_app hn ha]
  | succ n ih =>
    intro a h ha
    by_cases h16 : a + 16 ≤ bs.length
    · cases hr : isRec (win bs a)
      · obtain ⟨L, h1, h2⟩ := ih (a + 1) (by omega) (by omega)
        rw [scan_no h16 hr]
        refine ⟨a :: L, .lost (by omega) h1, fun s next hn => ?_⟩
        rw [h2 s next (by omega), fromTo_snoc hn]
        simp
      · obtain ⟨L, h1, h2⟩ := ih (a + 16) (by omega) (by omega)
        rw [scan_yes h16 hr]
        have hw : recB (rdgOf (win bs a)) = win bs a := by
          cases hv : validB (rdgOf (win bs a))
          · rw [isRec_no hv] at hr; cases hr
          · rw [isRec_yes hv] at hr; exact of_decide_eq_true hr
        refine ⟨L, ?_, fun s next hn => ?_⟩
        · rw [List.flatMap_cons, hw]
          refine Mg.many _ _ (fun k x hk => ?_) (by rw [win_len h16]; exact h1)
          rw [win, List.getElem?_take] at hk
          split at hk
          · rwa [List.getElem?_drop] at hk
          · cases hk
        · rw [List.foldl_cons]
          show ((scan bs (a + 16)).foldl lostStep (s ++ fromTo next a, a + 16)).1 ++ fromTo ((scan bs (a + 16)).foldl lostStep (s ++ fromTo next a, a + 16)).2 bs.length = _
          rw [h2 _ _ (Nat.le_refl _), fromTo_nil (a := a + 16) (Nat.le_refl _), List.append_nil]
    · rw [scan_end h16]
      refine ⟨fromTo a bs.length, Mg.rest (bs.length - a) a (by omega), fun s next hn => ?_⟩
      simp only [List.foldl_nil]
      rw [List.append_assoc, fromTo_app hn ha]
/-- Lost places and kept bytes are together all bytes. -/
theorem read_mg (bs : List UInt8) : Mg bs 0 (lostOf bs) (bytesOf (readOf bs)) := by
  obtain ⟨L, h1, h2⟩ := scan_mg (bs := bs) bs.length 0 (by omega) (by omega)
  have h3 := h2 [] 0 (Nat.le_refl _)
  rw [fromTo_nil (a := 0) (Nat.le_refl _)] at h3
  have h4 : lostOf bs = L := h3
  have h5 : bytesOf (readOf bs) = (scan bs 0).flatMap fun x => recB x.1 := by rw [bytesOf, readOf, List.flatMap_map]
  rw [h4, h5]; exact h1
theorem Mg.step {bs : List UInt8} {i a k : Nat} {L : List Nat} {W : List UInt8} (h : Mg bs i (L.drop a) (W.drop k)) (hi : i < bs.length) :
    (L[a]? = some i ∧ Mg bs (i + 1) (L.drop (a + 1)) (W.drop k)) ∨ (∃ x, bs[i]? = some x ∧ W[k]? = some x ∧ L[a]? ≠ some i ∧ Mg bs (i + 1) (L.drop a) (W.drop (k + 1))) := by
  generalize hL : L.drop a = L' at h
  generalize hW : W.drop k = W' at h
  cases h with
  | done => omega
  | @lost _ L1 _ _ h =>
    left
    have ha : L[a]? = some i := by have := congrArg (fun (l : List Nat) => l[0]?) hL; simpa using this
    have hL1 : L.drop (a + 1) = L1 := by have := congrArg List.tail hL; simpa using this
    rw [hL1]; exact ⟨ha, h⟩
  | @kept _ x _ W1 hx h =>
    right
    have hk : W[k]? = some x := by have := congrArg (fun (l : List UInt8) => l[0]?) hW; simpa using this
    have hW1 : W.drop (k + 1) = W1 := by have := congrArg List.tail hW; simpa using this
    refine ⟨x, hx, hk, fun e => ?_, by rw [hW1]; exact h⟩
    have h0 : i ∈ L' := by
      rw [← hL]
      exact List.mem_of_getElem? (i := 0) (by simpa using e)
    have := h.ge i h0
    omega
theorem read_ok {bs : List UInt8} (h : bs.length ≤ 2000) : (readOf bs).length ≤ 125 ∧ errR (readOf bs) = 0 := by
  have h1 := scan_len (bs := bs) bs.length 0 (by omega)
  have h2 : (readOf bs).length ≤ 125 := by rw [readOf, List.length_map]; omega
  refine ⟨h2, errR_zero.2 ⟨by omega, allB_iff.2 fun i x hx => ?_⟩⟩
  simp only [readOf, List.getElem?_map, Option.map_eq_some_iff] at hx
  obtain ⟨y, hy, rfl⟩ := hx
  have := scan_at (bs := bs) bs.length 0 (by omega) y (List.mem_of_getElem? hy)
  cases hv : validB y.1
  · rw [this.2.2.2] at hv
    rw [isRec_no hv] at this; exact absurd this.2.2.1 (by simp)
  · rfl

theorem rdg_rec {r : Rdg} (h : validB r = true) : rdgOf (recB r) = r := by
  have hv := validB_iff.1 h
  unfold recB
  generalize ck (preB r) = q
  obtain ⟨a, b, c, d⟩ := r
  simp only at hv
  simp only [rdgOf, preB, beB, List.cons_append, List.nil_append, List.drop_succ_cons, List.drop_zero, List.take_succ_cons, List.take_zero, numB, List.foldl_cons, List.foldl_nil, byteOf_toNat, signed, Rdg.mk.injEq]
  refine ⟨?_, ?_, ?_, ?_⟩
  · omega
  · omega
  · omega
  · split <;> omega
theorem rec_is {r : Rdg} (h : validB r = true) : isRec (recB r) = true := by
  rw [isRec_yes (by rw [rdg_rec h]; exact h), rdg_rec h]; simp
theorem scan_bytes : ∀ (suf pre : List Rdg), (∀ r ∈ suf, validB r = true) → ((scan (bytesOf (pre ++ suf)) (pre.length * 16)).map (·.1) = suf ∧
    ∀ s, (scan (bytesOf (pre ++ suf)) (pre.length * 16)).foldl lostStep (s, pre.length * 16) = (s, (pre ++ suf).length * 16))
  | [], pre, _ => by
    have : ¬ pre.length * 16 + 16 ≤ (bytesOf (pre ++ [])).length := by rw [bytesOf_len]; simp
    rw [scan_end this]; simp
  | r :: suf, pre, h => by
    have hr := h r (by simp)
    have hw : win (bytesOf (pre ++ r :: suf)) (pre.length * 16) = recB r := by
      have e : bytesOf (pre ++ r :: suf) = bytesOf pre ++ (recB r ++ bytesOf suf) := by simp [bytesOf]
      rw [win, e, List.drop_append_of_le_length (by rw [bytesOf_len]; exact Nat.le_refl _), List.drop_eq_nil_of_le (by rw [bytesOf_len]; exact Nat.le_refl _), List.nil_append, List.take_append_of_le_length (by rw [recB_len]; exact Nat.le_refl _), List.take_of_length_le (by rw [recB_len]; exact Nat.le_refl _)]
    have h16 : pre.length * 16 + 16 ≤ (bytesOf (pre ++ r :: suf)).length := by rw [bytesOf_len]; simp only [List.length_append, List.length_cons]; omega
    have ih := scan_bytes suf (pre ++ [r]) (fun x hx => h x (by simp [hx]))
    rw [List.append_assoc, List.singleton_append, List.length_append, List.length_singleton, Nat.add_mul, Nat.one_mul] at ih
    rw [scan_yes h16 (by rw [hw]; exact rec_is hr), hw, rdg_rec hr]
    refine ⟨by rw [List.map_cons, ih.1], fun s => ?_⟩
    rw [List.foldl_cons]
    show (scan (bytesOf (pre ++ r :: suf)) (pre.length * 16 + 16)).foldl lostStep (s ++ fromTo (pre.length * 16) (pre.length * 16), pre.length * 16 + 16) = _
    rw [fromTo_nil (Nat.le_refl _), List.append_nil, ih.2 s]
/-- What is written is read again, and nothing is lost. -/
theorem read_bytes {rs : List Rdg} (h : allB validB rs = true) : readOf (bytesOf rs) = rs ∧ lostOf (bytesOf rs) = [] := by
  have h1 := scan_bytes rs [] (fun r hr => by
    obtain ⟨i, hi⟩ := List.getElem?_of_mem hr
    exact allB_iff.1 h i r hi)
  simp only [List.nil_append, List.length_nil, Nat.zero_mul] at h1
  refine ⟨h1.1, ?_⟩
  rw [lostOf, lostAcc, h1.2 []]
  simp only [List.nil_append]
  exact fromTo_nil (by rw [bytesOf_len]; exact Nat.le_refl _)
end Go.Proofs.Ytkgoojilmnkgiaa
