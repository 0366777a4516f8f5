/- THE LAWS of a map that counts names, and of readings that are alone of their name. -/
import Derived.Test.YtjpobkmlcjbpiaaGreatBefore
import Derived.DeepKeys4
import Derived.MapKept
set_option linter.unusedVariables false
set_option linter.unusedSimpArgs false
namespace Go.Proofs.YtjpobkmlcjbpiaaGreat.Ga
section
open Go.RowKit Go.Proofs Go.WideMaps

theorem laidN : laidOutB Tryz.prog = true := by kernel_rfl
theorem rowN : 110 < Tryz.prog.types.size := by
  have h : Nat.ble (Nat.succ 110) Tryz.prog.types.size = true := by kernel_rfl
  exact Nat.lt_of_succ_le (Nat.le_of_ble_eq_true h)
theorem lawN : KeyLaw Tryz.prog 110 := deep_law_laid laidN (m := 2) (by omega) rowN (by kernel_rfl) (by rw [Tryz.underlying110])
/-- a name as a key -/
def keyN (k : Int × Int) : Value := .agg #[.int .i64 k.1, .int .i64 k.2]
def okN (k : Int × Int) : Prop := (-9223372036854775808 ≤ k.1 ∧ k.1 ≤ 9223372036854775807) ∧ -9223372036854775808 ≤ k.2 ∧ k.2 ≤ 9223372036854775807
theorem keyN_inj {a b : Int × Int} (h : keyN a = keyN b) : a = b := by
  simp [keyN] at h; exact Prod.ext h.1 h.2
theorem keyOf_name {k : Int × Int} (h : okN k) : ∃ l, keyOf Tryz.prog 110 (keyN k) = some l := by
  have hk : Tryz.prog.keyType 110 = true := by kernel_rfl
  have wa : (Lit.int .i64 k.1).wf = true := WalkArith.wf_i64 (by have := h.1; omega)
  have wb : (Lit.int .i64 k.2).wf = true := WalkArith.wf_i64 (by have := h.2; omega)
  unfold keyOf
  simp only [Tryz.underlying110]
  have c1 : Tryz.prog.cellsOf 110 = 2 := by kernel_rfl
  have c2 : Tryz.prog.cellsOf 3 = 1 := by kernel_rfl
  rw [if_pos (by simp [hk, Value.formed, keyN, Tryz.underlying110, c1])]
  obtain ⟨m, hm⟩ : ∃ m, Tryz.prog.types.size = m + 1 := ⟨Tryz.prog.types.size - 1, by have := rowN; omega⟩
  rw [hm]
  unfold Program.keyLits
  simp only [Tryz.underlying110, keyN, Value.cells]
  simp [c1, c2, Program.keyLits, Tryz.underlying3, wa, wb]

def entN (i : Nat) (p : (Int × Int) × Int) : MapEntry := ⟨keyN p.1, .int .i64 p.2, i⟩
/-- the map's entries, in the order in which they were made -/
def ents (ps : List ((Int × Int) × Int)) : Array MapEntry := (ps.mapIdx entN).toArray
def IsM (w : World) (M : Nat) (ps : List ((Int × Int) × Int)) : Prop := w.heap[M]? = some (.map (ents ps) ps.length)
def putM (w : World) (M : Nat) (ps : List ((Int × Int) × Int)) : World := { w with heap := w.heap.setIfInBounds M (.map (ents ps) ps.length) }
theorem ents_get (ps : List ((Int × Int) × Int)) (i : Nat) : (ents ps).toList[i]? = ps[i]?.map (entN i) := by simp [ents]
theorem IsM.lt {w : World} {M : Nat} {ps : List ((Int × Int) × Int)} (h : IsM w M ps) : M < w.heap.size := (Array.getElem?_eq_some_iff.1 h).1
theorem IsM.put {w : World} {M : Nat} {ps : List ((Int × Int) × Int)} (h : IsM w M ps) (qs : List ((Int × Int) × Int)) : IsM (putM w M qs) M qs := by
  have := h.lt
  unfold IsM putM
  simp [this]
theorem putM_grown (w : World) (M : Nat) (qs : List ((Int × Int) × Int)) : w.grownBy (putM w M qs) (some M) := by
  refine ⟨rfl, rfl, rfl, by simp [putM], fun k hk hne => ?_⟩
  have : M ≠ k := fun e => hne (by rw [e])
  simp [putM, Array.getElem?_setIfInBounds, this]
theorem IsM.grown {w w' : World} {M : Nat} {ps : List ((Int × Int) × Int)} {row : Option Nat} (h : IsM w M ps) (hg : w.grownBy w' row) (hne : some M ≠ row) : IsM w' M ps := (hg.block M h.lt hne).trans h
theorem IsM.below {w w' : World} {M : Nat} {ps : List ((Int × Int) × Int)} (h : IsM w M ps) (hb : Below w.heap.size w w') : IsM w' M ps := (hb.block M h.lt).trans h
def KeysOk (ps : List ((Int × Int) × Int)) : Prop := ∀ p ∈ ps, okN p.1
def Dist (ps : List ((Int × Int) × Int)) : Prop := ∀ (i j : Nat) (k : Int × Int) (c d : Int), ps[i]? = some (k, c) → ps[j]? = some (k, d) → i = j

theorem keys_of {ps : List ((Int × Int) × Int)} (hk : KeysOk ps) : ∀ e ∈ (ents ps).toList, ∃ l, keyOf Tryz.prog 110 e.key = some l := by
  intro e he
  obtain ⟨i, hi⟩ := List.getElem?_of_mem he
  rw [ents_get] at hi
  obtain ⟨p, hp, rfl⟩ := Option.map_eq_some_iff.1 hi
  exact keyOf_name (hk p (List.mem_of_getElem? hp))
theorem find_no {ps : List ((Int × Int) × Int)} (hk : KeysOk ps) {x : Int × Int} (hx : okN x) (hno : ∀ p ∈ ps, p.1 ≠ x) (W : World) : (Instr.findKey 110 (keyN x) (ents ps).toList).run Tryz.prog W = .ok none W := by
  obtain ⟨l, hl⟩ := keyOf_name hx
  rcases lawN.find W hl (ents ps).toList (keys_of hk) with ⟨h, _⟩ | ⟨j, e, _, he, hek⟩
  · exact h
  · exfalso
    rw [ents_get] at he
    obtain ⟨p, hp, rfl⟩ := Option.map_eq_some_iff.1 he
    exact hno p (List.mem_of_getElem? hp) (keyN_inj hek)
theorem find_yes {ps : List ((Int × Int) × Int)} (hk : KeysOk ps) (hd : Dist ps) {x : Int × Int} (hx : okN x) {j : Nat} {c : Int} (hj : ps[j]? = some (x, c)) (W : World) : (Instr.findKey 110 (keyN x) (ents ps).toList).run Tryz.prog W = .ok (some (j, .int .i64 c)) W := by
  obtain ⟨l, hl⟩ := keyOf_name hx
  rcases lawN.find W hl (ents ps).toList (keys_of hk) with ⟨_, h⟩ | ⟨j', e, h, he, hek⟩
  · exfalso
    exact h (entN j (x, c)) (List.mem_of_getElem? (by rw [ents_get, hj]; rfl)) rfl
  · rw [ents_get] at he
    obtain ⟨⟨k, d⟩, hp, rfl⟩ := Option.map_eq_some_iff.1 he
    obtain rfl : k = x := keyN_inj hek
    obtain rfl : j' = j := hd _ _ _ _ _ hp hj
    rw [hp] at hj; cases hj
    exact h
theorem check_n {x : Int × Int} (hx : okN x) (em : Bool) (W : World) : (Instr.checkKey em 10000 110 (keyN x)).run Tryz.prog W = .ok () W := by
  obtain ⟨l, hl⟩ := keyOf_name hx
  exact lawN.check W em hl
theorem get_m {ps : List ((Int × Int) × Int)} {W : World} {M : Nat} (h : IsM W M ps) : (getObj M).run Tryz.prog W = .ok (.map (ents ps) ps.length) W := by
  simp [getObj, Sem.run, show W.heap[M]? = _ from h]
theorem set_m {ps : List ((Int × Int) × Int)} {W : World} {M : Nat} (h : IsM W M ps) (o : Obj) : (setObj M o).run Tryz.prog W = .ok () { W with heap := W.heap.setIfInBounds M o } := by
  simp [setObj, Sem.run, show W.heap[M]? = _ from h]
theorem lookup_no {ps : List ((Int × Int) × Int)} {W : World} {M : Nat} (h : IsM W M ps) (hk : KeysOk ps) {x : Int × Int} (hx : okN x) (hno : ∀ p ∈ ps, p.1 ≠ x) :
    (Instr.lookup 108 (.map (some M)) (keyN x) false).run Tryz.prog W = .ok (.int .i64 0) W := by
  simp [Instr.lookup, run_underlying Tryz.underlying108, get_m h, check_n hx, find_no hk hx hno, Tryz.zeroValue3]
theorem lookup_yes {ps : List ((Int × Int) × Int)} {W : World} {M : Nat} (h : IsM W M ps) (hk : KeysOk ps) (hd : Dist ps) {x : Int × Int} (hx : okN x) {j : Nat} {c : Int} (hj : ps[j]? = some (x, c)) :
    (Instr.lookup 108 (.map (some M)) (keyN x) false).run Tryz.prog W = .ok (.int .i64 c) W := by
  simp [Instr.lookup, run_underlying Tryz.underlying108, get_m h, check_n hx, find_yes hk hd hx hj]
theorem ents_push (ps : List ((Int × Int) × Int)) (x : Int × Int) (v : Int) : (ents ps).push ⟨keyN x, .int .i64 v, ps.length⟩ = ents (ps ++ [(x, v)]) := by
  simp [ents, List.mapIdx_concat, entN]
theorem ents_same {ps : List ((Int × Int) × Int)} {j : Nat} {x : Int × Int} {c : Int} (hj : ps[j]? = some (x, c)) : (ents ps).modify j (fun e => { e with key := keyN x }) = ents ps := by
  apply Array.ext_getElem?
  intro i
  rw [Array.getElem?_modify]
  split
  · rename_i h; subst h
    rw [← Array.getElem?_toList, ents_get, hj]; rfl
  · rfl
theorem ents_set {ps : List ((Int × Int) × Int)} {j : Nat} {x : Int × Int} {c : Int} (hj : ps[j]? = some (x, c)) (v : Int) : (ents ps).modify j (fun e => { e with val := .int .i64 v }) = ents (ps.set j (x, v)) := by
  apply Array.ext_getElem?
  intro i
  rw [Array.getElem?_modify, ← Array.getElem?_toList, ← Array.getElem?_toList, ents_get, ents_get, List.getElem?_set]
  have hl := (List.getElem?_eq_some_iff.1 hj).1
  by_cases h : j = i
  · subst h; rw [hj]; simp [hl, entN]
  · simp [h]
theorem entry_no {ps : List ((Int × Int) × Int)} {W : World} {M : Nat} (h : IsM W M ps) (hk : KeysOk ps) {x : Int × Int} (hx : okN x) (hno : ∀ p ∈ ps, p.1 ≠ x) :
    (Instr.mapEntry 108 (.map (some M)) (keyN x)).run Tryz.prog W = .ok (.tuple #[.int .i64 0, .int .i64 (ps.length : Int)]) (putM W M (ps ++ [(x, 0)])) := by
  simp [Instr.mapEntry, run_underlying Tryz.underlying108, get_m h, check_n hx, find_no hk hx hno, Tryz.zeroValue3, set_m h, ents_push, putM, goInt]
theorem entry_yes {ps : List ((Int × Int) × Int)} {W : World} {M : Nat} (h : IsM W M ps) (hk : KeysOk ps) (hd : Dist ps) {x : Int × Int} (hx : okN x) {j : Nat} {c : Int} (hj : ps[j]? = some (x, c)) :
    (Instr.mapEntry 108 (.map (some M)) (keyN x)).run Tryz.prog W = .ok (.tuple #[.int .i64 c, .int .i64 (j : Int)]) (putM W M ps) := by
  obtain ⟨l, hl⟩ := keyOf_name hx
  have hs := lawN.stays W hl
  have he : (ents ps)[j]? = some (entN j (x, c)) := by rw [← Array.getElem?_toList, ents_get, hj]; rfl
  have e1 : (entN j (x, c)).key = keyN x := rfl
  have e2 : (entN j (x, c)).born = j := rfl
  simp [Instr.mapEntry, run_underlying Tryz.underlying108, get_m h, check_n hx, find_yes hk hd hx hj, he, putM, goInt]
  rw [e1, hs, e2]
  simp only [Result.andThen_ok]
  rw [show (ents ps).modify j (fun e => { key := keyN x, val := e.val, born := e.born }) = ents ps from ents_same hj, set_m h]
  rfl
theorem store_n {ps : List ((Int × Int) × Int)} {W : World} {M : Nat} (h : IsM W M ps) {x : Int × Int} {j : Nat} {c : Int} (hj : ps[j]? = some (x, c)) (v : Int) :
    (Instr.entryStore 108 (.map (some M)) (.int .i64 (j : Int)) (.int .i64 v)).run Tryz.prog W = .ok () (putM W M (ps.set j (x, v))) := by
  have hf : (ents ps).findIdx? (fun e => (e.born : Int) == (j : Int)) = some j := by
    have hl := (List.getElem?_eq_some_iff.1 hj).1
    unfold ents
    rw [List.findIdx?_toArray, List.findIdx?_eq_some_iff_getElem]
    exact ⟨by simpa using hl, by simp [entN], fun i hi => by simp [entN]; omega⟩
  simp [Instr.entryStore, get_m h, asInt, asIntOf, hf, set_m h, ents_set hj, putM]
end
section

def nmR (r : Rdg) : Int × Int := (r.ins, r.num)
def cntN (L : List Rdg) (k : Int × Int) : Nat := L.countP fun r => decide (nmR r = k)
theorem cntN_snoc (L : List Rdg) (r : Rdg) (k : Int × Int) : cntN (L ++ [r]) k = cntN L k + (if nmR r = k then 1 else 0) := by
  unfold cntN
  rw [List.countP_append]
  by_cases h : nmR r = k <;> simp [h]
/-- the map's entries count the names of some readings -/
structure CntOk (ps : List ((Int × Int) × Int)) (L : List Rdg) : Prop where
  keys : KeysOk ps
  dist : Dist ps
  val : ∀ (j : Nat) (k : Int × Int) (c : Int), ps[j]? = some (k, c) → c = (cntN L k : Int)
  mem : ∀ r ∈ L, ∃ (j : Nat) (c : Int), ps[j]? = some (nmR r, c)
theorem CntOk.nil : CntOk [] [] := ⟨(fun p hp => by cases hp), (fun i j k c d h => by simp at h), (fun j k c h => by simp at h), (fun r hr => by cases hr)⟩
theorem CntOk.yes {ps : List ((Int × Int) × Int)} {L : List Rdg} (h : CntOk ps L) {r : Rdg} {j : Nat} {c : Int} (hj : ps[j]? = some (nmR r, c)) : CntOk (ps.set j (nmR r, c + 1)) (L ++ [r]) := by
  have hl := (List.getElem?_eq_some_iff.1 hj).1
  have hget : ∀ (i : Nat) (k : Int × Int) (d : Int), (ps.set j (nmR r, c + 1))[i]? = some (k, d) → (i = j ∧ k = nmR r ∧ d = c + 1) ∨ (i ≠ j ∧ ps[i]? = some (k, d)) := by
    intro i k d hi
    rw [List.getElem?_set] at hi
    by_cases e : j = i
    · subst e
      rw [if_pos rfl, if_pos hl] at hi
      cases hi
      exact .inl ⟨rfl, rfl, rfl⟩
    · rw [if_neg e] at hi
      exact .inr ⟨fun e' => e e'.symm, hi⟩
  refine ⟨fun p hp => ?_, fun i i' k d d' h1 h2 => ?_, fun i k d hi => ?_, fun x hx => ?_⟩
  · obtain ⟨i, hi⟩ := List.getElem?_of_mem hp
    obtain ⟨k, d⟩ := p
    rcases hget i k d hi with ⟨_, rfl, _⟩ | ⟨_, hi⟩
    · exact h.keys (nmR r, c) (List.mem_of_getElem? hj)
    · exact h.keys (k, d) (List.mem_of_getElem? hi)
  · rcases hget i k d h1 with ⟨rfl, rfl, _⟩ | ⟨n1, g1⟩
    · rcases hget i' _ d' h2 with ⟨rfl, _, _⟩ | ⟨n2, g2⟩
      · rfl
      · exact absurd (h.dist _ _ _ _ _ g2 hj) n2
    · rcases hget i' _ d' h2 with ⟨rfl, rfl, _⟩ | ⟨n2, g2⟩
      · exact absurd (h.dist _ _ _ _ _ g1 hj) n1
      · exact h.dist _ _ _ _ _ g1 g2
  · rw [cntN_snoc]
    rcases hget i k d hi with ⟨rfl, rfl, rfl⟩ | ⟨hne, hi⟩
    · rw [if_pos rfl, h.val _ _ _ hj]; omega
    · rw [if_neg (fun e => hne (by subst e; exact h.dist _ _ _ _ _ hi hj)), h.val _ _ _ hi]; rfl
  · have hgo : ∀ (i : Nat) (d : Int), ps[i]? = some (nmR x, d) → ∃ (j' : Nat) (c' : Int), (ps.set j (nmR r, c + 1))[j']? = some (nmR x, c') := by
      intro i d hi
      by_cases e : j = i
      · subst e
        rw [hj] at hi
        refine ⟨j, c + 1, ?_⟩
        rw [List.getElem?_set, if_pos rfl, if_pos hl]
        have : nmR r = nmR x := by injection hi with hi; injection hi
        rw [this]
      · exact ⟨i, d, by rw [List.getElem?_set, if_neg e]; exact hi⟩
    rcases List.mem_append.1 hx with hx | hx
    · obtain ⟨i, d, hi⟩ := h.mem x hx
      exact hgo i d hi
    · simp at hx; subst hx
      exact hgo j c hj
theorem CntOk.no {ps : List ((Int × Int) × Int)} {L : List Rdg} (h : CntOk ps L) {r : Rdg} (hr : okN (nmR r)) (hno : ∀ p ∈ ps, p.1 ≠ nmR r) : CntOk (ps ++ [(nmR r, 1)]) (L ++ [r]) := by
  have hget : ∀ (i : Nat) (k : Int × Int) (d : Int), (ps ++ [(nmR r, (1 : Int))])[i]? = some (k, d) → (i = ps.length ∧ k = nmR r ∧ d = 1) ∨ ps[i]? = some (k, d) := by
    intro i k d hi
    rcases Nat.lt_or_ge i ps.length with hl | hl
    · rw [List.getElem?_append_left hl] at hi; exact .inr hi
    · rw [List.getElem?_append_right hl] at hi
      have h0 := (List.getElem?_eq_some_iff.1 hi).1
      have e : i = ps.length := by simp at h0; omega
      subst e
      simp at hi
      exact .inl ⟨rfl, hi.1.symm, hi.2.symm⟩
  have hz : cntN L (nmR r) = 0 := by
    unfold cntN
    rw [List.countP_eq_zero]
    intro x hx
    simp only [decide_eq_true_eq]
    intro e
    obtain ⟨j, c, hj⟩ := h.mem x hx
    exact hno _ (List.mem_of_getElem? hj) e
  refine ⟨fun p hp => ?_, fun i i' k d d' h1 h2 => ?_, fun i k d hi => ?_, fun x hx => ?_⟩
  · rcases List.mem_append.1 hp with hp | hp
    · exact h.keys p hp
    · simp at hp; subst hp; exact hr
  · rcases hget i k d h1 with ⟨rfl, rfl, _⟩ | g1
    · rcases hget i' _ d' h2 with ⟨rfl, _, _⟩ | g2
      · rfl
      · exact absurd rfl (hno _ (List.mem_of_getElem? g2))
    · rcases hget i' _ d' h2 with ⟨rfl, rfl, _⟩ | g2
      · exact absurd rfl (hno _ (List.mem_of_getElem? g1))
      · exact h.dist _ _ _ _ _ g1 g2
  · rw [cntN_snoc]
    rcases hget i k d hi with ⟨_, rfl, rfl⟩ | hi
    · rw [if_pos rfl, hz]; rfl
    · rw [if_neg (fun e => hno _ (List.mem_of_getElem? hi) e.symm), h.val _ _ _ hi]; rfl
  · rcases List.mem_append.1 hx with hx | hx
    · obtain ⟨i, d, hi⟩ := h.mem x hx
      exact ⟨i, d, by rw [List.getElem?_append_left (List.getElem?_eq_some_iff.1 hi).1]; exact hi⟩
    · simp at hx; subst hx
      exact ⟨ps.length, 1, by rw [List.getElem?_append_right (Nat.le_refl _)]; simp⟩
theorem CntOk.case {ps : List ((Int × Int) × Int)} {L : List Rdg} (_ : CntOk ps L) (k : Int × Int) : (∃ (j : Nat) (c : Int), ps[j]? = some (k, c)) ∨ ∀ p ∈ ps, p.1 ≠ k := by
  by_cases h1 : ∃ (j : Nat) (c : Int), ps[j]? = some (k, c)
  · exact .inl h1
  · refine .inr fun p hp e => h1 ?_
    obtain ⟨j, hj⟩ := List.getElem?_of_mem hp
    exact ⟨j, p.2, by rw [hj, ← e]⟩
/-- is a reading the only one of its name? -/
def loneB (E : List Rdg) (r : Rdg) : Bool := decide (cntN E (nmR r) = 1)
def mergedOf (E : List Rdg) : List Rdg := E.filter (loneB E)
def contraOf (E : List Rdg) : List Rdg := E.filter fun r => !loneB E r
theorem filter_succ {l : List Rdg} {k : Nat} {x : Rdg} (hx : l[k]? = some x) (p : Rdg → Bool) : (l.take (k + 1)).filter p = (l.take k).filter p ++ (if p x = true then [x] else []) := by
  rw [List.take_add_one, hx, List.filter_append]
  cases h : p x <;> simp [h]
end
end Go.Proofs.YtjpobkmlcjbpiaaGreat.Ga
