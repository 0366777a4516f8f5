/- AN APPEND of a slice that reads as a list, nil or not, onto a row of the call's own. -/
import Derived.Test.YtjpobkmlcjbpiaaGreatZBetter
import Derived.Maps.AppendAt
import Derived.Laws.AppendOwnNone
import Derived.Deep.MidRow
import Derived.Deep.AppendLies
import Derived.Deep.DrawnRows
import Derived.Test.YtjpobkmlcjbpiaaGreatWLaw
import Derived.RangeFuncNested
import Derived.RangeFuncBound
import Derived.RangeFuncCalls
import Derived.RangeFuncLeaves
import Derived.RangeFuncBox
import Derived.Shelf.Abstract
import Derived.Shelf.RegionOpen
import Derived.OwnWalkIn
import Derived.TacticsInMore
import Derived.LoopNIn
import Derived.LoopIn
set_option linter.unusedVariables false
set_option linter.unusedSimpArgs false
namespace Go.Proofs.YtjpobkmlcjbpiaaGreat
open Go.RowKit Go.Proofs

theorem flat_get {α : Type} {enc : α → List Value} {k : Nat} (hk : ∀ x, (enc x).length = k) : ∀ {l : List α} {j : Nat} {u : Value}, (l.flatMap enc)[j]? = some u → ∃ (i : Nat) (x : α) (r : Nat), l[i]? = some x ∧ (enc x)[r]? = some u ∧ j = i * k + r
  | [], j, u, h => by simp at h
  | x :: l, j, u, h => by
    rw [List.flatMap_cons] at h
    rcases Nat.lt_or_ge j k with hj | hj
    · rw [List.getElem?_append_left (by rw [hk]; exact hj)] at h
      exact ⟨0, x, j, rfl, h, by omega⟩
    · rw [List.getElem?_append_right (by rw [hk]; exact hj), hk] at h
      obtain ⟨i, y, r, h1, h2, h3⟩ := flat_get hk h
      exact ⟨i + 1, y, r, by simpa using h1, h2, by rw [Nat.add_mul, Nat.one_mul]; omega⟩
theorem Rd.news {α : Type} {enc : α → List Value} {k : Nat} (hk : ∀ x, (enc x).length = k) {w : World} {ad : Addr} {n : Nat} {l : List α} (h : Rd enc k w (some ad) n l) : ∀ j u, (l.flatMap enc)[j]? = some u → w.cell? (ad.add j) = some u := by
  intro j u hu
  obtain ⟨i, x, r, h1, h2, rfl⟩ := flat_get hk hu
  have hi := (List.getElem?_eq_some_iff.1 h1).1
  obtain ⟨b, o, e, _, hc⟩ := h.2 (by have := h.1; omega)
  cases e
  have := hc i x h1 r u h2
  by_cases h0 : i * k + r = 0
  · rw [h0]; rw [Nat.add_assoc, h0] at this; exact this
  · simp only [Addr.add, h0, if_false]
    rwa [← Nat.add_assoc]
theorem Rd.none_zero {α : Type} {enc : α → List Value} {k : Nat} {w : World} {n : Nat} {l : List α} (h : Rd enc k w none n l) : n = 0 ∧ l = [] := by
  have hn : n = 0 := by
    rcases Nat.eq_zero_or_pos n with h0 | h0
    · exact h0
    · obtain ⟨b, o, e, _⟩ := h.2 h0; cases e
  exact ⟨hn, List.eq_nil_of_length_eq_zero (by rw [h.1, hn])⟩
theorem run_append_nilc {P : Program} {w : World} {base : Nat} {t ty e : TypeId} {i : TypeInfo} {size : Nat} (ht : P.underlying t = some (.slice e)) (hi : P.info? e = some i)
    {v : Value} {n : Nat} {xs : List Value} (hown : w.ownsRow base e size v n xs) (c : Nat) : (Builtin.append_ #[t, t] ty #[v, .slice none 0 c]).run P w = .ok v w := by
  rcases hown.2 with ⟨rfl, rfl⟩ | ⟨g, cap, cur, rfl, _, _, hnc, _⟩
  · simp [Builtin.append_, run_underlying ht, sizeOf, typeInfo, hi, Builtin.lenOf, Builtin.firstCells]
  · simp [Builtin.append_, run_underlying ht, sizeOf, typeInfo, hi, Builtin.lenOf, Builtin.firstCells, hnc, storeCells]
theorem wpList_append_rd {P : Program} {w : World} {ops : Array Oper} {rest : List Oper} {o : Oper} {a : Act} {Q : Exit → Act → World → Prop} (hgd : o.guard = none) (s x : Operand) (t : TypeId)
    (ho : o.op = .call { callee := .builtin .append, args := #[s, x], argTypes := #[t, t] })
    (base : Nat) (e : TypeId) (i : TypeInfo) (z : Value) (size bytes : Nat) (ht : P.underlying t = some (.slice e)) (hi : P.info? e = some i) (hz : i.zero = some z)
    (hsize : i.size = size) (hby : i.bytes = bytes) (hzs : z.cells.size = size) (hsz : 0 < size)
    (v : Value) (n : Nat) (xs : List Value) (hs : a.eval s = v) (hown : w.ownsRow base e size v n xs)
    {α : Type} {enc : α → List Value} (hk : ∀ x, (enc x).length = size) (h1 : ∀ x, ∀ u ∈ enc x, u.oneCell' = true)
    (A : Option Addr) (m c : Nat) (l : List α) (hx : a.eval x = .slice A m c) (hr : Rd enc size w A m l)
    (h63 : n + m ≤ maxLen) (hbytes : (n + m) * bytes ≤ 140737488355328) (hbase : base ≤ w.heap.size)
    (h : ∀ v' w', w'.ownsRow base e size v' (n + m) (xs ++ l.flatMap enc) → w.grownBy w' v.ownBlock → wpList P ops Q rest (a.put o.dst v') w') :
    wpList P ops Q (o :: rest) a w := by
  rcases A with _ | ad
  · obtain ⟨rfl, rfl⟩ := hr.none_zero
    have hrun := run_append_nilc (P := P) (w := w) (ty := o.type) ht hi hown c
    refine wpList_plain hgd fun K hK => ?_
    unfold Oper.wp
    simp [execOp, ho, resolve, invoke, builtin, hs, hx, hrun, Result.andThen]
    exact hK _ _ (h v w (by simpa using hown) (World.grownBy.refl w _))
  · have hl : (l.flatMap enc).length = m * size := by
      have : ∀ l : List α, (l.flatMap enc).length = l.length * size := fun l => by
        induction l with
        | nil => simp
        | cons x l ih => rw [List.flatMap_cons, List.length_append, ih, hk, List.length_cons, Nat.add_mul, Nat.one_mul, Nat.add_comm]
      rw [this, hr.1]
    exact wpList_append_own_at w hgd s x t ho base e i z size bytes ht hi hz hsize hby hzs hsz v n xs hs hown ad m c (l.flatMap enc) hx hl (hr.news hk) (fun u hu => by
      obtain ⟨x, _, hx⟩ := List.mem_flatMap.1 hu
      exact h1 x u hx) h63 hbytes hbase (fun v' w' h2 h3 _ _ => h v' w' h2 h3)
/-- an empty row, newly made -/
theorem own_empty (w : World) (e : TypeId) (size : Nat) : (w.alloc (.cells #[] e)).ownsRow w.heap.size e size (.slice (some ⟨w.heap.size, 0, none⟩) 0 0) 0 [] :=
  ⟨by simp, .inr ⟨w.heap.size, 0, #[], rfl, Nat.le_refl _, heap_alloc_new w _, Nat.le_refl _, by unfold maxLen; omega, by simp, by simp⟩⟩
end Go.Proofs.YtjpobkmlcjbpiaaGreat

namespace Go.Proofs.YtjpobkmlcjbpiaaGreat
open Go.RowKit Go.Proofs
theorem infoZ : (Tryz.prog.info? 3).map (fun i => (i.zero, i.size, i.bytes)) = some (some (.int .i64 0), 1, 8) := by kernel_rfl
theorem oneZ (r : Int) : ∀ u ∈ enc1 r, u.oneCell' = true := by intro u hu; simp [enc1] at hu; subst hu; rfl
set_option maxHeartbeats 400000 in
theorem clone_c {l : List Int} {A : Option Addr} {n c : Nat} {w : World} (h : Rd enc1 1 w A n l) (hn : n ≤ 100000) :
    Calls Tryz.prog 59 #[.slice A n c] w fun e w' => ∃ v, e = .returned v ∧ w'.ownsRow w.heap.size 3 1 v n (l.flatMap enc1) ∧ Below w.heap.size w w' := by
  obtain ⟨i0, hi0, hz0, hz1, hz2⟩ := info_parts infoZ
  have HI := Lib.hid hi0; have HZ0 := Lib.hid hz0; have HZ1 := Lib.hid hz1; have HZ2 := Lib.hid hz2
  clear hi0 hz0 hz1 hz2
  have q : ∀ (w : World) (a : Option Addr) (n c n' c' : Nat), (binOp .eql 33 (.slice a n c) (.slice none n' c')).run Tryz.prog w = .ok (.bool a.isNone) w := fun w a n c n' c' => Lib.run_eql_slice_nil w _ _ a n c n' c' Tryz.underlying33
  rcases A with _ | ad
  · obtain ⟨rfl, rfl⟩ := h.none_zero
    go_enter Tryz.func59, Tryz.ntmps59
    go_wp2_with fail
    go_ret
    exact ⟨_, rfl, World.ownsRow_nil _ _ _ _, Below.refl _ _⟩
  · go_enter Tryz.func59, Tryz.ntmps59
    go_wp2_with (at_builtin; go_must (refine wpList_append_rd rfl _ _ 33 rfl w.heap.size 3 i0 (.int .i64 0) 1 8 Tryz.underlying33 HI.out HZ0.out HZ1.out HZ2.out rfl (by decide) _ _ _ rfl (own_empty w 3 1) enc1_len oneZ (some ad) n c l rfl (h.below ((Below.refl _ w).alloc (Nat.le_refl _) _)) (by unfold maxLen; omega) (by omega) (by simp) ?_; intro v1 w1 hown hgrow))
    have HB := Lib.hid (((Below.refl _ w).alloc (Nat.le_refl _) _).grown hgrow (by simp) (fun g hg => ((own_empty w 3 1).lt g hg).1))
    rw [Nat.zero_add, List.nil_append] at hown
    have HO := Lib.hid hown
    clear hown hgrow
    go_wp2_with fail
    go_ret
    exact ⟨_, rfl, HO.out, HB.out⟩
end Go.Proofs.YtjpobkmlcjbpiaaGreat

namespace Go.Proofs.YtjpobkmlcjbpiaaGreat
open Go.RowKit Go.Proofs
theorem own_tyne {W : World} {base base' : Nat} {e e' : TypeId} {size size' n n' : Nat} {v v' : Value} {xs xs' : List Value} (h : W.ownsRow base e size v n xs) (h' : W.ownsRow base' e' size' v' n' xs') (hne : e ≠ e') : ∀ g, v.ownBlock = some g → v'.ownBlock ≠ some g := by
  intro g hg hg'
  rcases h.2 with ⟨rfl, _⟩ | ⟨g1, cap, cur, rfl, _, hb, _⟩
  · simp [Value.ownBlock] at hg
  · rcases h'.2 with ⟨rfl, _⟩ | ⟨g2, cap', cur', rfl, _, hb', _⟩
    · simp [Value.ownBlock] at hg'
    · simp [Value.ownBlock] at hg hg'
      subst hg; subst hg'
      rw [hb] at hb'; injection hb' with hb'; injection hb' with _ hb'; exact hne hb'
theorem own_kept {w w' : World} {base : Nat} {e : TypeId} {k n : Nat} {v : Value} {xs : List Value} {row : Option Nat} (h : w.ownsRow base e k v n xs) (hg : w.grownBy w' row) (hne : ∀ g, v.ownBlock = some g → row ≠ some g) : w'.ownsRow base e k v n xs := by
  refine ⟨h.1, ?_⟩
  rcases h.2 with h0 | ⟨g, cap, cur, hv, hbase, hb, hrest⟩
  · exact .inl h0
  · have hlt : g < w.heap.size := (Array.getElem?_eq_some_iff.1 hb).1
    exact .inr ⟨g, cap, cur, hv, hbase, (hg.block g hlt (fun e => hne g (by rw [hv]; rfl) e.symm)).trans hb, hrest⟩

theorem own_pos {w : World} {base : Nat} {e : TypeId} {k n : Nat} {v : Value} {xs : List Value} (h : w.ownsRow base e k v n xs) (hn : 0 < n) : ∃ g c, v = .slice (some ⟨g, 0, none⟩) n c ∧ n ≤ c := by
  rcases h.2 with ⟨rfl, rfl⟩ | ⟨g, cap, cur, rfl, _, _, hnc, _⟩
  · omega
  · exact ⟨g, cap, rfl, hnc⟩
theorem flat_enc1 (l : List Int) : l.flatMap enc1 = l.map fun n => Value.int .i64 n := by
  induction l with
  | nil => rfl
  | cons a l ih => simp only [List.flatMap_cons, ih, List.map_cons]; rfl
theorem flat_set1 (l : List Int) (i : Nat) (n : Int) : (l.flatMap enc1).set i (.int .i64 n) = (l.set i n).flatMap enc1 := by
  rw [flat_enc1, flat_enc1, List.map_set]
theorem Rd.of_own2 {w : World} {base : Nat} {e : TypeId} {v : Value} {n : Nat} {l : List Int} (h : w.ownsRow base e 1 v n (l.flatMap enc1)) (hl : l.length = n) : ∃ A c, v = .slice A n c ∧ n ≤ c ∧ Rd enc1 1 w A n l := by
  obtain ⟨A, c, rfl, hc⟩ := own_form h
  exact ⟨A, c, rfl, hc, Rd.of_own enc1_len h hl⟩


end Go.Proofs.YtjpobkmlcjbpiaaGreat

namespace Go.Proofs.YtjpobkmlcjbpiaaGreat

theorem nodup_len : ∀ (n : Nat) (l : List Int), (∀ p ∈ l, 0 ≤ p ∧ p < (n : Int)) → l.Nodup → l.length ≤ n
  | 0, l, h, _ => by
    cases l with
    | nil => simp
    | cons a l => have := h a (by simp); omega
  | n + 1, l, h, hd => by
    have ih := nodup_len n (l.erase (n : Int)) (fun p hp => by
      have h1 := (hd.mem_erase_iff).1 hp
      have h2 := h p h1.2
      have h3 := h1.1
      omega) (hd.erase _)
    have := List.length_erase (a := (n : Int)) (l := l)
    split at this <;> omega
theorem wayTo_len {np : Nat} {way : List Int} (h : wayTo np way way.length) : way.length ≤ np := by
  obtain ⟨h1, h2⟩ := h
  rw [List.take_of_length_le (Nat.le_refl _)] at h1 h2
  exact nodup_len np way h1 h2

/-- a hit: the slide's number, the parcel -/
def hitsAt (sls : List Sli) (tr : List Int) (k : Nat) : List (Nat × Int) := match sls[k]?, tr[k]? with
  | some s, some m => (s.way.take m.toNat).map fun p => (k, p)
  | _, _ => []
theorem hitsAt_of {sls : List Sli} {tr : List Int} {k : Nat} {s : Sli} {m : Int} (hs : sls[k]? = some s) (hm : tr[k]? = some m) : hitsAt sls tr k = (s.way.take m.toNat).map fun p => (k, p) := by simp [hitsAt, hs, hm]
def hitsTo (sls : List Sli) (tr : List Int) : Nat → List (Nat × Int)
  | 0 => []
  | k + 1 => hitsTo sls tr k ++ hitsAt sls tr k
theorem hitsTo_len {v : Vly} (h : VOk v) (tr : List Int) : ∀ k, (hitsTo v.sls tr k).length ≤ 12 * k
  | 0 => by simp [hitsTo]
  | k + 1 => by
    have ih := hitsTo_len h tr k
    have : (hitsAt v.sls tr k).length ≤ 12 := by
      unfold hitsAt
      split
      · rename_i s m hs hm
        have h1 := wayTo_len (h.slide hs).1
        have h2 := h.pn
        rw [List.length_map, List.length_take]; omega
      · simp
    rw [hitsTo, List.length_append]; omega
theorem hitsTo_step {v : Vly} {tr : List Int} {k i : Nat} {s : Sli} {p : Int} (hp : s.way[i]? = some p) :
    hitsTo v.sls tr k ++ (s.way.take (i + 1)).map (fun p => (k, p)) = (hitsTo v.sls tr k ++ (s.way.take i).map (fun p => (k, p))) ++ [(k, p)] := by
  rw [List.take_add_one, hp, List.map_append, List.append_assoc]; rfl
/-- what the hits add to a parcel -/
def rateOf (sls : List Sli) (k : Nat) : Int := match sls[k]? with
  | some s => s.rate
  | none => 0
theorem rateOf_of {sls : List Sli} {k : Nat} {s : Sli} (hs : sls[k]? = some s) : rateOf sls k = s.rate := by simp [rateOf, hs]
def dSum (sls : List Sli) (p : Int) : List (Nat × Int) → Int
  | [] => 0
  | x :: l => (if x.2 = p then rateOf sls x.1 else 0) + dSum sls p l
theorem dSum_append (sls : List Sli) (p : Int) : ∀ a b : List (Nat × Int), dSum sls p (a ++ b) = dSum sls p a + dSum sls p b
  | [], b => by simp [dSum]
  | x :: a, b => by simp only [List.cons_append, dSum, dSum_append sls p a b]; omega
theorem dSum_snoc (sls : List Sli) (p : Int) (a : List (Nat × Int)) (x : Nat × Int) : dSum sls p (a ++ [x]) = dSum sls p a + (if x.2 = p then rateOf sls x.1 else 0) := by
  rw [dSum_append]; simp [dSum]
theorem dSum_bd {sls : List Sli} (h : ∀ (k : Nat) (s : Sli), sls[k]? = some s → 0 ≤ s.rate ∧ s.rate ≤ 1000) (p : Int) : ∀ l : List (Nat × Int), 0 ≤ dSum sls p l ∧ dSum sls p l ≤ 1000 * l.length
  | [] => by simp [dSum]
  | x :: l => by
    have ih := dSum_bd h p l
    have : 0 ≤ rateOf sls x.1 ∧ rateOf sls x.1 ≤ 1000 := by
      unfold rateOf
      split
      · rename_i s hs; exact h _ s hs
      · omega
    simp only [dSum, List.length_cons]
    split <;> omega
theorem dSum_way (sls : List Sli) (k : Nat) (p : Int) : ∀ l : List Int, l.Nodup → dSum sls p (l.map fun q => (k, q)) = if p ∈ l then rateOf sls k else 0
  | [], _ => by simp [dSum]
  | q :: l, h => by
    have ih := dSum_way sls k p l (List.nodup_cons.1 h).2
    have hn := (List.nodup_cons.1 h).1
    simp only [List.map_cons, dSum, ih, List.mem_cons]
    by_cases hq : q = p
    · subst hq; simp [hn]
    · have : ¬ p = q := fun e => hq e.symm
      simp [hq, this]
theorem dSum_hits {v : Vly} (h : VOk v) (tr : List Int) (p : Int) : ∀ k, dSum v.sls p (hitsTo v.sls tr k) = dTo v.sls tr p k
  | 0 => rfl
  | k + 1 => by
    rw [hitsTo, dSum_append, dSum_hits h tr p k, dTo]
    congr 1
    unfold hitsAt dAt
    split
    · rename_i s m hs hm
      have hw := (h.slide hs).1
      have hn : (s.way.take m.toNat).Nodup := by
        have h2 := hw.2
        rw [List.take_of_length_le (Nat.le_refl _)] at h2
        exact h2.sublist (List.take_sublist _ _)
      rw [dSum_way _ _ _ _ hn]
      simp [hs, hm, hitBy, rateOf_of hs]
    · rename_i h1
      split
      · rename_i s m hs hm; exact absurd hm (h1 s m hs)
      · rfl
theorem dSum_all {v : Vly} (h : VOk v) {tr : List Int} (hl : tr.length = v.sls.length) : (List.range v.pars.length).map (fun p : Nat => dSum v.sls (p : Int) (hitsTo v.sls tr tr.length)) = dangs v tr := by
  unfold dangs
  refine List.map_congr_left fun p _ => ?_
  rw [dSum_hits h, hl]
end Go.Proofs.YtjpobkmlcjbpiaaGreat

namespace Go.Proofs.YtjpobkmlcjbpiaaGreat
open Go.RowKit Go.Proofs Go.Shelf
attribute [local go_sem] Oper.semAt_some

/-- a hit, as it may come -/
abbrev Hit (K P : Nat) := { x : Nat × Nat // x.1 < K ∧ x.2 < P }
abbrev encH {K P : Nat} (x : Hit K P) : Array Value := #[.int .i64 (x.1.1 : Int), .int .i64 (x.1.2 : Int)]
def hitOf {K P : Nat} (x : Hit K P) : Nat × Int := (x.1.1, (x.1.2 : Int))

theorem run_sliceBounds_to {P : Program} {len cap hi : Nat} (W : World) (h : hi ≤ cap) :
    (Instr.sliceBounds true len cap none (some (.int .i64 (hi : Int))) none).run P W = .ok (0, hi, cap) W := by
  simp [Instr.sliceBounds, Instr.sliceBound, asIntOf, h]
theorem rd_take {α : Type} {enc : α → List Value} {k : Nat} {w : World} {A : Option Addr} {n b : Nat} {l : List α} (h : Rd enc k w A n l) (hb : b ≤ n) : Rd enc k w A b (l.take b) := by
  refine ⟨by rw [List.length_take, h.1]; omega, fun h0 => ?_⟩
  obtain ⟨bl, o, e, hlt, hc⟩ := h.2 (by omega)
  refine ⟨bl, o, e, hlt, fun i x hx => hc i x ?_⟩
  rw [List.getElem?_take] at hx
  split at hx
  · exact hx
  · cases hx
theorem cut_to_gen {t e : TypeId} {size : Nat} (ht : Tryz.prog.underlying t = some (.slice e)) (hs : ∀ W, (sizeOf e).run Tryz.prog W = .ok size W) (A : Option Addr) {n c k : Nat} (hk : k ≤ c) (W : World) :
    (Instr.slice t (.slice A n c) none (some (.int .i64 (k : Int))) none).run Tryz.prog W = .ok (.slice A k c) W := by
  have hm : A.map (fun a => a.add 0) = A := by cases A <;> simp [Addr.add]
  by_cases h0 : c = 0
  · subst h0
    obtain rfl : k = 0 := by omega
    simp [Instr.slice, run_underlying ht, hs, Instr.sliceBounds, Instr.sliceBound, asIntOf]
  · simp [Instr.slice, run_underlying ht, run_sliceBounds_to W hk, hs, h0, hm]

abbrev lookA (PA : Option Addr) (pn pc : Nat) (SA : Option Addr) (sn sc : Nat) (v : Vly) (TA : Option Addr) (tn tc : Nat) : Array Value := #[.slice PA pn pc, .slice SA sn sc, .int .i64 v.s0, .int .i64 v.s1, .int .i64 v.s2, .slice TA tn tc]

end Go.Proofs.YtjpobkmlcjbpiaaGreat
