/- THE WALK of the law GaugeRecorders, and its plain laws: what is merged does not hang on the lists' order; what was merged is merged again as it is. -/
import Derived.Test.YtkgoojilmnkgiaaLists
import Derived.Test.YtkgoojilmnkgiaaFault
import Derived.Test.YtkgoojilmnkgiaaWakes
namespace Go.Proofs.Ytkgoojilmnkgiaa
open Go.RowKit Go.Proofs

theorem sortedR_congr {l l' : List Rdg} (h : ∀ x, x ∈ l ↔ x ∈ l') : sortedR l = sortedR l' := by
  obtain ⟨a1, a2⟩ := sortedR_ok l
  obtain ⟨b1, b2⟩ := sortedR_ok l'
  exact a1.uniq b1 fun x => by rw [a2, b2, h]
theorem catL_turned (ls : List Lst) (k : Nat) : ∀ x, x ∈ catL (ls.drop k ++ ls.take k) ↔ x ∈ catL ls := by
  intro x
  have e : catL ls = catL (ls.take k) ++ catL (ls.drop k) := by
    unfold catL; rw [← List.flatMap_append, List.take_append_drop]
  have e2 : catL (ls.drop k ++ ls.take k) = catL (ls.drop k) ++ catL (ls.take k) := by unfold catL; rw [List.flatMap_append]
  rw [e, e2, List.mem_append, List.mem_append, or_comm]
theorem merged_sord {S : List Rdg} (h : Sord S) : Sord (mergedOf S) := List.Pairwise.filter _ h
theorem sortedR_self {l : List Rdg} (h : Sord l) : sortedR l = l := by
  obtain ⟨a1, a2⟩ := sortedR_ok l
  exact a1.uniq h a2
theorem merged_lone {S : List Rdg} {r : Rdg} (hr : r ∈ mergedOf S) : loneB (mergedOf S) r = true := by
  have h1 := (List.mem_filter.1 hr).2
  simp only [loneB, decide_eq_true_eq] at h1 ⊢
  have h2 : cntN (mergedOf S) (nmR r) ≤ cntN S (nmR r) := List.Sublist.countP_le List.filter_sublist
  have h3 : 0 < cntN (mergedOf S) (nmR r) := List.countP_pos_iff.2 ⟨r, hr, by simp⟩
  omega
theorem merged_again (S : List Rdg) : mergedOf (mergedOf S) = mergedOf S := List.filter_eq_self.2 fun r hr => merged_lone hr
theorem contra_again (S : List Rdg) : contraOf (mergedOf S) = [] := by
  unfold contraOf
  rw [List.filter_eq_nil_iff]
  intro r hr
  rw [merged_lone hr]; simp
def hasN (l : List Rdg) (r : Rdg) : Nat := l.countP fun x => decide (x = r)
theorem has_split (p q : Rdg → Bool) : ∀ S : List Rdg, (S.filter q).countP p + (S.filter fun r => !q r).countP p = S.countP p
  | [] => rfl
  | a :: S => by
    have ih := has_split p q S
    cases hq : q a <;> cases hp : p a <;> simp [List.filter_cons, hq, List.countP_cons, hp] <;> omega
theorem has_one {S : List Rdg} (h : Sord S) {r : Rdg} (hr : r ∈ S) : hasN (mergedOf S) r + hasN (contraOf S) r = 1 := by
  unfold hasN mergedOf contraOf
  rw [has_split]
  obtain ⟨i, hi⟩ := List.getElem?_of_mem hr
  rw [count_one hi (by simp)]
  intro j y hj hy
  simp only [decide_eq_false_iff_not]
  rintro rfl
  rcases Nat.lt_trichotomy i j with h1 | h1 | h1
  · have := sord_at h h1 hi hy
    rw [rlt_irrefl] at this; cases this
  · exact hj h1.symm
  · have := sord_at h h1 hy hi
    rw [rlt_irrefl] at this; cases this
theorem hasN_succ {l : List Rdg} {k : Nat} {x r : Rdg} (hx : l[k]? = some x) : hasN (l.take (k + 1)) r = hasN (l.take k) r + (if x = r then 1 else 0) := by
  unfold hasN
  rw [List.take_add_one, hx, List.countP_append]
  by_cases h : x = r <;> simp [h]
theorem merged_names {S : List Rdg} (h : Sord S) {p : Nat} {x y : Rdg} (hx : (mergedOf S)[p]? = some x) (hy : (mergedOf S)[p + 1]? = some y) : ¬ (y.ins = x.ins ∧ y.num = x.num) := by
  intro e
  have hne : y ≠ x := fun e => by
    have := sord_at (merged_sord h) (show p < p + 1 by omega) hx hy
    rw [e, rlt_irrefl] at this; cases this
  have hxm := List.mem_of_getElem? hx; have hym := List.mem_of_getElem? hy
  have hl := (List.mem_filter.1 hxm).2
  obtain ⟨i, hi⟩ := List.getElem?_of_mem (List.mem_filter.1 hxm).1
  obtain ⟨j, hj⟩ := List.getElem?_of_mem (List.mem_filter.1 hym).1
  simp only [loneB, decide_eq_true_eq] at hl
  unfold cntN at hl
  have := (count_one (p := fun z => decide (nmR z = nmR x)) hi (by simp)).1 hl j y (fun e => by subst e; rw [hi] at hj; cases hj; exact hne rfl) hj
  simp only [decide_eq_false_iff_not, nmR, Prod.mk.injEq] at this
  exact this e

set_option maxRecDepth 100000 in
set_option maxHeartbeats 400000 in
theorem has_c {l : List Rdg} {A : Option Addr} {n c : Nat} {w : World} (h : Rd encR 4 w A n l) (hn : n ≤ 1000000) (r : Rdg) :
    Calls Try.prog 50 #[.slice A n c, .agg #[.int .i64 r.ins, .int .i64 r.num, .int .i64 r.tim, .int .i64 r.val]] w fun e w' => e = .returned (.int .i64 ((hasN l r : Nat) : Int)) ∧ Below w.heap.size w w' := by
  have HL := Lib.hid h.len
  have HBox := Lib.hid (Blk.new w 53 #[.int .i64 r.ins, .int .i64 r.num, .int .i64 r.tim, .int .i64 r.val])
  go_enter Try.func50, Try.ntmps50
  go_wp2_with fail
  go_loopw [5, 6] (fun z i wr => ∃ k : Nat, k ≤ n ∧ i = .int .i64 k ∧ z = .int .i64 ((hasN (l.take k) r : Nat) : Int) ∧ Below (w.alloc (.cells #[.int .i64 r.ins, .int .i64 r.num, .int .i64 r.tim, .int .i64 r.val] 53)).heap.size (w.alloc (.cells #[.int .i64 r.ins, .int .i64 r.num, .int .i64 r.tim, .int .i64 r.val] 53)) wr) (fun _ i _ => n - (intOf i).toNat)
  case atStart => exact ⟨0, Nat.zero_le _, rfl, rfl, Below.refl _ _⟩
  case round =>
    obtain ⟨k, hk, rfl, rfl, hb⟩ := hrel
    have HB := Lib.hid hb
    have hb0 : Below w.heap.size w wr := below_tr ((Below.refl _ w).alloc (Nat.le_refl _) _) hb
    have HB0 := Lib.hid hb0
    by_cases hlt : k < n
    · obtain ⟨b, o, x, hA, hbl, hx, hcx⟩ := rd4 (h.below hb0) hlt
      subst hA
      have HS := Lib.hid (hasN_succ (r := r) hx)
      have hkb := HBox.out.below hb (by simp)
      have y0 := hkb.cell 0; have y1 := hkb.cell 1; have y2 := hkb.cell 2; have y3 := hkb.cell 3
      simp at y0 y1 y2 y3
      obtain ⟨x0, x1, x2, x3⟩ := hcx _ (Below.refl _ _)
      have hcl : hasN (l.take k) r ≤ k := by
        have := List.countP_le_length (p := fun x => decide (x = r)) (l := l.take k)
        rw [List.length_take] at this; unfold hasN; omega
      obtain ⟨z, hz⟩ : ∃ z, z = hasN (l.take k) r := ⟨_, rfl⟩
      rw [← hz] at HS hcl ⊢
      have hw1 : IntKind.i64.wrap ((z : Int) + 1) = (z : Int) + 1 := wi (by omega)
      have heq := fun W => run_eql_rdg x r W
      have hi1 : (k : Int) < (n : Int) := by omega
      have hi0 : (0 : Int) ≤ (k : Int) := by omega
      clear hx hcx hz hb hb0 hkb
      by_cases hxr : x = r
      · rw [decide_eq_true hxr] at heq
        rw [if_pos hxr] at HS
        clear hxr
        go_wp2_with fail
        go_quiet (fail)
        go_wp2
        go_roundw
        case rel => exact ⟨k + 1, by omega, by go_num, by rw [HS.out]; go_num, below_drewN HB.out _⟩
        case measure => simp [intOf] <;> omega
      · rw [decide_eq_false hxr] at heq
        rw [if_neg hxr] at HS
        clear hxr
        go_wp2_with fail
        go_quiet (fail)
        go_wp2
        go_roundw
        case rel => exact ⟨k + 1, by omega, by go_num, by rw [HS.out]; rfl, below_drewN HB.out _⟩
        case measure => simp [intOf] <;> omega
    · obtain rfl : k = n := by omega
      rw [List.take_of_length_le (by rw [HL.out]; exact Nat.le_refl _)]
      clear hb hb0
      go_wp2_with fail
      go_ret
      exact ⟨rfl, HB0.out⟩

theorem infoLR : (Try.prog.info? 22).map (fun i => (i.zero, i.size, i.bytes)) = some (some (.slice none 0 0), 1, 24) := by kernel_rfl
theorem errL_zero {ls : List Lst} (h : errL ls = 0) : ls.length ≤ 6 ∧ (∀ x ∈ ls, x.n ≤ 200) ∧ ∀ r ∈ catL ls, validB r = true := by
  unfold errL at h
  split at h
  · cases h
  · rename_i h1
    split at h
    · cases h
    · rename_i h2
      simp only [not_or, Nat.not_lt, Bool.not_eq_false] at h1
      refine ⟨h1.1, fun x hx => ?_, fun r hr => ?_⟩
      · obtain ⟨i, hi⟩ := List.getElem?_of_mem hx
        have := allB_iff.1 h1.2 i x hi
        simpa [shortB] using this
      · obtain ⟨x, hx, hr⟩ := List.mem_flatMap.1 hr
        obtain ⟨i, hi⟩ := List.getElem?_of_mem hx
        have h3 := allB_iff.1 (by simpa using h2 : allB valB ls = true) i x hi
        obtain ⟨j, hj⟩ := List.getElem?_of_mem hr
        exact allB_iff.1 h3 j r hj
/-- Merge of one list that is right. -/
theorem Merge_one {l : List Rdg} {A : Option Addr} {n c g : Nat} {W : World} (hg : g = W.heap.size) (h : Rd encR 4 W A n l) (hn : n ≤ 200) (hc : n ≤ c) (hv : ∀ r ∈ l, validB r = true) :
    Calls Try.prog 47 #[.slice (some ⟨g, 0, none⟩) 1 1] (W.alloc (.cells #[.slice A n c] 28)) fun e w' => ∃ A1 n1 c1 A2 n2 c2, e = .returned (.tuple #[.slice A1 n1 c1, .slice A2 n2 c2, .int .i64 0]) ∧ n1 ≤ c1 ∧ n2 ≤ c2 ∧ n1 ≤ 10000 ∧ n2 ≤ 10000 ∧
      Rd encR 4 w' A1 n1 (mergedOf (sortedR l)) ∧ Rd encR 4 w' A2 n2 (contraOf (sortedR l)) ∧ Below W.heap.size W w' := by
  subst hg
  have hll : RdLL (W.alloc (.cells #[.slice A n c] 28)) (some ⟨W.heap.size, 0, none⟩) 1 [⟨A, n, c, l⟩] := by
    refine ⟨Rd.of_blk encL_len (heap_alloc_new W _) (fun (j : Nat) (v : Value) hv => by simpa [encL] using hv) rfl, fun i x hx => ?_⟩
    have hxe : x = ⟨A, n, c, l⟩ := by have := List.mem_of_getElem? hx; simpa using this
    subst hxe
    exact ⟨h.below ((Below.refl _ W).alloc (Nat.le_refl _) _), (show n ≤ maxLen by unfold maxLen; omega), hc⟩
  have he : errL [(⟨A, n, c, l⟩ : Lst)] = 0 := by
    rw [errL_one h.len, errR_zero]
    exact ⟨by rw [h.len]; exact hn, allB_iff.2 fun i x hx => hv x (List.mem_of_getElem? hx)⟩
  have hcat : catL [(⟨A, n, c, l⟩ : Lst)] = l := by simp [catL]
  have hm := Merge_c (c := 1) hll (by unfold maxLen; omega)
  rw [he, hcat] at hm
  refine hm.mono fun e w' ⟨⟨A1, n1, c1, A2, n2, c2, h1, h2, h3, h4, h5, _, h6⟩, hb⟩ => ⟨A1, n1, c1, A2, n2, c2, h1, h2, h3, h4, h5, (h6 rfl).1, (h6 rfl).2, below_tr ((Below.refl _ W).alloc (Nat.le_refl _) _) hb⟩
/-- Merge of the law's own lists, that are right. -/
theorem Merge_ls {ls ls' : List Lst} {A : Option Addr} {n c : Nat} {W : World} (h : RdLL W A n ls') (hal : Alike ls ls') (he : errL ls = 0) (hn : n ≤ 100) :
    Calls Try.prog 47 #[.slice A n c] W fun e w' => ∃ A1 n1 c1 A2 n2 c2, e = .returned (.tuple #[.slice A1 n1 c1, .slice A2 n2 c2, .int .i64 0]) ∧ n1 ≤ c1 ∧ n2 ≤ c2 ∧ n1 ≤ 10000 ∧ n2 ≤ 10000 ∧
      Rd encR 4 w' A1 n1 (mergedOf (sortedR (catL ls))) ∧ Rd encR 4 w' A2 n2 (contraOf (sortedR (catL ls))) ∧ Below W.heap.size W w' := by
  have hm := Merge_c (c := c) h (by unfold maxLen; omega)
  rw [hal.err, hal.cat, he] at hm
  exact hm.mono fun e w' ⟨⟨A1, n1, c1, A2, n2, c2, h1, h2, h3, h4, h5, _, h6⟩, hb⟩ => ⟨A1, n1, c1, A2, n2, c2, h1, h2, h3, h4, h5, (h6 rfl).1, (h6 rfl).2, hb⟩

theorem errL_turned {ls : List Lst} (h : errL ls = 0) (j : Nat) : errL (ls.drop j ++ ls.take j) = 0 := by
  have hm : ∀ x, x ∈ ls.drop j ++ ls.take j → x ∈ ls := fun x hx => by
    rcases List.mem_append.1 hx with hx | hx
    · exact List.mem_of_mem_drop hx
    · exact List.mem_of_mem_take hx
  unfold errL at h
  split at h
  · cases h
  · rename_i h1
    split at h
    · cases h
    · rename_i h2
      simp only [not_or, Nat.not_lt, Bool.not_eq_false] at h1
      have hv : allB valB ls = true := by simpa using h2
      refine errL_ok (by rw [List.length_append, List.length_drop, List.length_take]; omega) ?_ ?_
      · exact List.all_eq_true.2 fun x hx => List.all_eq_true.1 h1.2 x (hm x hx)
      · exact List.all_eq_true.2 fun x hx => List.all_eq_true.1 hv x (hm x hx)
theorem rd_take {α : Type} {enc : α → List Value} {k : Nat} {w : World} {A : Option Addr} {n b : Nat} {l : List α} (h : Rd enc k w A n l) (hb : b ≤ n) : Rd enc k w A b (l.take b) := by
  refine ⟨by rw [List.length_take, h.1]; omega, fun h0 => ?_⟩
  obtain ⟨bl, o, e, hlt, hc⟩ := h.2 (by omega)
  refine ⟨bl, o, e, hlt, fun i x hx => hc i x ?_⟩
  rw [List.getElem?_take] at hx
  split at hx
  · exact hx
  · cases hx
theorem cut_to_gen {t e : TypeId} {size : Nat} (ht : Try.prog.underlying t = some (.slice e)) (hs : ∀ W, (sizeOf e).run Try.prog W = .ok size W) (A : Option Addr) {n c k : Nat} (hk : k ≤ c) (W : World) :
    (Instr.slice t (.slice A n c) none (some (.int .i64 (k : Int))) none).run Try.prog W = .ok (.slice A k c) W := by
  have hm : A.map (fun a => a.add 0) = A := by cases A <;> simp [Addr.add]
  by_cases h0 : c = 0
  · subst h0
    obtain rfl : k = 0 := by omega
    simp [Instr.slice, run_underlying ht, hs, Instr.sliceBounds, Instr.sliceBound, asIntOf]
  · simp [Instr.slice, run_underlying ht, run_sliceBounds_to W hk, hs, h0, hm]
theorem step_append_run {P : Program} {w : World} {ops : Array Oper} {o : Oper} {a : Act} {K : Act → World → Prop} {Q : Exit → Act → World → Prop} {E : Prop} (hgd : o.guard = none) (s x : Operand) (t : TypeId)
    (ho : o.op = .call { callee := .builtin .append, args := #[s, x], argTypes := #[t, t] }) (vs vx v' : Value) (w' : World) (hs : a.eval s = vs) (hx : a.eval x = vx) (hrun : (Builtin.append_ #[t, t] o.type #[vs, vx]).run P w = .ok v' w') (h : K (a.put o.dst v') w') :
    if Region.wanted o (yielded ops a.tmps) = true then Oper.wp P o a w K Q else E := by
  have hw : Region.wanted o (yielded ops a.tmps) = true := by simp [Region.wanted, hgd]
  rw [if_pos hw]
  unfold Oper.wp
  simp [execOp, ho, resolve, invoke, builtin, hs, hx, hrun, Result.andThen]
  exact h
theorem run_append_rd {P : Program} {W : World} {base : Nat} {t ty e : TypeId} {i : TypeInfo} {z : Value} {size bytes : Nat} (ht : P.underlying t = some (.slice e)) (hi : P.info? e = some i) (hz : i.zero = some z)
    (hsize : i.size = size) (hby : i.bytes = bytes) (hzs : z.cells.size = size) (hsz : 0 < size)
    {v : Value} {n : Nat} {xs : List Value} (hown : W.ownsRow base e size v n xs)
    {α : Type} {enc : α → List Value} (hk : ∀ x, (enc x).length = size) (h1 : ∀ x, ∀ u ∈ enc x, u.oneCell' = true)
    {A : Option Addr} {m c : Nat} {l : List α} (hr : Rd enc size W A m l) (h63 : n + m ≤ maxLen) (hbytes : (n + m) * bytes ≤ 140737488355328) (hbase : base ≤ W.heap.size) :
    ∃ v' w', (Builtin.append_ #[t, t] ty #[v, .slice A m c]).run P W = .ok v' w' ∧ w'.ownsRow base e size v' (n + m) (xs ++ l.flatMap enc) ∧ W.grownBy w' v.ownBlock := by
  rcases A with _ | ad
  · obtain ⟨rfl, rfl⟩ := hr.none_zero
    exact ⟨v, W, run_append_nilc ht hi hown c, by simpa using hown, World.grownBy.refl _ _⟩
  · obtain ⟨v', w', h2, h3, h4, _, _⟩ := run_append_own_at (P := P) W base t ty e i z size bytes ht hi hz hsize hby hzs hsz v n xs hown ad m c (l.flatMap enc) (by rw [flatMap_len hk, hr.1]) (hr.news hk) (fun u hu => by
      obtain ⟨x, _, hx⟩ := List.mem_flatMap.1 hu
      exact h1 x u hx) h63 hbytes hbase
    exact ⟨v', w', h2, h3, h4⟩

set_option maxRecDepth 100000 in
set_option maxHeartbeats 4000000 in
theorem GaugeRecorders_w {ls : List Lst} {A : Option Addr} {n c : Nat} {by' : Int} {w : World} (h : RdLL w A n ls) (hn : n ≤ maxLen) (hc : n ≤ c) (hby : 0 ≤ by' ∧ by' ≤ 255) :
    Calls Try.prog 15 #[.slice A n c, .int .u8 by'] w fun e w' => e = .returned (.bool true) ∧ Below w.heap.size w w' := by
  have HH := Lib.hid h
  have HL := Lib.hid h.1.len
  by_cases hbad : n = 0 ∨ 6 < n
  · have hor : (n : Int) = 0 ∨ (((n : Int) == 0) = false ∧ 6 < (n : Int)) := by
      rcases hbad with h0 | h0
      · exact .inl (by omega)
      · exact .inr ⟨by rw [beq_eq_false_iff_ne]; omega, by omega⟩
    clear hbad h
    rcases hor with e1 | ⟨e1, e2⟩
    all_goals
      go_enter Try.func15, Try.ntmps15
      go_wp2_with fail
      refine (wakes_ok _).mono ?_
      rintro e w2 ⟨rfl, hb2⟩
      go_wp2_with fail
      go_ret
      exact ⟨rfl, hb2⟩
  · have e1 : ((n : Int) == 0) = false := by rw [beq_eq_false_iff_ne]; omega
    have e2 : ¬ 6 < (n : Int) := by omega
    have hn0 : 0 < n := by omega
    have hn6 : n ≤ 6 := by omega
    have HFC := Lib.hid (Fault_c (c := c) h hn)
    clear hbad h
    obtain ⟨E, hE⟩ : ∃ E, E = errL ls := ⟨_, rfl⟩
    rw [← hE] at HFC
    have HE := Lib.hid hE
    clear hE
    by_cases he : E = 0
    · subst he
      have hez := errL_zero HE.out.symm
      have HS := Lib.hid hez.2.1; have HV := Lib.hid hez.2.2
      have HLN : Hid (∀ x ∈ ls, x.l.length ≤ 200) := Lib.hid (fun x hx => by
        obtain ⟨i, hi⟩ := List.getElem?_of_mem hx
        rw [(HH.out.2 i x hi).1.len]; exact HS.out x hx)
      obtain ⟨i0, hi0, hz0, hz1, hz2⟩ := info_parts infoRQ
      obtain ⟨j0, hj0, hy0, hy1, hy2⟩ := info_parts infoLR
      obtain ⟨k0, hk0, hx0, hx1, hx2⟩ := info_parts infoRdg
      have HI := Lib.hid hi0; have HZ0 := Lib.hid hz0; have HZ1 := Lib.hid hz1; have HZ2 := Lib.hid hz2
      have HJ := Lib.hid hj0; have HY0 := Lib.hid hy0; have HY1 := Lib.hid hy1; have HY2 := Lib.hid hy2
      have HK := Lib.hid hk0; have HX0 := Lib.hid hx0; have HX1 := Lib.hid hx1; have HX2 := Lib.hid hx2
      clear hi0 hz0 hz1 hz2 hj0 hy0 hy1 hy2 hk0 hx0 hx1 hx2 hez
      go_enter Try.func15, Try.ntmps15
      go_wp2_with fail
      refine HFC.out.mono ?_
      rintro e w1 ⟨rfl, hb1⟩
      have HB1 := Lib.hid hb1
      have hsz1 := hb1.size
      clear hb1 HFC
      go_wp2_with fail
      go_loopw [5, 6] (fun v i wr => ∃ q : Nat, q ≤ n ∧ i = .int .i64 q ∧ wr.ownsRow w1.heap.size 55 4 v (catL (ls.take q)).length ((catL (ls.take q)).flatMap encR) ∧ Below w1.heap.size w1 wr) (fun _ i _ => n - (intOf i).toNat)
      case atStart => exact ⟨0, Nat.zero_le _, rfl, World.ownsRow_nil _ _ _ _, Below.refl _ _⟩
      case round =>
        obtain ⟨q, hq, rfl, hown, hb⟩ := hrel
        have HO := Lib.hid hown; have HB := Lib.hid hb
        have hsz := hb.size
        clear hown hb
        by_cases hlt2 : q < n
        · have hHr := HH.out.below (below_tr HB1.out HB.out)
          obtain ⟨b, o, x, hA, hbl, hx, h0⟩ := hHr.1.atL hlt2
          subst hA
          have hxr := (hHr.2 q x hx).1
          have hxn := HS.out x (List.mem_of_getElem? hx)
          have HSu := Lib.hid (catL_succ hx)
          have hcl := catL_len HLN.out q
          have HXR := Lib.hid hxr
          obtain ⟨M, hM⟩ : ∃ M, M = catL (ls.take q) := ⟨_, rfl⟩
          rw [← hM] at HSu HO hcl
          have hi1 : (q : Int) < (n : Int) := by omega
          have hi0 : (0 : Int) ≤ (q : Int) := by omega
          clear hx hxr hHr hM
          go_wp2_with (at_builtin; go_must (refine wpList_append_rd rfl _ _ 22 rfl w1.heap.size 55 i0 (.agg #[.int .i64 0, .int .i64 0, .int .i64 0, .int .i64 0]) 4 32 Try.underlying22 HI.out HZ0.out HZ1.out HZ2.out rfl (by decide) _ _ _ rfl HO.out encR_len oneR4 x.A x.n x.c x.l rfl HXR.out (by unfold maxLen; omega) (by omega) hsz ?_; intro v1 w2 hown2 hgrow2))
          have HB2 := Lib.hid (HB.out.grown hgrow2 hsz (fun g hg => (HO.out.lt g hg).1))
          have HO2 : Hid (w2.ownsRow w1.heap.size 55 4 v1 (catL (ls.take (q + 1))).length ((catL (ls.take (q + 1))).flatMap encR)) := by
            show World.ownsRow _ _ _ _ _ _ _
            rw [HSu.out, List.flatMap_append, List.length_append, HXR.out.len]; exact hown2
          clear hown2 hgrow2
          go_wp2_with fail
          go_roundw
          case rel => exact ⟨q + 1, by omega, by go_num, HO2.out, HB2.out⟩
          case measure => simp [intOf] <;> omega
        · obtain rfl : n = q := by omega
          rw [List.take_of_length_le (by rw [HL.out]; exact Nat.le_refl _)] at HO
          obtain ⟨Aa, ca, rfl, hca⟩ := own_form HO.out
          have HRA := Lib.hid (Rd.of_own encR_len HO.out rfl)
          have HB2 := Lib.hid (below_tr HB1.out HB.out)
          obtain ⟨all, hall⟩ : ∃ all, all = catL ls := ⟨_, rfl⟩
          rw [← hall] at HRA HV hca
          rw [← hall]
          have HAl := Lib.hid hall
          clear hall HO HB hsz hsz1
          by_cases h100 : 100 < all.length
          · have h100' : 100 < (all.length : Int) := by omega
            go_wp2_with fail
            refine (wakes_ok _).mono ?_
            rintro e w9 ⟨rfl, hb9⟩
            go_wp2_with fail
            go_ret
            exact ⟨rfl, below_tr HB2.out hb9⟩
          · have h100' : ¬ 100 < (all.length : Int) := by omega
            obtain ⟨j, hj⟩ : ∃ j : Nat, j = (by' % (n : Int)).toNat := ⟨_, rfl⟩
            have hmod : 0 ≤ by' % (n : Int) ∧ by' % (n : Int) < (n : Int) := ⟨Int.emod_nonneg _ (by omega), Int.emod_lt_of_pos _ (by omega)⟩
            have hjn : j < n := by omega
            have hq1 : by'.tmod (n : Int) = (j : Int) := by rw [Int.tmod_eq_emod_of_nonneg hby.1]; omega
            have hw1 : IntKind.i64.wrap by' = by' := wi (by omega)
            have hw2 : IntKind.i64.wrap (j : Int) = (j : Int) := wi (by omega)
            have HLC := Lib.hid (Lists_c (c := c) (HH.out.below HB2.out) (by omega) (fun x hx => by have := HS.out x hx; omega))
            clear hmod hj
            go_wp2_with fail
            refine HLC.out.mono ?_
            rintro e w3 ⟨A3, c3, ls3, rfl, hc3, hr3, hal3, hb3⟩
            have HB3 := Lib.hid (below_tr HB2.out hb3)
            have HMC := Lib.hid (Merge_ls (c := c3) hr3 hal3 HE.out.symm (by omega))
            have HRA3 := Lib.hid (HRA.out.below hb3)
            clear hr3 hal3 hb3 HLC hc3
            go_wp2_with fail
            refine HMC.out.mono ?_
            rintro e w4 ⟨A4, n4, c4, A5, n5, c5, rfl, hc4, hc5, hn4, hn5, hr4, hr5, hb4⟩
            have HB4 := Lib.hid (below_tr HB3.out hb4)
            rw [← HAl.out] at hr4 hr5
            have HR4 := Lib.hid hr4; have HR5 := Lib.hid hr5
            have HRA4 := Lib.hid (HRA3.out.below hb4)
            clear hr4 hr5 hb4 HMC
            obtain ⟨Ma, hMa⟩ : ∃ Ma, Ma = mergedOf (sortedR all) := ⟨_, rfl⟩
            obtain ⟨Co, hCo⟩ : ∃ Co, Co = contraOf (sortedR all) := ⟨_, rfl⟩
            rw [← hMa] at HR4
            rw [← hCo] at HR5
            have HMa := Lib.hid hMa; have HCo := Lib.hid hCo
            clear hMa hCo
            have hH4 := HH.out.below HB4.out
            obtain ⟨A1, hcf, hcr⟩ := cut_from (P := Try.prog) (t := 31) (e := 22) (size := 1) Try.underlying31 Try.sizeOf22 A (len := n) (cap := c) (lo := j) w4 (by omega) hc
            have hct := fun W => cut_to_gen (t := 31) (e := 22) (size := 1) Try.underlying31 Try.sizeOf22 A (n := n) (c := c) (k := j) (by omega) W
            have hd1 := hcr encL ls hH4.1
            have ht1 := rd_take hH4.1 (b := j) (by omega)
            have hb0 : Below w4.heap.size w4 (w4.alloc (.cells #[] 22)).drew := ((Below.refl _ w4).alloc (Nat.le_refl _) _).drew
            obtain ⟨v1, W1, hr1, ho1, hg1⟩ := run_append_rd (P := Try.prog) (W := (w4.alloc (.cells #[] 22)).drew) (base := w4.heap.size) (t := 31) (ty := 31) (c := c - j) Try.underlying31 HJ.out HY0.out HY1.out HY2.out rfl (by decide) (own_mono (own_empty w4 22 1) (Below.refl _ _).drew) encL_len oneS (hd1.below hb0) (by unfold maxLen; omega) (by omega) (by simp)
            have hb1 : Below w4.heap.size w4 W1 := hb0.grown hg1 (by simp) (fun g hg => ((own_empty w4 22 1).lt g hg).1)
            obtain ⟨v2, W2, hr2, ho2, hg2⟩ := run_append_rd (P := Try.prog) (W := W1) (base := w4.heap.size) (t := 31) (ty := 31) (c := c) Try.underlying31 HJ.out HY0.out HY1.out HY2.out rfl (by decide) ho1 encL_len oneS (ht1.below hb1) (by unfold maxLen; omega) (by omega) hb1.size
            have hb2 : Below w4.heap.size w4 W2 := hb1.grown hg2 hb1.size (fun g hg => (ho1.lt g hg).1)
            obtain ⟨Av, cv, rfl, hcv⟩ := own_form ho2
            have hnn : 0 + (n - j) + j = n := by omega
            rw [hnn] at ho2 hr2 hcv
            have hRL : RdLL W2 Av n (ls.drop j ++ ls.take j) := by
              refine ⟨Rd.of_own encL_len (by rw [List.flatMap_append]; simpa using ho2) (by rw [List.length_append, List.length_drop, List.length_take, HL.out]; omega), fun i x hx => ?_⟩
              have hxm : x ∈ ls := by
                rcases List.mem_append.1 (List.mem_of_getElem? hx) with hx | hx
                · exact List.mem_of_mem_drop hx
                · exact List.mem_of_mem_take hx
              obtain ⟨i', hi'⟩ := List.getElem?_of_mem hxm
              have h3 := (hH4.below hb2).2 i' x hi'
              exact h3
            have HLC := Lib.hid (Lists_c (c := cv) hRL (by omega) (fun x hx => by
              have hxm : x ∈ ls := by
                rcases List.mem_append.1 hx with hx | hx
                · exact List.mem_of_mem_drop hx
                · exact List.mem_of_mem_take hx
              have := HS.out x hxm; omega))
            have HET := Lib.hid (errL_turned HE.out.symm j)
            have hst : sortedR (catL (ls.drop j ++ ls.take j)) = sortedR all := by rw [HAl.out]; exact sortedR_congr (catL_turned ls j)
            have HST := Lib.hid hst
            have HBW2 := Lib.hid hb2
            clear hd1 ht1 hb0 ho1 hg1 hb1 ho2 hg2 hb2 hcv hRL hst hcr hH4
            go_upto_region 12 with fail
            go_cut [11, 12, 13] (fun va vb ve wx => ∃ A6 n6 c6 A7 n7 c7, va = .slice A6 n6 c6 ∧ vb = .slice A7 n7 c7 ∧ ve = .int .i64 0 ∧ n6 ≤ 10000 ∧ n7 ≤ 10000 ∧ Rd encR 4 wx A6 n6 Ma ∧ Rd encR 4 wx A7 n7 Co ∧ Below w4.heap.size w4 wx)
            case first =>
              go_region_held3 (fun w' => True) (trivial) (first
                | (refine step_append_run (by rfl) _ _ 31 (by rfl) _ _ _ _ (by rfl) (by rfl) hr1 ?_)
                | (refine step_append_run (by rfl) _ _ 31 (by rfl) _ _ _ _ (by rfl) (by rfl) hr2 ?_)
                | (go_at_call 48; refine HLC.out.mono ?_; rintro e w5 ⟨A6, c6, ls6, rfl, hc6, hr6, hal6, hb5⟩; have HM6 := Lib.hid (Merge_ls (c := c6) hr6 hal6 HET.out (by omega)); have HB5 := Lib.hid (HBW2.out.trans (hb5.mono HBW2.out.size)); clear hc6 hr6 hal6 hb5)
                | (go_at_call 47; refine HM6.out.mono ?_; rintro e w6 ⟨A7, n7, c7, A8, n8, c8, rfl, hc7, hc8, hn7, hn8, hr7, hr8, hb6⟩; have HB6 := Lib.hid (HB5.out.trans (hb6.mono HB5.out.size)); rw [HST.out, ← HMa.out] at hr7; rw [HST.out, ← HCo.out] at hr8; have HR7 := Lib.hid hr7; have HR8 := Lib.hid hr8; clear hr7 hr8 hb6))
              all_goals
                go_wp2_with fail
                go_meet
                exact ⟨_, _, _, _, _, _, rfl, rfl, rfl, hn7, hn8, HR7.out, HR8.out, HB6.out⟩
            case rest =>
            obtain ⟨A6, n6, c6, A7, n7, c7, rfl, rfl, rfl, hn6', hn7', hr6, hr7, hbc⟩ := hcut
            have HB5 := Lib.hid (below_tr HB4.out hbc)
            have HP4 := Lib.hid (HR4.out.below hbc); have HP5 := Lib.hid (HR5.out.below hbc); have HP6 := Lib.hid hr6; have HP7 := Lib.hid hr7; have HPA := Lib.hid (HRA4.out.below hbc)
            have HRC := Lib.hid (Readings_c (c := ca) HPA.out (by omega))
            clear hbc hr6 hr7 HLC HET HST HBW2 hct hr1 hr2 HRA HRA3 HRA4 HR4 HR5
            go_wp2_with fail
            refine HRC.out.mono ?_
            rintro e w6 ⟨A8, c8, rfl, hc8, hr8, hb6⟩
            have HB6 := Lib.hid (below_tr HB5.out hb6)
            have HR8 := Lib.hid hr8
            have HQ4 := Lib.hid (HP4.out.below hb6); have HQ5 := Lib.hid (HP5.out.below hb6); have HQ6 := Lib.hid (HP6.out.below hb6); have HQ7 := Lib.hid (HP7.out.below hb6); have HQA := Lib.hid (HPA.out.below hb6)
            clear hb6 hr8 HRC HP4 HP5 HP6 HP7 HPA
            go_wp2_with fail
            refine (Merge_one rfl HR8.out (by omega) hc8 HV.out).mono ?_
            rintro e w7 ⟨A9, n9, c9, A10, n10, c10, rfl, hc9, hc10, hn9, hn10, hr9, hr10, hb7⟩
            rw [← HMa.out] at hr9
            rw [← HCo.out] at hr10
            have HB7 := Lib.hid (below_tr HB6.out hb7)
            have HP4 := Lib.hid (HQ4.out.below hb7); have HP5 := Lib.hid (HQ5.out.below hb7); have HP7 := Lib.hid (HQ7.out.below hb7); have HPA := Lib.hid (HQA.out.below hb7); have HP9 := Lib.hid hr9; have HP10 := Lib.hid hr10
            have hs1 := same_c (c := c4) (c' := c6) HP4.out (HQ6.out.below hb7) (by omega)
            rw [decide_eq_true rfl] at hs1
            have HS1 := Lib.hid hs1
            clear hb7 hr9 hr10 hs1 HQ4 HQ5 HQ6 HQ7 HQA HR8 hc8 hc9 hc10
            go_wp2_with fail
            refine HS1.out.mono ?_
            rintro e w8 ⟨rfl, hb8⟩
            have HB8 := Lib.hid (below_tr HB7.out hb8)
            have HQ4 := Lib.hid (HP4.out.below hb8); have HQ5 := Lib.hid (HP5.out.below hb8); have HQA := Lib.hid (HPA.out.below hb8); have HQ9 := Lib.hid (HP9.out.below hb8); have HQ10 := Lib.hid (HP10.out.below hb8)
            have hs1 := same_c (c := c5) (c' := c7) HQ5.out (HP7.out.below hb8) (by omega)
            rw [decide_eq_true rfl] at hs1
            have HS2 := Lib.hid hs1
            clear hb8 hs1 HP4 HP5 HP7 HPA HP9 HP10 HS1
            go_wp2_with fail
            refine HS2.out.mono ?_
            rintro e w9 ⟨rfl, hb9⟩
            have HB9 := Lib.hid (below_tr HB8.out hb9)
            have HP4 := Lib.hid (HQ4.out.below hb9); have HP5 := Lib.hid (HQ5.out.below hb9); have HPA := Lib.hid (HQA.out.below hb9); have HP10 := Lib.hid (HQ10.out.below hb9)
            have hs1 := same_c (c := c4) (c' := c9) HP4.out (HQ9.out.below hb9) (by omega)
            rw [decide_eq_true rfl] at hs1
            have HS3 := Lib.hid hs1
            clear hb9 hs1 HQ4 HQ5 HQA HQ9 HQ10 HS2
            go_wp2_with fail
            refine HS3.out.mono ?_
            rintro e w10 ⟨rfl, hb10⟩
            have HB10 := Lib.hid (below_tr HB9.out hb10)
            have HQ4 := Lib.hid (HP4.out.below hb10); have HQ5 := Lib.hid (HP5.out.below hb10); have HQA := Lib.hid (HPA.out.below hb10)
            have hs1 := same_c (c := c5) (c' := c10) HQ5.out (HP10.out.below hb10) (by omega)
            rw [decide_eq_true rfl] at hs1
            have HS4 := Lib.hid hs1
            clear hb10 hs1 HP4 HP5 HPA HP10 HS3
            go_wp2_with fail
            refine HS4.out.mono ?_
            rintro e w11 ⟨rfl, hb11⟩
            have HB11 := Lib.hid (below_tr HB10.out hb11)
            have HP4 := Lib.hid (HQ4.out.below hb11); have HP5 := Lib.hid (HQ5.out.below hb11); have HPA := Lib.hid (HQA.out.below hb11)
            clear hb11 HQ4 HQ5 HQA HS4
            go_wp2_with fail
            go_loopw [17] (fun i wr => ∃ k : Nat, k ≤ all.length ∧ i = .int .i64 k ∧ Below w11.heap.size w11 wr) (fun i _ => all.length - (intOf i).toNat)
            case atStart => exact ⟨0, Nat.zero_le _, rfl, Below.refl _ _⟩
            case round =>
              obtain ⟨k, hk, rfl, hb⟩ := hrel
              have HB := Lib.hid hb
              have hszr := hb.size
              by_cases hlt : k < all.length
              · obtain ⟨b, o, r, hA, hbl, hr, hcr⟩ := rd4 (HPA.out.below hb) hlt
                subst hA
                have HCR := Lib.hid hcr
                obtain ⟨r0, r1, r2, r3⟩ := hcr _ (Below.refl _ _)
                have hone := has_one (sortedR_ok all).1 ((sortedR_ok all).2 r |>.2 (List.mem_of_getElem? hr))
                rw [← HMa.out, ← HCo.out] at hone
                have H4 := Lib.hid (HP4.out.below hb); have H5 := Lib.hid (HP5.out.below hb)
                have HT := Lib.hid (fun W => to_c r W)
                have HA1 := Lib.hid (fun W (hW : Below wr.heap.size wr W) => has_c (c := c4) (H4.out.below hW) (by omega) r)
                have HA2 := Lib.hid (fun W (hW : Below wr.heap.size wr W) => has_c (c := c5) (H5.out.below hW) (by omega) r)
                obtain ⟨u1, hu1⟩ : ∃ u1, u1 = hasN Ma r := ⟨_, rfl⟩
                obtain ⟨u2, hu2⟩ : ∃ u2, u2 = hasN Co r := ⟨_, rfl⟩
                rw [← hu1] at HA1 hone
                rw [← hu2] at HA2 hone
                have hsum : (u1 : Int) + (u2 : Int) = 1 := by omega
                have hw9 : IntKind.i64.wrap ((u1 : Int) + (u2 : Int)) = 1 := by rw [hsum]; exact wi (by omega)
                have hi1 : (k : Int) < (all.length : Int) := by omega
                have hi0 : (0 : Int) ≤ (k : Int) := by omega
                have HSUM := Lib.hid hsum
                clear hr hcr hu1 hu2 hone hb hsum
                go_wp2_with fail
                go_region_held3 (fun w' => Below wr.heap.size wr w' ∧ w'.cell? ⟨b, o + k * 4, none⟩ = some (.int .i64 r.ins) ∧ w'.cell? ⟨b, o + k * 4 + 1, none⟩ = some (.int .i64 r.num) ∧ w'.cell? ⟨b, o + k * 4 + 2, none⟩ = some (.int .i64 r.tim) ∧ w'.cell? ⟨b, o + k * 4 + 3, none⟩ = some (.int .i64 r.val))
                  (first | exact ⟨Below.refl _ _, HCR.out _ (Below.refl _ _)⟩ | exact ⟨(Below.refl _ _).drew, HCR.out _ (Below.refl _ _).drew⟩ | assumption)
                  (first
                    | (go_at_call 31; refine (HT.out _).mono ?_; rintro e wa ⟨rfl, hba⟩; have hbb : Below wr.heap.size wr wa := below_tr (by (first | exact Below.refl _ _ | exact (Below.refl _ _).drew | (exact And.left (by assumption)) | assumption)) hba; have hbk := And.intro hbb (HCR.out _ hbb))
                    | (go_at_call 50; (first | (with_reducible refine (HA1.out _ (by first | assumption | exact And.left (by assumption))).mono ?_) | (with_reducible refine (HA2.out _ (by first | assumption | exact And.left (by assumption))).mono ?_)); rintro e wa ⟨rfl, hba⟩; have hbb : Below wr.heap.size wr wa := below_tr (by (first | exact Below.refl _ _ | exact (Below.refl _ _).drew | (exact And.left (by assumption)) | assumption)) hba; have hbk := And.intro hbb (HCR.out _ hbb)))
                all_goals
                  have HBN := Lib.hid (HB.out.trans (hbb.mono hszr))
                  go_wp2_with fail
                  go_roundw
                  case rel => exact ⟨k + 1, by omega, by go_num, HBN.out⟩
                  case measure => simp [intOf] <;> omega
              · obtain rfl : all.length = k := by omega
                have HBM := Lib.hid (below_tr HB11.out HB.out)
                have HM4 := Lib.hid (HP4.out.below HB.out)
                have HNM : Hid (∀ (p : Nat) (x y : Rdg), Ma[p]? = some x → Ma[p + 1]? = some y → ¬ (y.ins = x.ins ∧ y.num = x.num)) := Lib.hid (fun p x y hx hy => by
                  rw [HMa.out] at hx hy
                  exact merged_names (sortedR_ok all).1 hx hy)
                have HVM : Hid (∀ r ∈ Ma, validB r = true) := Lib.hid (fun r hr => by
                  rw [HMa.out] at hr
                  exact HV.out r ((sortedR_ok all).2 r |>.1 (List.mem_filter.1 hr).1))
                have hMl : n4 ≤ 100 := by
                  have h1 := HM4.out.len
                  have h2 : Ma.length ≤ (sortedR all).length := by rw [HMa.out]; exact List.length_filter_le _ _
                  have h3 := sortedR_len all
                  omega
                have HMS : Hid (sortedR Ma = Ma) := by
                  show _ = _
                  rw [HMa.out]; exact sortedR_self (merged_sord (sortedR_ok all).1)
                have HMM : Hid (mergedOf Ma = Ma) := by
                  show _ = _
                  rw [HMa.out]; exact merged_again _
                have HMC : Hid (contraOf Ma = []) := by
                  show _ = _
                  rw [HMa.out]; exact contra_again _
                clear hb HP4 HP5 HPA HMa HCo HV HAl
                obtain ⟨wo, rfl⟩ : ∃ wo : World, wo = wr := ⟨_, rfl⟩
                go_wp2_with fail
                go_loopw [18] (fun i wr => ∃ p : Nat, (p + 1 ≤ n4 ∨ p = 0) ∧ i = .int .i64 ((p : Int) + 1) ∧ Below wo.heap.size wo wr) (fun i _ => n4 + 1 - (intOf i).toNat)
                case atStart => exact ⟨0, .inr rfl, rfl, Below.refl _ _⟩
                case round =>
                  obtain ⟨p, hp, rfl, hb⟩ := hrel
                  have HB := Lib.hid hb
                  by_cases hlt : p + 1 < n4
                  · obtain ⟨b, o, x, hA, hbl, hx, hcx⟩ := rd4 (HM4.out.below hb) (i := p) (by omega)
                    subst hA
                    obtain ⟨b', o', y, hA, _, hy, hcy⟩ := rd4 (HM4.out.below hb) (i := p + 1) hlt
                    cases hA
                    have hnm := HNM.out p x y hx hy
                    obtain ⟨x0, x1, x2, x3⟩ := hcx _ (Below.refl _ _)
                    obtain ⟨y0, y1, y2, y3⟩ := hcy _ (Below.refl _ _)
                    have hi1 : (p : Int) + 1 < (n4 : Int) := by omega
                    have hi0 : (0 : Int) ≤ (p : Int) + 1 := by omega
                    have hi2 : (0 : Int) ≤ (p : Int) := by omega
                    have hi3 : (p : Int) < (n4 : Int) := by omega
                    have ht : ((p : Int) + 1).toNat = p + 1 := by omega
                    have hv1 : IntKind.i64.wrap ((p : Int) + 1 - 1) = (p : Int) := by rw [wi (by omega)]; omega
                    have hv2 : IntKind.i64.wrap (p : Int) = (p : Int) := wi (by omega)
                    clear hx hy hcx hcy hb
                    by_cases hins : y.ins = x.ins
                    · have f1 : (y.ins == x.ins) = true := by simpa using hins
                      have f2 : (y.num == x.num) = false := by rw [beq_eq_false_iff_ne]; exact fun e => hnm ⟨hins, e⟩
                      clear hins hnm
                      go_wp2_with fail
                      go_quiet (fail)
                      go_wp2
                      go_roundw
                      case rel => exact ⟨p + 1, by omega, by go_num, below_drewN HB.out _⟩
                      case measure => simp [intOf] <;> omega
                    · have f1 : (y.ins == x.ins) = false := by simpa using hins
                      clear hins hnm
                      go_wp2_with fail
                      go_quiet (fail)
                      go_wp2
                      go_roundw
                      case rel => exact ⟨p + 1, by omega, by go_num, below_drewN HB.out _⟩
                      case measure => simp [intOf] <;> omega
                  · have hlt' : ¬ (p : Int) + 1 < (n4 : Int) := by omega
                    have HBN := Lib.hid (below_tr HBM.out HB.out)
                    have HM5 := Lib.hid (HM4.out.below HB.out)
                    clear hb
                    go_wp2_with (at_builtin; go_must (refine wpList_append_rd rfl _ _ 28 rfl wr.heap.size 53 k0 (.agg #[.int .i64 0, .int .i64 0, .int .i64 0, .int .i64 0]) 4 32 Try.underlying28 HK.out HX0.out HX1.out HX2.out rfl (by decide) _ _ _ rfl (own_empty wr 53 4) encR_len oneR4 A4 n4 c4 Ma rfl (HM5.out.below ((Below.refl _ wr).alloc (Nat.le_refl _) _)) (by unfold maxLen; omega) (by omega) (by simp) ?_; intro v9 w12 hown hgrow; rw [Nat.zero_add, List.nil_append] at hown; obtain ⟨A11, c11, rfl, hc11⟩ := own_form hown))
                    have hb12 : Below wr.heap.size wr w12 := ((Below.refl _ wr).alloc (Nat.le_refl _) _).grown hgrow (by simp) (fun g hg => ((own_empty wr 53 4).lt g hg).1)
                    have HB12 := Lib.hid (below_tr HBN.out hb12)
                    have HM6 := Lib.hid (HM5.out.below hb12)
                    have HR12 := Lib.hid (Rd.of_own encR_len hown HM5.out.len)
                    clear hown hgrow hb12
                    go_wp2_with fail
                    refine (Merge_one rfl HR12.out (by omega) hc11 HVM.out).mono ?_
                    rintro e w13 ⟨A13, n13, c13, A14, n14, c14, rfl, hc13, hc14, hn13, hn14, hr13, hr14, hb13⟩
                    rw [HMS.out, HMM.out] at hr13
                    rw [HMS.out, HMC.out] at hr14
                    obtain rfl : n14 = 0 := by have := hr14.len; simpa using this.symm
                    have HB13 := Lib.hid (below_tr HB12.out hb13)
                    have hs1 := same_c (c := c13) (c' := c4) hr13 (HM6.out.below hb13) (by omega)
                    rw [decide_eq_true rfl] at hs1
                    have HS1 := Lib.hid hs1
                    clear hr13 hr14 hb13 hs1
                    go_wp2_with fail
                    refine HS1.out.mono ?_
                    rintro e w14 ⟨rfl, hb14⟩
                    have HB14 := Lib.hid (below_tr HB13.out hb14)
                    clear hb14
                    go_wp2_with fail
                    refine (wakes_ok _).mono ?_
                    rintro e w15 ⟨rfl, hb15⟩
                    go_wp2_with fail
                    go_ret
                    exact ⟨rfl, below_tr HB14.out hb15⟩
    · have d1 : (E == 0) = false := by rw [beq_eq_false_iff_ne]; exact he
      have d2 : (E != 0) = true := by rw [bne_iff_ne]; exact he
      go_enter Try.func15, Try.ntmps15
      go_wp2_with fail
      refine HFC.out.mono ?_
      rintro e w1 ⟨rfl, hb1⟩
      have HB1 := Lib.hid hb1
      clear hb1 HFC
      go_wp2_with fail
      refine (wakes_ok _).mono ?_
      rintro e w9 ⟨rfl, hb9⟩
      go_wp2_with fail
      go_ret
      exact ⟨rfl, below_tr HB1.out hb9⟩
end Go.Proofs.Ytkgoojilmnkgiaa
