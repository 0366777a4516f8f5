/- THE CONTRACT of slices.SortFunc at package zone's parts, over the shelf's structure; slices.Clone at ints. -/
import Derived.Test.YtphdndiikikecaaZBuyLaw
import Derived.Test.YtphdndiikikecaaZAppRd
import Derived.Deep.MidRow
set_option linter.unusedVariables false
set_option linter.unusedSimpArgs false
namespace Go.Proofs.Ytphdndiikikecaa
open Go.RowKit Go.Proofs Go.Shelf Go.Sort

/-- a part of bounds: who, and what is left -/
def partB (p : Int × Int) : Prop := 0 ≤ p.1 ∧ p.1 ≤ 1000000 ∧ 0 ≤ p.2 ∧ p.2 ≤ 2000000000000000000
abbrev VP := { p : Int × Int // partB p }
instance : Inhabited VP := ⟨⟨(0, 0), by unfold partB; omega⟩⟩
def encW (x : VP) : List Value := enc2 x.1
theorem encW_len (x : VP) : (encW x).length = 2 := rfl
theorem vp_list : ∀ {l : List (Int × Int)}, (∀ x ∈ l, partB x) → ∃ L : List VP, L.map (·.1) = l
  | [], _ => ⟨[], rfl⟩
  | x :: l, h => by
    obtain ⟨L, hL⟩ := vp_list (l := l) fun y hy => h y (by simp [hy])
    exact ⟨⟨x, h x (by simp)⟩ :: L, by simp [hL]⟩
theorem vp_flat (L : List VP) : (L.map (·.1)).flatMap enc2 = L.flatMap encW := by
  induction L with
  | nil => rfl
  | cons x L ih => simp only [List.map_cons, List.flatMap_cons, ih]; rfl
theorem flatK_list (L : List VP) : (flatK encW 2 L.toArray).toList = L.flatMap encW := by
  apply List.ext_getElem?
  intro t
  have hl : (L.flatMap encW).length = L.length * 2 := flatMap_len encW_len L
  by_cases ht : t < L.length * 2
  · have hi : t / 2 < L.length := by omega
    have hx : L[t / 2]? = some L[t / 2] := List.getElem?_eq_getElem hi
    have hj : t % 2 < (encW L[t / 2]).length := by rw [encW_len]; omega
    have h1 := flatMap_get encW_len L (t / 2) L[t / 2] (t % 2) _ hx (List.getElem?_eq_getElem hj)
    rw [show t / 2 * 2 + t % 2 = t by omega] at h1
    rw [h1, Array.getElem?_toList]
    simp [flatK, ht, hi, List.getElem!_eq_getElem?_getD, List.getElem?_eq_getElem hj]
  · rw [List.getElem?_eq_none (by simp; omega), List.getElem?_eq_none (by rw [hl]; omega)]
theorem holdsK_own {w : World} {base g cap n : Nat} {e : TypeId} {L : List VP} (h : w.ownsRow base e 2 (.slice (some ⟨g, 0, none⟩) n cap) n (L.flatMap encW)) (hl : L.length = n) : HoldsK encW 2 w g 0 L.toArray := by
  intro j hj
  refine ⟨?_, by rw [Nat.zero_add]; exact h.frozenAt j⟩
  rw [Nat.zero_add]
  have hj' : j < (flatK encW 2 L.toArray).toList.length := by simpa using hj
  have h1 : (L.flatMap encW)[j]? = some (flatK encW 2 L.toArray)[j]! := by
    rw [← flatK_list, Array.getElem?_toList]
    simp [Array.getElem!_eq_getD, Array.getD]
    rw [dif_pos (by simpa using hj)]
    exact Array.getElem?_eq_getElem hj
  have := h.cells (g := g) rfl j _ h1
  rwa [Addr.add_mid, Nat.zero_add] at this
theorem heap_sortedK {w : World} {g n : Nat} {os : Array Obj} {cur : Array Value} {e : TypeId} {fr : Nat × Nat} (d : Array VP) (hb : w.heap[g]? = some (.cells cur e fr)) :
    (sortWorldK encW 2 w g 0 n d os).heap[g]? = some (.cells (putCells id 0 (flatK encW 2 d) cur) e fr) := by
  have hg : g < w.heap.size := (Array.getElem?_eq_some_iff.1 hb).1
  unfold sortWorldK putRowK
  rw [heap_grow_old _ _ (by simpa using hg)]
  simp [putRow, mapBlock, Sort.ahead, Array.getElem?_modify, hb, onCells]
theorem grownBy_sortedK {w : World} {g n : Nat} {os : Array Obj} (d : Array VP) : w.grownBy (sortWorldK encW 2 w g 0 n d os) (some g) := by
  unfold sortWorldK putRowK
  refine ⟨rfl, rfl, rfl, by simp, fun k hk hne => ?_⟩
  rw [heap_grow_old _ _ (by simpa using hk)]
  have : g ≠ k := fun e => hne (by rw [e])
  simp [putRow, mapBlock, Sort.ahead, Array.getElem?_modify, this]
theorem take_putCellsK (cur : Array Value) (F : Array Value) (h : F.size ≤ cur.size) : (putCells id 0 F cur).toList.take F.size = F.toList := by
  apply List.ext_getElem?
  intro j
  by_cases hj : j < F.size
  · rw [List.getElem?_take_of_lt hj, Array.getElem?_toList]
    simp [putCells, hj, show j < cur.size by omega]
  · rw [List.getElem?_take_eq_none (by omega), List.getElem?_eq_none (by simp; omega)]
theorem ownsRow_sortedK {w : World} {base g cap n m : Nat} {e : TypeId} {os : Array Obj} {L L' : List VP} (hl : L'.length = L.length) (h : w.ownsRow base e 2 (.slice (some ⟨g, 0, none⟩) m cap) m (L.flatMap encW)) (hm : L.length = m) :
    (sortWorldK encW 2 w g 0 n L'.toArray os).ownsRow base e 2 (.slice (some ⟨g, 0, none⟩) m cap) m (L'.flatMap encW) := by
  rcases h.2 with ⟨h', _⟩ | ⟨g', cap', cur, h', hb, hg, hnc, hcm, hcs, htake⟩
  · simp at h'
  · simp only [Value.slice.injEq, Option.some.injEq, Addr.mk.injEq, and_true, true_and] at h'
    obtain ⟨rfl, rfl⟩ := h'
    have hF : (flatK encW 2 L'.toArray).size = m * 2 := by rw [size_flatK]; simp [hl, hm]
    refine ⟨by rw [flatMap_len encW_len, hl, hm], .inr ⟨g, cap, _, rfl, hb, heap_sortedK _ hg, hnc, hcm, by simp [putCells, hcs], ?_⟩⟩
    have := take_putCellsK cur (flatK encW 2 L'.toArray) (by rw [hF, hcs]; omega)
    rw [hF, flatK_list] at this
    exact this

/-- who comes first -/
def plt (x y : Int × Int) : Bool := decide (y.2 < x.2) || (decide (y.2 = x.2) && decide (x.1 < y.1))
theorem plt_iff {x y : Int × Int} : plt x y = true ↔ y.2 < x.2 ∨ (y.2 = x.2 ∧ x.1 < y.1) := by simp [plt]
theorem plt_not {x y : Int × Int} : plt x y = false ↔ x.2 < y.2 ∨ (y.2 = x.2 ∧ y.1 ≤ x.1) := by rw [← Bool.not_eq_true, plt_iff]; omega
def cfW (x y : VP) : Int := orL [y.1.2 - x.1.2, x.1.1 - y.1.1]
theorem ltOf_cfW (x y : VP) : ltOf cfW x y = plt x.1 y.1 := by
  unfold ltOf cfW
  rw [orL_two]
  cases h : plt x.1 y.1
  · have := plt_not.1 h
    rw [decide_eq_false_iff_not]
    split <;> omega
  · have := plt_iff.1 h
    rw [decide_eq_true_iff]
    split <;> omega
theorem swoW : SWO (ltOf cfW) where
  irrefl x := by rw [ltOf_cfW, plt_not]; omega
  trans x y z h1 h2 := by rw [ltOf_cfW, plt_iff] at *; omega
  ntrans x y z h1 h2 := by rw [ltOf_cfW, plt_not] at *; omega
theorem totW (x y : VP) (h : ltOf cfW x y = false) (h' : ltOf cfW y x = false) : x = y := by
  rw [ltOf_cfW, plt_not] at *
  exact Subtype.ext (Prod.ext (by omega) (by omega))

set_option maxRecDepth 100000 in
set_option maxHeartbeats 400000 in
theorem share1_c {x y : Int × Int} (hx : partB x) (hy : partB y) (w : World) :
    Calls Try.prog 84 #[.agg #[.int .i64 x.1, .int .i64 x.2], .agg #[.int .i64 y.1, .int .i64 y.2]] w fun e w' =>
      e = .returned (.int .i64 (orL [y.2 - x.2, x.1 - y.1])) ∧ ∃ q os', w' = grow (w.drewN q) os' := by
  obtain ⟨a, b⟩ := x
  obtain ⟨c, d⟩ := y
  unfold partB at hx hy
  simp only at hx hy ⊢
  have w1 : IntKind.i64.wrap (d - b) = d - b := wi (by omega)
  have w2 : IntKind.i64.wrap (a - c) = a - c := wi (by omega)
  have hr := rd_two ((w.alloc (.cells #[.int .i64 a, .int .i64 b] 135)).alloc (.cells #[.int .i64 c, .int .i64 d] 135)) (d - b) (a - c) (g := w.heap.size + 1 + 1) (by simp)
  have HC := Lib.hid (Or_c (c := 2) hr (by omega))
  clear hr hx hy
  go_enter Try.func84, Try.ntmps84
  go_wp2_with (go_at_call 85; refine HC.out.mono ?_; rintro e w' ⟨rfl, rfl⟩)
  go_ret
  exact ⟨rfl, 0, _, by rw [alloc_eq_grow, alloc_eq_grow, alloc_eq_grow, grow_grow, grow_grow]; rfl⟩
theorem laysW (blk off size : Nat) (w : World) : CmpLays Try.prog 84 #[] encW 2 cfW blk off size w :=
  fun _ _ _ _ x y => share1_c x.2 y.2 _

theorem sortFunc_c {w : World} {base n : Nat} {v : Value} {l : List (Int × Int)} (h : w.ownsRow base 135 2 v n (l.flatMap enc2)) (hl : l.length = n) (hn : n ≤ 100000) (hv : ∀ x ∈ l, partB x) :
    Calls Try.prog 83 #[v, .func (.func 84) #[] #[]] w fun e w' => e = .returned (.tuple #[]) ∧ ∃ s, List.Pairwise (fun a b => plt b a = false) s ∧ s.Perm l ∧ w'.ownsRow base 135 2 v n (s.flatMap enc2) ∧ w.grownBy w' v.ownBlock := by
  rcases h.2 with ⟨rfl, rfl⟩ | ⟨g, cap, cur, rfl, _, hg, _⟩
  · obtain rfl := List.eq_nil_of_length_eq_zero hl
    have hcon := AnyF.slices_SortFunc_none sortR none 0 (.func (.func 84) #[] #[]) w
    refine Calls.mono (P := Try.prog) (f := 83) hcon ?_
    rintro e w' ⟨rfl, rfl⟩
    exact ⟨rfl, [], List.Pairwise.nil, List.Perm.refl _, h, World.grownBy.refl _ _⟩
  · obtain ⟨L, rfl⟩ := vp_list hv
    rw [vp_flat] at h
    have hl' : L.length = n := by simpa using hl
    have hcon := AnyQ.slices_SortFunc_total sortR 2 Try.isAgg135 Try.sizeOf135 encW encW_len (fun x v hv => by simp [encW, enc2] at hv; rcases hv with rfl | rfl <;> rfl) cfW swoW 84 #[] g 0 cap L.toArray w
      (enters_of Try.func84 (by kernel_rfl) rfl) (laysW _ _ _ _) (holdsK_own h hl') (Array.getElem?_eq_some_iff.1 hg).1 (by simp; omega) totW
    rw [show L.toArray.size = n by simpa using hl'] at hcon
    refine Calls.mono (P := Try.prog) (f := 83) hcon ?_
    rintro e w' ⟨rfl, nn, os, rfl⟩
    refine ⟨rfl, (L.mergeSort fun x y => !ltOf cfW y x).map (·.1), ?_, ?_, ?_, grownBy_sortedK _⟩
    · have h1 := List.pairwise_mergeSort (le := fun x y => !ltOf cfW y x) (fun a b c h1 h2 => by
        simp only [Bool.not_eq_true'] at *
        exact swoW.ntrans _ _ _ h2 h1) (fun a b => by
        cases h1 : ltOf cfW b a
        · rfl
        · simp only [Bool.not_true, Bool.false_or, Bool.not_eq_true']
          rw [ltOf_cfW] at *
          rw [plt_iff] at h1; rw [plt_not]; omega) L
      refine List.pairwise_map.2 (h1.imp fun {a b} h => ?_)
      simp only [Bool.not_eq_true'] at h
      rwa [ltOf_cfW] at h
    · exact (List.mergeSort_perm L _).map _
    · rw [vp_flat]
      exact ownsRow_sortedK (by simp) h hl'

theorem infoZ : (Try.prog.info? 3).map (fun i => (i.zero, i.size, i.bytes)) = some (some (.int .i64 0), 1, 8) := by kernel_rfl
theorem oneZ (r : Int) : ∀ u ∈ enc1 r, u.oneCell' = true := by intro u hu; simp [enc1] at hu; subst hu; rfl
set_option maxHeartbeats 400000 in
theorem clone_c {l : List Int} {A : Option Addr} {n c : Nat} {w : World} (h : Rd enc1 1 w A n l) (hn : n ≤ 100000) :
    Calls Try.prog 67 #[.slice A n c] w fun e w' => ∃ v, e = .returned v ∧ w'.ownsRow w.heap.size 3 1 v n (l.flatMap enc1) ∧ Below w.heap.size w w' := by
  obtain ⟨i0, hi0, hz0, hz1, hz2⟩ := info_parts infoZ
  have HI := Lib.hid hi0; have HZ0 := Lib.hid hz0; have HZ1 := Lib.hid hz1; have HZ2 := Lib.hid hz2
  clear hi0 hz0 hz1 hz2
  have q : ∀ (w : World) (a : Option Addr) (n c n' c' : Nat), (binOp .eql 39 (.slice a n c) (.slice none n' c')).run Try.prog w = .ok (.bool a.isNone) w := fun w a n c n' c' => Lib.run_eql_slice_nil w _ _ a n c n' c' Try.underlying39
  rcases A with _ | ad
  · obtain ⟨rfl, rfl⟩ := h.none_zero
    go_enter Try.func67, Try.ntmps67
    go_wp2_with fail
    go_ret
    exact ⟨_, rfl, World.ownsRow_nil _ _ _ _, Below.refl _ _⟩
  · go_enter Try.func67, Try.ntmps67
    go_wp2_with (at_builtin; go_must (refine wpList_append_rd rfl _ _ 39 rfl w.heap.size 3 i0 (.int .i64 0) 1 8 Try.underlying39 HI.out HZ0.out HZ1.out HZ2.out rfl (by decide) _ _ _ rfl (own_empty w 3 1) enc1_len oneZ (some ad) n c l rfl (h.below ((Below.refl _ w).alloc (Nat.le_refl _) _)) (by unfold maxLen; omega) (by omega) (by simp) ?_; intro v1 w1 hown hgrow))
    have HB := Lib.hid (((Below.refl _ w).alloc (Nat.le_refl _) _).grown hgrow (by simp) (fun g hg => ((own_empty w 3 1).lt g hg).1))
    rw [Nat.zero_add, List.nil_append] at hown
    have HO := Lib.hid hown
    clear hown hgrow
    go_wp2_with fail
    go_ret
    exact ⟨_, rfl, HO.out, HB.out⟩
end Go.Proofs.Ytphdndiikikecaa
