/- CONTRACTS: slices.Clone at ints; slices.SortFunc at choices by before. -/
import Derived.Test.YtpijmfbpdglchaaKTool
import Derived.Test.YtpijmfbpdglchaaKCmp
import Derived.Test.YtpijmfbpdglchaaKAppRd
import Derived.Deep.MidRow
set_option linter.unusedVariables false
set_option linter.unusedSimpArgs false
namespace Go.Proofs.Ytpijmfbpdglchaa
open Go.RowKit Go.Proofs Go.Shelf Go.Sort

section
variable {α : Type} [Inhabited α] {enc : α → List Value} (henc : ∀ x, (enc x).length = 2)
include henc
theorem flatK_list (L : List α) : (flatK enc 2 L.toArray).toList = L.flatMap enc := by
  apply List.ext_getElem?
  intro t
  have hl : (L.flatMap enc).length = L.length * 2 := flatMap_len henc L
  by_cases ht : t < L.length * 2
  · have hi : t / 2 < L.length := by omega
    have hx : L[t / 2]? = some L[t / 2] := List.getElem?_eq_getElem hi
    have hj : t % 2 < (enc L[t / 2]).length := by rw [henc]; omega
    have h1 := flatMap_get henc L (t / 2) L[t / 2] (t % 2) _ hx (List.getElem?_eq_getElem hj)
    rw [show t / 2 * 2 + t % 2 = t by omega] at h1
    rw [h1, Array.getElem?_toList]
    simp [flatK, ht, hi, List.getElem!_eq_getElem?_getD, List.getElem?_eq_getElem hj]
  · rw [List.getElem?_eq_none (by simp; omega), List.getElem?_eq_none (by rw [hl]; omega)]
theorem holdsK_own {w : World} {base g cap n : Nat} {e : TypeId} {L : List α} (h : w.ownsRow base e 2 (.slice (some ⟨g, 0, none⟩) n cap) n (L.flatMap enc)) (hl : L.length = n) : HoldsK enc 2 w g 0 L.toArray := by
  intro j hj
  refine ⟨?_, by rw [Nat.zero_add]; exact h.frozenAt j⟩
  rw [Nat.zero_add]
  have hj' : j < (flatK enc 2 L.toArray).toList.length := by simpa using hj
  have h1 : (L.flatMap enc)[j]? = some (flatK enc 2 L.toArray)[j]! := by
    rw [← flatK_list henc, Array.getElem?_toList]
    simp [Array.getElem!_eq_getD, Array.getD]
    rw [dif_pos (by simpa using hj)]
    exact Array.getElem?_eq_getElem hj
  have := h.cells (g := g) rfl j _ h1
  rwa [Addr.add_mid, Nat.zero_add] at this
omit henc in
theorem heap_sortedK {w : World} {g n : Nat} {os : Array Obj} {cur : Array Value} {e : TypeId} {fr : Nat × Nat} (d : Array α) (hb : w.heap[g]? = some (.cells cur e fr)) :
    (sortWorldK enc 2 w g 0 n d os).heap[g]? = some (.cells (putCells id 0 (flatK enc 2 d) cur) e fr) := by
  have hg : g < w.heap.size := (Array.getElem?_eq_some_iff.1 hb).1
  unfold sortWorldK putRowK
  rw [heap_grow_old _ _ (by simpa using hg)]
  simp [putRow, mapBlock, Sort.ahead, Array.getElem?_modify, hb, onCells]
omit henc in
theorem grownBy_sortedK {w : World} {g n : Nat} {os : Array Obj} (d : Array α) : w.grownBy (sortWorldK enc 2 w g 0 n d os) (some g) := by
  unfold sortWorldK putRowK
  refine ⟨rfl, rfl, rfl, by simp, fun k hk hne => ?_⟩
  rw [heap_grow_old _ _ (by simpa using hk)]
  have : g ≠ k := fun e => hne (by rw [e])
  simp [putRow, mapBlock, Sort.ahead, Array.getElem?_modify, this]
omit henc in
theorem take_putCellsK (cur : Array Value) (F : Array Value) (h : F.size ≤ cur.size) : (putCells id 0 F cur).toList.take F.size = F.toList := by
  apply List.ext_getElem?
  intro j
  by_cases hj : j < F.size
  · rw [List.getElem?_take_of_lt hj, Array.getElem?_toList]
    simp [putCells, hj, show j < cur.size by omega]
  · rw [List.getElem?_take_eq_none (by omega), List.getElem?_eq_none (by simp; omega)]
theorem ownsRow_sortedK {w : World} {base g cap n m : Nat} {e : TypeId} {os : Array Obj} {L L' : List α} (hl : L'.length = L.length) (h : w.ownsRow base e 2 (.slice (some ⟨g, 0, none⟩) m cap) m (L.flatMap enc)) (hm : L.length = m) :
    (sortWorldK enc 2 w g 0 n L'.toArray os).ownsRow base e 2 (.slice (some ⟨g, 0, none⟩) m cap) m (L'.flatMap enc) := by
  rcases h.2 with ⟨h', _⟩ | ⟨g', cap', cur, h', hb, hg, hnc, hcm, hcs, htake⟩
  · simp at h'
  · simp only [Value.slice.injEq, Option.some.injEq, Addr.mk.injEq, and_true, true_and] at h'
    obtain ⟨rfl, rfl⟩ := h'
    have hF : (flatK enc 2 L'.toArray).size = m * 2 := by rw [size_flatK]; simp [hl, hm]
    refine ⟨by rw [flatMap_len henc, hl, hm], .inr ⟨g, cap, _, rfl, hb, heap_sortedK _ hg, hnc, hcm, by simp [putCells, hcs], ?_⟩⟩
    have := take_putCellsK cur (flatK enc 2 L'.toArray) (by rw [hF, hcs]; omega)
    rw [hF, flatK_list henc] at this
    exact this
end

/-- one of a list of choices -/
abbrev VC (L : List Chc) := { x : Chc // x ∈ L }
def encV {L : List Chc} (x : VC L) : List Value := encC x.1
theorem encV_len {L : List Chc} (x : VC L) : (encV x).length = 2 := rfl
theorem vc_attach (L : List Chc) : L.attach.map (·.1) = L := List.attach_map_subtype_val L
theorem vc_flat {L : List Chc} (s : List (VC L)) : (s.map (·.1)).flatMap encC = s.flatMap encV := by
  induction s with
  | nil => rfl
  | cons x s ih => simp only [List.map_cons, List.flatMap_cons, ih]; rfl
def cfV {L : List Chc} (x y : VC L) : Int := cmpC x.1.p y.1.p x.1.l y.1.l
section
variable {ws : List Wrk} {L : List Chc} (hp : ∀ x ∈ L, x.p = priceC ws x.l)
include hp
theorem ltOf_cfV (x y : VC L) : ltOf cfV x y = ltC ws x.1.l y.1.l := by
  unfold ltOf cfV ltC
  rw [hp _ x.2, hp _ y.2]
theorem swoV : SWO (ltOf (cfV (L := L))) where
  irrefl x := by rw [ltOf_cfV hp]; exact ltC_irrefl _ _
  trans x y z h1 h2 := by rw [ltOf_cfV hp] at *; exact ltC_trans h1 h2
  ntrans x y z h1 h2 := by rw [ltOf_cfV hp] at *; exact ltC_ntrans h2 h1
theorem totV (hnd : ∀ x ∈ L, ∀ y ∈ L, x.l = y.l → x = y) (x y : VC L) (h : ltOf cfV x y = false) (h' : ltOf cfV y x = false) : x = y := by
  rw [ltOf_cfV hp] at *
  exact Subtype.ext (hnd _ x.2 _ y.2 (ltC_total h h'))
end
theorem Rd.grown {α : Type} {enc : α → List Value} {k : Nat} {w w' : World} {A : Option Addr} {n : Nat} {l : List α} {g : Nat} (h : Rd enc k w A n l) (hg : w.grownBy w' (some g)) (hA : ∀ a, A = some a → a.block ≠ g) : Rd enc k w' A n l :=
  (Fr.of_grown (E := fun b => b = g) hg (fun b hb _ => (by injection hb with hb; exact hb.symm))).rd h (fun a ha he => hA a ha he)

set_option maxRecDepth 100000 in
set_option maxHeartbeats 1000000 in
theorem sortC_c {ws : List Wrk} {w : World} {base n : Nat} {v : Value} {L : List Chc} (h : w.ownsRow base 124 2 v n (L.flatMap encC)) (hl : L.length = n) (hn : n ≤ 100000) (hne : L ≠ [])
    (hL : ∀ x ∈ L, Rd enc1 1 w x.A x.n x.l ∧ x.n ≤ 1000000 ∧ ∀ a, x.A = some a → v.ownBlock ≠ some a.block) (hp : ∀ x ∈ L, x.p = priceC ws x.l) (hnd : ∀ x ∈ L, ∀ y ∈ L, x.l = y.l → x = y) :
    Calls Try.prog 89 #[v, .func (.func 90) #[] #[]] w fun e w' => e = .returned (.tuple #[]) ∧
      ∃ s, List.Pairwise (fun a b : Chc => ltC ws b.l a.l = false) s ∧ s.Perm L ∧ w'.ownsRow base 124 2 v n (s.flatMap encC) ∧ w.grownBy w' v.ownBlock := by
  obtain ⟨x0, hx0⟩ := List.exists_mem_of_ne_nil L hne
  haveI : Inhabited (VC L) := ⟨⟨x0, hx0⟩⟩
  rcases h.2 with ⟨rfl, rfl⟩ | ⟨g, cap, cur, rfl, _, hg, _⟩
  · exact absurd (List.eq_nil_of_length_eq_zero hl) hne
  · have hfl : L.flatMap encC = L.attach.flatMap encV := by rw [← vc_flat, vc_attach]
    rw [hfl] at h
    have hl' : L.attach.length = n := by simpa using hl
    have hlays : CmpLays Try.prog 90 #[] (encV (L := L)) 2 cfV g 0 L.attach.toArray.size w := fun m os dk _ x y => by
      have hx := hL _ x.2; have hy := hL _ y.2
      exact before_c (x := x.1) (y := y.1) (hx.1.grown (grownBy_sortedK _) (fun a ha he => hx.2.2 a ha (by rw [he]; rfl))) (hy.1.grown (grownBy_sortedK _) (fun a ha he => hy.2.2 a ha (by rw [he]; rfl))) hx.2.1 hy.2.1
    have hcon := AnyQ.slices_SortFunc_total sortR 2 Try.isAgg124 Try.sizeOf124 (encV (L := L)) encV_len (fun x v hv => by simp [encV, encC] at hv; rcases hv with rfl | rfl <;> rfl) cfV (swoV hp) 90 #[] g 0 cap L.attach.toArray w
      (enters_of Try.func90 (by kernel_rfl) rfl) hlays (holdsK_own encV_len h hl') (Array.getElem?_eq_some_iff.1 hg).1 (by simp; omega) (totV hp hnd)
    rw [show L.attach.toArray.size = n by simpa using hl'] at hcon
    refine Calls.mono (P := Try.prog) (f := 89) hcon ?_
    rintro e w' ⟨rfl, nn, os, rfl⟩
    refine ⟨rfl, (L.attach.mergeSort fun x y => !ltOf cfV y x).map (·.1), ?_, ?_, ?_, grownBy_sortedK _⟩
    · have h1 := List.pairwise_mergeSort (le := fun x y : VC L => !ltOf cfV y x) (fun a b c h1 h2 => by
        simp only [Bool.not_eq_true'] at *
        exact (swoV hp).ntrans _ _ _ h2 h1) (fun a b => by
        cases h1 : ltOf cfV b a
        · rfl
        · simp only [Bool.not_true, Bool.false_or, Bool.not_eq_true']
          cases h2 : ltOf cfV a b
          · rfl
          · have := (swoV hp).trans _ _ _ h1 h2
            rw [(swoV hp).irrefl] at this; cases this) L.attach
      refine List.pairwise_map.2 (h1.imp fun {a b} h => ?_)
      simp only [Bool.not_eq_true'] at h
      rwa [ltOf_cfV hp] at h
    · have := (List.mergeSort_perm L.attach fun x y : VC L => !ltOf cfV y x).map (·.1)
      rwa [vc_attach] at this
    · rw [vc_flat]
      exact ownsRow_sortedK encV_len (by simp) h hl'

theorem infoZ : (Try.prog.info? 3).map (fun i => (i.zero, i.size, i.bytes)) = some (some (.int .i64 0), 1, 8) := by kernel_rfl
theorem oneZ (r : Int) : ∀ u ∈ enc1 r, u.oneCell' = true := by intro u hu; simp [enc1] at hu; subst hu; rfl
set_option maxHeartbeats 400000 in
theorem clone_c {l : List Int} {A : Option Addr} {n c : Nat} {w : World} (h : Rd enc1 1 w A n l) (hn : n ≤ 100000) :
    Calls Try.prog 88 #[.slice A n c] w fun e w' => ∃ v, e = .returned v ∧ w'.ownsRow w.heap.size 3 1 v n (l.flatMap enc1) ∧ Below w.heap.size w w' := by
  obtain ⟨i0, hi0, hz0, hz1, hz2⟩ := info_parts infoZ
  have HI := Lib.hid hi0; have HZ0 := Lib.hid hz0; have HZ1 := Lib.hid hz1; have HZ2 := Lib.hid hz2
  clear hi0 hz0 hz1 hz2
  have q : ∀ (w : World) (a : Option Addr) (n c n' c' : Nat), (binOp .eql 22 (.slice a n c) (.slice none n' c')).run Try.prog w = .ok (.bool a.isNone) w := fun w a n c n' c' => Lib.run_eql_slice_nil w _ _ a n c n' c' Try.underlying22
  rcases A with _ | ad
  · obtain ⟨rfl, rfl⟩ := h.none_zero
    go_enter Try.func88, Try.ntmps88
    go_wp2_with fail
    go_ret
    exact ⟨_, rfl, World.ownsRow_nil _ _ _ _, Below.refl _ _⟩
  · go_enter Try.func88, Try.ntmps88
    go_wp2_with (at_builtin; go_must (refine wpList_append_rd rfl _ _ 22 rfl w.heap.size 3 i0 (.int .i64 0) 1 8 Try.underlying22 HI.out HZ0.out HZ1.out HZ2.out rfl (by decide) _ _ _ rfl (own_empty w 3 1) enc1_len oneZ (some ad) n c l rfl (h.below ((Below.refl _ w).alloc (Nat.le_refl _) _)) (by unfold maxLen; omega) (by omega) (by simp) ?_; intro v1 w1 hown hgrow))
    have HB := Lib.hid (((Below.refl _ w).alloc (Nat.le_refl _) _).grown hgrow (by simp) (fun g hg => ((own_empty w 3 1).lt g hg).1))
    rw [Nat.zero_add, List.nil_append] at hown
    have HO := Lib.hid hown
    clear hown hgrow
    go_wp2_with fail
    go_ret
    exact ⟨_, rfl, HO.out, HB.out⟩
end Go.Proofs.Ytpijmfbpdglchaa
