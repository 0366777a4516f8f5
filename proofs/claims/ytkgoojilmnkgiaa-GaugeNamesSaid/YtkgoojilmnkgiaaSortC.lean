/- THE CONTRACTS of slices.Clone and slices.SortFunc at readings, over the shelf's structure, laid in plain words. -/
import Derived.Test.YtkgoojilmnkgiaaProg
import Derived.Shelf.SlSortCmp.NoneTotal
import Derived.Shelf.SlicesE.Clone
import Derived.Test.YtkgoojilmnkgiaaBefore
import Derived.Test.YtkgoojilmnkgiaaConvRead
import Derived.Test.YtkgoojilmnkgiaaAppRd
namespace Go.Proofs.Ytkgoojilmnkgiaa
section
open Go.Shelf Go.Proofs
def sortR_ren : Go.Shelf.Ren := ⟨fun | 6 => 72 | 15 => 97 | 14 => 96 | 28 => 121 | 29 => 122 | 20 => 113 | 21 => 114 | 22 => 115 | 23 => 116 | 24 => 117 | 25 => 118 | 26 => 119 | 27 => 120 | 46 => 127 | 47 => 128 | 48 => 129 | 49 => 130 | 50 => 131 | 57 => 132 | n => n, fun | 22 => 28 | 24 => 53 | 25 => 131 | 3 => 3 | 39 => 159 | 0 => 0 | 53 => 57 | 55 => 175 | 4 => 4 | 46 => 168 | 45 => 167 | 50 => 125 | 5 => 5 | 9 => 9 | 66 => 180 | 70 => 184 | 76 => 186 | 77 => 187 | n => n, fun | n => n⟩
theorem sortR : Go.Proofs.SlLaysF0.n6 Try.prog sortR_ren := {
  mixed := by kernel_rfl
  f6 := ⟨Try.f72.name, by decide, Try.func72.trans (congrArg some (by kernel_rfl))⟩
  f14 := ⟨Try.f96.name, by decide, Try.func96.trans (congrArg some (by kernel_rfl))⟩
  f15 := Try.func97.trans (congrArg some (by kernel_rfl))
  f20 := ⟨Try.f113.name, by decide, Try.func113.trans (congrArg some (by kernel_rfl))⟩
  f21 := ⟨Try.f114.name, by decide, Try.func114.trans (congrArg some (by kernel_rfl))⟩
  f22 := ⟨Try.f115.name, by decide, Try.func115.trans (congrArg some (by kernel_rfl))⟩
  f23 := ⟨Try.f116.name, by decide, Try.func116.trans (congrArg some (by kernel_rfl))⟩
  f24 := ⟨Try.f117.name, by decide, Try.func117.trans (congrArg some (by kernel_rfl))⟩
  f25 := ⟨Try.f118.name, by decide, Try.func118.trans (congrArg some (by kernel_rfl))⟩
  f26 := ⟨Try.f119.name, by decide, Try.func119.trans (congrArg some (by kernel_rfl))⟩
  f27 := ⟨Try.f120.name, by decide, Try.func120.trans (congrArg some (by kernel_rfl))⟩
  f28 := Try.func121.trans (congrArg some (by kernel_rfl))
  f29 := Try.func122.trans (congrArg some (by kernel_rfl))
  f46 := ⟨Try.f127.name, by decide, Try.func127.trans (congrArg some (by kernel_rfl))⟩
  f47 := Try.func128.trans (congrArg some (by kernel_rfl))
  f48 := Try.func129.trans (congrArg some (by kernel_rfl))
  f49 := ⟨Try.f130.name, by decide, Try.func130.trans (congrArg some (by kernel_rfl))⟩
  f50 := ⟨Try.f131.name, by decide, Try.func131.trans (congrArg some (by kernel_rfl))⟩
  f57 := ⟨Try.f132.name, by decide, Try.func132.trans (congrArg some (by kernel_rfl))⟩
  t0 := Try.underlying0
  a0 := Try.isAgg0
  z0 := Try.sizeOf0
  v0 := Try.zeroValue0
  t3 := Try.underlying3
  a3 := Try.isAgg3
  z3 := Try.sizeOf3
  v3 := Try.zeroValue3
  t4 := Try.underlying4
  a4 := Try.isAgg4
  z4 := Try.sizeOf4
  v4 := Try.zeroValue4
  t5 := Try.underlying5
  a5 := Try.isAgg5
  z5 := Try.sizeOf5
  v5 := Try.zeroValue5
  t9 := Try.underlying9
  a9 := Try.isAgg9
  z9 := Try.sizeOf9
  v9 := Try.zeroValue9
  t22 := Try.underlying28
  a22 := Try.isAgg28
  z22 := Try.sizeOf28
  v22 := Try.zeroValue28
  t25 := Try.underlying131
  a25 := Try.isAgg131
  z25 := Try.sizeOf131
  v25 := Try.zeroValue131
  t39 := Try.underlying159
  a39 := Try.isAgg159
  z39 := Try.sizeOf159
  v39 := Try.zeroValue159
  t45 := Try.underlying167
  a45 := Try.isAgg167
  z45 := Try.sizeOf167
  v45 := Try.zeroValue167
  t46 := Try.underlying168
  a46 := Try.isAgg168
  z46 := Try.sizeOf168
  v46 := Try.zeroValue168
  t50 := Try.underlying125
  a50 := Try.isAgg125
  z50 := Try.sizeOf125
  v50 := Try.zeroValue125
  t53 := Try.underlying57
  a53 := Try.isAgg57
  z53 := Try.sizeOf57
  v53 := Try.zeroValue57
  t55 := Try.underlying175
  a55 := Try.isAgg175
  z55 := Try.sizeOf175
  v55 := Try.zeroValue175
  t66 := Try.underlying180
  a66 := Try.isAgg180
  z66 := Try.sizeOf180
  v66 := Try.zeroValue180
  t70 := Try.underlying184
  a70 := Try.isAgg184
  z70 := Try.sizeOf184
  v70 := Try.zeroValue184
  t76 := Try.underlying186
  a76 := Try.isAgg186
  z76 := Try.sizeOf186
  v76 := Try.zeroValue186
  t77 := Try.underlying187
  a77 := Try.isAgg187
  z77 := Try.sizeOf187
  v77 := Try.zeroValue187 }

def cloneR_ren : Go.Shelf.Ren := ⟨fun | 41 => 71 | n => n, fun | 22 => 28 | 23 => 53 | 4 => 4 | n => n, fun | n => n⟩
theorem cloneR : Go.Proofs.SlLaysE0.n41 Try.prog cloneR_ren := {
  mixed := by kernel_rfl
  f41 := ⟨Try.f71.name, by decide, Try.func71.trans (congrArg some (by kernel_rfl))⟩
  t4 := Try.underlying4
  a4 := Try.isAgg4
  z4 := Try.sizeOf4
  v4 := Try.zeroValue4
  t22 := Try.underlying28
  a22 := Try.isAgg28
  z22 := Try.sizeOf28
  v22 := Try.zeroValue28 }

end
section
open Go.RowKit Go.Proofs Go.Shelf Go.Sort

/-- a valid reading -/
abbrev VR := { r : Rdg // validB r = true }
instance : Inhabited VR := ⟨⟨⟨0, 0, 0, 0⟩, by decide⟩⟩
def encV (x : VR) : List Value := encR x.1
theorem encV_len (x : VR) : (encV x).length = 4 := rfl
theorem vr_list : ∀ {l : List Rdg}, (∀ x ∈ l, validB x = true) → ∃ L : List VR, L.map (·.1) = l
  | [], _ => ⟨[], rfl⟩
  | x :: l, h => by
    obtain ⟨L, hL⟩ := vr_list (l := l) fun y hy => h y (by simp [hy])
    exact ⟨⟨x, h x (by simp)⟩ :: L, by simp [hL]⟩
theorem vr_flat (L : List VR) : (L.map (·.1)).flatMap encR = L.flatMap encV := by
  induction L with
  | nil => rfl
  | cons x L ih => simp only [List.map_cons, List.flatMap_cons, ih]; rfl
theorem flatK_list (L : List VR) : (flatK encV 4 L.toArray).toList = L.flatMap encV := by
  apply List.ext_getElem?
  intro t
  have hl : (L.flatMap encV).length = L.length * 4 := flatMap_len encV_len L
  by_cases ht : t < L.length * 4
  · have hi : t / 4 < L.length := by omega
    have hx : L[t / 4]? = some L[t / 4] := List.getElem?_eq_getElem hi
    have hj : t % 4 < (encV L[t / 4]).length := by rw [encV_len]; omega
    have h1 := flatMap_get encV_len L (t / 4) L[t / 4] (t % 4) _ hx (List.getElem?_eq_getElem hj)
    rw [show t / 4 * 4 + t % 4 = t by omega] at h1
    rw [h1, Array.getElem?_toList]
    simp [flatK, ht, hi, List.getElem!_eq_getElem?_getD, List.getElem?_eq_getElem hj]
  · rw [List.getElem?_eq_none (by simp; omega), List.getElem?_eq_none (by rw [hl]; omega)]
theorem holdsK_own {w : World} {base g cap n : Nat} {e : TypeId} {L : List VR} (h : w.ownsRow base e 4 (.slice (some ⟨g, 0, none⟩) n cap) n (L.flatMap encV)) (hl : L.length = n) : HoldsK encV 4 w g 0 L.toArray := by
  intro j hj
  refine ⟨?_, by rw [Nat.zero_add]; exact h.frozenAt j⟩
  rw [Nat.zero_add]
  have hj' : j < (flatK encV 4 L.toArray).toList.length := by simpa using hj
  have h1 : (L.flatMap encV)[j]? = some (flatK encV 4 L.toArray)[j]! := by
    rw [← flatK_list, Array.getElem?_toList]
    simp [Array.getElem!_eq_getD, Array.getD]
    rw [dif_pos (by simpa using hj)]
    exact Array.getElem?_eq_getElem hj
  have := h.cells (g := g) rfl j _ h1
  rwa [Addr.add_mid, Nat.zero_add] at this
theorem heap_sortedK {w : World} {g n : Nat} {os : Array Obj} {cur : Array Value} {e : TypeId} {fr : Nat × Nat} (d : Array VR) (hb : w.heap[g]? = some (.cells cur e fr)) :
    (sortWorldK encV 4 w g 0 n d os).heap[g]? = some (.cells (putCells id 0 (flatK encV 4 d) cur) e fr) := by
  have hg : g < w.heap.size := (Array.getElem?_eq_some_iff.1 hb).1
  unfold sortWorldK putRowK
  rw [heap_grow_old _ _ (by simpa using hg)]
  simp [putRow, mapBlock, Sort.ahead, Array.getElem?_modify, hb, onCells]
theorem grownBy_sortedK {w : World} {g n : Nat} {os : Array Obj} (d : Array VR) : w.grownBy (sortWorldK encV 4 w g 0 n d os) (some g) := by
  unfold sortWorldK putRowK
  refine ⟨rfl, rfl, rfl, by simp, fun k hk hne => ?_⟩
  rw [heap_grow_old _ _ (by simpa using hk)]
  have : g ≠ k := fun e => hne (by rw [e])
  simp [putRow, mapBlock, Sort.ahead, Array.getElem?_modify, this]
theorem take_putCellsK (cur : Array Value) (F : Array Value) (h : F.size ≤ cur.size) : (putCells id 0 F cur).toList.take F.size = F.toList := by
  apply List.ext_getElem?
  intro j
  by_cases hj : j < F.size
  · rw [List.getElem?_take_of_lt hj, Array.getElem?_toList]
    simp [putCells, hj, show j < cur.size by omega]
  · rw [List.getElem?_take_eq_none (by omega), List.getElem?_eq_none (by simp; omega)]
theorem ownsRow_sortedK {w : World} {base g cap n m : Nat} {e : TypeId} {os : Array Obj} {L L' : List VR} (hl : L'.length = L.length) (h : w.ownsRow base e 4 (.slice (some ⟨g, 0, none⟩) m cap) m (L.flatMap encV)) (hm : L.length = m) :
    (sortWorldK encV 4 w g 0 n L'.toArray os).ownsRow base e 4 (.slice (some ⟨g, 0, none⟩) m cap) m (L'.flatMap encV) := by
  rcases h.2 with ⟨h', _⟩ | ⟨g', cap', cur, h', hb, hg, hnc, hcm, hcs, htake⟩
  · simp at h'
  · simp only [Value.slice.injEq, Option.some.injEq, Addr.mk.injEq, and_true, true_and] at h'
    obtain ⟨rfl, rfl⟩ := h'
    have hF : (flatK encV 4 L'.toArray).size = m * 4 := by rw [size_flatK]; simp [hl, hm]
    refine ⟨by rw [flatMap_len encV_len, hl, hm], .inr ⟨g, cap, _, rfl, hb, heap_sortedK _ hg, hnc, hcm, by simp [putCells, hcs], ?_⟩⟩
    have := take_putCellsK cur (flatK encV 4 L'.toArray) (by rw [hF, hcs]; omega)
    rw [hF, flatK_list] at this
    exact this

def cfV (x y : VR) : Int := cfR x.1 y.1
theorem ltOf_cfV (x y : VR) : ltOf cfV x y = rlt x.1 y.1 := cfR_neg x.1 y.1
theorem swoV : SWO (ltOf cfV) where
  irrefl x := by rw [ltOf_cfV]; exact rlt_irrefl _
  trans x y z h1 h2 := by rw [ltOf_cfV] at *; exact rlt_trans h1 h2
  ntrans x y z h1 h2 := by rw [ltOf_cfV] at *; exact rlt_ntrans h1 h2
theorem totV (x y : VR) (h : ltOf cfV x y = false) (h' : ltOf cfV y x = false) : x = y := by
  rw [ltOf_cfV] at *; exact Subtype.ext (rlt_tri h h')
theorem laysV (blk off size : Nat) (w : World) : CmpLays Try.prog 73 #[] encV 4 cfV blk off size w :=
  fun _ _ _ _ x y => before_c x.2 y.2 _

theorem sortFunc_c {w : World} {base n : Nat} {v : Value} {l : List Rdg} (h : w.ownsRow base 53 4 v n (l.flatMap encR)) (hl : l.length = n) (hn : n ≤ 100000) (hv : ∀ x ∈ l, validB x = true) :
    Calls Try.prog 72 #[v, .func (.func 73) #[] #[]] w fun e w' => e = .returned (.tuple #[]) ∧ ∃ s, Ord s ∧ s.Perm l ∧ w'.ownsRow base 53 4 v n (s.flatMap encR) ∧ w.grownBy w' v.ownBlock := by
  rcases h.2 with ⟨rfl, rfl⟩ | ⟨g, cap, cur, rfl, _, hg, _⟩
  · obtain rfl := List.eq_nil_of_length_eq_zero hl
    have hcon := AnyF.slices_SortFunc_none sortR none 0 (.func (.func 73) #[] #[]) w
    refine Calls.mono (P := Try.prog) (f := 72) hcon ?_
    rintro e w' ⟨rfl, rfl⟩
    exact ⟨rfl, [], List.Pairwise.nil, List.Perm.refl _, h, World.grownBy.refl _ _⟩
  · obtain ⟨L, rfl⟩ := vr_list hv
    rw [vr_flat] at h
    have hl' : L.length = n := by simpa using hl
    have hcon := AnyQ.slices_SortFunc_total sortR 4 Try.isAgg53 Try.sizeOf53 encV encV_len (fun x v hv => by simp [encV, encR] at hv; rcases hv with rfl | rfl | rfl | rfl <;> rfl) cfV swoV 73 #[] g 0 cap L.toArray w
      (enters_of Try.func73 (by kernel_rfl) rfl) (laysV _ _ _ _) (holdsK_own h hl') (Array.getElem?_eq_some_iff.1 hg).1 (by simp; omega) totV
    rw [show L.toArray.size = n by simpa using hl'] at hcon
    refine Calls.mono (P := Try.prog) (f := 72) hcon ?_
    rintro e w' ⟨rfl, nn, os, rfl⟩
    refine ⟨rfl, (L.mergeSort fun x y => !ltOf cfV y x).map (·.1), ?_, ?_, ?_, grownBy_sortedK _⟩
    · have h1 := List.pairwise_mergeSort (le := fun x y => !ltOf cfV y x) (fun a b c h1 h2 => by
        simp only [Bool.not_eq_true'] at *
        exact swoV.ntrans _ _ _ h2 h1) (fun a b => by
        cases h1 : ltOf cfV b a
        · rfl
        · simp only [Bool.not_true, Bool.false_or, Bool.not_eq_true']
          rw [ltOf_cfV] at *
          exact rlt_asym h1) L
      refine List.pairwise_map.2 (h1.imp fun {a b} h => ?_)
      simp only [Bool.not_eq_true'] at h
      rwa [ltOf_cfV] at h
    · exact (List.mergeSort_perm L _).map _
    · rw [vr_flat]
      exact ownsRow_sortedK (by simp) h hl'

theorem oneR4 (r : Rdg) : ∀ u ∈ encR r, u.oneCell' = true := by intro u hu; simp [encR] at hu; rcases hu with rfl | rfl | rfl | rfl <;> rfl

set_option maxHeartbeats 400000 in
theorem clone_c {l : List Rdg} {A : Option Addr} {n c : Nat} {w : World} (h : Rd encR 4 w A n l) (hn : n ≤ 100000) :
    Calls Try.prog 71 #[.slice A n c] w fun e w' => ∃ v, e = .returned v ∧ w'.ownsRow w.heap.size 53 4 v n (l.flatMap encR) ∧ Below w.heap.size w w' := by
  obtain ⟨i0, hi0, hz0, hz1, hz2⟩ := info_parts infoRdg
  have HI := Lib.hid hi0; have HZ0 := Lib.hid hz0; have HZ1 := Lib.hid hz1; have HZ2 := Lib.hid hz2
  clear hi0 hz0 hz1 hz2
  have q : ∀ (w : World) (a : Option Addr) (n c n' c' : Nat), (binOp .eql 28 (.slice a n c) (.slice none n' c')).run Try.prog w = .ok (.bool a.isNone) w := fun w a n c n' c' => Lib.run_eql_slice_nil w _ _ a n c n' c' Try.underlying28
  rcases A with _ | ad
  · obtain ⟨rfl, rfl⟩ := h.none_zero
    go_enter Try.func71, Try.ntmps71
    go_wp2_with fail
    go_ret
    exact ⟨_, rfl, World.ownsRow_nil _ _ _ _, Below.refl _ _⟩
  · go_enter Try.func71, Try.ntmps71
    go_wp2_with (at_builtin; go_must (refine wpList_append_rd rfl _ _ 28 rfl w.heap.size 53 i0 (.agg #[.int .i64 0, .int .i64 0, .int .i64 0, .int .i64 0]) 4 32 Try.underlying28 HI.out HZ0.out HZ1.out HZ2.out rfl (by decide) _ _ _ rfl (own_empty w 53 4) encR_len oneR4 (some ad) n c l rfl (h.below ((Below.refl _ w).alloc (Nat.le_refl _) _)) (by unfold maxLen; omega) (by omega) (by simp) ?_; intro v1 w1 hown hgrow))
    have HB := Lib.hid (((Below.refl _ w).alloc (Nat.le_refl _) _).grown hgrow (by simp) (fun g hg => ((own_empty w 53 4).lt g hg).1))
    rw [Nat.zero_add, List.nil_append] at hown
    have HO := Lib.hid hown
    clear hown hgrow
    go_wp2_with fail
    go_ret
    exact ⟨_, rfl, HO.out, HB.out⟩
end
end Go.Proofs.Ytkgoojilmnkgiaa
