/- THE CONTRACT of slices.Compact at readings, and the plain laws of what it strikes. -/
import Derived.Test.YtjpobkmlcjbpiaaGreatRSort
import Derived.Test.YtjpobkmlcjbpiaaGreatSortC
import Derived.Lib.SliceRun
set_option linter.unusedVariables false
set_option linter.unusedSimpArgs false
namespace Go.Proofs.YtjpobkmlcjbpiaaGreat.Ga
section

/-- the first readings, each that is the one ahead of it struck -/
def ddTo (l : List Rdg) : Nat → List Rdg
  | 0 => []
  | j + 1 => ddTo l j ++ (match l[j]? with
    | some x => if 0 < j ∧ l[j - 1]? = some x then [] else [x]
    | none => [])
def dd (l : List Rdg) : List Rdg := ddTo l l.length
theorem ddTo_skip {l : List Rdg} {j : Nat} {x : Rdg} (hx : l[j + 1]? = some x) (hy : l[j]? = some x) : ddTo l (j + 1 + 1) = ddTo l (j + 1) := by
  rw [ddTo, hx]
  simp only [Nat.add_sub_cancel]
  rw [if_pos ⟨by omega, hy⟩, List.append_nil]
theorem ddTo_keep {l : List Rdg} {j : Nat} {x y : Rdg} (hx : l[j + 1]? = some x) (hy : l[j]? = some y) (h : x ≠ y) : ddTo l (j + 1 + 1) = ddTo l (j + 1) ++ [x] := by
  rw [ddTo, hx]
  simp only [Nat.add_sub_cancel]
  rw [if_neg]
  rintro ⟨_, h2⟩
  rw [hy] at h2; cases h2; exact h rfl
theorem ddTo_one {l : List Rdg} {x : Rdg} (hx : l[0]? = some x) : ddTo l 1 = [x] := by
  simp [ddTo, hx]
theorem ddTo_take {l : List Rdg} : ∀ {k : Nat}, k ≤ l.length → (∀ (j : Nat) (x y : Rdg), j + 1 < k → l[j + 1]? = some x → l[j]? = some y → x ≠ y) → ddTo l k = l.take k
  | 0, _, _ => by simp [ddTo]
  | 1, h, _ => by
    rw [ddTo_one (List.getElem?_eq_getElem (show 0 < l.length by omega)), List.take_add_one, List.getElem?_eq_getElem (show 0 < l.length by omega)]
    rfl
  | k + 1 + 1, h, hne => by
    have hx := List.getElem?_eq_getElem (show k + 1 < l.length by omega)
    have hy := List.getElem?_eq_getElem (show k < l.length by omega)
    rw [ddTo_keep hx hy (hne k _ _ (by omega) hx hy), ddTo_take (by omega) (fun j x y hj => hne j x y (by omega)), List.take_add_one (i := k + 1), hx]
    rfl
theorem ddTo_len (l : List Rdg) : ∀ k, (ddTo l k).length ≤ k
  | 0 => by simp [ddTo]
  | k + 1 => by
    rw [ddTo, List.length_append]
    have := ddTo_len l k
    cases l[k]? with
    | none => simp; omega
    | some x =>
      simp only
      split <;> simp <;> omega
/-- Of readings in order: strictly in order, the same ones, the last one the last. -/
theorem ddTo_ord {l : List Rdg} (h : Ord l) : ∀ (k : Nat) (z : Rdg), l[k]? = some z → Sord (ddTo l (k + 1)) ∧ (∀ x, x ∈ ddTo l (k + 1) ↔ x ∈ l.take (k + 1)) ∧ ∀ x ∈ ddTo l (k + 1), x = z ∨ rlt x z = true
  | 0, z, hz => by
    rw [ddTo_one hz, List.take_add_one, hz]
    refine ⟨by simp [Sord], fun x => by simp, fun x hx => .inl (by simpa using hx)⟩
  | k + 1, z, hz => by
    obtain ⟨y, hy⟩ : ∃ y, l[k]? = some y := ⟨_, List.getElem?_eq_getElem (show k < l.length by have := (List.getElem?_eq_some_iff.1 hz).1; omega)⟩
    obtain ⟨h1, h2, h3⟩ := ddTo_ord h k y hy
    have ho := ord_at h (show k < k + 1 by omega) hy hz
    by_cases e : z = y
    · subst e
      rw [ddTo_skip hz hy]
      refine ⟨h1, fun x => ?_, h3⟩
      rw [h2, List.take_add_one (i := k + 1), hz]
      have : z ∈ l.take (k + 1) := by rw [List.take_add_one, hy]; simp
      constructor
      · intro hx; simp [hx]
      · intro hx
        rcases List.mem_append.1 hx with hx | hx
        · exact hx
        · simp at hx; subst hx; exact this
    · rw [ddTo_keep hz hy e]
      have hyz : rlt y z = true := by
        cases hr : rlt y z
        · exact absurd (rlt_tri ho hr) e
        · rfl
      have hall : ∀ x ∈ ddTo l (k + 1), rlt x z = true := fun x hx => by
        rcases h3 x hx with rfl | hx
        · exact hyz
        · exact rlt_trans hx hyz
      refine ⟨?_, fun x => ?_, fun x hx => ?_⟩
      · refine List.pairwise_append.2 ⟨h1, by simp, fun a ha b hb => ?_⟩
        simp at hb; subst hb
        exact hall a ha
      · rw [List.mem_append, h2, List.take_add_one (i := k + 1), hz]; simp
      · rcases List.mem_append.1 hx with hx | hx
        · exact .inr (hall x hx)
        · exact .inl (by simpa using hx)
theorem dd_ok {l : List Rdg} (h : Ord l) : Sord (dd l) ∧ ∀ x, x ∈ dd l ↔ x ∈ l := by
  unfold dd
  cases hl : l.length with
  | zero =>
    obtain rfl := List.eq_nil_of_length_eq_zero hl
    exact ⟨List.Pairwise.nil, fun x => by simp [ddTo]⟩
  | succ k =>
    obtain ⟨h1, h2, _⟩ := ddTo_ord h k l[k] (List.getElem?_eq_getElem (by omega))
    refine ⟨h1, fun x => ?_⟩
    rw [h2, List.take_of_length_le (by omega)]
theorem Sord.uniq {s s' : List Rdg} (h : Sord s) (h' : Sord s') (hm : ∀ x, x ∈ s ↔ x ∈ s') : s = s' :=
  Ord.uniq h.ord h'.ord ((List.perm_ext_iff_of_nodup h.nodup h'.nodup).2 hm)
/-- What is sorted and struck is the reference's order. -/
theorem dd_sortedR {l s : List Rdg} (ho : Ord s) (hp : s.Perm l) : dd s = sortedR l := by
  obtain ⟨h1, h2⟩ := dd_ok ho
  obtain ⟨h3, h4⟩ := sortedR_ok l
  exact h1.uniq h3 fun x => by rw [h2, h4]; exact hp.mem_iff
theorem take_set_next {α : Type} {R : List α} {k : Nat} {x : α} (h : k < R.length) : (R.set k x).take (k + 1) = R.take k ++ [x] := by
  rw [List.take_succ_eq_append_getElem (by simpa using h)]
  simp [List.take_set_of_le]
end
section
open Go.RowKit Go.Proofs

theorem setCells_before (vs : List Value) : ∀ (g o : Nat) (W : World) (i : Nat), i < o → (W.setCells g o vs).cell? ⟨g, i, none⟩ = W.cell? ⟨g, i, none⟩ := by
  induction vs with
  | nil => intro g o W i _; rfl
  | cons v vs ih =>
    intro g o W i hi
    rw [World.setCells, ih g (o + 1) _ i (by omega), World.cell?_setCell_other _ _ _ _ (fun e => by injection e with _ e; omega)]
theorem setCells_grown (vs : List Value) : ∀ (g o : Nat) (W : World), W.grownBy (W.setCells g o vs) (some g) := by
  induction vs with
  | nil => intro g o W; exact World.grownBy.refl _ _
  | cons v vs ih =>
    intro g o W
    exact only_trans (only_setCell (World.grownBy.refl _ _) (p := ⟨g, o, none⟩) (.inl rfl) v) (ih g (o + 1) _)
theorem run_clear4 (W : World) (ty : TypeId) (g o n c : Nat) (hn : 0 < n) (hc : ∀ j, j < n * 4 → (W.cell? ⟨g, o + j, none⟩).isSome = true) (hf : ∀ j, j < n * 4 → W.frozen? ⟨g, o + j, none⟩ = false) :
    (Builtin.clear_ #[52] ty #[.slice (some ⟨g, o, none⟩) n c]).run Tryz.prog W = .ok (.tuple #[]) (W.setCells g o (Builtin.zeroCells (Value.cells (.agg #[.int .i64 0, .int .i64 0, .int .i64 0, .int .i64 0])) n).toList) := by
  have hl : (Builtin.zeroCells (Value.cells (.agg #[.int .i64 0, .int .i64 0, .int .i64 0, .int .i64 0])) n).toList.length = n * 4 := by simp [Builtin.zeroCells, Value.cells]
  have hst := run_storeCells_cells (P := Tryz.prog) g o (Builtin.zeroCells (Value.cells (.agg #[.int .i64 0, .int .i64 0, .int .i64 0, .int .i64 0])) n).toList 0 W (by rw [hl]; simpa using hc) (by rw [hl]; simpa using hf) (by
    intro v hv
    simp [Builtin.zeroCells, Value.cells] at hv
    obtain ⟨i, _, rfl⟩ := hv
    rcases (show i % 4 = 0 ∨ i % 4 = 1 ∨ i % 4 = 2 ∨ i % 4 = 3 by omega) with h | h | h | h <;> rw [h] <;> rfl)
  simp only [Nat.add_zero] at hst
  obtain ⟨m, rfl⟩ : ∃ m, n = m + 1 := ⟨n - 1, by omega⟩
  simp [Builtin.clear_, run_underlying Tryz.underlying52, Tryz.zeroValue55, hst]
/-- s[k:] and s[:k] of a row -/
theorem cut_from_at {g n c k : Nat} (W : World) (hk : 0 < k) (hkn : k ≤ n) (hkc : k < c) :
    (Instr.slice 52 (.slice (some ⟨g, 0, none⟩) n c) (some (.int .i64 (k : Int))) none none).run Tryz.prog W = .ok (.slice (some ⟨g, k * 4, none⟩) (n - k) (c - k)) W := by
  have h0 : ¬ c = k := by omega
  have h1 : ¬ k * 4 = 0 := by omega
  simp [Instr.slice, run_underlying Tryz.underlying52, run_sliceBounds_from W hkn, Tryz.sizeOf55, h0, Addr.add, h1]
theorem run_sliceBounds_to {P : Program} {len cap hi : Nat} (W : World) (h2 : hi ≤ cap) :
    (Instr.sliceBounds true len cap none (some (.int .i64 (hi : Int))) none).run P W = .ok (0, hi, cap) W := by
  simp [Instr.sliceBounds, Instr.sliceBound, asIntOf, h2]
theorem cut_to_at {g n c k : Nat} (W : World) (hkc : k ≤ c) (hc : 0 < c) :
    (Instr.slice 52 (.slice (some ⟨g, 0, none⟩) n c) none (some (.int .i64 (k : Int))) none).run Tryz.prog W = .ok (.slice (some ⟨g, 0, none⟩) k c) W := by
  have h0 : ¬ c = 0 := by omega
  simp [Instr.slice, run_underlying Tryz.underlying52, run_sliceBounds_to W hkc, Tryz.sizeOf55, h0, Addr.add]

set_option maxRecDepth 100000 in
set_option maxHeartbeats 4000000 in
theorem compact_c {w : World} {base n : Nat} {v : Value} {l : List Rdg} (h : w.ownsRow base 55 4 v n (l.flatMap encR)) (hl : l.length = n) (hn : n ≤ 100000) :
    Calls Tryz.prog 35 #[v] w fun e w' => ∃ A' n' c', e = .returned (.slice A' n' c') ∧ n' ≤ c' ∧ n' ≤ n ∧ Rd encR 4 w' A' n' (dd l) ∧ w.grownBy w' v.ownBlock := by
  have HL := Lib.hid hl
  have HO := Lib.hid h
  by_cases h2 : n < 2
  · obtain ⟨A, c, rfl, hc⟩ := own_form h
    have h2' : (n : Int) < 2 := by omega
    have HDD : Hid (dd l = l) := by
      show _ = _
      unfold dd
      rw [ddTo_take (Nat.le_refl _) (fun j x y hj => absurd hj (by rw [hl]; omega)), List.take_length]
    clear h
    go_enter Tryz.func35, Tryz.ntmps35
    go_wp2_with fail
    go_ret
    exact ⟨A, n, c, rfl, hc, Nat.le_refl _, by rw [HDD.out]; exact Rd.of_own encR_len HO.out HL.out, World.grownBy.refl _ _⟩
  · obtain ⟨g, c, hv, hbase, hlt⟩ := h.form (by omega)
    subst hv
    have hcn : n ≤ c := by
      obtain ⟨A', c', hv, hc'⟩ := own_form h
      cases hv; exact hc'
    have hcm : c ≤ maxLen := by
      rcases h.2 with ⟨h', _⟩ | ⟨g', cap', cur, h', _, _, _, hcm, _⟩
      · simp at h'
      · cases h'; exact hcm
    have h2' : ¬ (n : Int) < 2 := by omega
    clear h
    go_enter Tryz.func35, Tryz.ntmps35
    go_wp2_with fail
    go_loopw [3] (fun i wr => ∃ p : Nat, p + 1 ≤ n ∧ i = .int .i64 ((p : Int) + 1) ∧ (∀ (j : Nat) (x y : Rdg), j + 1 < p + 1 → l[j + 1]? = some x → l[j]? = some y → x ≠ y) ∧ Below w.heap.size w wr) (fun i _ => n - (intOf i).toNat)
    case atStart => exact ⟨0, by omega, rfl, fun j x y hj => absurd hj (by omega), Below.refl _ _⟩
    case round =>
      obtain ⟨p, hp, rfl, hne, hb⟩ := hrel
      have HB := Lib.hid hb; have HNE := Lib.hid hne
      clear hne hb
      have hsz := HB.out.size
      have HOr := Lib.hid (own_mono HO.out HB.out)
      have ht : ((p : Int) + 1).toNat = p + 1 := by omega
      have hi0 : (0 : Int) ≤ (p : Int) + 1 := by omega
      have hi2 : (0 : Int) ≤ (p : Int) := by omega
      have hw1 : IntKind.i64.wrap ((p : Int) + 1 - 1) = (p : Int) := by rw [wi (by omega)]; omega
      have hw2 : IntKind.i64.wrap (p : Int) = (p : Int) := wi (by omega)
      by_cases hlt1 : p + 1 < n
      · have hrd := Rd.of_own encR_len HOr.out HL.out
        obtain ⟨b1, o1, x, hA, _, hx, hcx⟩ := rd4 hrd (i := p + 1) hlt1
        cases hA
        obtain ⟨b2, o2, y, hA, _, hy, hcy⟩ := rd4 hrd (i := p) (by omega)
        cases hA
        simp only [Nat.zero_add] at hcx hcy
        obtain ⟨x0, x1, x2, x3⟩ := hcx _ (Below.refl _ _)
        obtain ⟨y0, y1, y2, y3⟩ := hcy _ (Below.refl _ _)
        have hi1 : (p : Int) + 1 < (n : Int) := by omega
        have hi3 : (p : Int) < (n : Int) := by omega
        have heq := fun W => run_eql_rdg x y W
        have HX := Lib.hid hx; have HY := Lib.hid hy
        clear hx hy hcx hcy hrd
        by_cases hxy : x = y
        · rw [decide_eq_true hxy] at heq
          have HXY := Lib.hid hxy
          have hq1 := fun W => cut_from_at (g := g) (n := n) (c := c) (k := p + 1) W (by omega) (by omega) (by omega)
          simp only [Int.natCast_add, Int.natCast_one] at hq1
          obtain ⟨d, hd⟩ : ∃ d, n - (p + 1) = d := ⟨_, rfl⟩
          have hnd : n = p + 1 + d := by omega
          have hd0 : 0 < d := by omega
          rw [hd] at hq1
          have HD := Lib.hid hnd
          clear hxy hd hnd
          go_wp2_with fail
          go_quiet (fail)
          go_wp2
          go_loopw [3, 5] (fun a b w2 => ∃ (k r : Nat) (R : List Rdg), r + 1 ≤ d ∧ a = .int .i64 k ∧ b = .int .i64 ((r : Int) + 1) ∧ p + 1 ≤ k ∧ k ≤ p + 1 + r ∧ w2.ownsRow base 55 4 (.slice (some ⟨g, 0, none⟩) n c) n (R.flatMap encR) ∧ R.length = n ∧
              (∀ j, p + 1 + r ≤ j → R[j]? = l[j]?) ∧ R.take k = ddTo l (p + 1 + r + 1) ∧ w.grownBy w2 (some g)) (fun _ b _ => d - (intOf b).toNat)
          case atStart => exact ⟨p + 1, 0, l, hd0, rfl, rfl, Nat.le_refl _, Nat.le_refl _, own_mono HOr.out (below_drewN (Below.refl _ _) _), HL.out, fun _ _ => rfl, by
            rw [Nat.add_zero, ddTo_skip HX.out (by rw [HY.out, HXY.out]), ddTo_take (by rw [HL.out]; omega) HNE.out], only_of_below (below_drewN HB.out _) _⟩
          case round =>
            obtain ⟨k, r, R, hr, rfl, rfl, hk1, hk2, hown, hRl, hRe, hRt, hgrow⟩ := hrel
            have HO2 := Lib.hid hown; have HRL := Lib.hid hRl; have HRE := Lib.hid hRe; have HRT := Lib.hid hRt; have HGR := Lib.hid hgrow
            have hnd := HD.out
            have hkn : k < n := by omega
            have hrd := Rd.of_own encR_len hown hRl
            clear hown hRl hRe hRt hgrow
            have ht2 : ((r : Int) + 1).toNat = r + 1 := by omega
            have hj0 : (0 : Int) ≤ (r : Int) + 1 := by omega
            have hj2 : (0 : Int) ≤ (r : Int) := by omega
            have hv1 : IntKind.i64.wrap ((r : Int) + 1 - 1) = (r : Int) := by rw [wi (by omega)]; omega
            have hv2 : IntKind.i64.wrap (r : Int) = (r : Int) := wi (by omega)
            have hk0 : (0 : Int) ≤ (k : Int) := by omega
            have hkn' : (k : Int) < (n : Int) := by omega
            by_cases hlt2 : r + 1 < d
            · obtain ⟨b3, o3, u, hA, _, hu, hcu⟩ := rd4 hrd (i := p + 1 + (r + 1)) (by omega)
              cases hA
              obtain ⟨b4, o4, v, hA, _, hv, hcv⟩ := rd4 hrd (i := p + 1 + r) (by omega)
              cases hA
              obtain ⟨b5, o5, z, hA, hbl, hz, hcz⟩ := rd4 hrd (i := k) hkn
              cases hA
              simp only [Nat.zero_add, Nat.add_mul (p + 1) (r + 1) 4, Nat.add_mul (p + 1) r 4] at hcu hcv hcz
              have hu' : l[p + 1 + r + 1]? = some u := by rw [← HRE.out (p + 1 + r + 1) (by omega)]; exact hu
              have hv' : l[p + 1 + r]? = some v := by rw [← HRE.out (p + 1 + r) (by omega)]; exact hv
              have HU := Lib.hid hu'; have HV := Lib.hid hv'
              have HCU := Lib.hid hcu; have HCV := Lib.hid hcv; have HCZ := Lib.hid hcz
              obtain ⟨u0, u1, u2, u3⟩ := hcu _ (Below.refl _ _)
              obtain ⟨v0, v1, v2, v3⟩ := hcv _ (Below.refl _ _)
              have hj1 : (r : Int) + 1 < (d : Int) := by omega
              have hj3 : (r : Int) < (d : Int) := by omega
              have hneq := fun W => run_neq_rdg u v W
              have hsz2 := HGR.out.size
              clear hu hv hz hcu hcv hcz hrd hu' hv'
              by_cases huv : u = v
              · rw [decide_eq_true huv] at hneq
                have HUV := Lib.hid huv
                clear huv
                go_wp2_with fail
                go_quiet (fail)
                go_wp2
                go_roundw
                case rel => exact ⟨k, r + 1, R, by omega, rfl, by go_num, hk1, by omega, own_mono HO2.out (below_drewN (Below.refl _ _) _), HRL.out, fun j hj => HRE.out j (by omega), by
                  rw [show p + 1 + (r + 1) + 1 = p + 1 + r + 1 + 1 by omega, ddTo_skip HU.out (by rw [HV.out, HUV.out])]; exact HRT.out, only_drewN HGR.out _⟩
                case measure => simp [intOf] <;> omega
              · rw [decide_eq_false huv] at hneq
                have HUV := Lib.hid huv
                clear huv
                go_wp2_with fail
                go_quiet (fail)
                obtain ⟨wq, hwq⟩ : ∃ wq : World, wq = wr.drewN nq := ⟨_, rfl⟩
                have hbq : Below wr.heap.size wr wq := by rw [hwq]; exact below_drewN (Below.refl _ _) _
                rw [← hwq]
                have HO3 := Lib.hid (own_mono HO2.out hbq)
                have hgq : w.grownBy wq (some g) := by rw [hwq]; exact only_drewN HGR.out _
                obtain ⟨a0, a1, a2, a3⟩ := HCU.out _ hbq
                obtain ⟨z0, z1, z2, z3⟩ := HCZ.out _ hbq
                have f0 := HO3.out.frozenAt (k * 4); have f1 := HO3.out.frozenAt (k * 4 + 1); have f2 := HO3.out.frozenAt (k * 4 + 2); have f3 := HO3.out.frozenAt (k * 4 + 3)
                have HO4 := Lib.hid (own_put4 HO3.out (k := k) (by rw [HRL.out]; exact hkn) u)
                have HG4 := Lib.hid (only_setCell (p := ⟨g, k * 4 + 3, none⟩) (only_setCell (p := ⟨g, k * 4 + 2, none⟩) (only_setCell (p := ⟨g, k * 4 + 1, none⟩) (only_setCell (p := ⟨g, k * 4, none⟩) hgq (.inl rfl) (.int .i64 u.ins)) (.inl rfl) (.int .i64 u.num)) (.inl rfl) (.int .i64 u.tim)) (.inl rfl) (.int .i64 u.val))
                clear hwq hbq hgq HO3 u0 u1 u2 u3 v0 v1 v2 v3
                go_wp2_with fail
                go_roundw
                case rel => exact ⟨k + 1, r + 1, R.set k u, by omega, by go_num, by go_num, by omega, by omega, HO4.out, by rw [List.length_set]; exact HRL.out, fun j hj => by
                  rw [List.getElem?_set, if_neg (by omega)]; exact HRE.out j (by omega), by
                  rw [take_set_next (by rw [HRL.out]; exact hkn), HRT.out, show p + 1 + (r + 1) + 1 = p + 1 + r + 1 + 1 by omega, ddTo_keep HU.out HV.out HUV.out], HG4.out⟩
                case measure => simp [intOf] <;> omega
            · have hrd' : r + 1 = d := by omega
              have hj1 : ¬ (r : Int) + 1 < (d : Int) := by omega
              have hq1 := fun W => cut_from_at (g := g) (n := n) (c := c) (k := k) W (by omega) (by omega) (by omega)
              have hq2 := fun W => cut_to_at (g := g) (n := n) (c := c) (k := k) W (by omega) (by omega)
              have hcl := fun ty => run_clear4 wr ty g (k * 4) (n - k) (c - k) (by omega) (fun j hj => by
                have h1 : ((R.flatMap encR)[k * 4 + j]?).isSome = true := by
                  rw [List.getElem?_eq_getElem (by rw [flatMap_len encR_len, HRL.out]; omega)]; rfl
                obtain ⟨y', hy'⟩ := Option.isSome_iff_exists.1 h1
                have := HO2.out.cells (g := g) rfl _ _ hy'
                rw [Addr.add_mid, Nat.zero_add] at this
                rw [this]; rfl) (fun j hj => HO2.out.frozenAt (k * 4 + j))
              obtain ⟨vs, hvs⟩ : ∃ vs, vs = (Builtin.zeroCells (Value.cells (.agg #[.int .i64 0, .int .i64 0, .int .i64 0, .int .i64 0])) (n - k)).toList := ⟨_, rfl⟩
              rw [← hvs] at hcl
              have HDD : Hid (R.take k = dd l) := by
                show _ = _
                rw [HRT.out]; unfold dd; congr 1; rw [HL.out]; omega
              have HRD : Hid (Rd encR 4 (wr.setCells g (k * 4) vs) (some ⟨g, 0, none⟩) k (dd l)) := Lib.hid (by
                rw [← HDD.out]
                refine ⟨by rw [List.length_take, HRL.out]; omega, fun _ => ?_⟩
                obtain ⟨b6, o6, e6, hb6, hc6⟩ := hrd.2 (by omega)
                cases e6
                refine ⟨g, 0, rfl, Nat.lt_of_lt_of_le hb6 (setCells_grown _ _ _ _).size, fun i x hx j v hv => ?_⟩
                rw [List.getElem?_take] at hx
                split at hx
                · have hj : j < 4 := (List.getElem?_eq_some_iff.1 hv).1
                  rw [setCells_before _ _ _ _ _ (by omega)]
                  exact hc6 i x hx j v hv
                · cases hx)
              have HGF := Lib.hid (only_trans HGR.out (setCells_grown vs g (k * 4) wr))
              clear hvs hrd hnd hrd'
              go_wp2_with fail
              go_ret
              have hnd := HD.out
              exact ⟨some ⟨g, 0, none⟩, k, c, rfl, by omega, by omega, HRD.out, HGF.out⟩
        · rw [decide_eq_false hxy] at heq
          have HXY := Lib.hid hxy
          clear hxy
          go_wp2_with fail
          go_quiet (fail)
          go_wp2
          go_roundw
          case rel => exact ⟨p + 1, by omega, by go_num, fun j u v hj hu hv => by
            rcases Nat.lt_or_ge (j + 1) (p + 1) with h' | h'
            · exact HNE.out j u v h' hu hv
            · obtain rfl : j = p := by omega
              rw [HX.out] at hu; rw [HY.out] at hv; cases hu; cases hv; exact HXY.out, below_drewN HB.out _⟩
          case measure => simp [intOf] <;> omega
      · have hpn : p + 1 = n := by omega
        have hi1 : ¬ (p : Int) + 1 < (n : Int) := by omega
        have HDD : Hid (dd l = l) := by
          show _ = _
          unfold dd
          rw [ddTo_take (Nat.le_refl _) (fun j x y hj => HNE.out j x y (by rw [HL.out] at hj; omega)), List.take_length]
        go_wp2_with fail
        go_ret
        exact ⟨some ⟨g, 0, none⟩, n, c, rfl, hcn, Nat.le_refl _, by rw [HDD.out]; exact Rd.of_own encR_len HOr.out HL.out, only_of_below HB.out _⟩
end
end Go.Proofs.YtjpobkmlcjbpiaaGreat.Ga
