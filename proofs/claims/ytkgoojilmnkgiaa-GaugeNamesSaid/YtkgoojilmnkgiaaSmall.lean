/- CONTRACTS of the law's small helpers: ints, same, reading, series, wire. -/
import Derived.Test.YtkgoojilmnkgiaaNear
import Derived.Test.YtkgoojilmnkgiaaNumber
import Derived.Laws.StructEq
import Derived.Test.YtkgoojilmnkgiaaConvPoint
import Derived.Maps.AppendAt
import Derived.Deep.AppendLies
namespace Go.Proofs.Ytkgoojilmnkgiaa
open Go.RowKit Go.Proofs

abbrev vR (r : Rdg) : Value := .agg #[.int .i64 r.ins, .int .i64 r.num, .int .i64 r.tim, .int .i64 r.val]
theorem rdg_eq_iff (r r' : Rdg) : r = r' ↔ r.ins = r'.ins ∧ r.num = r'.num ∧ r.tim = r'.tim ∧ r.val = r'.val := by
  cases r; cases r'; simp
theorem run_equal_rdg (r r' : Rdg) (W : World) : (Op.equalIn 10000 53 (vR r) (vR r')).run Try.prog W = .ok (decide (r = r')) W := by
  simp [go_sem, Try.underlying53]
  rw [show decide (r = r') = decide (r.ins = r'.ins ∧ r.num = r'.num ∧ r.tim = r'.tim ∧ r.val = r'.val) from by simp only [rdg_eq_iff]]
  by_cases h1 : r.ins = r'.ins <;> by_cases h2 : r.num = r'.num <;> by_cases h3 : r.tim = r'.tim <;> by_cases h4 : r.val = r'.val <;> simp [h1, h2, h3, h4]
theorem run_eql_rdg (r r' : Rdg) (W : World) : (binOp .eql 53 (vR r) (vR r')).run Try.prog W = .ok (.bool (decide (r = r'))) W := by
  rw [run_eql_struct, run_equal_rdg]; rfl
theorem run_neq_rdg (r r' : Rdg) (W : World) : (binOp .neq 53 (vR r) (vR r')).run Try.prog W = .ok (.bool (!decide (r = r'))) W := by
  rw [run_neq_struct, run_equal_rdg]; rfl

theorem take_eq_all {α : Type} {a b : List α} {n : Nat} (ha : a.length = n) (hb : b.length = n) (h : a.take n = b.take n) : a = b := by
  rwa [List.take_of_length_le (by omega), List.take_of_length_le (by omega)] at h
theorem ne_of_get {α : Type} {a b : List α} {k : Nat} {x y : α} (ha : a[k]? = some x) (hb : b[k]? = some y) (h : x ≠ y) : a ≠ b := by
  rintro rfl; rw [ha] at hb; cases hb; exact h rfl
theorem take_snoc_eq {α : Type} {a b : List α} {k : Nat} {x : α} (ha : a[k]? = some x) (hb : b[k]? = some x) (h : a.take k = b.take k) : a.take (k + 1) = b.take (k + 1) := by
  rw [List.take_add_one, List.take_add_one, ha, hb, h]

set_option maxRecDepth 100000 in
set_option maxHeartbeats 400000 in
theorem ints_c {l l' : List Int} {A A' : Option Addr} {n c n' c' : Nat} {w : World} (h : Rd enc1 1 w A n l) (h' : Rd enc1 1 w A' n' l') (hn : n ≤ 1000000000) :
    Calls Try.prog 25 #[.slice A n c, .slice A' n' c'] w fun e w' => e = .returned (.bool (decide (l = l'))) ∧ Below w.heap.size w w' := by
  have hl := h.len; have hl' := h'.len
  have HL := Lib.hid hl; have HL' := Lib.hid hl'; clear hl hl'
  by_cases hne : n = n'
  · subst hne
    have hb0 : ((n : Int) == (n : Int)) = true := by simp
    go_enter Try.func25, Try.ntmps25
    go_wp2_with fail
    go_loopw [5] (fun i wr => ∃ k : Nat, k ≤ n ∧ i = .int .i64 k ∧ Below w.heap.size w wr ∧ l.take k = l'.take k) (fun i _ => n - (intOf i).toNat)
    case atStart => exact ⟨0, Nat.zero_le _, rfl, Below.refl _ _, rfl⟩
    case round =>
      obtain ⟨k, hk, rfl, hb, heq⟩ := hrel
      have HE := Lib.hid heq; clear heq
      by_cases hlt : k < n
      · obtain ⟨b, o, x, hA, _, hx, h0⟩ := (h.below hb).at1 hlt
        subst hA
        obtain ⟨b', o', y, hA, _, hy, h1⟩ := (h'.below hb).at1 hlt
        subst hA
        have HX := Lib.hid hx; have HY := Lib.hid hy; clear hx hy
        have HB := Lib.hid hb; clear hb
        have hkn : (k : Int) < (n : Int) := by omega
        by_cases hxy : x = y
        · subst hxy
          have e1 : (x == x) = true := by simp
          have e2 : (x != x) = false := by simp
          go_wp2_with fail
          go_quiet (fail)
          go_wp2
          go_roundw
          case rel => exact ⟨k + 1, by omega, by go_num, below_drewN HB.out _, take_snoc_eq HX.out HY.out HE.out⟩
          case measure => simp [intOf] <;> omega
        · have e1 : (x == y) = false := by simpa using hxy
          have e2 : (x != y) = true := by simpa using hxy
          have HNE := Lib.hid hxy; clear hxy
          go_wp2_with fail
          go_quiet (fail)
          go_wp2
          go_ret
          exact ⟨ret_bool (decide_eq_false (ne_of_get HX.out HY.out HNE.out)).symm, below_drewN HB.out _⟩
      · obtain rfl : k = n := by omega
        go_wp2_with fail
        go_ret
        exact ⟨ret_bool (decide_eq_true (take_eq_all HL.out HL'.out HE.out)).symm, hb⟩
  · have hb0 : ((n : Int) == (n' : Int)) = false := by simp; omega
    have hb1 : ((n : Int) != (n' : Int)) = true := by simp; omega
    have HNE := Lib.hid hne; clear hne
    go_enter Try.func25, Try.ntmps25
    go_wp2_with fail
    go_ret
    exact ⟨ret_bool (decide_eq_false (fun e => HNE.out (by rw [← HL.out, ← HL'.out, e]))).symm, Below.refl _ _⟩

set_option maxRecDepth 100000 in
set_option maxHeartbeats 400000 in
theorem same_c {l l' : List Rdg} {A A' : Option Addr} {n c n' c' : Nat} {w : World} (h : Rd encR 4 w A n l) (h' : Rd encR 4 w A' n' l') (hn : n ≤ 1000000000) :
    Calls Try.prog 24 #[.slice A n c, .slice A' n' c'] w fun e w' => e = .returned (.bool (decide (l = l'))) ∧ Below w.heap.size w w' := by
  have hl := h.len; have hl' := h'.len
  have HL := Lib.hid hl; have HL' := Lib.hid hl'; clear hl hl'
  by_cases hne : n = n'
  · subst hne
    have hb0 : ((n : Int) == (n : Int)) = true := by simp
    go_enter Try.func24, Try.ntmps24
    go_wp2_with fail
    go_loopw [5] (fun i wr => ∃ k : Nat, k ≤ n ∧ i = .int .i64 k ∧ Below w.heap.size w wr ∧ l.take k = l'.take k) (fun i _ => n - (intOf i).toNat)
    case atStart => exact ⟨0, Nat.zero_le _, rfl, Below.refl _ _, rfl⟩
    case round =>
      obtain ⟨k, hk, rfl, hb, heq⟩ := hrel
      have HE := Lib.hid heq; clear heq
      by_cases hlt : k < n
      · obtain ⟨b, o, x, hA, _, hx, h0, h1, h2, h3⟩ := (h.below hb).at4 hlt
        subst hA
        obtain ⟨b', o', y, hA, _, hy, j0, j1, j2, j3⟩ := (h'.below hb).at4 hlt
        subst hA
        have HX := Lib.hid hx; have HY := Lib.hid hy; clear hx hy
        have HB := Lib.hid hb; clear hb
        have hkn : (k : Int) < (n : Int) := by omega
        have hq := fun W => run_neq_rdg x y W
        by_cases hxy : x = y
        · rw [decide_eq_true hxy] at hq
          have HXY := Lib.hid hxy; clear hxy
          go_wp2_with fail
          go_quiet (fail)
          go_wp2
          go_roundw
          case rel => exact ⟨k + 1, by omega, by go_num, below_drewN HB.out _, take_snoc_eq HX.out (by rw [HXY.out]; exact HY.out) HE.out⟩
          case measure => simp [intOf] <;> omega
        · rw [decide_eq_false hxy] at hq
          have HNE := Lib.hid hxy; clear hxy
          go_wp2_with fail
          go_quiet (fail)
          go_wp2
          go_ret
          exact ⟨ret_bool (decide_eq_false (ne_of_get HX.out HY.out HNE.out)).symm, below_drewN HB.out _⟩
      · obtain rfl : k = n := by omega
        go_wp2_with fail
        go_ret
        exact ⟨ret_bool (decide_eq_true (take_eq_all HL.out HL'.out HE.out)).symm, hb⟩
  · have hb0 : ((n : Int) == (n' : Int)) = false := by simp; omega
    have hb1 : ((n : Int) != (n' : Int)) = true := by simp; omega
    have HNE := Lib.hid hne; clear hne
    go_enter Try.func24, Try.ntmps24
    go_wp2_with fail
    go_ret
    exact ⟨ret_bool (decide_eq_false (fun e => HNE.out (by rw [← HL.out, ← HL'.out, e]))).symm, Below.refl _ _⟩

set_option maxRecDepth 100000 in
theorem mk_c (a b c d : Int) (w : World) : Calls Try.prog 51 #[.int .i64 a, .int .i64 b, .int .i64 c, .int .i64 d] w fun e w' => e = .returned (vR ⟨a, b, c, d⟩) ∧ Below w.heap.size w w' := by
  have hbl : Below w.heap.size w (w.alloc (.cells #[.int .i64 a, .int .i64 b, .int .i64 c, .int .i64 d] 53)) := (Below.refl _ _).alloc (Nat.le_refl _) _
  have HB := Lib.hid hbl; clear hbl
  go_enter Try.func51, Try.ntmps51
  go_wp2_with fail
  refine bodyPost_ret (v := vR ⟨a, b, c, d⟩) ?_ rfl ⟨rfl, HB.out⟩
  simp [results, Try.f51, go_sem]

def wireB : List UInt8 := [165, 7, 1, 2, 0, 0, 3, 232, 255, 255, 255, 254, 116, 100, 238, 90]
theorem wire_c (w : World) : Calls Try.prog 53 #[] w fun e w' => e = .returned (.string ⟨wireB.toArray⟩) ∧ w = w' := by
  go_enter Try.func53, Try.ntmps53
  go_wp2_with fail
  go_ret
  exact ⟨rfl, rfl⟩

def serP (l : List Int) (k : Nat) : List (Int × Int) := (List.range k).map fun (i : Nat) => (10 * (i : Int), l.getD i 0)
theorem serP_succ (l : List Int) (k : Nat) : serP l (k + 1) = serP l k ++ [(10 * (k : Int), l.getD k 0)] := by simp [serP, List.range_succ]
theorem serP_len (l : List Int) (k : Nat) : (serP l k).length = k := by simp [serP]

set_option maxRecDepth 100000 in
set_option maxHeartbeats 400000 in
theorem series2_c {l : List Int} {A : Option Addr} {n c : Nat} {w : World} (h : Rd enc1 1 w A n l) (hn : n ≤ 1000000) :
    Calls Try.prog 52 #[.slice A n c] w fun e w' => ∃ A' c', e = .returned (.slice A' n c') ∧ n ≤ c' ∧ Rd enc2 2 w' A' n (serP l n) ∧ Below w.heap.size w w' := by
  obtain ⟨i0, hi0, hz0, hz1, hz2⟩ := info_parts infoPoint
  have hl := h.len
  have HL := Lib.hid hl; clear hl
  have HI := Lib.hid hi0; have HZ0 := Lib.hid hz0; have HZ1 := Lib.hid hz1; have HZ2 := Lib.hid hz2
  clear hi0 hz0 hz1 hz2
  go_enter Try.func52, Try.ntmps52
  go_wp2_with fail
  go_loopw [3, 4] (fun v i wr => ∃ k : Nat, k ≤ n ∧ i = .int .i64 k ∧ wr.ownsRow w.heap.size 72 2 v k ((serP l k).flatMap enc2) ∧ Below w.heap.size w wr) (fun _ i _ => n - (intOf i).toNat)
  case atStart => exact ⟨0, Nat.zero_le _, rfl, World.ownsRow_nil _ _ _ _, Below.refl _ _⟩
  case round =>
    obtain ⟨k, hk, rfl, hown, hb⟩ := hrel
    have HO := Lib.hid hown; clear hown
    by_cases hlt : k < n
    · obtain ⟨b, o, x, hA, _, hx, h0⟩ := (h.below hb).at1 hlt
      subst hA
      have HX := Lib.hid (show l.getD k 0 = x by simp [List.getD, hx]); clear hx
      have HB := Lib.hid hb
      have hsz := hb.size
      clear hb
      go_wp2_with (at_builtin; go_must (refine wpList_append_own_at _ rfl _ _ 65 rfl w.heap.size 72 i0 _ 2 16 Try.underlying65 HI.out HZ0.out HZ1.out HZ2.out rfl (by decide) _ _ _ rfl (HO.out.alloc _) ⟨wr.heap.size, 0, none⟩ 1 1 (enc2 (10 * (k : Int), x)) rfl rfl (fun j u hj => World.news_of_block (cs := #[.int .i64 (10 * (k : Int)), .int .i64 x]) (t := 72) (fr := (0, 0)) (heap_alloc_new wr _) j u hj) (by simp [Value.oneCell', enc2]) (by unfold maxLen; omega) (by omega) (by simp; omega) ?_; intro v' w1 hown' hgrow _ _))
      have hown2 : Hid (w1.ownsRow w.heap.size 72 2 v' (k + 1) ((serP l (k + 1)).flatMap enc2)) := by
        have := hown'
        rw [serP_succ, HX.out, List.flatMap_append]
        simp only [List.flatMap_cons, List.flatMap_nil, List.append_nil]
        exact this
      have hb2 : Hid (Below w.heap.size w w1) := (HB.out.alloc HB.out.size _).grown hgrow (by simp; omega) (fun g hg => (HO.out.lt g hg).1)
      clear hown' hgrow
      go_roundw
      case rel => exact ⟨k + 1, by omega, by go_num, hown2.out, hb2.out⟩
      case measure => simp [intOf] <;> omega
    · obtain rfl : k = n := by omega
      obtain ⟨A', c', rfl, hc'⟩ := own_form HO.out
      go_wp2_with fail
      go_ret
      exact ⟨A', c', rfl, hc', Rd.of_own enc2_len HO.out (serP_len _ _), hb⟩
end Go.Proofs.Ytkgoojilmnkgiaa
