/- A MAP of ranges by spots (water), as it lies in memory; a range over it. -/
import Derived.Test.YtjpobkmlcjbpiaaGreatYAllCel
import Derived.DeepKeys4
import Derived.MapKept
import Derived.Maps.RangeRun
import Derived.Maps.Range
import Derived.Test.YtjpobkmlcjbpiaaGreatYRow
import Derived.Test.YtjpobkmlcjbpiaaGreatYNext
set_option linter.unusedVariables false
set_option linter.unusedSimpArgs false
namespace Go.Proofs.YtjpobkmlcjbpiaaGreat
open Go.RowKit Go.Proofs Go.WideMaps

theorem laidN : laidOutB Tryz.prog = true := by kernel_rfl
theorem rowN : 126 < Tryz.prog.types.size := by
  have h : Nat.ble (Nat.succ 126) Tryz.prog.types.size = true := by kernel_rfl
  exact Nat.lt_of_succ_le (Nat.le_of_ble_eq_true h)
theorem lawN : KeyLaw Tryz.prog 126 := deep_law_laid laidN (m := 2) (by omega) rowN (by kernel_rfl) (by rw [Tryz.underlying126])
/-- a name as a key -/
def keyN (k : Int × Int) : Value := .agg #[.int .i64 k.1, .int .i64 k.2]
def okN (k : Int × Int) : Prop := (-9223372036854775808 ≤ k.1 ∧ k.1 ≤ 9223372036854775807) ∧ -9223372036854775808 ≤ k.2 ∧ k.2 ≤ 9223372036854775807
theorem keyN_inj {a b : Int × Int} (h : keyN a = keyN b) : a = b := by
  simp [keyN] at h; exact Prod.ext h.1 h.2
theorem keyOf_name {k : Int × Int} (h : okN k) : ∃ l, keyOf Tryz.prog 126 (keyN k) = some l := by
  have hk : Tryz.prog.keyType 126 = true := by kernel_rfl
  have wa : (Lit.int .i64 k.1).wf = true := WalkArith.wf_i64 (by have := h.1; omega)
  have wb : (Lit.int .i64 k.2).wf = true := WalkArith.wf_i64 (by have := h.2; omega)
  unfold keyOf
  simp only [Tryz.underlying126]
  have c1 : Tryz.prog.cellsOf 126 = 2 := by kernel_rfl
  have c2 : Tryz.prog.cellsOf 3 = 1 := by kernel_rfl
  rw [if_pos (by simp [hk, Value.formed, keyN, Tryz.underlying126, c1])]
  obtain ⟨m, hm⟩ : ∃ m, Tryz.prog.types.size = m + 1 := ⟨Tryz.prog.types.size - 1, by have := rowN; omega⟩
  rw [hm]
  unfold Program.keyLits
  simp only [Tryz.underlying126, keyN, Value.cells]
  simp [c1, c2, Program.keyLits, Tryz.underlying3, wa, wb]

def valN (v : Int × Int) : Value := .agg #[.int .i64 v.1, .int .i64 v.2]
def entN (i : Nat) (p : (Int × Int) × (Int × Int)) : MapEntry := ⟨keyN p.1, valN p.2, i⟩
/-- the map's entries, in the order in which they were made -/
def ents (ps : List ((Int × Int) × (Int × Int))) : Array MapEntry := (ps.mapIdx entN).toArray
def IsM (w : World) (M : Nat) (ps : List ((Int × Int) × (Int × Int))) : Prop := w.heap[M]? = some (.map (ents ps) ps.length)
def putM (w : World) (M : Nat) (ps : List ((Int × Int) × (Int × Int))) : World := { w with heap := w.heap.setIfInBounds M (.map (ents ps) ps.length) }
theorem ents_get (ps : List ((Int × Int) × (Int × Int))) (i : Nat) : (ents ps).toList[i]? = ps[i]?.map (entN i) := by simp [ents]
theorem IsM.lt {w : World} {M : Nat} {ps : List ((Int × Int) × (Int × Int))} (h : IsM w M ps) : M < w.heap.size := (Array.getElem?_eq_some_iff.1 h).1
theorem IsM.put {w : World} {M : Nat} {ps : List ((Int × Int) × (Int × Int))} (h : IsM w M ps) (qs : List ((Int × Int) × (Int × Int))) : IsM (putM w M qs) M qs := by
  have := h.lt
  unfold IsM putM
  simp [this]
theorem putM_grown (w : World) (M : Nat) (qs : List ((Int × Int) × (Int × Int))) : w.grownBy (putM w M qs) (some M) := by
  refine ⟨rfl, rfl, rfl, by simp [putM], fun k hk hne => ?_⟩
  have : M ≠ k := fun e => hne (by rw [e])
  simp [putM, Array.getElem?_setIfInBounds, this]
theorem IsM.grown {w w' : World} {M : Nat} {ps : List ((Int × Int) × (Int × Int))} {row : Option Nat} (h : IsM w M ps) (hg : w.grownBy w' row) (hne : some M ≠ row) : IsM w' M ps := (hg.block M h.lt hne).trans h
theorem IsM.below {w w' : World} {M : Nat} {ps : List ((Int × Int) × (Int × Int))} (h : IsM w M ps) (hb : Below w.heap.size w w') : IsM w' M ps := (hb.block M h.lt).trans h
def KeysOk (ps : List ((Int × Int) × (Int × Int))) : Prop := ∀ p ∈ ps, okN p.1
def Dist (ps : List ((Int × Int) × (Int × Int))) : Prop := ∀ (i j : Nat) (k : Int × Int) (c d : Int × Int), ps[i]? = some (k, c) → ps[j]? = some (k, d) → i = j

theorem keys_of {ps : List ((Int × Int) × (Int × Int))} (hk : KeysOk ps) : ∀ e ∈ (ents ps).toList, ∃ l, keyOf Tryz.prog 126 e.key = some l := by
  intro e he
  obtain ⟨i, hi⟩ := List.getElem?_of_mem he
  rw [ents_get] at hi
  obtain ⟨p, hp, rfl⟩ := Option.map_eq_some_iff.1 hi
  exact keyOf_name (hk p (List.mem_of_getElem? hp))
theorem find_no {ps : List ((Int × Int) × (Int × Int))} (hk : KeysOk ps) {x : Int × Int} (hx : okN x) (hno : ∀ p ∈ ps, p.1 ≠ x) (W : World) : (Instr.findKey 126 (keyN x) (ents ps).toList).run Tryz.prog W = .ok none W := by
  obtain ⟨l, hl⟩ := keyOf_name hx
  rcases lawN.find W hl (ents ps).toList (keys_of hk) with ⟨h, _⟩ | ⟨j, e, _, he, hek⟩
  · exact h
  · exfalso
    rw [ents_get] at he
    obtain ⟨p, hp, rfl⟩ := Option.map_eq_some_iff.1 he
    exact hno p (List.mem_of_getElem? hp) (keyN_inj hek)
theorem find_yes {ps : List ((Int × Int) × (Int × Int))} (hk : KeysOk ps) (hd : Dist ps) {x : Int × Int} (hx : okN x) {j : Nat} {c : Int × Int} (hj : ps[j]? = some (x, c)) (W : World) : (Instr.findKey 126 (keyN x) (ents ps).toList).run Tryz.prog W = .ok (some (j, valN c)) W := by
  obtain ⟨l, hl⟩ := keyOf_name hx
  rcases lawN.find W hl (ents ps).toList (keys_of hk) with ⟨_, h⟩ | ⟨j', e, h, he, hek⟩
  · exfalso
    exact h (entN j (x, c)) (List.mem_of_getElem? (by rw [ents_get, hj]; rfl)) rfl
  · rw [ents_get] at he
    obtain ⟨⟨k, d⟩, hp, rfl⟩ := Option.map_eq_some_iff.1 he
    obtain rfl : k = x := keyN_inj hek
    obtain rfl : j' = j := hd _ _ _ _ _ hp hj
    rw [hp] at hj; cases hj
    exact h
theorem check_n {x : Int × Int} (hx : okN x) (em : Bool) (W : World) : (Instr.checkKey em 10000 126 (keyN x)).run Tryz.prog W = .ok () W := by
  obtain ⟨l, hl⟩ := keyOf_name hx
  exact lawN.check W em hl
theorem get_m {ps : List ((Int × Int) × (Int × Int))} {W : World} {M : Nat} (h : IsM W M ps) : (getObj M).run Tryz.prog W = .ok (.map (ents ps) ps.length) W := by
  simp [getObj, Sem.run, show W.heap[M]? = _ from h]
theorem set_m {ps : List ((Int × Int) × (Int × Int))} {W : World} {M : Nat} (h : IsM W M ps) (o : Obj) : (setObj M o).run Tryz.prog W = .ok () { W with heap := W.heap.setIfInBounds M o } := by
  simp [setObj, Sem.run, show W.heap[M]? = _ from h]
theorem lookup_no {ps : List ((Int × Int) × (Int × Int))} {W : World} {M : Nat} (h : IsM W M ps) (hk : KeysOk ps) {x : Int × Int} (hx : okN x) (hno : ∀ p ∈ ps, p.1 ≠ x) :
    (Instr.lookup 122 (.map (some M)) (keyN x) false).run Tryz.prog W = .ok (.agg #[.int .i64 0, .int .i64 0]) W := by
  simp [Instr.lookup, run_underlying Tryz.underlying122, get_m h, check_n hx, find_no hk hx hno, Tryz.zeroValue44]
theorem lookup_yes {ps : List ((Int × Int) × (Int × Int))} {W : World} {M : Nat} (h : IsM W M ps) (hk : KeysOk ps) (hd : Dist ps) {x : Int × Int} (hx : okN x) {j : Nat} {c : Int × Int} (hj : ps[j]? = some (x, c)) :
    (Instr.lookup 122 (.map (some M)) (keyN x) false).run Tryz.prog W = .ok (valN c) W := by
  simp [Instr.lookup, run_underlying Tryz.underlying122, get_m h, check_n hx, find_yes hk hd hx hj]
theorem ents_push (ps : List ((Int × Int) × (Int × Int))) (x : Int × Int) (v : Int × Int) : (ents ps).push ⟨keyN x, valN v, ps.length⟩ = ents (ps ++ [(x, v)]) := by
  simp [ents, List.mapIdx_concat, entN]
theorem ents_same {ps : List ((Int × Int) × (Int × Int))} {j : Nat} {x : Int × Int} {c : Int × Int} (hj : ps[j]? = some (x, c)) : (ents ps).modify j (fun e => { e with key := keyN x }) = ents ps := by
  apply Array.ext_getElem?
  intro i
  rw [Array.getElem?_modify]
  split
  · rename_i h; subst h
    rw [← Array.getElem?_toList, ents_get, hj]; rfl
  · rfl
theorem ents_set {ps : List ((Int × Int) × (Int × Int))} {j : Nat} {x : Int × Int} {c : Int × Int} (hj : ps[j]? = some (x, c)) (v : Int × Int) : (ents ps).modify j (fun e => { e with val := valN v }) = ents (ps.set j (x, v)) := by
  apply Array.ext_getElem?
  intro i
  rw [Array.getElem?_modify, ← Array.getElem?_toList, ← Array.getElem?_toList, ents_get, ents_get, List.getElem?_set]
  have hl := (List.getElem?_eq_some_iff.1 hj).1
  by_cases h : j = i
  · subst h; rw [hj]; simp [hl, entN]
  · simp [h]
theorem look_no {ps : List ((Int × Int) × (Int × Int))} {W : World} {M : Nat} (h : IsM W M ps) (hk : KeysOk ps) {x : Int × Int} (hx : okN x) (hno : ∀ p ∈ ps, p.1 ≠ x) :
    (Instr.lookup 122 (.map (some M)) (keyN x) true).run Tryz.prog W = .ok (.tuple #[.agg #[.int .i64 0, .int .i64 0], .bool false]) W := by
  simp [Instr.lookup, run_underlying Tryz.underlying122, get_m h, check_n hx, find_no hk hx hno, Tryz.zeroValue44]
theorem look_yes {ps : List ((Int × Int) × (Int × Int))} {W : World} {M : Nat} (h : IsM W M ps) (hk : KeysOk ps) (hd : Dist ps) {x : Int × Int} (hx : okN x) {j : Nat} {c : Int × Int} (hj : ps[j]? = some (x, c)) :
    (Instr.lookup 122 (.map (some M)) (keyN x) true).run Tryz.prog W = .ok (.tuple #[valN c, .bool true]) W := by
  simp [Instr.lookup, run_underlying Tryz.underlying122, get_m h, check_n hx, find_yes hk hd hx hj]
theorem upd_no {ps : List ((Int × Int) × (Int × Int))} {W : World} {M : Nat} (h : IsM W M ps) (hk : KeysOk ps) {x : Int × Int} (hx : okN x) (hno : ∀ p ∈ ps, p.1 ≠ x) (v : Int × Int) :
    (Instr.mapUpdate 122 (.map (some M)) (keyN x) (valN v)).run Tryz.prog W = .ok () (putM W M (ps ++ [(x, v)])) := by
  simp [Instr.mapUpdate, run_underlying Tryz.underlying122, get_m h, check_n hx, find_no hk hx hno, set_m h, ents_push, putM]
theorem ents_born (ps : List ((Int × Int) × (Int × Int))) : ((ents ps).toList.map (·.born)).Nodup := by
  have e : (ents ps).toList.map (·.born) = List.range ps.length := by
    apply List.ext_getElem?
    intro i
    rw [List.getElem?_map, ents_get]
    by_cases h : i < ps.length
    · rw [List.getElem?_eq_getElem h, List.getElem?_range h]; rfl
    · rw [List.getElem?_eq_none (by omega), List.getElem?_eq_none (by simp; omega)]; rfl
  rw [e]
  exact List.nodup_range
theorem ents_hold (ps : List ((Int × Int) × (Int × Int))) : ∀ x ∈ (ents ps).toList, x.born < ps.length := by
  intro x hx
  obtain ⟨i, hi⟩ := List.getElem?_of_mem hx
  rw [ents_get] at hi
  obtain ⟨p, hp, rfl⟩ := Option.map_eq_some_iff.1 hi
  exact (List.getElem?_eq_some_iff.1 hp).1
/-- an entry of the map -/
theorem ents_mem {ps : List ((Int × Int) × (Int × Int))} {e : MapEntry} (h : e ∈ (ents ps).toList) : ∃ p ∈ ps, e.key = keyN p.1 ∧ e.val = valN p.2 := by
  obtain ⟨i, hi⟩ := List.getElem?_of_mem h
  rw [ents_get] at hi
  obtain ⟨p, hp, rfl⟩ := Option.map_eq_some_iff.1 hi
  exact ⟨p, List.mem_of_getElem? hp, rfl, rfl⟩
end Go.Proofs.YtjpobkmlcjbpiaaGreat

namespace Go.Proofs.YtjpobkmlcjbpiaaGreat
open Go.RowKit Go.Proofs
structure WRd where
  cell : Int
  day : Int
  lo : Int
  hi : Int
def encWR (r : WRd) : List Value := [.int .i64 r.cell, .int .i64 r.day, .int .i64 r.lo, .int .i64 r.hi]
theorem encWR_len (r : WRd) : (encWR r).length = 4 := rfl
theorem oneWR (r : WRd) : ∀ u ∈ encWR r, u.oneCell' = true := by intro u hu; simp [encWR] at hu; rcases hu with rfl | rfl | rfl | rfl <;> rfl
theorem Rd.atWR {w : World} {A : Option Addr} {n : Nat} {l : List WRd} (h : Rd encWR 4 w A n l) {i : Nat} (hi : i < n) :
    ∃ b o x, A = some ⟨b, o, none⟩ ∧ b < w.heap.size ∧ l[i]? = some x ∧ w.cell? ⟨b, o + i * 4, none⟩ = some (.int .i64 x.cell) ∧ w.cell? ⟨b, o + i * 4 + 1, none⟩ = some (.int .i64 x.day) ∧ w.cell? ⟨b, o + i * 4 + 2, none⟩ = some (.int .i64 x.lo) ∧ w.cell? ⟨b, o + i * 4 + 3, none⟩ = some (.int .i64 x.hi) := by
  obtain ⟨b, o, x, e, hb, hx, hc⟩ := h.at_ hi
  exact ⟨b, o, x, e, hb, hx, hc 0 _ rfl, hc 1 _ rfl, hc 2 _ rfl, hc 3 _ rfl⟩
end Go.Proofs.YtjpobkmlcjbpiaaGreat

namespace Go.Proofs.YtjpobkmlcjbpiaaGreat
open Go.RowKit Go.Proofs Go.WideMaps
attribute [local go_sem ↓] Go.wp_at_zero Go.wp_at_succ

def psOf (l : List WRd) : List ((Int × Int) × (Int × Int)) := l.map fun x => ((x.cell, x.day), (x.lo, x.hi))
/-- readings of which no two are of one cell and day -/
def OneEach (l : List WRd) : Prop := ∀ (i j : Nat) (x y : WRd), l[i]? = some x → l[j]? = some y → x.cell = y.cell → x.day = y.day → i = j
def KeyWR (l : List WRd) : Prop := ∀ x ∈ l, (0 ≤ x.cell ∧ x.cell ≤ 1000) ∧ 0 ≤ x.day ∧ x.day ≤ 1000
theorem KeyWR.ok {l : List WRd} (h : KeyWR l) : KeysOk (psOf l) := by
  intro p hp
  obtain ⟨x, hx, rfl⟩ := List.mem_map.1 hp
  have := h x hx
  exact ⟨⟨by dsimp only; omega, by dsimp only; omega⟩, by dsimp only; omega, by dsimp only; omega⟩
set_option maxRecDepth 100000 in
set_option maxHeartbeats 2000000 in
theorem read_c {A : Option Addr} {n c : Nat} {l : List WRd} {w : World} (h : Rd encWR 4 w A n l) (hn : n ≤ 100) (ho : OneEach l) (hk : KeyWR l) :
    Calls Tryz.prog 45 #[.slice A n c] w fun e w' => ∃ M, e = .returned (.map (some M)) ∧ IsM w' M (psOf l) ∧ w.heap.size ≤ M ∧ Below w.heap.size w w' := by
  have hlen := h.len
  have HH := Lib.hid h; have HO := Lib.hid ho; have HK := Lib.hid hk; have HLEN := Lib.hid hlen
  have hM := (show IsM (w.alloc (.map #[] 0)) w.heap.size (psOf (l.take 0)) from heap_alloc_new w _)
  have HM := Lib.hid hM
  clear h ho hk hlen hM
  have hmm := @run_makeMap Tryz.prog
  go_enter Tryz.func45, Tryz.ntmps45
  go_wp2_with fail
  clear hmm
  go_loopw [5, 6, 7, 8, 12] (fun _ _ _ _ i wr => ∃ k : Nat, k ≤ n ∧ i = .int .i64 (k : Int) ∧ IsM wr w.heap.size (psOf (l.take k)) ∧ Below w.heap.size w wr) (fun _ _ _ _ i _ => n - (intOf i).toNat)
  case atStart => exact ⟨0, Nat.zero_le _, rfl, HM.out, (Below.refl _ _).alloc (Nat.le_refl _) _⟩
  case round =>
    obtain ⟨k, hk, rfl, hm, hb⟩ := hrel
    clear HM
    by_cases hlt : k < n
    · obtain ⟨b, o, x, rfl, hbl, hx, y0, y1, y2, y3⟩ := (HH.out.below hb).atWR hlt
      have hkx := HK.out x (List.mem_of_getElem? hx)
      have hok : okN (x.cell, x.day) := ⟨⟨by dsimp only; omega, by dsimp only; omega⟩, by dsimp only; omega, by dsimp only; omega⟩
      have hks : KeysOk (psOf (l.take k)) := KeyWR.ok (fun y hy => HK.out y (List.mem_of_mem_take hy))
      have hno : ∀ p ∈ psOf (l.take k), p.1 ≠ (x.cell, x.day) := by
        intro p hp e
        obtain ⟨y, hy, rfl⟩ := List.mem_map.1 hp
        obtain ⟨j, hj⟩ := List.getElem?_of_mem hy
        have hjk : j < k := by
          have := (List.getElem?_eq_some_iff.1 hj).1
          rw [List.length_take] at this; omega
        rw [List.getElem?_take_of_lt hjk] at hj
        have := HO.out j k y x hj hx (congrArg Prod.fst e) (congrArg Prod.snd e)
        omega
      have hsn : psOf (l.take k) ++ [((x.cell, x.day), (x.lo, x.hi))] = psOf (l.take (k + 1)) := by
        unfold psOf; rw [List.take_add_one, hx]; simp
      have hal := ((Below.refl wr.heap.size wr).alloc (Nat.le_refl _) (.cells #[.int .i64 x.cell, .int .i64 x.day, .int .i64 x.lo, .int .i64 x.hi] 65)).alloc (by simp) (.cells #[.int .i64 x.cell, .int .i64 x.day] 126)
      have hlk := look_no (hm.below hal) hks hok hno
      simp only [keyN] at hlk
      have HS := Lib.hid hsn; have HM := Lib.hid hm; have HB := Lib.hid hb; have HKS := Lib.hid hks; have HOK := Lib.hid hok; have HNO := Lib.hid hno
      clear hx hsn hal hm hb hks hok hno
      go_upto_region 9 with fail
      clear hlk y0 y1 y2 y3
      have hal := (((Below.refl wr.heap.size wr).alloc (Nat.le_refl _) (.cells #[.int .i64 x.cell, .int .i64 x.day, .int .i64 x.lo, .int .i64 x.hi] 65)).alloc (by simp) (.cells #[.int .i64 x.cell, .int .i64 x.day] 126)).alloc (by simp; omega) (.cells #[.int .i64 x.lo, .int .i64 x.hi] 44)
      have hm9 := HM.out.below hal
      have hup := upd_no hm9 HKS.out HOK.out HNO.out (x.lo, x.hi)
      simp only [keyN, valN] at hup
      have hgr := putM_grown ((((wr.alloc (.cells #[.int .i64 x.cell, .int .i64 x.day, .int .i64 x.lo, .int .i64 x.hi] 65)).alloc (.cells #[.int .i64 x.cell, .int .i64 x.day] 126)).alloc (.cells #[.int .i64 x.lo, .int .i64 x.hi] 44))) w.heap.size (psOf (l.take k) ++ [((x.cell, x.day), (x.lo, x.hi))])
      have him := hm9.put (psOf (l.take k) ++ [((x.cell, x.day), (x.lo, x.hi))])
      have hb9 := (below_tr HB.out hal).grown hgr (by have := HB.out.size; have := hal.size; omega) (fun g e => by cases e; exact Nat.le_refl _)
      rw [HS.out] at him hb9
      have HIM := Lib.hid him; have HB9 := Lib.hid hb9
      clear hal hm9 hgr him hb9
      rw [HS.out] at hup
      go_wp2_with fail
      go_roundw
      case rel => exact ⟨k + 1, by omega, by go_num, HIM.out, HB9.out⟩
      case measure => simp [intOf] <;> omega
    · obtain rfl : k = n := by omega
      go_wp2_with fail
      go_ret
      rw [List.take_of_length_le (by rw [HLEN.out]; exact Nat.le_refl _)] at hm
      exact ⟨_, rfl, hm, Nat.le_refl _, hb⟩
end Go.Proofs.YtjpobkmlcjbpiaaGreat
