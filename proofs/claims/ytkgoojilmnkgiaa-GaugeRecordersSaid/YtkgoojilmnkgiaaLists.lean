/- THE CONTRACTS of the law's Lists and few; how lists of readings read as an argument. -/
import Derived.Test.YtkgoojilmnkgiaaConvRead
import Derived.Test.YtkgoojilmnkgiaaOpen
import Derived.Test.YtkgoojilmnkgiaaRMerge
import Derived.Test.YtkgoojilmnkgiaaWrite
namespace Go.Proofs.Ytkgoojilmnkgiaa
open Go.RowKit Go.Proofs Go.ChangeShapes Go.WideShapes Go.Deep

theorem infoLst : (Try.prog.info? 28).map (fun i => (i.zero, i.size, i.bytes)) = some (some (.slice none 0 0), 1, 24) := by kernel_rfl
theorem own_tyne {W : World} {base base' : Nat} {e e' : TypeId} {size size' n n' : Nat} {v v' : Value} {xs xs' : List Value} (h : W.ownsRow base e size v n xs) (h' : W.ownsRow base' e' size' v' n' xs') (hne : e ≠ e') : ∀ g, v.ownBlock = some g → v'.ownBlock ≠ some g := by
  intro g hg hg'
  rcases h.2 with ⟨rfl, _⟩ | ⟨g1, cap, cur, rfl, _, hb, _⟩
  · simp [Value.ownBlock] at hg
  · rcases h'.2 with ⟨rfl, _⟩ | ⟨g2, cap', cur', rfl, _, hb', _⟩
    · simp [Value.ownBlock] at hg'
    · simp [Value.ownBlock] at hg hg'
      subst hg; subst hg'
      rw [hb] at hb'; injection hb' with hb'; injection hb' with _ hb'; exact hne hb'

theorem own_base {w : World} {base base' : Nat} {e : TypeId} {k n : Nat} {v : Value} {xs : List Value} (h : w.ownsRow base e k v n xs) (hb : base' ≤ base) : w.ownsRow base' e k v n xs := by
  refine ⟨h.1, ?_⟩
  rcases h.2 with h0 | ⟨g, cap, cur, hv, hbase, hrest⟩
  · exact .inl h0
  · exact .inr ⟨g, cap, cur, hv, Nat.le_trans hb hbase, hrest⟩

set_option maxRecDepth 100000 in
set_option maxHeartbeats 400000 in
theorem Readings_o {l : List Rdg} {A : Option Addr} {n c : Nat} {w : World} (h : Rd encR 4 w A n l) (hn : n ≤ 1000000) :
    Calls Try.prog 19 #[.slice A n c] w fun e w' => ∃ v, e = .returned v ∧ w'.ownsRow w.heap.size 53 4 v n (l.flatMap encR) ∧ Below w.heap.size w w' := by
  obtain ⟨i0, hi0, hz0, hz1, hz2⟩ := info_parts infoRdg
  have hl := h.len
  have HL := Lib.hid hl; clear hl
  have HI := Lib.hid hi0; have HZ0 := Lib.hid hz0; have HZ1 := Lib.hid hz1; have HZ2 := Lib.hid hz2
  clear hi0 hz0 hz1 hz2
  go_enter Try.func19, Try.ntmps19
  go_wp2_with fail
  go_loopw [3, 4] (fun v i wr => ∃ k : Nat, k ≤ n ∧ i = .int .i64 k ∧ wr.ownsRow w.heap.size 53 4 v k ((l.take k).flatMap encR) ∧ Below w.heap.size w wr) (fun _ i _ => n - (intOf i).toNat)
  case atStart => exact ⟨0, Nat.zero_le _, rfl, World.ownsRow_nil _ _ _ _, Below.refl _ _⟩
  case round =>
    obtain ⟨k, hk, rfl, hown, hb⟩ := hrel
    have HO := Lib.hid hown; clear hown
    by_cases hlt : k < n
    · obtain ⟨b, o, x, hA, _, hx, h0, h1, h2, h3⟩ := (h.below hb).at4 hlt
      subst hA
      have HX := Lib.hid hx; clear hx
      have HB := Lib.hid hb
      have hsz := hb.size
      clear hb
      go_wp2_with fail
      refine (to_c x _).mono ?_
      rintro e w2 ⟨rfl, hb2⟩
      have HO2 := Lib.hid (own_mono HO.out hb2)
      have hsz2 := hb2.size
      have HB2 := Lib.hid (below_tr HB.out hb2); clear hb2
      go_wp2_with (at_builtin; go_must (refine wpList_append_own_at _ rfl _ _ 28 rfl w.heap.size 53 i0 _ 4 32 Try.underlying28 HI.out HZ0.out HZ1.out HZ2.out rfl (by decide) _ _ _ rfl (HO2.out.alloc _) ⟨w2.heap.size, 0, none⟩ 1 1 (encR x) rfl rfl (fun j u hj => World.news_of_block (cs := #[.int .i64 x.ins, .int .i64 x.num, .int .i64 x.tim, .int .i64 x.val]) (t := 53) (fr := (0, 0)) (heap_alloc_new w2 _) j u hj) (by simp [Value.oneCell', encR]) (by unfold maxLen; omega) (by omega) (by simp; omega) ?_; intro v' w1 hown' hgrow _ _))
      have hown2 : Hid (w1.ownsRow w.heap.size 53 4 v' (k + 1) ((l.take (k + 1)).flatMap encR)) := by
        have := hown'
        rw [List.take_add_one, HX.out, List.flatMap_append]
        simp only [Option.toList_some, List.flatMap_cons, List.flatMap_nil, List.append_nil]
        exact this
      have hb2 : Hid (Below w.heap.size w w1) := (HB2.out.alloc HB2.out.size _).grown hgrow (by simp; omega) (fun g hg => (HO2.out.lt g hg).1)
      clear hown' hgrow
      go_roundw
      case rel => exact ⟨k + 1, by omega, by go_num, hown2.out, hb2.out⟩
      case measure => simp [intOf] <;> omega
    · obtain rfl : k = n := by omega
      have := HO.out
      rw [List.take_of_length_le (by rw [HL.out]; exact Nat.le_refl _)] at this
      have HO2 := Lib.hid this
      clear this
      go_wp2_with fail
      go_ret
      exact ⟨_, rfl, HO2.out, hb⟩

/-- the same lists, in memory of the call's own -/
def LS (base : Nat) (ls' : List Lst) (w : World) : Prop := ∀ (i : Nat) (x : Lst), ls'[i]? = some x → x.n ≤ x.c ∧ w.ownsRow base 53 4 (.slice x.A x.n x.c) x.n (x.l.flatMap encR) ∧ x.l.length = x.n
/-- lists alike: as long, the same readings -/
def Alike (ls ls' : List Lst) : Prop := ls'.map (fun x => (x.n, x.l)) = ls.map (fun x => (x.n, x.l))
theorem Alike.cat {ls ls' : List Lst} (h : Alike ls ls') : catL ls' = catL ls := by
  have e : ∀ L : List Lst, catL L = (L.map (fun x => (x.n, x.l))).flatMap (·.2) := fun L => by
    induction L with
    | nil => rfl
    | cons x L ih => simp only [catL, List.flatMap_cons, List.map_cons] at ih ⊢; rw [ih]
  rw [e, e, h]
theorem Alike.err {ls ls' : List Lst} (h : Alike ls ls') : errL ls' = errL ls := by
  have e : ∀ L : List Lst, errL L = (let M := L.map (fun x => (x.n, x.l)); if 6 < M.length ∨ (M.all fun x => decide (x.1 ≤ 200)) = false then 3 else if (M.all fun x => allB validB x.2) = false then 1 else 0) := fun L => by
    have e1 : allB shortB L = (L.map (fun x => (x.n, x.l))).all fun x => decide (x.1 ≤ 200) := by simp [allB, List.all_map, Function.comp_def]; rfl
    have e2 : allB valB L = (L.map (fun x => (x.n, x.l))).all fun x => allB validB x.2 := by simp [allB, List.all_map, Function.comp_def]; rfl
    unfold errL
    rw [e1, e2]
    simp only [List.length_map]
  rw [e, e, h]
theorem oneS (x : Lst) : ∀ u ∈ encL x, u.oneCell' = true := by intro u hu; simp [encL] at hu; subst hu; rfl

set_option maxRecDepth 100000 in
set_option maxHeartbeats 1000000 in
theorem Lists_c {ls : List Lst} {A : Option Addr} {n c : Nat} {w : World} (h : RdLL w A n ls) (hn : n ≤ 100000) (hN : ∀ x ∈ ls, x.n ≤ 100000) :
    Calls Try.prog 48 #[.slice A n c] w fun e w' => ∃ A' c' ls', e = .returned (.slice A' n c') ∧ n ≤ c' ∧ RdLL w' A' n ls' ∧ Alike ls ls' ∧ Below w.heap.size w w' := by
  obtain ⟨i0, hi0, hz0, hz1, hz2⟩ := info_parts infoLst
  have HL := Lib.hid h.1.len
  have HH := Lib.hid h
  have HN := Lib.hid hN
  have HI := Lib.hid hi0; have HZ0 := Lib.hid hz0; have HZ1 := Lib.hid hz1; have HZ2 := Lib.hid hz2
  clear hi0 hz0 hz1 hz2 h hN
  go_enter Try.func48, Try.ntmps48
  go_wp2_with fail
  go_loopw [3, 4] (fun v i wr => ∃ (k : Nat) (ls' : List Lst), k ≤ n ∧ i = .int .i64 k ∧ wr.ownsRow w.heap.size 28 1 v k (ls'.flatMap encL) ∧ LS w.heap.size ls' wr ∧ Alike (ls.take k) ls' ∧ ls'.length = k ∧ Below w.heap.size w wr) (fun _ i _ => n - (intOf i).toNat)
  case atStart => exact ⟨0, [], Nat.zero_le _, rfl, World.ownsRow_nil _ _ _ _, (fun i x hx => by simp at hx), rfl, rfl, Below.refl _ _⟩
  case round =>
    obtain ⟨k, ls', hk, rfl, hown, hls, hal, hlk, hb⟩ := hrel
    have HO := Lib.hid hown; have HLS := Lib.hid hls; have HAL := Lib.hid hal; have HB := Lib.hid hb; have HLK := Lib.hid hlk
    have hsz := hb.size
    clear hown hls hal hb hlk
    by_cases hlt : k < n
    · have hHr := HH.out.below HB.out
      obtain ⟨b, o, x, hA, hbl, hx, h0⟩ := hHr.1.atL hlt
      subst hA
      have hxr := (hHr.2 k x hx).1
      have hxn := HN.out x (List.mem_of_getElem? hx)
      have HRO := Lib.hid (Readings_o (c := x.c) hxr (by omega))
      have HXL := Lib.hid hxr.len
      have HX := Lib.hid hx
      have hkn : (k : Int) < (n : Int) := by omega
      have hk0 : (0 : Int) ≤ (k : Int) := by omega
      clear hx hxr hHr
      go_wp2_with fail
      refine HRO.out.mono ?_
      rintro e w2 ⟨v2, rfl, hown2, hb2⟩
      obtain ⟨A2, c2, rfl, hc2⟩ := own_form hown2
      have HO2 := Lib.hid (own_mono HO.out hb2)
      have hsz2 := hb2.size
      have HB2 := Lib.hid (below_tr HB.out hb2)
      have HLS2 : Hid (LS w.heap.size (ls' ++ [(⟨A2, x.n, c2, x.l⟩ : Lst)]) w2) := Lib.hid (fun i y hy => by
        rcases Nat.lt_or_ge i ls'.length with hi | hi
        · rw [List.getElem?_append_left hi] at hy
          exact ⟨(HLS.out i y hy).1, own_mono (HLS.out i y hy).2.1 hb2, (HLS.out i y hy).2.2⟩
        · rw [List.getElem?_append_right hi] at hy
          have hye : y = ⟨A2, x.n, c2, x.l⟩ := by have := List.mem_of_getElem? hy; simpa using this
          subst hye
          exact ⟨hc2, own_base hown2 hsz, HXL.out⟩)
      clear hown2 hb2 HRO
      go_wp2_with (at_builtin; go_must (refine wpList_append_own_at _ rfl _ _ 94 rfl w.heap.size 28 i0 _ 1 24 Try.underlying94 HI.out HZ0.out HZ1.out HZ2.out rfl (by decide) _ _ _ rfl (HO2.out.alloc _) ⟨w2.heap.size, 0, none⟩ 1 1 [.slice A2 x.n c2] rfl rfl (cell_one_new _ _ _) (by simp [Value.oneCell']) (by unfold maxLen; omega) (by omega) (by simp; omega) ?_; intro v' w1 hown' hgrow _ _))
      have HO3 : Hid (w1.ownsRow w.heap.size 28 1 v' (k + 1) ((ls' ++ [(⟨A2, x.n, c2, x.l⟩ : Lst)]).flatMap encL)) := by
        show World.ownsRow _ _ _ _ _ _ _
        rw [List.flatMap_append]; simpa [encL] using hown'
      have HLS3 : Hid (LS w.heap.size (ls' ++ [(⟨A2, x.n, c2, x.l⟩ : Lst)]) w1) := Lib.hid (fun i y hy => by
        have h1 := HLS2.out i y hy
        have h2 := own_mono h1.2.1 ((Below.refl _ w2).alloc (Nat.le_refl _) (.cells #[.slice A2 x.n c2] 28))
        exact ⟨h1.1, own_kept h2 hgrow (fun g hg e => own_tyne h2 (HO2.out.alloc _) (by decide) g hg e), h1.2.2⟩)
      have HLS3' := HLS3
      have HAL3 : Hid (Alike (ls.take (k + 1)) (ls' ++ [(⟨A2, x.n, c2, x.l⟩ : Lst)])) := by
        show Alike _ _
        unfold Alike
        rw [List.take_add_one, HX.out, List.map_append, List.map_append, HAL.out]; rfl
      have HB3 : Hid (Below w.heap.size w w1) := (HB2.out.alloc HB2.out.size _).grown hgrow (by simp; omega) (fun g hg => (HO2.out.lt g hg).1)
      clear hown' hgrow
      go_wp2_with fail
      go_roundw
      case rel => exact ⟨k + 1, ls' ++ [(⟨A2, x.n, c2, x.l⟩ : Lst)], by omega, by go_num, HO3.out, HLS3.out, HAL3.out, by simp; exact HLK.out, HB3.out⟩
      case measure => simp [intOf] <;> omega
    · obtain rfl : n = k := by omega
      rw [List.take_of_length_le (by rw [HL.out]; exact Nat.le_refl _)] at HAL
      obtain ⟨A', c', rfl, hc'⟩ := own_form HO.out
      go_wp2_with fail
      go_ret
      refine ⟨A', c', ls', rfl, hc', ⟨Rd.of_own encL_len HO.out HLK.out, fun i x hx => ?_⟩, HAL.out, HB.out⟩
      have h1 := HLS.out i x hx
      refine ⟨Rd.of_own encR_len h1.2.1 h1.2.2, ?_, h1.1⟩
      have : x.n ≤ 100000 := by
        have h2 : (x.n, x.l) ∈ ls'.map (fun x => (x.n, x.l)) := List.mem_map.2 ⟨x, List.mem_of_getElem? hx, rfl⟩
        rw [HAL.out] at h2
        obtain ⟨y, hy, e⟩ := List.mem_map.1 h2
        have := HN.out y hy
        injection e with e _; omega
      unfold maxLen; omega

/-- few lists, of few readings -/
def fewB (ls : List Lst) : Bool := (ls.all fun x => !(decide (205 < x.n) || (decide (1 < ls.length) && decide (40 < x.n)))) && decide (ls.length ≤ 8)

set_option maxRecDepth 100000 in
theorem few_c {ls : List Lst} {A : Option Addr} {n c : Nat} {w : World} (h : RdLL w A n ls) (hn : n ≤ maxLen) :
    Calls Try.prog 46 #[.slice A n c] w fun e w' => e = .returned (.bool (fewB ls)) ∧ Below w.heap.size w w' := by
  have HL := Lib.hid h.1.len
  have HH := Lib.hid h
  unfold maxLen at hn
  clear h
  go_enter Try.func46, Try.ntmps46
  go_wp2_with fail
  go_loopw [3] (fun i wr => ∃ k : Nat, k ≤ n ∧ i = .int .i64 k ∧ (∀ (j : Nat) (x : Lst), j < k → ls[j]? = some x → ¬ 205 < x.n ∧ ¬ (1 < n ∧ 40 < x.n)) ∧ Below w.heap.size w wr) (fun i _ => n - (intOf i).toNat)
  case atStart => exact ⟨0, Nat.zero_le _, rfl, fun j x hj => absurd hj (by omega), Below.refl _ _⟩
  case round =>
    obtain ⟨k, hk, rfl, hall, hb⟩ := hrel
    have HA := Lib.hid hall; have HB := Lib.hid hb
    clear hall hb
    by_cases hlt : k < n
    · have hHr := HH.out.below HB.out
      obtain ⟨b, o, x, hA, hbl, hx, h0⟩ := hHr.1.atL hlt
      subst hA
      have HX := Lib.hid hx
      have hkn : (k : Int) < (n : Int) := by omega
      have hk0 : (0 : Int) ≤ (k : Int) := by omega
      have hno : (205 < x.n ∨ (1 < n ∧ 40 < x.n)) → fewB ls = false := fun hc => by
        unfold fewB
        rw [Bool.and_eq_false_iff]; left
        rw [List.all_eq_false]
        refine ⟨x, List.mem_of_getElem? hx, ?_⟩
        rw [HL.out]
        simp; omega
      have HNO := Lib.hid hno
      clear hx hHr hno
      have hcs : (205 < (x.n : Int)) ∨ (¬ 205 < (x.n : Int) ∧ 1 < (n : Int) ∧ 40 < (x.n : Int)) ∨ (¬ 205 < (x.n : Int) ∧ 1 < (n : Int) ∧ ¬ 40 < (x.n : Int)) ∨ (¬ 205 < (x.n : Int) ∧ ¬ 1 < (n : Int)) := by omega
      rcases hcs with g1 | ⟨g1, g2, g3⟩ | ⟨g1, g2, g3⟩ | ⟨g1, g2⟩
      · have HF := Lib.hid (HNO.out (by omega))
        go_wp2_with fail
        go_ret
        exact ⟨ret_bool HF.out.symm, HB.out⟩
      · have HF := Lib.hid (HNO.out (by omega))
        go_wp2_with fail
        go_ret
        exact ⟨ret_bool HF.out.symm, HB.out⟩
      all_goals
        have HA2 : Hid (∀ (j : Nat) (y : Lst), j < k + 1 → ls[j]? = some y → ¬ 205 < y.n ∧ ¬ (1 < n ∧ 40 < y.n)) := Lib.hid (fun j y hj hy => by
          rcases Nat.lt_or_ge j k with h' | h'
          · exact HA.out j y h' hy
          · obtain rfl : j = k := by omega
            rw [HX.out] at hy; cases hy; omega)
        go_wp2_with fail
        go_roundw
        case rel => exact ⟨k + 1, by omega, by go_num, HA2.out, HB.out⟩
        case measure => simp [intOf] <;> omega
    · obtain rfl : n = k := by omega
      have HF : Hid (fewB ls = decide (n ≤ 8)) := by
        show _ = _
        unfold fewB
        rw [HL.out, List.all_eq_true.2 (fun x hx => by
          obtain ⟨j, hj⟩ := List.getElem?_of_mem hx
          have := HA.out j x (by have := (List.getElem?_eq_some_iff.1 hj).1; rw [HL.out] at this; exact this) hj
          simp; omega)]
        rfl
      by_cases h8 : n ≤ 8
      · have h8' : (n : Int) ≤ 8 := by omega
        have HF2 : Hid (fewB ls = true) := by show _ = _; rw [HF.out]; exact decide_eq_true h8
        clear h8
        go_wp2_with fail
        go_ret
        exact ⟨ret_bool HF2.out.symm, HB.out⟩
      · have h8' : ¬ (n : Int) ≤ 8 := by omega
        have HF2 : Hid (fewB ls = false) := by show _ = _; rw [HF.out]; exact decide_eq_false h8
        clear h8
        go_wp2_with fail
        go_ret
        exact ⟨ret_bool HF2.out.symm, HB.out⟩

section
variable {H : Type} {enc : TypeId × Value → H} {P : Program} {w : World} {base : Nat} {spare : Nat → Bool} {held : Bool}
theorem rd_lists_of {t e s : TypeId} {fs : Array Field} {A : Option Addr} {len cap : Nat} {d : DataW H} {p : List MemPlace} (ht : P.underlying t = some (.slice e)) (hs : P.underlying e = some (.slice s)) (hce : P.cellsOf e = 1) (he : P.underlying s = some (.struct fs))
    (hone : oneCellFields P fs = true) (hC : P.cellsOf s = fs.size) (hk : fs.size = 4) {ti : TypeId} (hti : P.underlying ti = some (.int .i64)) (hall : ∀ f ∈ fs.toList, f.type = ti) (h : DataW.Trod enc P w base spare held t (.slice A len cap) d p) :
    ∃ ls : List Lst, RdLL w A len ls ∧ len ≤ cap ∧ cap ≤ maxLen := by
  obtain ⟨fuel, hf⟩ := h
  rcases open_slice ht hf with h0 | ⟨a, len', cap', m, n, D, Pl, hcs, hb, hl, hm, hmm, hx, hi⟩
  · have h1 := h0.1
    simp [Value.cells] at h1
    obtain ⟨rfl, rfl, rfl⟩ := h1
    exact ⟨[], ⟨Rd.nil _ _ _ _, fun i x hx => by simp at hx⟩, Nat.le_refl _, Nat.zero_le _⟩
  · simp [Value.cells] at hcs
    obtain ⟨rfl, rfl, rfl⟩ := hcs
    have hlm : len ≤ m := by rw [hmm]; split <;> omega
    obtain ⟨ls, hll, hp⟩ := list_choice (P := fun i (x : Lst) => w.cell? (a.add i) = some (.slice x.A x.n x.c) ∧ Rd encR 4 w x.A x.n x.l ∧ x.n ≤ maxLen ∧ x.n ≤ x.c) len (fun i hil => by
      obtain ⟨cs', hc, ht'⟩ := hi i (by omega)
      rw [hce] at hc
      obtain ⟨_, hcl, hat⟩ := World.cells?_some hc
      have hat0 := hat 0 (by omega)
      rw [Nat.mul_one] at hat0
      have hadd : (a.add i).add 0 = a.add i := by unfold Addr.add; simp
      rw [hadd] at hat0
      have hsh : ∃ (A' : Option Addr) (n' c' : Nat), cs' = [.slice A' n' c'] := by
        rcases open_slice hs ht' with h1 | ⟨a1, l1, c1, _, _, _, _, h1, _⟩
        · exact ⟨none, 0, 0, h1.1⟩
        · exact ⟨some a1, l1, c1, h1⟩
      obtain ⟨A', n', c', rfl⟩ := hsh
      obtain ⟨l, h1, h2, h3, _⟩ := rd_structs (en := encR) mk4 mk4_enc (A := A') (len := n') (cap := c') hs he hone hC hk (by omega) hti hall ⟨n, ht'⟩
      exact ⟨⟨A', n', c', l⟩, by simpa using hat0, h1, Nat.le_trans h2 h3, h2⟩)
    refine ⟨ls, ⟨⟨hll, fun hn => ?_⟩, fun i x hx => ?_⟩, hl, hm⟩
    · obtain ⟨x0, hx0⟩ : ∃ x, ls[0]? = some x := ⟨_, List.getElem?_eq_getElem (by omega)⟩
      obtain ⟨b, off, spot⟩ := a
      have hc0 := (hp 0 x0 hx0).1
      have hsp : spot = none := by simpa [Addr.add] using World.cell?_spot hc0
      subst hsp
      refine ⟨b, off, rfl, ?_, fun i x hx j v hv => ?_⟩
      · exact World.block_lt_of_cell? w _ (by simpa [Addr.add] using hc0)
      · match j, hv with
        | 0, hv =>
          simp [encL] at hv; subst hv
          have := (hp i x hx).1
          have hadd : (⟨b, off, none⟩ : Addr).add i = ⟨b, off + i, none⟩ := by unfold Addr.add; split <;> simp_all
          rw [hadd] at this
          rw [Nat.mul_one, Nat.add_zero]; exact this
    · exact (hp i x hx).2
end
end Go.Proofs.Ytkgoojilmnkgiaa
