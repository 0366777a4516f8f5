/- THE CONTRACT of look.dangers: the dangers of all parcels in a truth. -/
import Derived.Test.YtphdndiikikecaaZHits
import Derived.Test.YtphdndiikikecaaZRound
import Derived.Maps.OwnIn
import Derived.Laws.EntriesVeiled
import Derived.Laws.MakeOwn
import Derived.Deep.DrawnRows
set_option linter.unusedVariables false
set_option linter.unusedSimpArgs false
namespace Go.Proofs.Ytphdndiikikecaa
open Go.RowKit Go.Proofs Go.Shelf
attribute [local go_sem] Oper.semAt_some

/-- the cells of a row of ints -/
def intsA (l : List Int) : Array Value := (l.map fun n => Value.int .i64 n).toArray
theorem intsA_get {l : List Int} {i : Nat} : (intsA l)[i]? = (l[i]?).map fun n => Value.int .i64 n := by simp [intsA]
theorem intsA_size {l : List Int} : (intsA l).size = l.length := by simp [intsA]
theorem intsA_set {l : List Int} {i : Nat} {n : Int} : (intsA l).setIfInBounds i (.int .i64 n) = intsA (l.set i n) := by simp [intsA, List.map_set]
theorem intsA_flat {l : List Int} : (intsA l).toList = l.flatMap enc1 := by
  simp only [intsA]
  induction l with
  | nil => rfl
  | cons a l ih => simp [enc1] at ih ⊢; exact ih
theorem Rd.of_blk {w : World} {g n : Nat} {t : TypeId} {l : List Int} (h : Blk w g t (intsA l)) (hl : l.length = n) : Rd enc1 1 w (some ⟨g, 0, none⟩) n l := by
  refine ⟨hl, fun _ => ⟨g, 0, rfl, h.lt, fun i x hx j u hu => ?_⟩⟩
  have hj : j = 0 := by
    have := (List.getElem?_eq_some_iff.1 hu).1
    simp [enc1] at this; exact this
  subst hj
  simp [enc1] at hu
  subst hu
  have := h.cell i
  rw [intsA_get, hx] at this
  simpa using this

/-- what has been added up after some hits -/
def dRow (v : Vly) (pre : List (Nat × Int)) : List Int := (List.range v.pars.length).map fun p : Nat => dSum v.sls (p : Int) pre
theorem dRow_len {v : Vly} {pre : List (Nat × Int)} : (dRow v pre).length = v.pars.length := by simp [dRow]
theorem dRow_get {v : Vly} {pre : List (Nat × Int)} {i : Nat} (h : i < v.pars.length) : (dRow v pre)[i]? = some (dSum v.sls (i : Int) pre) := by simp [dRow, h]
theorem dRow_snoc {v : Vly} {pre : List (Nat × Int)} {k q : Nat} {s : Sli} (hs : v.sls[k]? = some s) : dRow v (pre ++ [(k, (q : Int))]) = (dRow v pre).set q (dSum v.sls (q : Int) pre + s.rate) := by
  refine List.ext_getElem? fun i => ?_
  by_cases hi : i < v.pars.length
  · rw [dRow_get hi, dSum_snoc, List.getElem?_set, dRow_len, dRow_get hi, rateOf_of hs]
    by_cases hq : q = i
    · subst hq; simp [hi]
    · have : ¬ (q : Int) = (i : Int) := by omega
      simp [hq, this]
  · rw [List.getElem?_eq_none (by rw [dRow_len]; omega), List.getElem?_eq_none (by rw [List.length_set, dRow_len]; omega)]
theorem infoN : (Try.prog.info? 3).map (fun i => (i.zero, i.size, i.bytes)) = some (some (.int .i64 0), 1, 8) := by kernel_rfl
theorem mk_ints (n : Nat) (hn : n ≤ 1000000) (W : World) : (Instr.makeSlice 39 (.int .i64 (n : Int)) (.int .i64 (n : Int))).run Try.prog W = .ok (.slice (some ⟨W.heap.size, 0, none⟩) n n) (W.alloc (.cells (intsA (List.replicate n 0)) 3)) := by
  obtain ⟨i, h0, hz0, hz1, hz2⟩ := info_parts infoN
  have := run_make (P := Try.prog) W 39 3 i _ Try.underlying39 h0 hz0 .i64 .i64 n n (by omega) (by omega) (by rw [hz2]; omega) (by omega)
  rw [hz1] at this
  have e : madeCells (Value.int IntKind.i64 0).cells ((n : Int).toNat * 1) = intsA (List.replicate n 0) := by
    apply Array.ext_getElem?
    intro j
    simp only [intsA_get, madeCells, List.getElem?_replicate]
    by_cases h : j < n
    · have hm : j % 1 = 0 := Nat.mod_one j
      simp [h, Value.cells, Array.getElem?_range, hm]
    · simp [h, Array.getElem?_range]
  rw [e] at this
  simpa using this

/-- What holds between two rounds: the box of out, its row, the look's box. -/
def DI (w : World) (s : Nat) (v : Vly) (L : Array Value) (pre : List (Hit v.sls.length v.pars.length)) (W : World) : Prop :=
  Boxed W (s + 1 + 1) 39 (.slice (some ⟨s + 1, 0, none⟩) v.pars.length v.pars.length) ∧ (Blk W (s + 1) 3 (intsA (dRow v (pre.map hitOf))) ∧ Blk W s 105 L) ∧ Below s w W
theorem blk_own {α : Type} {B : Nat} (g : α → Nat) (t : TypeId) (cs : α → Array Value) : OwnFrom B (fun (s : α) (W : World) => Blk W (g s) t (cs s)) := fun s A C row h hg hr => Blk.grown h hg (fun e => by
  obtain ⟨_, o, ho, hc⟩ := hr _ e.symm
  rw [show A.heap[g s]? = _ from h] at ho; cases ho; cases hc)
theorem DI_own (w : World) (s : Nat) (v : Vly) (L : Array Value) (hs : s ≤ w.heap.size) {B : Nat} (hB : s ≤ B) : OwnFrom B (DI w s v L) :=
  OwnFrom.and (Own.from (boxed_own _ _ _) _) (OwnFrom.and (OwnFrom.and (blk_own _ _ _) (blk_own _ _ _)) (ownFrom_below hs hB))

set_option maxRecDepth 100000 in
set_option maxHeartbeats 2000000 in
theorem dangers_in {v : Vly} {tr : List Int} {PA SA TA : Option Addr} {pn pc sn sc tn tc : Nat} {w : World} (hok : VOk v) (hfit : Fits v tr) (hV : RdV w PA pn SA sn v) (hT : Rd enc1 1 w TA tn tr) :
    CallsIn Fence.wide 8 Try.prog 55 #[.agg #[.slice PA pn pc, .slice SA sn sc, .int .i64 v.s0, .int .i64 v.s1, .int .i64 v.s2, .slice TA tn tc]] w fun e w' => ∃ g, e = .returned (.slice (some ⟨g, 0, none⟩) pn pn) ∧
      w.heap.size ≤ g ∧ Blk w' g 3 (intsA (dangs v tr)) ∧ Below w.heap.size w w' := by
  have hpl := hV.pars.len
  subst hpl
  have hpn := hok.pn
  have HOK := Lib.hid hok; have HF := Lib.hid hfit; have HV := Lib.hid hV; have HT := Lib.hid hT
  clear hok hfit hV hT
  have hmk := mk_ints v.pars.length (by omega)
  refine callsIn_of_wp_marks Try.func55 rfl trivial ?_ rfl
  simp only [Try.ntmps55, List.size_toArray, List.length_cons, List.length_nil, Nat.reduceAdd, Nat.reduceSub, Array.replicate_succ, Array.replicate_zero, List.push_toArray, List.append_toArray, List.nil_append, List.cons_append]
  gi_wp2_with (refine ⟨trivial, ?_⟩; gi_at_call 81; refine (hits_c _ _ _ _ _ _ _ _ _ _ _ _ _ _).mono ?_; rintro e w' ⟨rfl, rfl⟩)
  obtain ⟨L, hL⟩ : ∃ L : Array Value, L = #[.slice PA v.pars.length pc, .slice SA sn sc, .int .i64 v.s0, .int .i64 v.s1, .int .i64 v.s2, .slice TA tn tc] := ⟨_, rfl⟩
  obtain ⟨W0, hW0⟩ : ∃ W0 : World, (((w.alloc (.cells #[.slice PA v.pars.length pc, .slice SA sn sc, .int .i64 v.s0, .int .i64 v.s1, .int .i64 v.s2, .slice TA tn tc] 105)).alloc (.cells (intsA (List.replicate v.pars.length 0)) 3)).alloc (.cells #[.slice (some ⟨w.heap.size + 1, 0, none⟩) v.pars.length v.pars.length] 39)).alloc (.cells #[.slice PA v.pars.length pc, .slice SA sn sc, .int .i64 v.s0, .int .i64 v.s1, .int .i64 v.s2, .slice TA tn tc] 105) = W0 := ⟨_, rfl⟩
  have b1 := (((Blk.new w 105 L).alloc (.cells (intsA (List.replicate v.pars.length 0)) 3)).alloc (.cells #[.slice (some ⟨w.heap.size + 1, 0, none⟩) v.pars.length v.pars.length] 39)).alloc (.cells L 105)
  have b2 := ((Blk.new (w.alloc (.cells L 105)) 3 (intsA (List.replicate v.pars.length 0))).alloc (.cells #[.slice (some ⟨w.heap.size + 1, 0, none⟩) v.pars.length v.pars.length] 39)).alloc (.cells L 105)
  have b3 := (Boxed.new ((w.alloc (.cells L 105)).alloc (.cells (intsA (List.replicate v.pars.length 0)) 3)) 39 (.slice (some ⟨w.heap.size + 1, 0, none⟩) v.pars.length v.pars.length)).alloc (.cells L 105)
  have b4 := Blk.new (((w.alloc (.cells L 105)).alloc (.cells (intsA (List.replicate v.pars.length 0)) 3)).alloc (.cells #[.slice (some ⟨w.heap.size + 1, 0, none⟩) v.pars.length v.pars.length] 39)) 105 L
  rw [hL] at b1 b2 b3 b4
  simp only [World.size_alloc] at b2 b3 b4
  have hbel : Below w.heap.size w W0 := by
    rw [← hW0]; exact ((((Below.refl _ w).alloc (Nat.le_refl _) _).alloc (by simp) _).alloc (by simp; omega) _).alloc (by simp; omega) _
  have hsz : W0.heap.size = w.heap.size + 1 + 1 + 1 + 1 := by rw [← hW0]; simp
  rw [hW0] at b1 b2 b3 b4
  rw [hW0]
  have hr0 : List.replicate v.pars.length (0 : Int) = dRow v [] := by
    refine List.ext_getElem? fun i => ?_
    by_cases hi : i < v.pars.length
    · rw [dRow_get hi, List.getElem?_replicate, if_pos hi]; rfl
    · rw [List.getElem?_eq_none (by simp; omega), List.getElem?_eq_none (by rw [dRow_len]; omega)]
  rw [hr0] at b2
  rw [← hL] at b1
  clear hW0 hr0 hmk
  refine wpIn_rangeFunc_ownH rfl (by omega) (gf := 93) (lb := #[.pointer (some ⟨w.heap.size + 1 + 1 + 1, 0, none⟩)]) rfl trivial (enters_of Try.func93 (by kernel_rfl) rfl)
    (hits_stops 7 (by omega) (w.heap.size + 1 + 1 + 1) (pc := pc) (sc := sc) (tc := tc) HOK.out HF.out HV.out HT.out hbel b4) kpL_t (kpL_b (by omega)) (Below.refl _ _) (fun _ => rfl)
    (DI w w.heap.size v L)
    (fun _ _ _ => False)
    (DI_own w _ v L (Nat.le_refl _) (by omega))
    (fun _ _ _ _ _ hs _ _ => hs)
    ⟨b3, ⟨b2, b1⟩, hbel⟩
    (fun x a' W => a' = { tmps := #[.agg #[.slice PA v.pars.length pc, .slice SA sn sc, .int .i64 v.s0, .int .i64 v.s1, .int .i64 v.s2, .slice TA tn tc], .pointer (some ⟨w.heap.size, 0, none⟩), .slice none 0 0, .pointer (some ⟨w.heap.size + 1 + 1, 0, none⟩), .int .i64 (x.1.1 : Int), .int .i64 (x.1.2 : Int), .pointer (some ⟨w.heap.size, 0, none⟩), .pointer (some ⟨w.heap.size, 0, none⟩), .slice PA v.pars.length pc,
        .int .i64 (v.pars.length : Int), .slice (some ⟨w.heap.size + 1, 0, none⟩) v.pars.length v.pars.length, .agg #[.slice PA v.pars.length pc, .slice SA sn sc, .int .i64 v.s0, .int .i64 v.s1, .int .i64 v.s2, .slice TA tn tc], .func (.func 93) #[] #[.pointer (some ⟨w.heap.size + 1 + 1 + 1, 0, none⟩)],
        .int .i64 (x.1.1 : Int), .int .i64 (x.1.2 : Int), undef, undef, undef, undef, undef, undef, undef, undef, undef, undef, undef, undef, undef, undef], defers := [] })
    (fun x a' _ X Y row hs _ _ => hs)
    ?assign ?body ?done ?stop
  case assign =>
    rintro l pre x W K hI hK
    dsimp only [encH]
    gi_wp2
    exact hK _ _ ((KeepsOthers.refl _).from _) ⟨Below.refl _ W, fun v hv => hv⟩ hI rfl
  case body =>
    rintro l pre x a' W hl ⟨r, hr⟩ ⟨hb3, ⟨hb2, hb1⟩, hB⟩ rfl hlt
    obtain ⟨⟨k, q⟩, hk, hq⟩ := x
    simp only at hk hq ⊢
    obtain ⟨b, o, x, hA, hb, hx, e0, e1, e2, e3⟩ := ((HV.out.below hB).sls).atS (i := k) (by rw [← (HV.out.below hB).sls.len]; exact hk)
    have hrow : W.cell? ⟨w.heap.size + 1, q, none⟩ = some (.int .i64 (dSum v.sls (q : Int) (pre.map hitOf))) := by
      rw [hb2.cell q, intsA_get, dRow_get hq]; rfl
    have hfr : W.frozen? ⟨w.heap.size + 1, q, none⟩ = false := hb2.frozen q
    have hbd := dSum_bd (sls := v.sls) (fun k s hs => by have := (HOK.out.slide hs).2.2.1; omega) (q : Int) (pre.map hitOf)
    have hrate := (HOK.out.slide hx).2.2.1
    rw [List.length_map] at hbd
    have hw1 : IntKind.i64.wrap (dSum v.sls (q : Int) (pre.map hitOf) + x.rate) = dSum v.sls (q : Int) (pre.map hitOf) + x.rate := wi (by omega)
    have hset := dRow_snoc (pre := pre.map hitOf) (q := q) hx
    have hc3 := hb3.cell
    have hc1 := hb1.cell 1
    rw [hL] at hc1
    simp at hc1
    have hks : (k : Int) < (sn : Int) := by have := HV.out.sls.len; omega
    have hk0 : (0 : Int) ≤ (k : Int) := by omega
    have hq0 : (0 : Int) ≤ (q : Int) := by omega
    have hqn : (q : Int) < (v.pars.length : Int) := by omega
    have hne : ¬ (w.heap.size + 1 = w.heap.size + 1 + 1) := by omega
    have HB1 := Lib.hid hb1; have HB2 := Lib.hid hb2; have HB3 := Lib.hid hb3; have HB := Lib.hid hB; have HX := Lib.hid hx; have HSET := Lib.hid hset
    generalize hd : dSum v.sls (q : Int) (pre.map hitOf) = d at hrow hbd hw1
    have HD := Lib.hid hd
    subst hA
    clear hb1 hb2 hb3 hB hx hset hd
    gi_wp2
    refine wpIn_region_round_store (F := Fence.wide) (ops := [_, _, _, _, _, _, _, _, _, _, _, _, _]) (st := _) rfl (by kernel_rfl) (by kernel_rfl) (by kernel_rfl) (by kernel_rfl) (by kernel_rfl) (by kernel_rfl) ?_
    repeat (gi_big_quiet_step (fail))
    refine wpQuietIn_nil ?_
    intro m K hK
    first | gi_big_move | gi_big_op
    refine hK _ _ ?_
    have hbf : Below w.heap.size W ((W.drewN m).setCell ⟨w.heap.size + 1, q, none⟩ (.int .i64 (d + x.rate))) := (below_drewN (Below.refl _ W) m).setCell (by simp) _
    refine ⟨((show KeepsOthers W (W.drewN m) from ⟨Nat.le_refl _, fun _ _ h _ => h⟩).trans (KeepsOthers.setCell _ _ _)).from _, ⟨hbf, fun cs hv => (Blk.drewN hv m).far (by simp; omega) _⟩, (show Blk _ _ _ _ from (Blk.drewN (show Blk _ _ _ _ from HB3.out) m).far (by simp) _), ⟨?_, (Blk.drewN HB1.out m).far (by simp) _⟩, HB.out.trans hbf⟩
    have h2 := (Blk.drewN HB2.out m).set_ q (.int .i64 (d + x.rate))
    rw [intsA_set, ← HD.out, ← HSET.out] at h2
    rw [List.map_append, ← HD.out]
    exact h2
  case done =>
    rintro D ys W hD hys ⟨hb3, ⟨hb2, hb1⟩, hB⟩ hK
    have c3 := hb3.cell
    have HB2 := Lib.hid hb2; have HB := Lib.hid hB; have HK := Lib.hid hK; have HYS := Lib.hid hys
    clear hb2 hB hb1 hb3 hys b1 b2 b4
    gi_wp2
    refine ⟨by simp, .inl ?_⟩
    refine ⟨_, _, rfl, run_takeDeferred hK, ?_⟩
    have gD := grownBy_putObj' W D (.deferred none)
    have p2 := Blk.grown HB2.out gD (by simp; omega)
    have hfin : Below w.heap.size w (W.putObj D (.deferred none)) := HB.out.trans (belowK_b (w := w) (Nat.le_refl _) W D _ _ (by omega) HK.out rfl rfl)
    have hds : dRow v (ys.map hitOf) = dangs v tr := by rw [HYS.out]; exact dSum_all HOK.out HF.out.1
    rw [hds] at p2
    refine ⟨.slice (some ⟨w.heap.size + 1, 0, none⟩) v.pars.length v.pars.length, ?_, ⟨w.heap.size + 1, rfl, by omega, p2, hfin⟩⟩
    simp [results, Try.f55, go_sem]
  case stop =>
    rintro D c pre W _ _ h _
    exact h.elim
/-- The dangers of all parcels in a truth. -/
theorem dangers_c {v : Vly} {tr : List Int} {PA SA TA : Option Addr} {pn pc sn sc tn tc : Nat} {w : World} (hok : VOk v) (hfit : Fits v tr) (hV : RdV w PA pn SA sn v) (hT : Rd enc1 1 w TA tn tr) :
    Calls Try.prog 55 #[.agg #[.slice PA pn pc, .slice SA sn sc, .int .i64 v.s0, .int .i64 v.s1, .int .i64 v.s2, .slice TA tn tc]] w fun e w' => ∃ g, e = .returned (.slice (some ⟨g, 0, none⟩) pn pn) ∧
      w.heap.size ≤ g ∧ Blk w' g 3 (intsA (dangs v tr)) ∧ Below w.heap.size w w' := callsIn_wide.1 (dangers_in hok hfit hV hT)
end Go.Proofs.Ytphdndiikikecaa
