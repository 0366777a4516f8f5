/- THE CONTRACT of Read's inner function lose: the places up to one are appended to what is lost. -/
import Derived.Test.YtkgoojilmnkgiaaScan
import Derived.RangeFuncBox
import Derived.RangeFuncNested
import Derived.Maps.AppendAt
namespace Go.Proofs.Ytkgoojilmnkgiaa
open Go.RowKit Go.Proofs

/-- Nothing that lay has turned, but for the blocks that E names. -/
structure Fr (E : Nat → Prop) (w w' : World) : Prop where
  os : w'.os = w.os
  tape : w'.tape = w.tape
  output : w'.output = w.output
  size : w.heap.size ≤ w'.heap.size
  block : ∀ g, g < w.heap.size → ¬ E g → w'.heap[g]? = w.heap[g]?
section
variable {E : Nat → Prop} {a b c : World}
theorem Fr.refl (E : Nat → Prop) (w : World) : Fr E w w := ⟨rfl, rfl, rfl, Nat.le_refl _, fun _ _ _ => rfl⟩
theorem Fr.trans (h : Fr E a b) (k : Fr E b c) : Fr E a c := ⟨k.os.trans h.os, k.tape.trans h.tape, k.output.trans h.output, Nat.le_trans h.size k.size, fun g hg hE => (k.block g (Nat.lt_of_lt_of_le hg h.size) hE).trans (h.block g hg hE)⟩
theorem Fr.wide {E' : Nat → Prop} (h : Fr E a b) (hw : ∀ g, g < a.heap.size → E g → E' g) : Fr E' a b := ⟨h.os, h.tape, h.output, h.size, fun g hg hE => h.block g hg fun he => hE (hw g hg he)⟩
theorem Fr.of_below (h : Below a.heap.size a b) (E : Nat → Prop) : Fr E a b := ⟨h.os, h.tape, h.output, h.size, fun g hg _ => h.block g hg⟩
theorem Fr.of_grown {row : Option Nat} (h : a.grownBy b row) (hE : ∀ g, row = some g → g < a.heap.size → E g) : Fr E a b :=
  ⟨h.os, h.tape, h.output, h.size, fun g hg hn => h.block g hg fun e => hn (hE g e.symm hg)⟩
theorem Fr.below {n₀ : Nat} (h : Fr E a b) (hn : n₀ ≤ a.heap.size) (hE : ∀ g, E g → n₀ ≤ g) : Below n₀ a b :=
  ⟨h.os, h.tape, h.output, h.size, fun g hg => h.block g (by omega) fun e => by have := hE g e; omega⟩
theorem Fr.setCell (h : Fr E a b) {g : Nat} (hg : E g ∨ a.heap.size ≤ g) (v : Value) : Fr E a (b.setCell ⟨g, 0, none⟩ v) :=
  ⟨h.os, h.tape, h.output, by simpa [World.setCell] using h.size, fun i hi hn => (Below.heap_setCell b ⟨g, 0, none⟩ v i (by
    rintro rfl
    rcases hg with hg | hg
    · exact hn hg
    · omega)).trans (h.block i hi hn)⟩
theorem Fr.step {row : Option Nat} (h : Fr E a b) (hg : b.grownBy c row) (hE : ∀ g, row = some g → E g ∨ a.heap.size ≤ g) : Fr E a c :=
  ⟨hg.os.trans h.os, hg.tape.trans h.tape, hg.output.trans h.output, Nat.le_trans h.size hg.size, fun g hlt hn => (hg.block g (Nat.lt_of_lt_of_le hlt h.size) fun e => by
    rcases hE g e.symm with h1 | h1
    · exact hn h1
    · omega).trans (h.block g hlt hn)⟩
theorem Fr.kept (h : Fr E a b) {g : Nat} {o : Obj} (hg : a.heap[g]? = some o) (hE : ¬ E g) : b.heap[g]? = some o := (h.block g (Array.getElem?_eq_some_iff.1 hg).1 hE).trans hg
theorem Fr.boxed (h : Fr E a b) {g : Nat} {t : TypeId} {v : Value} (hg : Boxed a g t v) (hE : ¬ E g) : Boxed b g t v := h.kept hg hE
/-- A row's block lies at or beyond its base. -/
theorem own_ge {w : World} {base : Nat} {e : TypeId} {size n : Nat} {v : Value} {xs : List Value} (h : w.ownsRow base e size v n xs) {g : Nat} (hg : g < base) : some g ≠ v.ownBlock := by
  intro e
  rcases h.2 with ⟨rfl, _⟩ | ⟨g', cap, cur, rfl, hb, _⟩
  · simp [Value.ownBlock] at e
  · simp [Value.ownBlock] at e; omega
theorem Fr.row (h : Fr E a b) {base : Nat} {e : TypeId} {size n : Nat} {v : Value} {xs : List Value} (hr : a.ownsRow base e size v n xs) (hE : ∀ g, v.ownBlock = some g → ¬ E g) : b.ownsRow base e size v n xs := by
  refine ⟨hr.1, ?_⟩
  rcases hr.2 with h0 | ⟨g, cap, cur, hv, hbase, hg, hrest⟩
  · exact .inl h0
  · exact .inr ⟨g, cap, cur, hv, hbase, h.kept hg (hE g (by rw [hv]; rfl)), hrest⟩
end

def natV (l : List Nat) : List Value := l.map fun (k : Nat) => Value.int .i64 (k : Int)
theorem natV_len (l : List Nat) : (natV l).length = l.length := by simp [natV]
theorem natV_append (a b : List Nat) : natV (a ++ b) = natV a ++ natV b := by simp [natV]
theorem infoI : (Try.prog.info? 3).map (fun i => (i.zero, i.size, i.bytes)) = some (some (.int .i64 0), 1, 8) := by kernel_rfl

set_option maxRecDepth 100000 in
set_option maxHeartbeats 1000000 in
theorem lose_c {n₀ Bn Bl : Nat} {v : Value} {xs : List Nat} {next upt : Nat} {w : World} (hN : Boxed w Bn 3 (.int .i64 next)) (hL : Boxed w Bl 33 v) (hrow : w.ownsRow n₀ 3 1 v xs.length (natV xs))
    (hlen : xs.length ≤ 1000000000) (hnext : next ≤ 100000) (hto : upt ≤ 100000) (hn₀ : n₀ ≤ w.heap.size) (hBn : Bn < n₀) (hBl : Bl < n₀) :
    Calls Try.prog 58 #[.int .i64 upt, .pointer (some ⟨Bn, 0, none⟩), .pointer (some ⟨Bl, 0, none⟩)] w fun e w' => e = .returned (.tuple #[]) ∧
      ∃ v', Boxed w' Bn 3 (.int .i64 (max next upt : Nat)) ∧ Boxed w' Bl 33 v' ∧ w'.ownsRow n₀ 3 1 v' (xs ++ fromTo next upt).length (natV (xs ++ fromTo next upt)) ∧ Fr (fun g => g = Bn ∨ g = Bl ∨ v.ownBlock = some g) w w' := by
  obtain ⟨i0, hi0, hz0, hz1, hz2⟩ := info_parts infoI
  have HI := Lib.hid hi0; have HZ0 := Lib.hid hz0; have HZ1 := Lib.hid hz1; have HZ2 := Lib.hid hz2
  clear hi0 hz0 hz1 hz2
  have HN := Lib.hid hN; have HL := Lib.hid hL; have HR := Lib.hid hrow
  clear hN hL hrow
  go_enter Try.func58, Try.ntmps58
  go_wp2_with fail
  go_loopw [] (fun wr => ∃ (k : Nat) (v' : Value), next ≤ k ∧ k ≤ max next upt ∧ Boxed wr Bn 3 (.int .i64 k) ∧ Boxed wr Bl 33 v' ∧ wr.ownsRow n₀ 3 1 v' (xs ++ fromTo next k).length (natV (xs ++ fromTo next k)) ∧
    Fr (fun g => g = Bn ∨ g = Bl ∨ v.ownBlock = some g) w wr ∧ (v'.ownBlock = v.ownBlock ∨ ∃ g, v'.ownBlock = some g ∧ w.heap.size ≤ g)) (fun wr => upt - (intOf ((wr.cell? ⟨Bn, 0, none⟩).getD undef)).toNat)
  case atStart => exact ⟨next, v, Nat.le_refl _, by omega, HN.out, HL.out, by rw [fromTo_nil (Nat.le_refl _), List.append_nil]; exact HR.out, Fr.refl _ _, .inl rfl⟩
  case round =>
    obtain ⟨k, v', hk1, hk2, hbn, hbl, hrow, hfr, hov⟩ := hrel
    have c1 := hbn.cell
    have c2 := hbl.cell
    have HF := Lib.hid hfr; have HBN := Lib.hid hbn; have HBL := Lib.hid hbl; have HROW := Lib.hid hrow; have HOV := Lib.hid hov
    clear hfr hbn hbl hrow hov
    by_cases hlt : k < upt
    · have hlt' : (k : Int) < (upt : Int) := by omega
      have hsz : n₀ ≤ wr.heap.size := Nat.le_trans hn₀ HF.out.size
      have hle : (xs ++ fromTo next k).length ≤ 1000100000 := by rw [List.length_append, fromTo_len]; omega
      have f1 := HBN.out.frozen
      have f2 := HBL.out.frozen
      have hne : Bn ≠ Bl := by
        rintro rfl
        have := (show wr.heap[Bn]? = _ from HBN.out).symm.trans HBL.out
        simp at this
      have hne' : Bl ≠ Bn := Ne.symm hne
      go_wp2_with (at_builtin; refine wpList_append_own_at _ rfl _ _ 33 rfl n₀ 3 i0 (.int .i64 0) 1 8 Try.underlying33 HI.out HZ0.out HZ1.out HZ2.out rfl (by decide) _ _ _ rfl (HROW.out.alloc _) ⟨wr.heap.size, 0, none⟩ 1 1 [.int .i64 k] rfl rfl (cell_one_new _ _ _) (by simp [Value.oneCell']) (by unfold maxLen; omega) (by omega) (by simp; omega) ?_; intro v2 w1 hown' hgrow _ hwh; obtain ⟨g', cap', rfl⟩ := ownsRow_succ hown'; have HG := Lib.hid hgrow; have HO := Lib.hid hown'; have HW := Lib.hid hwh; clear hown' hgrow hwh; have hb1 : Boxed w1 Bn 3 (.int .i64 k) := (HBN.out.alloc _).kept HG.out (own_ge HROW.out hBn); have hb2 : Boxed w1 Bl 33 v' := (HBL.out.alloc _).kept HG.out (own_ge HROW.out hBl); have d1 := hb1.cell; have d2 := hb2.cell; have e1 := hb1.frozen; have e2 := hb2.frozen)
      go_roundw
      case rel =>
        refine ⟨k + 1, .slice (some ⟨g', 0, none⟩) (xs.length + (fromTo next k).length + 1) cap', by omega, by omega, ?_, (hb2.set _).other hne' _, ?_, ?_, ?_⟩
        · have := (hb1.other hne (.slice (some ⟨g', 0, none⟩) (xs.length + (fromTo next k).length + 1) cap')).set (.int .i64 ((k : Int) + 1))
          simpa using this
        · have h2 := (HO.out.kept (grownBy_setCell' w1 Bl (.slice (some ⟨g', 0, none⟩) (xs.length + (fromTo next k).length + 1) cap')) (.inr (own_ge HO.out hBl).symm)).kept (grownBy_setCell' _ Bn (.int .i64 ((k : Int) + 1))) (.inr (own_ge HO.out hBn).symm)
          rw [fromTo_snoc hk1, ← List.append_assoc, natV_append]
          simpa [natV, Nat.add_assoc] using h2
        · refine (Fr.step (HF.out.step (World.grownBy_alloc wr _ none) (fun _ h => by cases h)) HG.out (fun g hg => ?_)).setCell (.inl (.inr (.inl rfl))) _ |>.setCell (.inl (.inl rfl)) _
          have hg' : v'.ownBlock = some g := hg
          clear hg
          rcases HOV.out with h1 | ⟨g2, h1, h2⟩
          · rw [h1] at hg'; exact .inl (.inr (.inr hg'))
          · rw [h1] at hg'; cases hg'; exact .inr h2
        · rcases HW.out with h1 | h1
          · have h1' : some g' = v'.ownBlock := h1
            rcases HOV.out with h2 | ⟨g2, h2, h3⟩
            · exact .inl (h1'.trans h2)
            · exact .inr ⟨g2, h1'.trans h2, h3⟩
          · have := HF.out.size
            have h3 : some g' = some (wr.heap.size + 1) := by simpa [Value.ownBlock] using h1
            cases h3
            exact .inr ⟨wr.heap.size + 1, rfl, by omega⟩
      case measure =>
        have := ((hb1.other hne (.slice (some ⟨g', 0, none⟩) (xs.length + (fromTo next k).length + 1) cap')).set (.int .i64 ((k : Int) + 1))).cell
        rw [this, c1]
        simp [intOf]; omega
    · have hlt' : ¬ (k : Int) < (upt : Int) := by omega
      obtain rfl : k = max next upt := by omega
      go_wp2_with fail
      go_end0
      refine ⟨rfl, HBN.out, v', HBL.out, ?_, HF.out⟩
      have := HROW.out
      rw [show fromTo next (max next upt) = fromTo next upt by unfold fromTo; congr 1; omega] at this
      simpa using this
end Go.Proofs.Ytkgoojilmnkgiaa
