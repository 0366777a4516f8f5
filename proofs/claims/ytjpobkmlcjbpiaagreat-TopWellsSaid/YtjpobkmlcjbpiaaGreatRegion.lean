/- THE CONTRACTS of Reading.valid and gauge.check. -/
import Derived.Test.YtjpobkmlcjbpiaaGreatAllReading
import Derived.Test.YtjpobkmlcjbpiaaGreatAllLists2
import Derived.Test.YtjpobkmlcjbpiaaGreatVoc
import Derived.BigQuiet
import Derived.Deep.QuietTactic
import Derived.StillTail
set_option linter.unusedVariables false
set_option linter.unusedSimpArgs false
namespace Go.Proofs.YtjpobkmlcjbpiaaGreat.Ga
open Go.RowKit Go.Proofs

def validB (r : Rdg) : Bool := inB r.ins 0 255 && inB r.num 0 65535 && inB r.tim 0 1000000000 && inB r.val (-1000000000) 1000000000
theorem validB_iff {r : Rdg} : validB r = true ↔ (0 ≤ r.ins ∧ r.ins ≤ 255) ∧ (0 ≤ r.num ∧ r.num ≤ 65535) ∧ (0 ≤ r.tim ∧ r.tim ≤ 1000000000) ∧ -1000000000 ≤ r.val ∧ r.val ≤ 1000000000 := by
  simp [validB, inB_iff, and_assoc]

set_option maxHeartbeats 400000 in
theorem valid_c (r : Rdg) (w : World) :
    Calls Tryz.prog 64 #[.agg #[.int .i64 r.ins, .int .i64 r.num, .int .i64 r.tim, .int .i64 r.val]] w fun e w' => e = .returned (.bool (validB r)) ∧ Below w.heap.size w w' := by
  have hv : validB r = (inB r.ins 0 255 && inB r.num 0 65535 && inB r.tim 0 1000000000 && inB r.val (-1000000000) 1000000000) := rfl
  cases h1 : inB r.ins 0 255
  · have hm : validB r = false := by rw [hv, h1]; rfl
    have HM := Lib.hid hm; clear hm hv
    go_enter Tryz.func64, Tryz.ntmps64
    go_wp2_with (first | (go_at_call 87; refine (within_c _ _ _ _).mono ?_; rintro e w' ⟨rfl, rfl⟩) | (go_at_call 88; refine (tick_c _ _).mono ?_; rintro e w' ⟨rfl, rfl⟩) | (go_at_call 89; refine (signal_c _ _).mono ?_; rintro e w' ⟨rfl, rfl⟩))
    go_ret
    exact ⟨ret_bool HM.out.symm, (Below.refl _ _).alloc (Nat.le_refl _) _⟩
  · cases h2 : inB r.num 0 65535
    · have hm : validB r = false := by rw [hv, h1, h2]; rfl
      have HM := Lib.hid hm; clear hm hv
      go_enter Tryz.func64, Tryz.ntmps64
      go_wp2_with (first | (go_at_call 87; refine (within_c _ _ _ _).mono ?_; rintro e w' ⟨rfl, rfl⟩) | (go_at_call 88; refine (tick_c _ _).mono ?_; rintro e w' ⟨rfl, rfl⟩) | (go_at_call 89; refine (signal_c _ _).mono ?_; rintro e w' ⟨rfl, rfl⟩))
      go_ret
      exact ⟨ret_bool HM.out.symm, (Below.refl _ _).alloc (Nat.le_refl _) _⟩
    · cases h3 : inB r.tim 0 1000000000
      · have hm : validB r = false := by rw [hv, h1, h2, h3]; rfl
        have HM := Lib.hid hm; clear hm hv
        go_enter Tryz.func64, Tryz.ntmps64
        go_wp2_with (first | (go_at_call 87; refine (within_c _ _ _ _).mono ?_; rintro e w' ⟨rfl, rfl⟩) | (go_at_call 88; refine (tick_c _ _).mono ?_; rintro e w' ⟨rfl, rfl⟩) | (go_at_call 89; refine (signal_c _ _).mono ?_; rintro e w' ⟨rfl, rfl⟩))
        go_ret
        exact ⟨ret_bool HM.out.symm, (Below.refl _ _).alloc (Nat.le_refl _) _⟩
      · have hm : validB r = inB r.val (-1000000000) 1000000000 := by rw [hv, h1, h2, h3]; rfl
        have HM := Lib.hid hm; clear hm hv
        go_enter Tryz.func64, Tryz.ntmps64
        go_wp2_with (first | (go_at_call 87; refine (within_c _ _ _ _).mono ?_; rintro e w' ⟨rfl, rfl⟩) | (go_at_call 88; refine (tick_c _ _).mono ?_; rintro e w' ⟨rfl, rfl⟩) | (go_at_call 89; refine (signal_c _ _).mono ?_; rintro e w' ⟨rfl, rfl⟩))
        go_ret
        exact ⟨ret_bool HM.out.symm, (Below.refl _ _).alloc (Nat.le_refl _) _⟩

theorem allValid_c {l : List Rdg} {A : Option Addr} {n c : Nat} {w : World} (h : Rd encR 4 w A n l) (hn : n ≤ maxLen) :
    Calls Tryz.prog 63 #[.slice A n c, .func (.func 64) #[] #[]] w fun e w' => e = .returned (.bool (allB validB l)) ∧ Below w.heap.size w w' :=
  allReading_c w h hn fun _ x W _ _ => valid_c x W

def shortB (x : Lst) : Bool := decide (x.n ≤ 200)
def valB (x : Lst) : Bool := allB validB x.l

theorem check1_c (x : Lst) (w : World) : Calls Tryz.prog 61 #[.slice x.A x.n x.c] w fun e w' => e = .returned (.bool (shortB x)) ∧ Below w.heap.size w w' := by
  go_enter Tryz.func61, Tryz.ntmps61
  go_wp2
  go_ret
  exact ⟨ret_bool (by simp [shortB]; omega), Below.refl _ _⟩
theorem check2_c (x : Lst) (w : World) (h : Rd encR 4 w x.A x.n x.l) (hn : x.n ≤ maxLen) : Calls Tryz.prog 62 #[.slice x.A x.n x.c] w fun e w' => e = .returned (.bool (valB x)) ∧ Below w.heap.size w w' := by
  go_enter Tryz.func62, Tryz.ntmps62
  go_wp2_with (go_at_call 63; refine (allValid_c h hn).mono ?_; rintro e w' ⟨rfl, hb⟩)
  go_ret
  exact ⟨rfl, hb⟩

/-- The error of lists of readings. -/
def errL (ls : List Lst) : Int := if 6 < ls.length ∨ allB shortB ls = false then 3 else if allB valB ls = false then 1 else 0

/-- Lists of readings in memory. -/
def RdLL (w : World) (A : Option Addr) (n : Nat) (ls : List Lst) : Prop := Rd encL 1 w A n ls ∧ ∀ (i : Nat) (x : Lst), ls[i]? = some x → Rd encR 4 w x.A x.n x.l ∧ x.n ≤ maxLen ∧ x.n ≤ x.c
theorem RdLL.below {w w' : World} {A : Option Addr} {n : Nat} {ls : List Lst} (h : RdLL w A n ls) (hb : Below w.heap.size w w') : RdLL w' A n ls :=
  ⟨h.1.mono hb, fun i x hx => ⟨(h.2 i x hx).1.mono hb, (h.2 i x hx).2⟩⟩

set_option maxHeartbeats 400000 in
theorem check_c {ls : List Lst} {A : Option Addr} {n c : Nat} {w : World} (h : RdLL w A n ls) (hn : n ≤ maxLen) :
    Calls Tryz.prog 28 #[.slice A n c] w fun e w' => e = .returned (.int .i64 (errL ls)) ∧ Below w.heap.size w w' := by
  have hl := h.1.len
  have HL := Lib.hid hl; clear hl
  by_cases h6 : 6 < n
  · have he : errL ls = 3 := by unfold errL; rw [if_pos (.inl (by rw [HL.out]; exact h6))]
    have HE := Lib.hid he; clear he
    go_enter Tryz.func28, Tryz.ntmps28
    go_wp2_with fail
    go_ret
    exact ⟨ret_int HE.out.symm, Below.refl _ _⟩
  · have c1 := fun (W : World) (hW : Below w.heap.size w W) => allLists1_c (p := shortB) (c := c) W (h.1.mono hW) hn fun _ x W' _ _ => check1_c x W'
    have c2 := fun (W : World) (hW : Below w.heap.size w W) => allLists2_c (p := valB) (c := c) W (h.1.mono hW) hn fun i x W' hx hW' => check2_c x W' ((h.2 i x hx).1.mono (below_tr hW hW')) (h.2 i x hx).2.1
    have C1 := Lib.hid c1; have C2 := Lib.hid c2; clear c1 c2
    cases hs : allB shortB ls
    · have he : errL ls = 3 := by unfold errL; rw [if_pos (.inr hs)]
      have HE := Lib.hid he; clear he
      go_enter Tryz.func28, Tryz.ntmps28
      go_wp2_with fail
      refine (C1.out _ (Below.refl _ _)).mono ?_
      rintro e w1 ⟨rfl, hb1⟩
      go_wp2_with fail
      go_ret
      exact ⟨ret_int HE.out.symm, hb1⟩
    · cases hv : allB valB ls
      · have he : errL ls = 1 := by unfold errL; rw [if_neg (by rw [HL.out, hs]; simp; omega), if_pos hv]
        have HE := Lib.hid he; clear he
        go_enter Tryz.func28, Tryz.ntmps28
        go_wp2_with fail
        refine (C1.out _ (Below.refl _ _)).mono ?_
        rintro e w1 ⟨rfl, hb1⟩
        go_wp2_with fail
        refine (C2.out _ hb1).mono ?_
        rintro e w2 ⟨rfl, hb2⟩
        go_wp2_with fail
        go_ret
        exact ⟨ret_int HE.out.symm, below_tr hb1 hb2⟩
      · have he : errL ls = 0 := by unfold errL; rw [if_neg (by rw [HL.out, hs]; simp; omega), if_neg (by rw [hv]; simp)]
        have HE := Lib.hid he; clear he
        go_enter Tryz.func28, Tryz.ntmps28
        go_wp2_with fail
        refine (C1.out _ (Below.refl _ _)).mono ?_
        rintro e w1 ⟨rfl, hb1⟩
        go_wp2_with fail
        refine (C2.out _ hb1).mono ?_
        rintro e w2 ⟨rfl, hb2⟩
        go_wp2_with fail
        go_ret
        exact ⟨ret_int HE.out.symm, below_tr hb1 hb2⟩
end Go.Proofs.YtjpobkmlcjbpiaaGreat.Ga

namespace Go.Proofs.YtjpobkmlcjbpiaaGreat.Ga
open Go.RowKit

/-- A world in which all that lay in w0 lies unturned. -/
def Ext (w0 : World) : Type := { W : World // Below w0.heap.size w0 W }
instance (w0 : World) : Nonempty (Ext w0) := ⟨⟨w0, Below.refl _ _⟩⟩
def Ext.w {w0 : World} (p : Ext w0) : World := p.1
theorem Ext.below {w0 : World} (p : Ext w0) : Below w0.heap.size w0 p.w := p.2
@[go_sem] theorem Ext.cell {w0 : World} (p : Ext w0) {b o : Nat} (h : b < w0.heap.size) : p.w.cell? ⟨b, o, none⟩ = w0.cell? ⟨b, o, none⟩ := p.below.cell (p := ⟨b, o, none⟩) h
@[go_sem] theorem Ext.ex {w0 : World} (p : Ext w0) : (∃ q : Ext w0, p.w = q.w) = True := by simp only [eq_iff_iff, iff_true]; exact ⟨p, rfl⟩

section
variable {P : Program} {ops : Array Oper} {md : Region.Mode} {C : World → Prop}

theorem ext_call {f : FuncId} {args : Array Value} {w0 : World} {v : Value} {p : Ext w0} (h : Calls P f args p.w fun e w' => e = .returned v ∧ Below p.w.heap.size p.w w') :
    Calls P f args p.w fun e w'' => e = .returned v ∧ ∃ q : Ext w0, w'' = q.w :=
  h.mono fun _ w' ⟨he, hb⟩ => ⟨he, ⟨w', p.below.trans (hb.mono p.below.size)⟩, rfl⟩
theorem ext_same {f : FuncId} {args : Array Value} {w0 : World} {v : Value} {p : Ext w0} (h : Calls P f args p.w fun e w' => e = .returned v ∧ p.w = w') :
    Calls P f args p.w fun e w'' => e = .returned v ∧ ∃ q : Ext w0, w'' = q.w :=
  h.mono fun _ _ ⟨he, hb⟩ => ⟨he, p, hb.symm⟩

theorem wp_region_ext {id : Nat} {Q : Exit → Act → World → Prop} {a : Act} {w : World} {l : List Oper} (hm : P.follows .mixedOrders = true) (hB : Region.lexB .any l.toArray = true)
    (h : wpQuiet P l.toArray (fun w' => ∃ p : Ext w, w' = p.w) (fun a' => ∀ w', (∃ p : Ext w, w' = p.w) → Q .normal a' w') l a) : (Code.region id l.toArray true).wp P Q a w :=
  wp_region_quiet (C := fun w' => ∃ p : Ext w, w' = p.w) hm hB ⟨⟨w.drew, (Below.refl _ _).drew⟩, rfl⟩ (by simpa using h)

/-- every operation that stands ready lies in the head -/
def headQ (P : Program) (md : Region.Mode) (ops : Array Oper) (C : World → Prop) (n : Nat) (L : Array Bool → Act → Prop) : Nat → Array Bool → Act → Prop
  | 0, listed, a => L listed a
  | f + 1, listed, a => Region.ready md ops listed ≠ [] ∧ ∀ i ∈ Region.ready md ops listed, i < n ∧ qOp P ops C i (headQ P md ops C n L f (listed.setIfInBounds i true)) a

theorem any_of_headQ {n g : Nat} {L : Array Bool → Act → Prop} {Q' : Exit → Act → World → Prop} (hL : ∀ listed a w, C w → L listed a → wpAny P md ops Q' g listed a w) :
    ∀ (f : Nat) (listed : Array Bool) (a : Act) (w : World), C w → headQ P md ops C n L f listed a → wpAny P md ops Q' (f + g) listed a w
  | 0, listed, a, w, hC, h => by rw [Nat.zero_add]; exact hL _ _ _ hC h
  | f + 1, listed, a, w, hC, h => by
    rw [show f + 1 + g = (f + g) + 1 by omega]
    exact ⟨fun h0 => absurd h0 h.1, fun i hi => wpOp_of_qOp hC (fun a' w' hC' h' => any_of_headQ hL f _ a' w' hC' h') (h.2 i hi).2⟩

theorem headQ_first {n i : Nat} {oi : Oper} {v : Value} {L : Array Bool → Act → Prop} (hi : ops[i]? = some oi) (hsel : ∀ (j : Nat) (o : Oper) cs b, ops[j]? = some o → o.op ≠ .select cs b)
    (hs : Region.sinkB md ops n = true) (hc : Region.chainB md ops n = true) (hn : n < ops.size) (hin : i < n) (hdone : ∀ listed a, L listed a → ∀ j ∈ Region.ready md ops listed, n ≤ j) :
    ∀ (f : Nat) (listed : Array Bool) (a : Act), HeadInv md ops n listed →
      (∀ j oj, ops[j]? = some oj → j ≠ i → listed.getD j true = false → (∀ e ∈ oj.after, Region.binds md e = true → e.on ≠ i) → oi.apart ops oj = true) →
      i ∈ Region.ready md ops listed → YieldsIn P ops C oi v a → headQ P md ops C n L f (listed.setIfInBounds i true) (a.put oi.dst v) → headQ P md ops C n L (f + 1) listed a := by
  intro f
  induction f with
  | zero =>
    intro listed a inv _ hr hy H
    have hun := (mem_ready.1 hr).1
    refine ⟨fun h => (by rw [h] at hr; cases hr), fun j hj => ?_⟩
    have hjn : j < n := by
      rcases Nat.lt_or_ge j n with h | h
      · exact h
      · exact absurd hj (tail_waits hs hc hn inv _ i rfl hin hun j h)
    refine ⟨hjn, ?_⟩
    by_cases hji : j = i
    · subst hji; exact hy.qOp hi H
    · have := hdone _ _ H j (ready_mono hj hji)
      omega
  | succ f ih =>
    intro listed a inv hfree hr hy H
    have hun := (mem_ready.1 hr).1
    refine ⟨fun h => (by rw [h] at hr; cases hr), fun j hj => ?_⟩
    have hjn : j < n := by
      rcases Nat.lt_or_ge j n with h | h
      · exact h
      · exact absurd hj (tail_waits hs hc hn inv _ i rfl hin hun j h)
    refine ⟨hjn, ?_⟩
    by_cases hji : j = i
    · subst hji; exact hy.qOp hi H
    · have h1 := (H.2 j (ready_mono hj hji)).2
      obtain ⟨hjun, oj, hoj, hall⟩ := mem_ready.1 hj
      have hnot : ∀ e ∈ oj.after, Region.binds md e = true → e.on ≠ i := fun e he hb heq => by
        have h1 := hall e he hb
        rw [heq, getD_both hun] at h1
        cases h1
      have h2 := qOp_put hoj (hfree j oj hoj hji hjun hnot) (fun cs b => hsel i oi cs b hi) (fun cs b => hsel j oj cs b hoj) hy h1
      have hfree' : ∀ k ok, ops[k]? = some ok → k ≠ i → (listed.setIfInBounds j true).getD k true = false →
          (∀ e ∈ ok.after, Region.binds md e = true → e.on ≠ i) → oi.apart ops ok = true := fun k ok hk hki hun hno => by
        refine hfree k ok hk hki ?_ hno
        by_cases hjk : j = k
        · subst hjk; exact hjun
        · rw [getD_set_ne true hjk] at hun; exact hun
      refine qOp_mono (fun a' h3 => ih (listed.setIfInBounds j true) a' (inv.set hj hjn) hfree' (ready_mono hr (Ne.symm hji)) h3.1 ?_) h2
      rw [Array.setIfInBounds_comm _ _ hji]
      exact h3.2

theorem headQ_lex {n g : Nat} {Lq : Act → Prop} (hsel : Region.noSelect ops = true) (hs : Region.sinkB md ops n = true) (hc : Region.chainB md ops n = true) (hn : n < ops.size) :
    ∀ (l : List Oper) (k : Nat) (listed : Array Bool) (a : Act), (∀ j, j < l.length → l[j]? = ops[k + j]?) → k + l.length = n → HeadInv md ops n listed →
    Region.lexHead md ops g l.length k listed = true → wpQuiet P ops C Lq l a →
    headQ P md ops C n (fun listed' a' => Region.seqB md ops g n listed' = true ∧ Lq a') l.length listed a
  | [], k, listed, a, _, hk, _, hB, h => by
    have : k = n := by simpa using hk
    subst this
    exact ⟨by simpa [Region.lexHead] using hB, h⟩
  | o :: l, k, listed, a, hl, hk, inv, hB, h => by
    have h0 : ops[k]? = some o := by simpa using (hl 0 (by simp)).symm
    simp only [List.length_cons, Region.lexHead, Bool.and_eq_true] at hB
    obtain ⟨⟨hr, hf⟩, hB'⟩ := hB
    have hkn : k < n := by simp only [List.length_cons] at hk; omega
    have hr' : k ∈ Region.ready md ops listed := by simpa using hr
    have hst : qOp P ops C k (wpQuiet P ops C Lq l) a := by unfold qOp; simp only [h0]; exact h
    obtain ⟨v, hy, hK⟩ := yieldsIn_of_qOp h0 hst
    exact headQ_first h0 (Region.noSelect_spec hsel) hs hc hn hkn (fun listed' a' hL => seqB_ready hL.1) l.length listed a inv (Region.free_spec h0 hf) hr' hy
      (headQ_lex hsel hs hc hn l (k + 1) _ _ (fun j hj => by have := hl (j + 1) (by simp; omega); simpa [Nat.add_assoc, Nat.add_comm 1 j] using this) (by simp only [List.length_cons] at hk; omega) (inv.set hr' hkn) hB' hK)

/-- A head of quiet operations in whatever order, then a tail in the order of the text. -/
theorem wp_region_quiet_tail {id : Nat} {Q : Exit → Act → World → Prop} {a : Act} {w : World} {l : List Oper} (C : World → Prop) (n : Nat) (hm : P.follows .mixedOrders = true) (hB : Region.lexTailB .any l.toArray n = true)
    (hC : C w.drew) (h : wpQuiet P l.toArray C (fun a' => ∀ w', C w' → wpList P l.toArray Q (l.drop n) a' w') (l.take n) a) : (Code.region id l.toArray true).wp P Q a w := by
  simp only [Region.lexTailB, Bool.and_eq_true, decide_eq_true_eq] at hB
  obtain ⟨⟨⟨⟨hsel, hn⟩, hs⟩, hc⟩, hlex⟩ := hB
  have hn' : n < l.length := by simpa using hn
  have htl : (l.take n).length = n := by simp; omega
  have hdl : (l.drop n).length = l.toArray.size - n := by simp
  have inv0 : HeadInv .any l.toArray n (Array.replicate l.toArray.size false) :=
    ⟨by simp, fun j oj _ hl => (by rw [getD_replicate_false] at hl; cases hl), fun t _ ht => getD_in (by simpa using ht) (getD_replicate_false _ _)⟩
  have H := headQ_lex (md := .any) (g := l.toArray.size - n) hsel hs hc hn (l.take n) 0 _ a (fun j hj => by
    have hj' : j < n := by rw [htl] at hj; exact hj
    simp [hj']) (by simpa using htl) inv0 (by rw [htl]; exact hlex) h
  refine wp_region_any hm ?_
  have := any_of_headQ (Q' := Q) (g := l.toArray.size - n) (fun listed a' w' hC' hL => by
    have := wpAny_of_seq (md := .any) (Q' := Q) (l.drop n) n listed a' w' (fun j => by simp [List.getElem?_drop]) (by rw [hdl]; exact hL.1) (hL.2 w' hC')
    rwa [hdl] at this) _ _ _ _ hC H
  rw [htl, show n + (l.toArray.size - n) = l.toArray.size by omega] at this
  exact this

theorem wp_region_ext_tail {id : Nat} {Q : Exit → Act → World → Prop} {a : Act} {w : World} {l : List Oper} (n : Nat) (hm : P.follows .mixedOrders = true) (hB : Region.lexTailB .any l.toArray n = true)
    (h : wpQuiet P l.toArray (fun w' => ∃ p : Ext w, w' = p.w) (fun a' => ∀ w', (∃ p : Ext w, w' = p.w) → wpList P l.toArray Q (l.drop n) a' w') (l.take n) a) : (Code.region id l.toArray true).wp P Q a w :=
  wp_region_quiet_tail (fun w' => ∃ p : Ext w, w' = p.w) n hm hB ⟨⟨w.drew, (Below.refl _ _).drew⟩, rfl⟩ h
end
end Go.Proofs.YtjpobkmlcjbpiaaGreat.Ga
