/- WORDS for a loop over all days that collects the levels: what holds between two rounds. -/
import Derived.Test.YtjpobkmlcjbpiaaGreatYNow
import Derived.Test.YtjpobkmlcjbpiaaGreatYRow
import Derived.Test.YtjpobkmlcjbpiaaGreatYAllCel
import Derived.Test.YtjpobkmlcjbpiaaGreatYOk
import Derived.Test.YtjpobkmlcjbpiaaGreatKRound
import Derived.RangeFuncNested
import Derived.RangeFuncBound
import Derived.RangeFuncCalls
import Derived.RangeFuncLeaves
import Derived.RangeFuncBox
import Derived.Shelf.Abstract
import Derived.Shelf.RegionOpen
import Derived.OwnWalkIn
import Derived.TacticsInMore
import Derived.LoopNIn
import Derived.LoopIn
set_option linter.unusedVariables false
set_option linter.unusedSimpArgs false
namespace Go.Proofs.YtjpobkmlcjbpiaaGreat
open Go.RowKit Go.Proofs

/-- a list of numbers in memory -/
structure RowI where
  A : Option Addr
  n : Nat
  c : Nat
  l : List Int
def encI (r : RowI) : List Value := [.slice r.A r.n r.c]
theorem encI_len (r : RowI) : (encI r).length = 1 := rfl
theorem oneI (r : RowI) : ∀ u ∈ encI r, u.oneCell' = true := by intro u hu; simp [encI] at hu; subst hu; rfl
/-- rows of the call's own, each in its own memory -/
def OwnRs (base : Nat) (rs : List RowI) (W : World) : Prop := ∀ r ∈ rs, W.ownsRow base 3 1 (.slice r.A r.n r.c) r.n (r.l.flatMap enc1)
theorem cell_put {W : World} {p : Addr} {v : Value} {l : Nat} {o o' : Obj} (h : W.cell? p = some v) (hl : W.heap[l]? = some o') (hc : o'.isCells = false) : (W.putObj l o).cell? p = some v := by
  have hne : p.block ≠ l := by
    rintro rfl
    unfold World.cell? at h
    rw [hl] at h
    cases o' <;> simp_all [Obj.isCells]
  rw [World.cell?_of_block (w := W) (a := p) (World.putObj_heap_other hne)]
  exact h
theorem Rd.put {α : Type} {enc : α → List Value} {k : Nat} {W : World} {A : Option Addr} {n : Nat} {l : List α} (h : Rd enc k W A n l) {b : Nat} {o o' : Obj} (hl : W.heap[b]? = some o') (hc : o'.isCells = false) : Rd enc k (W.putObj b o) A n l :=
  ⟨h.1, fun hn => by
    obtain ⟨g, of, e, hlt, hx⟩ := h.2 hn
    exact ⟨g, of, e, by simpa using hlt, fun i x hi j v hv => cell_put (hx i x hi j v hv) hl hc⟩⟩
theorem Blk.put {W : World} {g : Nat} {t : TypeId} {cs : Array Value} (h : Blk W g t cs) {b : Nat} {o o' : Obj} (hl : W.heap[b]? = some o') (hc : o'.isCells = false) : Blk (W.putObj b o) g t cs := by
  have hne : g ≠ b := by
    rintro rfl
    rw [show W.heap[g]? = _ from h] at hl
    cases hl
    cases hc
  exact (World.putObj_heap_other hne).trans h
theorem own_put {W : World} {base : Nat} {e : TypeId} {k n : Nat} {v : Value} {xs : List Value} (h : W.ownsRow base e k v n xs) {b : Nat} {o o' : Obj} (hl : W.heap[b]? = some o') (hc : o'.isCells = false) : (W.putObj b o).ownsRow base e k v n xs := by
  refine ⟨h.1, ?_⟩
  rcases h.2 with h0 | ⟨g, cap, cur, hv, hbase, hg, hrest⟩
  · exact .inl h0
  · exact .inr ⟨g, cap, cur, hv, hbase, Blk.put hg hl hc, hrest⟩
theorem Blk.ne {W : World} {g g' : Nat} {t t' : TypeId} {cs cs' : Array Value} (h : Blk W g t cs) (h' : Blk W g' t' cs') (hne : t ≠ t') : g ≠ g' := by
  rintro rfl
  have e := (show W.heap[g]? = _ from h).symm.trans (show W.heap[g]? = _ from h')
  injection e with e
  injection e with _ e
  exact hne e
theorem below_put {B : Nat} {w W : World} (h : Below B w W) {b : Nat} (hb : B ≤ b) (o : Obj) : Below B w (W.putObj b o) :=
  h.trans ⟨rfl, rfl, rfl, by simp, fun g hg => World.putObj_heap_other (by omega)⟩
/-- the loop's memory: the way, its pointer's two boxes, the box of what is collected -/
structure RunI (E : WE) (w : World) (base : Nat) (W0 Bx Bw Bo : Nat) (s : WaySt) (k : Nat) (v vb : Value) (rs : List RowI) (W : World) : Prop where
  blk : E.blk W W0 s
  rds : E.Rds W
  bx : Blk W Bx 79 #[.pointer (some ⟨W0, 0, none⟩)]
  bw : Blk W Bw 79 #[.pointer (some ⟨W0, 0, none⟩)]
  bo : Blk W Bo 39 #[vb]
  own : W.ownsRow base 33 1 v k (rs.flatMap encI)
  len : rs.length = k
  rows : ∀ (j : Nat) (r : RowI), rs[j]? = some r → r.n = E.CS.n ∧ r.l = (E.st (j + 1)).lv
  owns : OwnRs base rs W
  bel : Below w.heap.size w W
  hb : w.heap.size ≤ base
  hs : base ≤ W.heap.size
section
variable {E : WE} {w : World} {base : Nat} {W0 Bx Bw Bo : Nat} {s : WaySt} {k : Nat} {v vb : Value} {rs : List RowI} {W W' : World}
theorem RunI.below (h : RunI E w base W0 Bx Bw Bo s k v vb rs W) (hb : Below W.heap.size W W') : RunI E w base W0 Bx Bw Bo s k v vb rs W' :=
  ⟨h.blk.below hb h.blk.lt, h.rds.below hb, h.bx.below hb h.bx.lt, h.bw.below hb h.bw.lt, h.bo.below hb h.bo.lt, own_mono h.own hb, h.len, h.rows, fun r hr => own_mono (h.owns r hr) hb, h.bel.trans (hb.mono h.bel.size), h.hb, Nat.le_trans h.hs hb.size⟩
theorem RunI.put (h : RunI E w base W0 Bx Bw Bo s k v vb rs W) {b : Nat} {o o' : Obj} (hB : w.heap.size ≤ b) (hl : W.heap[b]? = some o') (hc : o'.isCells = false) : RunI E w base W0 Bx Bw Bo s k v vb rs (W.putObj b o) :=
  ⟨Blk.put h.blk hl hc, ⟨h.rds.c.put hl hc, h.rds.d.put hl hc, h.rds.r.put hl hc⟩, h.bx.put hl hc, h.bw.put hl hc, h.bo.put hl hc, own_put h.own hl hc, h.len, h.rows, fun r hr => own_put (h.owns r hr) hl hc, below_put h.bel hB _, h.hb, by simpa using h.hs⟩
theorem RunI.turn (h : RunI E w base W0 Bx Bw Bo s k v vb rs W) (hne : E.Ne W0) (hW0 : w.heap.size ≤ W0) {s' : WaySt} (hb : E.blk W' W0 s') (hf : Fr (fun g => g = W0) W W') : RunI E w base W0 Bx Bw Bo s' k v vb rs W' :=
  ⟨hb, h.rds.fr hne hf, hf.blk h.bx (h.bx.ne h.blk (by decide)), hf.blk h.bw (h.bw.ne h.blk (by decide)), hf.blk h.bo (h.bo.ne h.blk (by decide)),
    hf.row h.own (fun g hg e => by subst e; exact own_blk_ne h.own h.blk (by decide) hg), h.len, h.rows, fun r hr => hf.row (h.owns r hr) (fun g hg e => by subst e; exact own_blk_ne (h.owns r hr) h.blk (by decide) hg),
    h.bel.trans (hf.below h.bel.size (fun g e => by subst e; exact hW0)), h.hb, Nat.le_trans h.hs hf.size⟩
/-- behind an append -/
theorem RunI.grow (h : RunI E w base W0 Bx Bw Bo s k v vb rs W) (hk : s = E.st (k + 1)) {r : RowI} (hr : W.ownsRow base 3 1 (.slice r.A r.n r.c) r.n (r.l.flatMap enc1)) (hrn : r.n = E.CS.n) (hrl : r.l = s.lv) {v' : Value}
    (hown : W'.ownsRow base 33 1 v' (k + 1) ((rs ++ [r]).flatMap encI)) (hg : W.grownBy W' v.ownBlock) (hre : ∀ ad, (E.CS.A = some ad ∨ E.DS.A = some ad ∨ E.RN.A = some ad) → ad.block < w.heap.size) :
    RunI E w base W0 Bx Bw Bo s (k + 1) v' vb (rs ++ [r]) W' := by
  have hge : ∀ g, v.ownBlock = some g → w.heap.size ≤ g := fun g hg => Nat.le_trans h.hb (h.own.lt g hg).1
  have kb : ∀ {g : Nat} {t : TypeId} {cs : Array Value}, Blk W g t cs → t ≠ 33 → Blk W' g t cs := fun hb ht => hb.grown hg (fun e => own_blk_ne h.own hb (fun e' => ht e'.symm) e.symm)
  have hf : Fr (fun g => v.ownBlock = some g) W W' := Fr.of_grown hg fun g e _ => e
  have ko : ∀ {x : RowI}, W.ownsRow base 3 1 (.slice x.A x.n x.c) x.n (x.l.flatMap enc1) → W'.ownsRow base 3 1 (.slice x.A x.n x.c) x.n (x.l.flatMap enc1) := fun ho => own_kept ho hg (fun g hg' e => own_tyne ho h.own (by decide) g hg' e)
  refine ⟨kb h.blk (by decide), ⟨hf.rd h.rds.c fun ad e hh => by have := hge _ hh; have := hre ad (.inl e); omega, hf.rd h.rds.d fun ad e hh => by have := hge _ hh; have := hre ad (.inr (.inl e)); omega, hf.rd h.rds.r fun ad e hh => by have := hge _ hh; have := hre ad (.inr (.inr e)); omega⟩,
    kb h.bx (by decide), kb h.bw (by decide), kb h.bo (by decide), hown, by simp [h.len], ?_, ?_, h.bel.grown hg h.bel.size hge, h.hb, Nat.le_trans h.hs hg.size⟩
  · intro j x hx
    rcases Nat.lt_or_ge j rs.length with hj | hj
    · rw [List.getElem?_append_left hj] at hx; exact h.rows j x hx
    · rw [List.getElem?_append_right hj] at hx
      have h0 := (List.getElem?_eq_some_iff.1 hx).1
      have hjk : j = k := by have := h.len; simp at h0; omega
      subst hjk
      have : x = r := by rw [h.len] at hx; simpa using hx.symm
      subst this
      exact ⟨hrn, by rw [hrl, hk]⟩
  · intro x hx
    rcases List.mem_append.1 hx with hx | hx
    · exact ko (h.owns x hx)
    · rw [List.mem_singleton.1 hx]; exact ko hr
/-- a store into the box -/
theorem RunI.store (h : RunI E w base W0 Bx Bw Bo s k v vb rs W) (hBo : w.heap.size ≤ Bo) (hre : ∀ ad, (E.CS.A = some ad ∨ E.DS.A = some ad ∨ E.RN.A = some ad) → ad.block < w.heap.size) (u : Value) :
    RunI E w base W0 Bx Bw Bo s k v u rs (W.setCell ⟨Bo, 0, none⟩ u) := by
  have hset : Fr (fun g => g = Bo) W (W.setCell ⟨Bo, 0, none⟩ u) := Fr.setAt (E := fun g => g = Bo) (Fr.refl _ _) (p := ⟨Bo, 0, none⟩) (.inl rfl) _
  exact ⟨hset.blk h.blk (Blk.ne h.blk h.bo (by decide)), ⟨hset.rd h.rds.c fun ad e hh => by have := hre ad (.inl e); omega, hset.rd h.rds.d fun ad e hh => by have := hre ad (.inr (.inl e)); omega, hset.rd h.rds.r fun ad e hh => by have := hre ad (.inr (.inr e)); omega⟩,
    hset.blk h.bx (h.bx.ne h.bo (by decide)), hset.blk h.bw (h.bw.ne h.bo (by decide)), by simpa using h.bo.set_ 0 u,
    hset.row h.own (fun g hg' e => by subst e; exact own_blk_ne h.own h.bo (by decide) hg'), h.len, h.rows, fun r hr => hset.row (h.owns r hr) (fun g hg' e => by subst e; exact own_blk_ne (h.owns r hr) h.bo (by decide) hg'),
    h.bel.setCell (p := ⟨Bo, 0, none⟩) hBo _, h.hb, by simpa using h.hs⟩
/-- a row of numbers of another's own grows -/
theorem RunI.other (h : RunI E w base W0 Bx Bw Bo s k v vb rs W) {vl : Value} {n : Nat} {xs : List Value} (hl : W.ownsRow base 3 1 vl n xs) (hap : ∀ r ∈ rs, ∀ g, vl.ownBlock = some g → (Value.slice r.A r.n r.c).ownBlock ≠ some g)
    (hg : W.grownBy W' vl.ownBlock) (hre : ∀ ad, (E.CS.A = some ad ∨ E.DS.A = some ad ∨ E.RN.A = some ad) → ad.block < w.heap.size) : RunI E w base W0 Bx Bw Bo s k v vb rs W' := by
  have hge : ∀ g, vl.ownBlock = some g → w.heap.size ≤ g := fun g hg => Nat.le_trans h.hb (hl.lt g hg).1
  have kb : ∀ {g : Nat} {t : TypeId} {cs : Array Value}, Blk W g t cs → t ≠ 3 → Blk W' g t cs := fun hb ht => hb.grown hg (fun e => own_blk_ne hl hb (fun e' => ht e'.symm) e.symm)
  have hf : Fr (fun g => vl.ownBlock = some g) W W' := Fr.of_grown hg fun g e _ => e
  exact ⟨kb h.blk (by decide), ⟨hf.rd h.rds.c fun ad e hh => by have := hge _ hh; have := hre ad (.inl e); omega, hf.rd h.rds.d fun ad e hh => by have := hge _ hh; have := hre ad (.inr (.inl e)); omega, hf.rd h.rds.r fun ad e hh => by have := hge _ hh; have := hre ad (.inr (.inr e)); omega⟩,
    kb h.bx (by decide), kb h.bw (by decide), kb h.bo (by decide), own_kept h.own hg (fun g hg' e => own_tyne h.own hl (by decide) g hg' e), h.len, h.rows, fun r hr => own_kept (h.owns r hr) hg (fun g hg' e => hap r hr g e hg'), h.bel.grown hg h.bel.size hge, h.hb, Nat.le_trans h.hs hg.size⟩
/-- a store into the box of another row -/
theorem RunI.box (h : RunI E w base W0 Bx Bw Bo s k v vb rs W) {Bl : Nat} {cs : Array Value} (hb : Blk W Bl 33 cs) (hBl : w.heap.size ≤ Bl ∧ Bl < base) (hre : ∀ ad, (E.CS.A = some ad ∨ E.DS.A = some ad ∨ E.RN.A = some ad) → ad.block < w.heap.size) (u : Value) : RunI E w base W0 Bx Bw Bo s k v vb rs (W.setCell ⟨Bl, 0, none⟩ u) := by
  have hset : Fr (fun g => g = Bl) W (W.setCell ⟨Bl, 0, none⟩ u) := Fr.setAt (E := fun g => g = Bl) (Fr.refl _ _) (p := ⟨Bl, 0, none⟩) (.inl rfl) _
  exact ⟨hset.blk h.blk (Blk.ne h.blk hb (by decide)), ⟨hset.rd h.rds.c fun ad e hh => by have := hre ad (.inl e); omega, hset.rd h.rds.d fun ad e hh => by have := hre ad (.inr (.inl e)); omega, hset.rd h.rds.r fun ad e hh => by have := hre ad (.inr (.inr e)); omega⟩,
    hset.blk h.bx (h.bx.ne hb (by decide)), hset.blk h.bw (h.bw.ne hb (by decide)), hset.blk h.bo (h.bo.ne hb (by decide)),
    hset.row h.own (fun g hg' e => by have := (h.own.lt g hg').1; omega), h.len, h.rows, fun r hr => hset.row (h.owns r hr) (fun g hg' e => by subst e; exact own_blk_ne (h.owns r hr) hb (by decide) hg'),
    h.bel.setCell (p := ⟨Bl, 0, none⟩) hBl.1 _, h.hb, by simpa using h.hs⟩
end
/-- the row of what left, beside it -/
structure LeftI (base Bl k : Nat) (vl vb : Value) (xs : List Value) (rs : List RowI) (W : World) : Prop where
  bl : Blk W Bl 33 #[vb]
  own : W.ownsRow base 3 1 vl k xs
  ap : ∀ r ∈ rs, ∀ g, vl.ownBlock = some g → (Value.slice r.A r.n r.c).ownBlock ≠ some g
section
variable {E : WE} {w : World} {base Bl W0 Bx Bw Bo : Nat} {s : WaySt} {k : Nat} {v vl vb : Value} {xs : List Value} {rs : List RowI} {W W' : World}
theorem LeftI.below (h : LeftI base Bl k vl vb xs rs W) (hb : Below W.heap.size W W') : LeftI base Bl k vl vb xs rs W' := ⟨h.bl.below hb h.bl.lt, own_mono h.own hb, h.ap⟩
theorem LeftI.put (h : LeftI base Bl k vl vb xs rs W) {b : Nat} {o o' : Obj} (hl : W.heap[b]? = some o') (hc : o'.isCells = false) : LeftI base Bl k vl vb xs rs (W.putObj b o) := ⟨h.bl.put hl hc, own_put h.own hl hc, h.ap⟩
theorem LeftI.turn (h : LeftI base Bl k vl vb xs rs W) {t : TypeId} {cs : Array Value} (hw : Blk W W0 t cs) (ht : t ≠ 33 ∧ t ≠ 3) (hf : Fr (fun g => g = W0) W W') : LeftI base Bl k vl vb xs rs W' :=
  ⟨hf.blk h.bl (h.bl.ne hw ht.1.symm), hf.row h.own (fun g hg e => by subst e; exact own_blk_ne h.own hw ht.2.symm hg), h.ap⟩
/-- the other row grows -/
theorem LeftI.other (h : LeftI base Bl k vl vb xs rs W) (hB : Bl < base) {n : Nat} {ys : List Value} (ho : W.ownsRow base 33 1 v n ys) (hg : W.grownBy W' v.ownBlock) : LeftI base Bl k vl vb xs rs W' :=
  ⟨h.bl.grown hg (fun e => by have := (ho.lt Bl e.symm).1; omega), own_kept h.own hg (fun g hg' e => own_tyne h.own ho (by decide) g hg' e), h.ap⟩
/-- one row more is another's -/
theorem LeftI.more (h : LeftI base Bl k vl vb xs rs W) {r : RowI} (hr : ∀ g, vl.ownBlock = some g → (Value.slice r.A r.n r.c).ownBlock ≠ some g) : LeftI base Bl k vl vb xs (rs ++ [r]) W :=
  ⟨h.bl, h.own, fun x hx => by
    rcases List.mem_append.1 hx with hx | hx
    · exact h.ap x hx
    · rw [List.mem_singleton.1 hx]; exact hr⟩
/-- behind its own append -/
theorem LeftI.grow (h : LeftI base Bl k vl vb xs rs W) (hB : Bl < base) {gg c : Nat} {y : Value} (hown : W'.ownsRow base 3 1 (.slice (some ⟨gg, 0, none⟩) (k + 1) c) (k + 1) (xs ++ [y])) (hg : W.grownBy W' vl.ownBlock)
    (hat : vl.ownBlock = some gg ∨ gg = W.heap.size) (hrs : OwnRs base rs W) : LeftI base Bl (k + 1) (.slice (some ⟨gg, 0, none⟩) (k + 1) c) vb (xs ++ [y]) rs W' := by
  refine ⟨h.bl.grown hg (fun e => by have := (h.own.lt Bl e.symm).1; omega), hown, fun r hr g hgg e => ?_⟩
  have hg1 : g = gg := by simpa [Value.ownBlock] using hgg.symm
  subst hg1
  rcases hat with ha | ha
  · exact h.ap r hr g ha e
  · have := ((hrs r hr).lt g e).2
    omega
/-- a store into its box -/
theorem LeftI.store (h : LeftI base Bl k vl vb xs rs W) (hB : Bl < base) (u : Value) : LeftI base Bl k vl u xs rs (W.setCell ⟨Bl, 0, none⟩ u) := by
  have hset : Fr (fun g => g = Bl) W (W.setCell ⟨Bl, 0, none⟩ u) := Fr.setAt (E := fun g => g = Bl) (Fr.refl _ _) (p := ⟨Bl, 0, none⟩) (.inl rfl) _
  exact ⟨by simpa using h.bl.set_ 0 u, hset.row h.own (fun g hg e => by have := (h.own.lt g hg).1; omega), h.ap⟩
/-- a store into a box elsewhere, of another type -/
theorem LeftI.far (h : LeftI base Bl k vl vb xs rs W) {B : Nat} {t : TypeId} {cs : Array Value} (hb : Blk W B t cs) (ht : t ≠ 33 ∧ t ≠ 3) (u : Value) : LeftI base Bl k vl vb xs rs (W.setCell ⟨B, 0, none⟩ u) := by
  have hset : Fr (fun g => g = B) W (W.setCell ⟨B, 0, none⟩ u) := Fr.setAt (E := fun g => g = B) (Fr.refl _ _) (p := ⟨B, 0, none⟩) (.inl rfl) _
  exact h.turn hb ht hset
end
end Go.Proofs.YtjpobkmlcjbpiaaGreat

namespace Go.Proofs.YtjpobkmlcjbpiaaGreat
open Go.RowKit Go.Proofs

section
variable {p : BedS → Bool}
end
end Go.Proofs.YtjpobkmlcjbpiaaGreat

namespace Go.Proofs.YtjpobkmlcjbpiaaGreat
open Go.RowKit Go.Proofs

section
variable {p : ColR → Bool}
end
end Go.Proofs.YtjpobkmlcjbpiaaGreat

namespace Go.Proofs.YtjpobkmlcjbpiaaGreat
open Go.RowKit Go.Proofs
attribute [local go_sem ↓] Go.wp_at_zero Go.wp_at_succ

def bedB (b : BedS) : Bool := inB b.drive (-100000) 100000 && (inB b.normal 0 100000 && (upB b.f0 b.f1 2000 && (upB b.c0 b.c1 100000 && upB b.w0 b.w1 100000)))
theorem bedB_eq (b : BedS) : bedB b = decide (bedOk b) := by
  have : bedB b = true ↔ bedOk b := by
    simp only [bedB, Bool.and_eq_true, inB_iff, upB_iff, bedOk]
  cases h : bedB b
  · rw [decide_eq_false]; rw [← this, h]; exact Bool.false_ne_true
  · rw [decide_eq_true]; exact this.1 h

theorem allB_one {α : Type} (p : α → Bool) (x : α) : allB p [x] = p x := by simp [allB]
end Go.Proofs.YtjpobkmlcjbpiaaGreat

namespace Go.Proofs.YtjpobkmlcjbpiaaGreat
open Go.RowKit Go.Proofs
attribute [local go_sem ↓] Go.wp_at_zero Go.wp_at_succ

/-- a slope that is looked at, with columns of one bed each -/
def lkA (A : Option Addr) (n c : Nat) (least factor : Int) (T : FuncId) : Array Value := #[.slice A n c, .int .i64 least, .int .i64 factor, .func (.func T) #[] #[]]
/-- what a bed costs: in the truth in which it holds least; where nothing holds -/
def costOf (least : Bool) (factor : Int) (b : BedS) : Int := 1000 * (if least then leastS b else 0) - factor * b.drive
theorem fd_bd {b : BedS} (h : bedOk b) {factor : Int} (hf : 0 ≤ factor ∧ factor ≤ 10001) : -1000100000 ≤ factor * b.drive ∧ factor * b.drive ≤ 1000100000 := by
  obtain ⟨h1, _⟩ := h
  constructor
  · rcases Int.le_total 0 b.drive with h | h
    · exact Int.le_trans (by decide) (Int.mul_nonneg hf.1 h)
    · have : factor * (-b.drive) ≤ 1000100000 := Int.le_trans (Int.mul_le_mul hf.2 (show -b.drive ≤ 100000 by omega) (by omega) (by omega)) (by decide)
      rw [Int.mul_neg] at this; omega
  · rcases Int.le_total 0 b.drive with h | h
    · exact Int.le_trans (Int.mul_le_mul hf.2 h1.2 h (by omega)) (by decide)
    · exact Int.le_trans (Int.mul_nonpos_of_nonneg_of_nonpos hf.1 h) (by decide)
theorem least_bd {b : BedS} (h : bedOk b) : 0 ≤ leastS b ∧ leastS b ≤ 300000 := by
  obtain ⟨h1, h2, h3, h4, h5⟩ := h
  exact ⟨holds_nn h3.1 h4.1, holds_bd h2.2 (by omega) ⟨h3.1, by omega⟩ (by omega)⟩
theorem cosT_true {b : BedS} (h : bedOk b) {factor : Int} (hf : 0 ≤ factor ∧ factor ≤ 10001) : IntKind.i64.wrap (IntKind.i64.wrap (1000 * holdsS b b.f0 b.c0 b.w1) - IntKind.i64.wrap (factor * b.drive)) = costOf true factor b := by
  have h1 := fd_bd h hf; have h2 := least_bd h
  have e : costOf true factor b = 1000 * leastS b - factor * b.drive := rfl
  rw [e, show holdsS b b.f0 b.c0 b.w1 = leastS b from rfl, wi (e := 1000 * leastS b) (by omega), wi (e := factor * b.drive) (by omega), wi (by omega)]
theorem cosT_false {b : BedS} (h : bedOk b) {factor : Int} (hf : 0 ≤ factor ∧ factor ≤ 10001) : IntKind.i64.wrap (IntKind.i64.wrap (1000 * holdsS b 0 0 0) - IntKind.i64.wrap (factor * b.drive)) = costOf false factor b := by
  have h1 := fd_bd h hf
  have e : costOf false factor b = 1000 * 0 - factor * b.drive := rfl
  have e0 : holdsS b 0 0 0 = 0 := by simp [holdsS]
  rw [e, e0, wi (e := 1000 * 0) (by omega), wi (e := factor * b.drive) (by omega), wi (by omega)]
theorem cost_bd {b : BedS} (h : bedOk b) {t : Bool} {factor : Int} (hf : 0 ≤ factor ∧ factor ≤ 10001) : -1500000000 ≤ costOf t factor b ∧ costOf t factor b ≤ 1500000000 := by
  obtain ⟨h1, h2, h3, h4, h5⟩ := h
  have ha : 0 ≤ leastS b ∧ leastS b ≤ 300000 := ⟨holds_nn h3.1 h4.1, holds_bd h2.2 (by omega) ⟨h3.1, by omega⟩ (by omega)⟩
  have hp : factor * b.drive ≤ 1000100000 := by
    rcases Int.le_total 0 b.drive with h | h
    · exact Int.le_trans (Int.mul_le_mul hf.2 h1.2 h (by omega)) (by decide)
    · exact Int.le_trans (Int.mul_nonpos_of_nonneg_of_nonpos hf.1 h) (by decide)
  have hq : -1000100000 ≤ factor * b.drive := by
    rcases Int.le_total 0 b.drive with h | h
    · exact Int.le_trans (by decide) (Int.mul_nonneg hf.1 h)
    · have : factor * (-b.drive) ≤ 1000100000 := Int.le_trans (Int.mul_le_mul hf.2 (show -b.drive ≤ 100000 by omega) (by omega) (by omega)) (by decide)
      rw [Int.mul_neg] at this; omega
  unfold costOf
  split <;> omega
end Go.Proofs.YtjpobkmlcjbpiaaGreat

namespace Go.Proofs.YtjpobkmlcjbpiaaGreat
open Go.RowKit Go.Proofs Go.Shelf
attribute [local go_sem] Oper.semAt_some
attribute [local go_sem ↓] Go.wp_at_zero Go.wp_at_succ
theorem wpIn_region_till_round {P : Program} {n : Nat} {Q : Exit → Act → World → Prop} {l id : Nat} {ops : Array Oper} {a : Act} {w : World} (fins : List Nat) (S : World → Prop) (hm : P.follows .mixedOrders = true) (hd : noDefer ops = true) (hS : S w.drew)
    (h : S w.drew → wpAnyL P .any ops (OnlyN Q) fins S ops.size (Array.replicate ops.size false) a w.drew) : (Code.region id ops true).wpIn (Fence.wide.inRound l) n P Q a w :=
  wpIn_region_any hm (wpAnyIn_of_wpAny hd _ _ _ _ (wpAny_of_till _ _ _ _ (h hS)))

theorem OnlyN.out {Q : Exit → Act → World → Prop} : ∀ e a w, OnlyN Q e a w → Q e a w := by
  intro e a w h
  cases e <;> first | exact h | exact h.elim
/-- a region outside of rounds, by the posts of a way on alone -/
theorem wpIn_region_till_wide {P : Program} {n : Nat} {Q : Exit → Act → World → Prop} {id : Nat} {ops : Array Oper} {a : Act} {w : World} (fins : List Nat) (S : World → Prop) (hm : P.follows .mixedOrders = true) (hS : S w.drew)
    (h : S w.drew → wpAnyL P .any ops (OnlyN Q) fins S ops.size (Array.replicate ops.size false) a w.drew) : (Code.region id ops true).wpIn Fence.wide n P Q a w :=
  wpIn_wide.2 (Code.wp_mono OnlyN.out (wp_region_till fins S hm hS h))
/-- what a looked slope's first column is -/
structure Col1 (W : World) (A : Option Addr) (g o : Nat) : Prop where
  eq : A = some ⟨g, o, none⟩
  lt : g < W.heap.size
  cell : ∃ A0 c0, W.cell? ⟨g, o, none⟩ = some (.slice A0 1 c0)
theorem Col1.fr {E : Nat → Prop} {W W' : World} {A : Option Addr} {g o : Nat} (h : Col1 W A g o) (hf : Fr E W W') (hE : ¬ E g) : Col1 W' A g o := by
  obtain ⟨h1, h2, A0, c0, h3⟩ := h
  exact ⟨h1, Nat.lt_of_lt_of_le h2 hf.size, A0, c0, (World.cell?_of_block (hf.block g h2 hE)).trans h3⟩
theorem Col1.below {W W' : World} {A : Option Addr} {g o : Nat} (h : Col1 W A g o) (hb : Below W.heap.size W W') : Col1 W' A g o := h.fr (E := fun _ => False) (Fr.of_below hb _) (fun h => h)
/-- what holds here and in whatever world that has but grown -/
def JW (J : List Unit → World → Prop) (pre : List Unit) (W : World) : Prop := ∀ W', Below W.heap.size W W' → J pre W'
theorem JW.below {J : List Unit → World → Prop} {pre : List Unit} {W W' : World} (h : JW J pre W) (hb : Below W.heap.size W W') : JW J pre W' := fun W'' h'' => h W'' (below_tr hb h'')
theorem JW.now {J : List Unit → World → Prop} {pre : List Unit} {W : World} (h : JW J pre W) : J pre W := h W (Below.refl _ _)
/-- what a round of a loop over next keeps: all but the block M, and but what is new, the boxes of the iterator apart -/
def KpN (n0 M Bb Bx : Nat) (W W' : World) : Prop := Fr (fun g => g = M ∨ (n0 ≤ g ∧ g ≠ Bb ∧ g ≠ Bx)) W W'
theorem kpN_t {n0 M Bb Bx : Nat} {A B C : World} (h : KpN n0 M Bb Bx A B) (k : KpN n0 M Bb Bx B C) : KpN n0 M Bb Bx A C := Fr.trans h k
theorem kpN_b {n0 M Bb Bx : Nat} {w : World} (hn : n0 ≤ w.heap.size) (hB : Bb < w.heap.size) (hX : Bx < w.heap.size) (W : World) (l : Nat) (o o' : Obj) (hl : w.heap.size ≤ l) (h : W.heap[l]? = some o) (_hc : o.isCells = false) (_hw : o.isWalk = false) : KpN n0 M Bb Bx W (W.putObj l o') :=
  Fr.of_grown (grownBy_putObj' W l o') fun g e _ => .inr (by cases e; exact ⟨by omega, by omega, by omega⟩)
abbrev encU (_ : Unit) : Array Value := #[.int .i64 0]
end Go.Proofs.YtjpobkmlcjbpiaaGreat
