/- CONTRACTS: what is pumped in an hour, at which volume the dam breaks. -/
import Derived.Test.YtpijmfbpdglchaaKLeaf
import Derived.BigQuiet
import Derived.Deep.RegionHeld3
import Derived.Deep.AppendLies
import Derived.Deep.DrawnRows
import Derived.Deep.DeepCutAuto
namespace Go.Proofs.Ytpijmfbpdglchaa
open Go.RowKit Go.Proofs
attribute [local go_sem ↓] Go.wp_at_zero Go.wp_at_succ

/-- the cells of a lake that is followed -/
abbrev pA (VA : Option Addr) (nV cV : Nat) (IA : Option Addr) (nI cI : Nat) (l : Lak) (WA : Option Addr) (nW cW : Nat) (CA : Option Addr) (nC cC : Nat) : Array Value :=
  #[.slice VA nV cV, .int .i64 l.crest, .int .i64 l.weak, .int .i64 l.soft.1, .int .i64 l.soft.2, .int .i64 l.start.1, .int .i64 l.start.2, .int .i64 l.seep.1, .int .i64 l.seep.2, .slice IA nI cI, .slice WA nW cW, .slice CA nC cC]
/-- A lake, works and a choice in memory. -/
structure RdP (w : World) (VA : Option Addr) (nV : Nat) (IA : Option Addr) (nI : Nat) (l : Lak) (WA : Option Addr) (nW : Nat) (ws : List Wrk) (CA : Option Addr) (nC : Nat) (c : List Int) : Prop where
  l : RdL w VA nV IA nI l
  wk : Rd encW 3 w WA nW ws
  c : Rd enc1 1 w CA nC c
section
variable {w w' : World} {VA IA WA CA : Option Addr} {nV nI nW nC cV cI cW cC : Nat} {l : Lak} {ws : List Wrk} {c : List Int}
theorem RdP.below (h : RdP w VA nV IA nI l WA nW ws CA nC c) (hb : Below w.heap.size w w') : RdP w' VA nV IA nI l WA nW ws CA nC c := ⟨h.l.below hb, h.wk.mono hb, h.c.mono hb⟩

theorem outTo_succ {ws : List Wrk} {c : List Int} {h : Int} {k : Nat} {i : Int} {x : Wrk} (hc : c[k]? = some i) (hx : ws[i.toNat]? = some x) : outTo ws c h (k + 1) = outTo ws c h k + (if x.frm ≤ h then x.flow else 0) := by
  simp [outTo, hc, flowAt, hx]

set_option maxRecDepth 100000 in
set_option maxHeartbeats 1000000 in
theorem out_c (h : RdP w VA nV IA nI l WA nW ws CA nC c) (hw : WOk ws) (hc : choB ws.length c = true) (hour : Int) :
    Calls Try.prog 59 #[.agg (pA VA nV cV IA nI cI l WA nW cW CA nC cC), .int .i64 hour] w fun e w' => e = .returned (.int .i64 (outAt ws c hour)) ∧ Below w.heap.size w w' := by
  have hwl := h.wk.len; have hcl := h.c.len
  have hcho := (choB_iff.1 hc).1
  have hlc := cho_len hc
  have hw10 := hw.n
  have HW := Lib.hid hw
  have HH := Lib.hid h
  have HCH := Lib.hid hcho
  have HB0 := Lib.hid ((Below.refl w.heap.size w).alloc (Nat.le_refl _) (.cells (pA VA nV cV IA nI cI l WA nW cW CA nC cC) 126))
  have HX0 := Lib.hid (Blk.new w 126 (pA VA nV cV IA nI cI l WA nW cW CA nC cC))
  clear h hw hcho hc
  go_enter Try.func59, Try.ntmps59
  go_wp2_with fail
  go_loopw [4, 11] (fun s i wr => ∃ k : Nat, k ≤ nC ∧ i = .int .i64 k ∧ s = .int .i64 (outTo ws c hour k) ∧ Blk wr w.heap.size 126 (pA VA nV cV IA nI cI l WA nW cW CA nC cC) ∧ Below w.heap.size w wr) (fun _ i _ => nC - (intOf i).toNat)
  case atStart => exact ⟨0, Nat.zero_le _, rfl, rfl, HX0.out, HB0.out⟩
  case round =>
    obtain ⟨k, hk, rfl, rfl, hbx, hb⟩ := hrel
    have HB := Lib.hid hb; have HBX := Lib.hid hbx
    by_cases hlt : k < nC
    · obtain ⟨B, o, x, rfl, hbl, hx, c0⟩ := (HH.out.c.below hb).at1 hlt
      have hxr := HCH.out k x hx
      obtain ⟨i, rfl⟩ : ∃ i : Nat, x = (i : Int) := ⟨x.toNat, by omega⟩
      obtain ⟨B2, o2, y, rfl, hbl2, hy, d0, d1, d2⟩ := (HH.out.wk.below hb).atW (i := i) (by omega)
      have hs := outTo_succ (h := hour) hx (show ws[((i : Nat) : Int).toNat]? = some y from by simpa using hy)
      have hbd := outTo_bd HW.out c hour k
      have hfl := (okW_iff.1 (HW.out.all _ _ hy)).2.1
      have hw1 : IntKind.i64.wrap (outTo ws c hour k + y.flow) = outTo ws c hour k + y.flow := wi (by omega)
      have p10 := hbx.cell 10
      have hlx := hbx.lt
      simp at p10
      have hkn : (k : Int) < (nC : Int) := by omega
      have hk0 : (0 : Int) ≤ (k : Int) := by omega
      have hin : (i : Int) < (nW : Int) := by omega
      have hi0 : (0 : Int) ≤ (i : Int) := by omega
      have HB4 := Lib.hid (hb.alloc hb.size (.cells #[.int .i64 y.frm, .int .i64 y.flow, .int .i64 y.price] 71))
      have HX4 := Lib.hid (hbx.alloc (.cells #[.int .i64 y.frm, .int .i64 y.flow, .int .i64 y.price] 71))
      have HS := Lib.hid hs
      clear hbx hb hx hy hs hbd hfl hxr
      by_cases hf : y.frm ≤ hour
      · have hs2 : outTo ws c hour (k + 1) = outTo ws c hour k + y.flow := by rw [HS.out, if_pos hf]
        have HS2 := Lib.hid hs2.symm
        clear hs2
        go_wp2_with fail
        go_roundw
        case rel => exact ⟨k + 1, by omega, by go_num, by rw [HS2.out], HX4.out, HB4.out⟩
        case measure => simp [intOf] <;> omega
      · have hf' : hour < y.frm := by omega
        have hs2 : outTo ws c hour (k + 1) = outTo ws c hour k := by rw [HS.out, if_neg hf]; omega
        have HS2 := Lib.hid hs2.symm
        clear hs2
        go_wp2_with fail
        go_roundw
        case rel => exact ⟨k + 1, by omega, by go_num, by rw [HS2.out], HX4.out, HB4.out⟩
        case measure => simp [intOf] <;> omega
    · obtain rfl : k = nC := by omega
      have HE := Lib.hid (show outTo ws c hour k = outAt ws c hour from by rw [outAt, hcl])
      clear hbx hb
      go_wp2_with fail
      go_ret
      exact ⟨ret_int HE.out, HB.out⟩
theorem bound_c (h : RdL w VA nV IA nI l) (hok : LOk l) (soft : Bool) :
    Calls Try.prog 77 #[.agg (pA VA nV cV IA nI cI l WA nW cW CA nC cC), .int .i64 (if soft then 1 else 0)] w fun e w' => e = .returned (.int .i64 (bdK l soft)) ∧ Below w.heap.size w w' := by
  have hcr := hok.crest; have hwk := hok.weak
  have hvl := h.vols.len
  have HB0 := Lib.hid ((Below.refl w.heap.size w).alloc (Nat.le_refl _) (.cells (pA VA nV cV IA nI cI l WA nW cW CA nC cC) 126))
  cases soft
  · obtain ⟨i, hi⟩ : ∃ i : Nat, l.crest = (i : Int) := ⟨l.crest.toNat, by omega⟩
    obtain ⟨B, o, x, rfl, hbl, hx, c0⟩ := h.vols.at1 (i := i) (by omega)
    have hE : bdK l false = x := by simp only [bdK]; simp [atI, hi, hx]
    have HE := Lib.hid hE
    have hin : (i : Int) < (nV : Int) := by omega
    have hi0 : (0 : Int) ≤ (i : Int) := by omega
    simp only [pA, hi] at HB0 ⊢
    clear hE h hx hok hcr hwk
    go_enter Try.func77, Try.ntmps77
    go_wp2_with fail
    go_ret
    exact ⟨ret_int HE.out.symm, HB0.out⟩
  · obtain ⟨i, hi⟩ : ∃ i : Nat, l.weak = (i : Int) := ⟨l.weak.toNat, by omega⟩
    obtain ⟨B, o, x, rfl, hbl, hx, c0⟩ := h.vols.at1 (i := i) (by omega)
    have hE : bdK l true = x := by simp only [bdK]; simp [atI, hi, hx]
    have HE := Lib.hid hE
    have hin : (i : Int) < (nV : Int) := by omega
    have hi0 : (0 : Int) ≤ (i : Int) := by omega
    simp only [pA, hi] at HB0 ⊢
    clear hE h hx hok hcr hwk
    go_enter Try.func77, Try.ntmps77
    go_wp2_with fail
    go_ret
    exact ⟨ret_int HE.out.symm, HB0.out⟩
end
end Go.Proofs.Ytpijmfbpdglchaa
