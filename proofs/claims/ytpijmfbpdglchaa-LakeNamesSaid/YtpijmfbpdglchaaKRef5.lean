/- CONTRACTS of the reference's Pumped and Bound. -/
import Derived.Test.YtpijmfbpdglchaaKBase
import Derived.Test.YtpijmfbpdglchaaKRef2
set_option linter.unusedVariables false
set_option linter.unusedSimpArgs false
namespace Go.Proofs.Ytpijmfbpdglchaa
open Go.RowKit Go.Proofs
section
variable {VA IA WA CA : Option Addr} {nV nI nW nC cV cI cW cC : Nat} {l : Lak} {ws : List Wrk} {c : List Int} {w : World}
set_option maxRecDepth 100000 in
set_option maxHeartbeats 1000000 in
theorem rPumped_c (h : Rd encW 3 w WA nW ws) (h' : Rd enc1 1 w CA nC c) (hw : WOk ws) (hc : choB ws.length c = true) (hour : Int) :
    Calls Try.prog 72 #[.slice WA nW cW, .slice CA nC cC, .int .i64 hour] w fun e w' => e = .returned (.int .i64 (outAt ws c hour)) ∧ Below w.heap.size w w' := by
  have hwl := h.len; have hcl := h'.len
  have hcho := (choB_iff.1 hc).1
  have hlc := cho_len hc
  have hw10 := hw.n
  have HW := Lib.hid hw
  have HH := Lib.hid h; have HC := Lib.hid h'
  have HCH := Lib.hid hcho
  clear h h' hw hcho hc
  go_enter Try.func72, Try.ntmps72
  go_wp2_with fail
  go_loopw [7, 8] (fun s i wr => ∃ k : Nat, k ≤ nC ∧ i = .int .i64 k ∧ s = .int .i64 (outTo ws c hour k) ∧ Below w.heap.size w wr) (fun _ i _ => nC - (intOf i).toNat)
  case atStart => exact ⟨0, Nat.zero_le _, rfl, rfl, Below.refl _ _⟩
  case round =>
    obtain ⟨k, hk, rfl, rfl, hb⟩ := hrel
    have HB := Lib.hid hb
    by_cases hlt : k < nC
    · obtain ⟨B, o, x, rfl, hbl, hx, c0⟩ := (HC.out.below hb).at1 hlt
      have hxr := HCH.out k x hx
      obtain ⟨i, rfl⟩ : ∃ i : Nat, x = (i : Int) := ⟨x.toNat, by omega⟩
      obtain ⟨B2, o2, y, rfl, hbl2, hy, d0, d1, d2⟩ := (HH.out.below hb).atW (i := i) (by omega)
      have hs := outTo_succ (h := hour) hx (show ws[((i : Nat) : Int).toNat]? = some y from by simpa using hy)
      have hbd := outTo_bd HW.out c hour k
      have hfl := (okW_iff.1 (HW.out.all _ _ hy)).2.1
      have hw1 : IntKind.i64.wrap (outTo ws c hour k + y.flow) = outTo ws c hour k + y.flow := wi (by omega)
      have hkn : (k : Int) < (nC : Int) := by omega
      have hk0 : (0 : Int) ≤ (k : Int) := by omega
      have hin : (i : Int) < (nW : Int) := by omega
      have hi0 : (0 : Int) ≤ (i : Int) := by omega
      have HB4 := Lib.hid (hb.alloc hb.size (.cells #[.int .i64 y.frm, .int .i64 y.flow, .int .i64 y.price] 131))
      have HS := Lib.hid hs
      clear hb hx hy hs hbd hfl hxr
      by_cases hf : y.frm ≤ hour
      · have hs2 : outTo ws c hour (k + 1) = outTo ws c hour k + y.flow := by rw [HS.out, if_pos hf]
        have HS2 := Lib.hid hs2.symm
        clear hs2
        go_wp2_with fail
        go_roundw
        case rel => exact ⟨k + 1, by omega, by go_num, by rw [HS2.out], HB4.out⟩
        case measure => simp [intOf] <;> omega
      · have hf' : hour < y.frm := by omega
        have hs2 : outTo ws c hour (k + 1) = outTo ws c hour k := by rw [HS.out, if_neg hf]; omega
        have HS2 := Lib.hid hs2.symm
        clear hs2
        go_wp2_with fail
        go_roundw
        case rel => exact ⟨k + 1, by omega, by go_num, by rw [HS2.out], HB4.out⟩
        case measure => simp [intOf] <;> omega
    · obtain rfl : k = nC := by omega
      have HE := Lib.hid (show outTo ws c hour k = outAt ws c hour from by rw [outAt, hcl])
      clear hb
      go_wp2_with fail
      go_ret
      exact ⟨ret_int HE.out, HB.out⟩
set_option maxRecDepth 100000 in
set_option maxHeartbeats 1000000 in
theorem rBound_c (h : RdL w VA nV IA nI l) (hok : LOk l) (hour soft : Int) :
    Calls Try.prog 73 #[.agg (lA VA nV cV IA nI cI l), .int .i64 hour, .int .i64 soft] w fun e w' => e = .returned (.int .i64 (bdK l (decide (soft ≤ hour)))) ∧ Below w.heap.size w w' := by
  have hcr := hok.crest; have hwk := hok.weak
  have hvl := h.vols.len
  have HB0 := Lib.hid ((Below.refl w.heap.size w).alloc (Nat.le_refl _) (.cells (lA VA nV cV IA nI cI l) 27))
  by_cases hs : soft ≤ hour
  · rw [decide_eq_true hs]
    obtain ⟨i, hi⟩ : ∃ i : Nat, l.weak = (i : Int) := ⟨l.weak.toNat, by omega⟩
    obtain ⟨B, o, x, rfl, hbl, hx, c0⟩ := h.vols.at1 (i := i) (by omega)
    have hE : bdK l true = x := by simp only [bdK]; simp [atI, hi, hx]
    have HE := Lib.hid hE
    have hin : (i : Int) < (nV : Int) := by omega
    have hi0 : (0 : Int) ≤ (i : Int) := by omega
    simp only [lA, hi] at HB0 ⊢
    clear hE h hx hok hcr hwk
    go_enter Try.func73, Try.ntmps73
    go_wp2_with fail
    go_ret
    exact ⟨ret_int HE.out.symm, HB0.out⟩
  · rw [decide_eq_false hs]
    obtain ⟨i, hi⟩ : ∃ i : Nat, l.crest = (i : Int) := ⟨l.crest.toNat, by omega⟩
    obtain ⟨B, o, x, rfl, hbl, hx, c0⟩ := h.vols.at1 (i := i) (by omega)
    have hE : bdK l false = x := by simp only [bdK]; simp [atI, hi, hx]
    have HE := Lib.hid hE
    have hin : (i : Int) < (nV : Int) := by omega
    have hi0 : (0 : Int) ≤ (i : Int) := by omega
    simp only [lA, hi] at HB0 ⊢
    clear hE h hx hok hcr hwk
    go_enter Try.func73, Try.ntmps73
    go_wp2_with fail
    go_ret
    exact ⟨ret_int HE.out.symm, HB0.out⟩
end
end Go.Proofs.Ytpijmfbpdglchaa
