/- PLAIN LAWS of TopWells: what is known of a truth, the readings of wells, what is merged of them. -/
import Derived.Test.YtjpobkmlcjbpiaaGreatYLearn
import Derived.Test.YtjpobkmlcjbpiaaGreatYTKnown
import Derived.Test.YtjpobkmlcjbpiaaGreatYTPick
import Derived.Test.YtjpobkmlcjbpiaaGreatYRunAll
import Derived.Test.YtjpobkmlcjbpiaaGreatRSort
import Derived.Test.YtjpobkmlcjbpiaaGreatMergeC
set_option linter.unusedVariables false
set_option linter.unusedSimpArgs false
namespace Go.Proofs.YtjpobkmlcjbpiaaGreat
open Go.RowKit Go.Proofs

theorem lvA_get {L : List Int} {i : Nat} (h : i < L.length) : L[i]? = some (lvA L i) := by
  unfold lvA; rw [List.getD_eq_getElem?_getD, List.getElem?_eq_getElem h]; rfl
theorem knC_lo {C : List Cel} {L : List Int} (h : L.length = C.length) : (knC C L C.length).map (·.lo) = L := by
  apply List.ext_getElem?
  intro i
  rw [List.getElem?_map, knC_get]
  by_cases hi : i < C.length
  · rw [List.getElem?_eq_getElem hi, lvA_get (by omega)]; simp [hi]
  · rw [List.getElem?_eq_none (by omega), List.getElem?_eq_none (by omega)]; rfl
theorem knC_mem {C : List Cel} {L : List Int} {c : Cel} (h : c ∈ knC C L C.length) : ∃ i d, C[i]? = some d ∧ i < C.length ∧ c = { d with lo := lvA L i, hi := lvA L i } := by
  obtain ⟨i, hi⟩ := List.getElem?_of_mem h
  rw [knC_get] at hi
  cases hd : C[i]? with
  | none => rw [hd] at hi; cases hi
  | some d =>
    have hl := (List.getElem?_eq_some_iff.1 hd).1
    rw [hd] at hi
    simp only [Option.map_some, if_pos hl] at hi
    exact ⟨i, d, hd, hl, (Option.some.inj hi).symm⟩
theorem knD_lo {D : List Dy} {Rn : List Int} (h : Rn.length = D.length) : (knD D Rn).map (·.lo) = Rn := by
  apply List.ext_getElem?
  intro i
  rw [List.getElem?_map, knD_get]
  by_cases hi : i < D.length
  · rw [List.getElem?_eq_getElem hi, lvA_get (by omega)]; rfl
  · rw [List.getElem?_eq_none (by omega), List.getElem?_eq_none (by omega)]; rfl
theorem knD_mem {D : List Dy} {Rn : List Int} {c : Dy} (h : c ∈ knD D Rn) : ∃ i d, D[i]? = some d ∧ i < D.length ∧ c = ⟨lvA Rn i, lvA Rn i, d.warm⟩ := by
  obtain ⟨i, hi⟩ := List.getElem?_of_mem h
  rw [knD_get] at hi
  cases hd : D[i]? with
  | none => rw [hd] at hi; cases hi
  | some d =>
    rw [hd] at hi
    exact ⟨i, d, hd, (List.getElem?_eq_some_iff.1 hd).1, (Option.some.inj hi).symm⟩
section
variable {C : List Cel} {D : List Dy} {L Rn : List Int} {sn0 sn1 so0 so1 melt tsn tso : Int}
/-- what is known of a truth is valid -/
theorem fault_known (hf : faultW C sn0 sn1 so0 so1 melt D = 0) (hL : L.length = C.length) (hR : Rn.length = D.length) (h1 : FitL (fun c : Cel => c.lo) (fun c => c.hi) C L) (h2 : FitL (fun d : Dy => d.lo) (fun d => d.hi) D Rn) (hs : sn0 ≤ tsn ∧ tsn ≤ sn1) :
    faultW (knC C L C.length) tsn tsn so0 so1 melt (knD D Rn) = 0 := by
  obtain ⟨hg, hd, hdo⟩ := faultW_zero.1 hf
  obtain ⟨g1, g2, g3, g4, g5, g6⟩ := groundOk_iff.1 hg
  refine faultW_zero.2 ⟨groundOk_iff.2 ⟨by rw [knC_len]; exact g1, fun c hc => ?_, ⟨by omega, by omega, by omega⟩, g4, g5, fun i hi => ?_⟩, by rw [knD_len]; exact hd, fun d hm => ?_⟩
  · obtain ⟨i, d, hd, hi, rfl⟩ := knC_mem hc
    have hk := g2 d (List.mem_of_getElem? hd)
    have hv := h1 i _ d (lvA_get (by omega)) hd
    rw [knC_len]
    unfold celOk at hk ⊢
    dsimp only at hv ⊢
    exact ⟨hk.1, ⟨by omega, by omega, by omega⟩, hk.2.2⟩
  · rw [knC_len] at hi
    have h6 := g6 i hi
    unfold celA at h6 ⊢
    rw [List.getD_eq_getElem?_getD] at h6 ⊢
    rw [knC_get]
    rw [List.getElem?_eq_getElem hi] at h6 ⊢
    simp only [Option.map_some, Option.getD_some, if_pos hi] at h6 ⊢
    exact h6
  · obtain ⟨i, d, hd, hi, rfl⟩ := knD_mem hm
    have hk := dayOk_iff.1 (hdo d (List.mem_of_getElem? hd))
    have hv := h2 i _ d (lvA_get (by omega)) hd
    dsimp only at hv
    exact dayOk_iff.2 ⟨⟨by dsimp only; omega, by dsimp only; omega, by dsimp only; omega⟩, hk.2⟩
/-- the way of the truth -/
def weW (CS DS LV RN : Slc) (C : List Cel) (D : List Dy) (L Rn : List Int) (so0 so1 melt tsn tso : Int) : WE :=
  { CS := CS, DS := DS, LV := LV, RN := RN, sn0 := tsn, sn1 := tsn, so0 := so0, so1 := so1, melt := melt, tsn := tsn, tso := tso, C := knC C L C.length, D := knD D Rn, rain := Rn, L0 := L }
def stW (C : List Cel) (D : List Dy) (L Rn : List Int) (melt tsn tso : Int) (k : Nat) : WaySt := stS (knC C L C.length) (knD D Rn) melt tsn tso k
theorem weW_st (CS DS LV RN : Slc) (hL : L.length = C.length) (hR : Rn.length = D.length) (k : Nat) : (weW CS DS LV RN C D L Rn so0 so1 melt tsn tso).st k = stW C D L Rn melt tsn tso k := by
  unfold stW stS
  rw [knC_lo hL, knD_lo hR]
  rfl
theorem weW_ok {CS DS LV RN : Slc} (hf : faultW C sn0 sn1 so0 so1 melt D = 0) (hL : L.length = C.length) (hR : Rn.length = D.length) (h1 : FitL (fun c : Cel => c.lo) (fun c => c.hi) C L) (h2 : FitL (fun d : Dy => d.lo) (fun d => d.hi) D Rn) (hs : sn0 ≤ tsn ∧ tsn ≤ sn1) (ht : so0 ≤ tso ∧ tso ≤ so1)
    (hC : C.length = CS.n) (hD : D.length = DS.n) (hRN : RN.n = DS.n) : (weW CS DS LV RN C D L Rn so0 so1 melt tsn tso).Ok := by
  have hk := fault_known hf hL hR h1 h2 hs
  obtain ⟨hg, hd, hdo⟩ := faultW_zero.1 hk
  obtain ⟨g1, g2, g3, g4, g5, g6⟩ := groundOk_iff.1 hg
  rw [knC_len] at g1 g2
  rw [knD_len] at hd
  have hlo : ∀ i, i < L.length → 0 ≤ lvA L i ∧ lvA L i ≤ 100000 := fun i hi => by
    have hc : (knC C L C.length)[i]? = some { C[i]'(by omega) with lo := lvA L i, hi := lvA L i } := by
      rw [knC_get, List.getElem?_eq_getElem (by omega)]; simp [show i < C.length by omega]
    have := g2 _ (List.mem_of_getElem? hc)
    unfold celOk at this
    dsimp only at this
    omega
  refine ⟨fun c hc => by have := g2 c hc; rw [hC] at this; exact this, by rw [hC] at g1; exact g1, by show (knC C L C.length).length = CS.n; rw [knC_len]; exact hC, g5, ⟨by show 0 ≤ tso; omega, by show tso ≤ 1000; omega⟩, ⟨g3.1, g3.2.2⟩, fun i => ?_, hL.trans hC, by show (knD D Rn).length = DS.n; rw [knD_len]; exact hD, by rw [hD] at hd; exact hd, hR.trans hD, hRN, fun d hm => (dayOk_iff.1 (hdo d hm)).2, fun r hr => ?_⟩
  · show 0 ≤ lvA L i ∧ lvA L i ≤ 100000
    by_cases hi : i < L.length
    · exact hlo i hi
    · unfold lvA; rw [List.getD_eq_getElem?_getD, List.getElem?_eq_none (by omega)]; simp
  · obtain ⟨i, hi⟩ := List.getElem?_of_mem hr
    have hil := (List.getElem?_eq_some_iff.1 hi).1
    have hd9 : (knD D Rn)[i]? = some ⟨lvA Rn i, lvA Rn i, (D[i]'(by have : Rn.length = D.length := hR; exact this ▸ hil)).warm⟩ := by
      rw [knD_get, List.getElem?_eq_getElem (by have : Rn.length = D.length := hR; exact this ▸ hil)]; rfl
    have h3 := (dayOk_iff.1 (hdo _ (List.mem_of_getElem? hd9))).1
    have h4 : r = lvA Rn i := Option.some.inj (hi.symm.trans (lvA_get hil))
    dsimp only at h3
    omega
theorem weW_fit {CS DS LV RN : Slc} (hL : L.length = C.length) (hR : Rn.length = D.length) (ht : so0 ≤ tso ∧ tso ≤ so1) : (weW CS DS LV RN C D L Rn so0 so1 melt tsn tso).Fit := by
  refine ⟨⟨Int.le_refl _, Int.le_refl _⟩, ht, fun i c l hc hl => ?_, fun i d r hd hr => ?_⟩
  · have hc' : (knC C L C.length)[i]? = some c := hc
    have hl' : L[i]? = some l := hl
    obtain ⟨hil, _⟩ := List.getElem?_eq_some_iff.1 hl'
    rw [knC_get, List.getElem?_eq_getElem (by omega)] at hc'
    have e : l = lvA L i := Option.some.inj (hl'.symm.trans (lvA_get hil))
    simp only [Option.map_some, if_pos (show i < C.length by omega)] at hc'
    obtain rfl := Option.some.inj hc'
    exact ⟨by dsimp only; omega, by dsimp only; omega⟩
  · have hd' : (knD D Rn)[i]? = some d := hd
    have hr' : Rn[i]? = some r := hr
    obtain ⟨hil, _⟩ := List.getElem?_eq_some_iff.1 hr'
    rw [knD_get, List.getElem?_eq_getElem (by omega)] at hd'
    have e : r = lvA Rn i := Option.some.inj (hr'.symm.trans (lvA_get hil))
    simp only [Option.map_some] at hd'
    obtain rfl := Option.some.inj hd'
    exact ⟨by dsimp only; omega, by dsimp only; omega⟩
end
/-- the reading of a well -/
def recW (st : Nat → WaySt) (n dn : Nat) (z : Int) : Rdg := ⟨z % (n : Int), z / 8 % (dn : Int), 86400 * (z / 8 % (dn : Int)), lvA (st ((z / 8 % (dn : Int)).toNat + 1)).lv (z % (n : Int)).toNat⟩
theorem recW_valid {st : Nat → WaySt} {n dn : Nat} {z : Int} (hn : 1 ≤ n ∧ n ≤ 8) (hdn : 1 ≤ dn ∧ dn ≤ 30) (hb : ∀ k, LvB (st k).lv) : Ga.validB (recW st n dn z) = true := by
  have h1 := Int.emod_nonneg z (show (n : Int) ≠ 0 by omega); have h2 := Int.emod_lt_of_pos z (show (0 : Int) < (n : Int) by omega)
  have h3 := Int.emod_nonneg (z / 8) (show (dn : Int) ≠ 0 by omega); have h4 := Int.emod_lt_of_pos (z / 8) (show (0 : Int) < (dn : Int) by omega)
  have h5 := hb ((z / 8 % (dn : Int)).toNat + 1) (z % (n : Int)).toNat
  exact Ga.validB_iff.2 ⟨⟨by unfold recW; dsimp only; omega, by unfold recW; dsimp only; omega⟩, ⟨by unfold recW; dsimp only; omega, by unfold recW; dsimp only; omega⟩, ⟨by unfold recW; dsimp only; omega, by unfold recW; dsimp only; omega⟩, by unfold recW; dsimp only; omega, by unfold recW; dsimp only; omega⟩
/-- readings of which each is told by its name -/
def ByName (l : List Rdg) : Prop := ∀ x ∈ l, ∀ y ∈ l, x.ins = y.ins → x.num = y.num → x = y
theorem recW_name {st : Nat → WaySt} {n dn : Nat} {l : List Rdg} (h : ∀ r ∈ l, ∃ z, r = recW st n dn z) : ByName l := by
  intro x hx y hy e1 e2
  obtain ⟨z, rfl⟩ := h x hx
  obtain ⟨z', rfl⟩ := h y hy
  unfold recW at e1 e2 ⊢
  dsimp only at e1 e2
  rw [e1, e2]
theorem sord_one {s : List Rdg} (h : Ga.Sord s) {x : Rdg} : x ∈ s → s.countP (fun r => decide (r = x)) = 1 := by
  intro hx
  induction s with
  | nil => cases hx
  | cons a s ih =>
    obtain ⟨h1, h2⟩ := List.pairwise_cons.1 h
    have hn : a ∉ s := fun hm => by
      have := h1 a hm
      have := Ga.rlt_asym this
      simp_all
    by_cases ha : a = x
    · subst ha
      rw [List.countP_cons_of_pos (by simp), List.countP_eq_zero.2 (fun r hr => by simp; rintro rfl; exact hn hr)]
    · rw [List.countP_cons_of_neg (by simpa using ha)]
      exact ih h2 (by rcases List.mem_cons.1 hx with e | e; exact absurd e.symm ha; exact e)
theorem merged_all {l : List Rdg} (h : ByName l) : Ga.mergedOf (Ga.sortedR l) = Ga.sortedR l ∧ Ga.contraOf (Ga.sortedR l) = [] := by
  obtain ⟨h1, h2⟩ := Ga.sortedR_ok l
  have hl : ∀ r ∈ Ga.sortedR l, Ga.loneB (Ga.sortedR l) r = true := fun r hr => by
    unfold Ga.loneB Ga.cntN
    rw [decide_eq_true_eq, ← sord_one h1 hr]
    refine List.countP_congr fun x hx => ?_
    simp only [decide_eq_true_eq]
    constructor
    · intro e
      unfold Ga.nmR at e
      injection e with e1 e2
      exact h x ((h2 x).1 hx) r ((h2 r).1 hr) e1 e2
    · rintro rfl; rfl
  exact ⟨List.filter_eq_self.2 hl, List.filter_eq_nil_iff.2 fun r hr => by rw [hl r hr]; simp⟩
theorem sortedR_alike {l l' : List Rdg} (h : ∀ x, x ∈ l ↔ x ∈ l') : Ga.sortedR l = Ga.sortedR l' := by
  obtain ⟨h1, h2⟩ := Ga.sortedR_ok l
  obtain ⟨h3, h4⟩ := Ga.sortedR_ok l'
  exact h1.uniq h3 fun x => by rw [h2, h4, h]
theorem merged_len {two heard : List Rdg} (h : ∀ x ∈ two, x ∈ heard) : (Ga.sortedR (two ++ heard)).length ≤ heard.length := by
  rw [sortedR_alike (l' := heard) (fun x => by rw [List.mem_append]; exact ⟨fun h' => h'.elim (h x) id, .inr⟩)]
  have := Ga.foldR_len heard []
  simpa [Ga.sortedR] using this
/-- a reading of the water -/
def wrR (r : Rdg) : WRd := ⟨r.ins, r.num, r.val, r.val⟩
theorem one_each {l : List Rdg} (h : ByName l) (hs : Ga.Sord l) : OneEach (l.map wrR) := by
  intro i j x y hx hy e1 e2
  rw [List.getElem?_map] at hx hy
  obtain ⟨a, ha, rfl⟩ := Option.map_eq_some_iff.1 hx
  obtain ⟨b, hb, rfl⟩ := Option.map_eq_some_iff.1 hy
  have hab : a = b := h a (List.mem_of_getElem? ha) b (List.mem_of_getElem? hb) e1 e2
  subst hab
  have hp := List.pairwise_iff_getElem.1 hs
  obtain ⟨hi, ei⟩ := List.getElem?_eq_some_iff.1 ha
  obtain ⟨hj, ej⟩ := List.getElem?_eq_some_iff.1 hb
  rcases Nat.lt_trichotomy i j with hl | hl | hl
  · have := hp i j hi hj hl
    rw [ei, ej] at this
    have h2 := Ga.rlt_asym this
    simp_all
  · exact hl
  · have := hp j i hj hi hl
    rw [ei, ej] at this
    have h2 := Ga.rlt_asym this
    simp_all
end Go.Proofs.YtjpobkmlcjbpiaaGreat

namespace Go.Proofs.YtjpobkmlcjbpiaaGreat
open Go.RowKit Go.Proofs

/-- the levels of all days -/
structure LvW (st : Nat → WaySt) (n dn : Nat) (A : Option Addr) (rs : List RowI) (W : World) : Prop where
  rd : Rd encI 1 W A dn rs
  rows : ∀ (j : Nat) (r : RowI), rs[j]? = some r → r.n = n ∧ r.l = (st (j + 1)).lv ∧ Rd enc1 1 W r.A r.n r.l
theorem LvW.below {st : Nat → WaySt} {n dn : Nat} {A : Option Addr} {rs : List RowI} {W W' : World} (h : LvW st n dn A rs W) (hb : Below W.heap.size W W') : LvW st n dn A rs W' :=
  ⟨h.rd.below hb, fun j r hr => ⟨(h.rows j r hr).1, (h.rows j r hr).2.1, (h.rows j r hr).2.2.below hb⟩⟩
/-- the level of a cell on a day -/
theorem LvW.at_ {st : Nat → WaySt} {n dn : Nat} {A : Option Addr} {rs : List RowI} {W : World} (h : LvW st n dn A rs W) {i j : Nat} (hi : i < n) (hj : j < dn) :
    ∃ b o b2 o2 c2, A = some ⟨b, o, none⟩ ∧ b < W.heap.size ∧ W.cell? ⟨b, o + j, none⟩ = some (.slice (some ⟨b2, o2, none⟩) n c2) ∧ b2 < W.heap.size ∧ W.cell? ⟨b2, o2 + i, none⟩ = some (.int .i64 (lvA (st (j + 1)).lv i)) := by
  obtain ⟨b, o, r, hA, hb, hr, hc⟩ := h.rd.at_ hj
  obtain ⟨h1, h2, h3⟩ := h.rows j r hr
  obtain ⟨b2, o2, v, hA2, hb2, hv, hc2⟩ := h3.at1 (i := i) (by omega)
  have h0 := hc 0 _ rfl
  refine ⟨b, o, b2, o2, r.c, hA, hb, ?_, hb2, ?_⟩
  · rw [← hA2, ← h1]; simpa using h0
  · rw [hc2]
    rw [h2] at hv
    have : lvA (st (j + 1)).lv i = v := by unfold lvA; rw [List.getD_eq_getElem?_getD, hv]; rfl
    rw [this]
set_option maxHeartbeats 1000000 in
theorem RunW_c {CA DA LA RA : Option Addr} {n cc dn dc lc rc : Nat} {C : List Cel} {D : List Dy} {L Rn : List Int} {sn0 sn1 so0 so1 melt tsn tso : Int} {w : World}
    (hf : faultW C sn0 sn1 so0 so1 melt D = 0) (hL : L.length = C.length) (hR : Rn.length = D.length) (h1 : FitL (fun c : Cel => c.lo) (fun c => c.hi) C L) (h2 : FitL (fun d : Dy => d.lo) (fun d => d.hi) D Rn) (hs : sn0 ≤ tsn ∧ tsn ≤ sn1) (ht : so0 ≤ tso ∧ tso ≤ so1) (hC : C.length = n) (hD : D.length = dn) (hd1 : 1 ≤ dn)
    (rC : Rd encCel 7 w CA n (knC C L C.length)) (rD : Rd encDy 3 w DA dn (knD D Rn)) (rL : Rd enc1 1 w LA n L) (rR : Rd enc1 1 w RA dn Rn) :
    Calls Tryz.prog 9 #[.agg #[.slice CA n cc, .int .i64 tsn, .int .i64 tsn, .int .i64 so0, .int .i64 so1, .int .i64 melt], .slice DA dn dc, .agg #[.int .i64 tsn, .int .i64 tso, .slice LA n lc, .slice RA dn rc]] w fun e w' =>
      ∃ A c rs vl sn, e = .returned (.tuple #[.slice A dn c, vl, .int .i64 sn, .int .i64 0]) ∧ LvW (stW C D L Rn melt tsn tso) n dn A rs w' ∧ Below w.heap.size w w' := by
  have hok := weW_ok (CS := ⟨CA, n, cc⟩) (DS := ⟨DA, dn, dc⟩) (LV := ⟨LA, n, lc⟩) (RN := ⟨RA, dn, rc⟩) hf hL hR h1 h2 hs ht hC hD rfl
  have hfit := weW_fit (CS := ⟨CA, n, cc⟩) (DS := ⟨DA, dn, dc⟩) (LV := ⟨LA, n, lc⟩) (RN := ⟨RA, dn, rc⟩) (melt := melt) (tsn := tsn) hL hR ht
  have hrun := Run_c hok hfit (fault_known hf hL hR h1 h2 hs) (w := w) hd1 ⟨rC, rD, rR⟩ rL rfl
  refine hrun.mono ?_
  rintro e w' ⟨A, c, rs, vl, sn, rfl, hlev, hb⟩
  refine ⟨A, c, rs, vl, sn, rfl, ⟨hlev.rd, fun j r hr => ?_⟩, hb⟩
  obtain ⟨a1, a2, a3⟩ := hlev.rows j r hr
  rw [weW_st _ _ _ _ hL hR] at a2
  exact ⟨a1, a2, a3⟩
theorem stW_bd {C : List Cel} {D : List Dy} {L Rn : List Int} {sn0 sn1 so0 so1 melt tsn tso : Int} (hf : faultW C sn0 sn1 so0 so1 melt D = 0) (hL : L.length = C.length) (hR : Rn.length = D.length) (h1 : FitL (fun c : Cel => c.lo) (fun c => c.hi) C L) (h2 : FitL (fun d : Dy => d.lo) (fun d => d.hi) D Rn) (hs : sn0 ≤ tsn ∧ tsn ≤ sn1) (ht : so0 ≤ tso ∧ tso ≤ so1) (k : Nat) : LvB (stW C D L Rn melt tsn tso k).lv := by
  have hok := weW_ok (CS := ⟨none, C.length, 0⟩) (DS := ⟨none, D.length, 0⟩) (LV := ⟨none, C.length, 0⟩) (RN := ⟨none, D.length, 0⟩) hf hL hR h1 h2 hs ht rfl rfl rfl
  have := (WE.bd hok k).1
  rw [weW_st _ _ _ _ hL hR] at this
  exact this
end Go.Proofs.YtjpobkmlcjbpiaaGreat
