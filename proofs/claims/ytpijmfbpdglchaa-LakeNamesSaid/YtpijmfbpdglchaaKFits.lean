/- CONTRACT: does a Real fit a lake? -/
import Derived.Test.YtpijmfbpdglchaaKBase
import Derived.Test.YtpijmfbpdglchaaKPlain
set_option linter.unusedVariables false
set_option linter.unusedSimpArgs false
namespace Go.Proofs.Ytpijmfbpdglchaa
open Go.RowKit Go.Proofs
attribute [local go_sem ↓] Go.wp_at_zero Go.wp_at_succ

/-- the cells of a Real -/
abbrev xA (FA : Option Addr) (nF cF : Nat) (SA : Option Addr) (nS cS : Nat) (x : Rel) : Array Value := #[.slice FA nF cF, .slice SA nS cS, .int .i64 x.start, .int .i64 x.soft]
/-- A Real's lists in memory. -/
structure RdX (w : World) (FA : Option Addr) (nF : Nat) (SA : Option Addr) (nS : Nat) (x : Rel) : Prop where
  infl : Rd enc1 1 w FA nF x.inflow
  seep : Rd enc1 1 w SA nS x.seep
theorem RdX.below {w w' : World} {FA SA : Option Addr} {nF nS : Nat} {x : Rel} (h : RdX w FA nF SA nS x) (hb : Below w.heap.size w w') : RdX w' FA nF SA nS x := ⟨h.infl.mono hb, h.seep.mono hb⟩
theorem fits_no1 {l : Lak} {x : Rel} (h : ¬ x.inflow.length = l.inflow.length) : fitsB l x = false := by simp [fitsB, h]
theorem fits_no2 {l : Lak} {x : Rel} (h : ¬ x.seep.length = l.inflow.length) : fitsB l x = false := by simp [fitsB, h]
theorem fits_no3 {l : Lak} {x : Rel} (h : allB (fun s => inB s l.seep.1 l.seep.2) x.seep = false) : fitsB l x = false := by simp [fitsB, h]
theorem fits_no4 {l : Lak} {x : Rel} {k : Nat} {r : Rng} {i : Int} (hr : l.inflow[k]? = some r) (hi : x.inflow[k]? = some i) (h : inB i r.1 r.2 = false) : fitsB l x = false := by
  rw [← Bool.not_eq_true]
  intro hf
  have := (fitsB_iff.1 hf).inflow k r i hr hi
  have := inB_not.1 h
  omega
theorem fits_end {l : Lak} {x : Rel} (h1 : x.inflow.length = l.inflow.length) (h2 : x.seep.length = l.inflow.length) (h3 : allB (fun s => inB s l.seep.1 l.seep.2) x.seep = true)
    (h4 : ∀ (k : Nat) (r : Rng) (i : Int), l.inflow[k]? = some r → x.inflow[k]? = some i → inB i r.1 r.2 = true) : fitsB l x = (inB x.start l.start.1 l.start.2 && inB x.soft l.soft.1 l.soft.2) := by
  have : allB (fun p : Rng × Int => inB p.2 p.1.1 p.1.2) (l.inflow.zip x.inflow) = true := allB_iff.2 fun i p hp => by
    rw [List.getElem?_zip_eq_some] at hp
    exact h4 i _ _ hp.1 hp.2
  simp [fitsB, h1, h2, h3, this]
section
variable {VA IA FA SA : Option Addr} {nV nI nF nS cV cI cF cS : Nat} {l : Lak} {x : Rel} {w : World}
set_option maxRecDepth 100000 in
set_option maxHeartbeats 4000000 in
theorem fits_c (h : RdL w VA nV IA nI l) (hx : RdX w FA nF SA nS x) (hnI : nI ≤ maxLen) (hnF : nF ≤ maxLen) (hnS : nS ≤ maxLen) :
    Calls Try.prog 75 #[.agg (xA FA nF cF SA nS cS x), .agg (lA VA nV cV IA nI cI l)] w fun e w' => e = .returned (.bool (fitsB l x)) ∧ Below w.heap.size w w' := by
  have hil := h.infl.len; have hfl := hx.infl.len; have hsl := hx.seep.len
  have hb := ((Below.refl w.heap.size w).alloc (Nat.le_refl _) (.cells (xA FA nF cF SA nS cS x) 77)).alloc (by simp) (.cells (lA VA nV cV IA nI cI l) 38)
  obtain ⟨W, hW⟩ : ∃ W, W = ((w.alloc (.cells (xA FA nF cF SA nS cS x) 77)).alloc (.cells (lA VA nV cV IA nI cI l) 38)) := ⟨_, rfl⟩
  have hX := (Blk.new w 77 (xA FA nF cF SA nS cS x)).alloc (.cells (lA VA nV cV IA nI cI l) 38)
  have hL := Blk.new (w.alloc (.cells (xA FA nF cF SA nS cS x) 77)) 38 (lA VA nV cV IA nI cI l)
  simp only [World.size_alloc] at hL
  rw [← hW] at hb hX hL
  have HS := Lib.hid (allInt_c (p := fun s => inB s l.seep.1 l.seep.2) (c := cS) (.agg #[.int .i64 l.seep.1, .int .i64 l.seep.2]) W (hx.seep.mono hb) hnS (fun i y W _ _ => has_c l.seep y W))
  rw [hW] at HS
  have HW := Lib.hid hW; have HB := Lib.hid hb; have HX := Lib.hid hX; have HL := Lib.hid hL; have HH := Lib.hid h; have HXX := Lib.hid hx
  obtain ⟨R, hR⟩ : ∃ R, R = fitsB l x := ⟨_, rfl⟩
  rw [← hR]
  have N1 := Lib.hid (fits_no1 (l := l) (x := x)); have N2 := Lib.hid (fits_no2 (l := l) (x := x)); have N3 := Lib.hid (fits_no3 (l := l) (x := x)); have N4 := Lib.hid (fun k r i => fits_no4 (l := l) (x := x) (k := k) (r := r) (i := i)); have N5 := Lib.hid (fits_end (l := l) (x := x))
  rw [← hR] at N1 N2 N3 N4 N5
  rw [hfl, hil] at N1 N5
  rw [hsl, hil] at N2
  rw [hsl] at N5
  have hnI' : (nI : Int) ≤ 9223372036854775807 := by unfold maxLen at hnI; omega
  clear h hx hb hX hL hW hR hil hfl hsl hnI hnF hnS
  by_cases h1 : nF = nI
  · by_cases h2 : nS = nI
    · subst h1
      subst h2
      cases h3 : allB (fun s => inB s l.seep.1 l.seep.2) x.seep
      · obtain rfl := N3.out h3
        rw [h3] at HS
        go_enter Try.func75, Try.ntmps75
        go_wp2_with (go_at_call 97; refine HS.out.mono ?_; rw [← HW.out]; rintro e w1 ⟨rfl, hb1⟩)
        go_ret
        exact ⟨rfl, below_tr HB.out hb1⟩
      · rw [h3] at HS
        have N6 := Lib.hid (N5.out rfl rfl h3)
        go_enter Try.func75, Try.ntmps75
        go_wp2_with (go_at_call 97; refine HS.out.mono ?_; rw [← HW.out]; rintro e w1 ⟨rfl, hb1⟩; have l9 := (HL.out.below hb1 HL.out.lt).cell 9; simp at l9)
        have HB1 := Lib.hid (below_tr HB.out hb1)
        have HX1 := Lib.hid (HX.out.below hb1 HX.out.lt)
        have HL1 := Lib.hid (HL.out.below hb1 HL.out.lt)
        clear hb1 h3
        go_loopw [35] (fun i wr => ∃ k : Nat, k ≤ nS ∧ i = .int .i64 k ∧ (∀ (j : Nat) (r : Rng) (v : Int), j < k → l.inflow[j]? = some r → x.inflow[j]? = some v → inB v r.1 r.2 = true) ∧ Below w1.heap.size w1 wr) (fun i _ => nS - (intOf i).toNat)
        case atStart => exact ⟨0, Nat.zero_le _, rfl, fun j _ _ hj => absurd hj (by omega), Below.refl _ _⟩
        case round =>
          obtain ⟨k, hk, rfl, hall, hbr⟩ := hrel
          have HA := Lib.hid hall; have HBR := Lib.hid hbr
          clear hall l9
          have HBT := Lib.hid (below_tr HB1.out hbr)
          by_cases hlt : k < nS
          · obtain ⟨b, o, r, rfl, hbl, hr, e0, e1⟩ := (HH.out.infl.below HBT.out).at2 hlt
            obtain ⟨b', o', v, rfl, hbl', hv, e2⟩ := (HXX.out.infl.below HBT.out).at1 hlt
            have x0 := (HX1.out.below hbr HX1.out.lt).cell 0
            simp at x0
            have hxl : w.heap.size < wr.heap.size := (HX1.out.below hbr HX1.out.lt).lt
            have HR0 := Lib.hid hr; have HV0 := Lib.hid hv
            have hkn : (k : Int) < (nS : Int) := by omega
            have hk0 : (0 : Int) ≤ (k : Int) := by omega
            obtain ⟨r1, r2⟩ := r
            have HC := Lib.hid (has_c (r1, r2) v)
            have hba := (Below.refl wr.heap.size wr).alloc (Nat.le_refl _) (.cells #[.int .i64 r1, .int .i64 r2] 35)
            have HBA := Lib.hid hba
            clear hr hv hbr hba
            cases hin : inB v r1 r2
            · obtain rfl := N4.out k (r1, r2) v HR0.out HV0.out hin
              simp only [hin] at HC
              go_wp2_with fail
              refine wp_region_ext (by kernel_rfl) (by kernel_rfl) ?_
              repeat (go_big_quiet_step ((go_at_call 93; exact ext_call (HC.out _))))
              refine wpQuiet_nil ?_
              rintro _ ⟨q, rfl⟩
              go_wp2
              go_ret
              exact ⟨rfl, below_tr HBT.out (below_tr HBA.out q.below)⟩
            · simp only [hin] at HC
              go_wp2_with fail
              refine wp_region_ext (by kernel_rfl) (by kernel_rfl) ?_
              repeat (go_big_quiet_step ((go_at_call 93; exact ext_call (HC.out _))))
              refine wpQuiet_nil ?_
              rintro _ ⟨q, rfl⟩
              go_wp2
              go_roundw
              case rel => exact ⟨k + 1, by omega, by go_num, fun j r u hj hr hu => by
                rcases Nat.lt_or_ge j k with hjk | hjk
                · exact HA.out j r u hjk hr hu
                · obtain rfl : j = k := by omega
                  rw [HR0.out] at hr; cases hr; rw [HV0.out] at hu; cases hu; exact hin, below_tr HBR.out (below_tr HBA.out q.below)⟩
              case measure => simp [intOf] <;> omega
          · obtain rfl : k = nS := by omega
            have N7 := Lib.hid (N6.out (fun j r v hr hv => HA.out j r v (by have := lt_of_get hr; have := HH.out.infl.len; omega) hr hv))
            have hx2 := HX1.out.below hbr HX1.out.lt
            have hl2 := HL1.out.below hbr HL1.out.lt
            have x2 := hx2.cell 2
            have l5 := hl2.cell 5; have l6 := hl2.cell 6
            simp at x2 l5 l6
            have HX2 := Lib.hid hx2; have HL2 := Lib.hid hl2
            clear hx2 hl2 hbr
            cases h5 : inB x.start l.start.1 l.start.2
            · obtain rfl : R = false := by rw [N7.out, h5]; rfl
              have HC := Lib.hid (has_c l.start x.start)
              rw [h5] at HC
              go_wp2_with (go_at_call 93; refine (HC.out _).mono ?_; rintro e w2 ⟨rfl, hb2⟩)
              go_ret
              exact ⟨rfl, below_tr HBT.out hb2⟩
            · have HRR := Lib.hid (show inB x.soft l.soft.1 l.soft.2 = R by rw [N7.out, h5]; rfl)
              have HC := Lib.hid (has_c l.start x.start)
              have HD := Lib.hid (has_c l.soft x.soft)
              rw [h5] at HC
              go_wp2_with fail
              refine (HC.out _).mono ?_
              rintro e w2 ⟨rfl, hb2⟩
              have hx3 := HX2.out.below hb2 HX2.out.lt
              have hl3 := HL2.out.below hb2 HL2.out.lt
              have x3 := hx3.cell 3
              have l3 := hl3.cell 3; have l4 := hl3.cell 4
              simp at x3 l3 l4
              have HB2 := Lib.hid (below_tr HBT.out hb2)
              clear hx3 hl3 hb2 HC
              go_wp2_with (go_at_call 93; refine (HD.out _).mono ?_; rintro e w3 ⟨rfl, hb3⟩)
              go_ret
              exact ⟨ret_bool HRR.out, below_tr HB2.out hb3⟩
    · obtain rfl := N2.out (fun h => h2 h)
      have h2' : ¬ (nS : Int) = (nI : Int) := by omega
      have h2'' : ((nS : Int) == (nI : Int)) = false := by simpa using h2'
      subst h1
      go_enter Try.func75, Try.ntmps75
      go_wp2_with fail
      rw [← HW.out]
      go_ret
      exact ⟨rfl, HB.out⟩
  · obtain rfl := N1.out (fun h => h1 h)
    have h1' : ¬ (nF : Int) = (nI : Int) := by omega
    have h1'' : ((nF : Int) == (nI : Int)) = false := by simpa using h1'
    go_enter Try.func75, Try.ntmps75
    go_wp2_with fail
    rw [← HW.out]
    go_ret
    exact ⟨rfl, HB.out⟩
end
end Go.Proofs.Ytpijmfbpdglchaa
