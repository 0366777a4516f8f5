/- CONTRACT of water.Learn, at readings that a truth made. -/
import Derived.Test.YtjpobkmlcjbpiaaGreatYKnown
import Derived.Test.YtjpobkmlcjbpiaaGreatYTruth
import Derived.Test.YtjpobkmlcjbpiaaGreatYAllRdg
import Derived.Test.YtjpobkmlcjbpiaaGreatYGround3
set_option linter.unusedVariables false
set_option linter.unusedSimpArgs false
namespace Go.Proofs.YtjpobkmlcjbpiaaGreat
open Go.RowKit Go.Proofs Go.WideMaps
attribute [local go_sem ↓] Go.wp_at_zero Go.wp_at_succ

theorem reading_c {V : Nat} {A DA : Option Addr} {cn cc dn dc : Nat} {sn0 sn1 so0 so1 melt : Int} (x : WRd) (w : World) (hg : Blk w V 46 #[.slice A cn cc, .int .i64 sn0, .int .i64 sn1, .int .i64 so0, .int .i64 so1, .int .i64 melt])
    (hd : Blk w (V + 1) 48 #[.slice DA dn dc]) (hcn : cn ≤ 100) (hdn : dn ≤ 100) (h1 : 0 ≤ x.cell ∧ x.cell ≤ (cn : Int) - 1) (h2 : 0 ≤ x.day ∧ x.day ≤ (dn : Int) - 1) (h3 : 0 ≤ x.lo ∧ x.lo ≤ x.hi ∧ x.hi ≤ 100000) :
    Calls Tryz.prog 37 #[.agg #[.int .i64 x.cell, .int .i64 x.day, .int .i64 x.lo, .int .i64 x.hi], .pointer (some ⟨V, 0, none⟩), .pointer (some ⟨V + 1, 0, none⟩)] w fun e w' => e = .returned (.bool true) ∧ Below w.heap.size w w' := by
  have i1 : inB x.cell 0 ((cn : Int) - 1) = true := by unfold inB; simp; omega
  have i2 : inB x.day 0 ((dn : Int) - 1) = true := by unfold inB; simp; omega
  have i3 : upB x.lo x.hi 100000 = true := by unfold upB; simp; omega
  have q1 := wa_within_c x.cell 0 ((cn : Int) - 1); have q2 := wa_within_c x.day 0 ((dn : Int) - 1); have q3 := fun W => wa_up_c x.lo x.hi 100000 W
  rw [i1] at q1; rw [i2] at q2; simp only [i3] at q3
  have Q1 := Lib.hid q1; have Q2 := Lib.hid q2; have Q3 := Lib.hid q3
  clear i1 i2 i3 q1 q2 q3
  have hal := (Below.refl w.heap.size w).alloc (Nat.le_refl _) (.cells #[.int .i64 x.cell, .int .i64 x.day, .int .i64 x.lo, .int .i64 x.hi] 65)
  have HB := Lib.hid hal; have HG := Lib.hid (hg.below hal hg.lt); have HD := Lib.hid (hd.below hal hd.lt); have HX := Lib.hid (Blk.new w 65 #[.int .i64 x.cell, .int .i64 x.day, .int .i64 x.lo, .int .i64 x.hi])
  clear hal hg hd
  go_enter Tryz.func37, Tryz.ntmps37
  go_upto_region 1 with fail
  revert HB HG HD HX
  generalize World.alloc w _ = w1
  intro HB HG HD HX
  have x0 := HX.out.cell 0; have g0 := HG.out.cell 0
  simp at x0 g0
  go_wp2_with fail
  go_at_call 38
  refine (Q1.out _).mono ?_
  rintro e w2 ⟨rfl, hb9⟩
  have t0 := below_tr HB.out hb9; have t1 := HG.out.below hb9 HG.out.lt; have t2 := HD.out.below hb9 HD.out.lt; have t3 := HX.out.below hb9 HX.out.lt
  clear HB HG HD HX
  have HB := Lib.hid t0; have HG := Lib.hid t1; have HD := Lib.hid t2; have HX := Lib.hid t3
  clear t0 t1 t2 t3
  clear hb9 
  clear x0 g0
  have x0 := HX.out.cell 1; have g0 := HD.out.cell 0
  simp at x0 g0
  go_wp2_with fail
  go_at_call 38
  refine (Q2.out _).mono ?_
  rintro e w3 ⟨rfl, hb9⟩
  have t0 := below_tr HB.out hb9; have t1 := HG.out.below hb9 HG.out.lt; have t2 := HD.out.below hb9 HD.out.lt; have t3 := HX.out.below hb9 HX.out.lt
  clear HB HG HD HX
  have HB := Lib.hid t0; have HG := Lib.hid t1; have HD := Lib.hid t2; have HX := Lib.hid t3
  clear t0 t1 t2 t3
  clear hb9 
  clear x0 g0
  have x0 := HX.out.cell 2; have x1 := HX.out.cell 3
  simp at x0 x1
  go_wp2_with fail
  go_at_call 39
  refine (Q3.out _).mono ?_
  rintro e w4 ⟨rfl, hb9⟩
  have t0 := below_tr HB.out hb9; have t1 := HG.out.below hb9 HG.out.lt; have t2 := HD.out.below hb9 HD.out.lt; have t3 := HX.out.below hb9 HX.out.lt
  clear HB HG HD HX
  have HB := Lib.hid t0; have HG := Lib.hid t1; have HD := Lib.hid t2; have HX := Lib.hid t3
  clear t0 t1 t2 t3
  clear hb9 
  clear x0 x1
  go_wp2_with fail
  go_ret
  exact ⟨rfl, HB.out⟩
/-- the levels behind k days, all but the soak known -/
def stS (C : List Cel) (D : List Dy) (melt sn n : Int) (k : Nat) : WaySt := daysW C melt n (D.map (·.lo)) (D.map (·.warm)) ⟨C.map (·.lo), sn, 0⟩ k
/-- what is fixed of the way that Learn makes -/
def mkE (CA : Option Addr) (cn cc : Nat) (DA : Option Addr) (dn dc : Nat) (LA : Option Addr) (lc : Nat) (RA : Option Addr) (rc : Nat) (sn so0 so1 melt : Int) (C : List Cel) (D : List Dy) : WE :=
  { CS := ⟨CA, cn, cc⟩, DS := ⟨DA, dn, dc⟩, LV := ⟨LA, cn, lc⟩, RN := ⟨RA, dn, rc⟩, sn0 := sn, sn1 := sn, so0 := so0, so1 := so1, melt := melt, tsn := sn, tso := so0, C := C, D := D, rain := D.map (·.lo), L0 := C.map (·.lo) }
theorem mkE_st (CA : Option Addr) (cn cc : Nat) (DA : Option Addr) (dn dc : Nat) (LA : Option Addr) (lc : Nat) (RA : Option Addr) (rc : Nat) (sn so0 so1 melt : Int) (C : List Cel) (D : List Dy) (n : Int) (k : Nat) :
    ((mkE CA cn cc DA dn dc LA lc RA rc sn so0 so1 melt C D).soak n).st k = stS C D melt sn n k := rfl
theorem mkE_ok {CA : Option Addr} {cn cc : Nat} {DA : Option Addr} {dn dc : Nat} {LA : Option Addr} {lc : Nat} {RA : Option Addr} {rc : Nat} {sn so0 so1 melt : Int} {C : List Cel} {D : List Dy} {n : Int}
    (hc : ∀ c ∈ C, celOk cn c) (hn : 1 ≤ cn ∧ cn ≤ 8) (hcl : C.length = cn) (hme : 0 ≤ melt ∧ melt ≤ 50) (hs : 0 ≤ sn ∧ sn ≤ 100000) (hso : 0 ≤ so0 ∧ so1 ≤ 1000) (hdl : D.length = dn) (hdn : dn ≤ 30) (hd : ∀ d ∈ D, dayOk d = true) (h1 : so0 ≤ n) (h2 : n ≤ so1) :
    ((mkE CA cn cc DA dn dc LA lc RA rc sn so0 so1 melt C D).soak n).Ok := by
  have hdd : ∀ d ∈ D, (0 ≤ d.lo ∧ d.lo ≤ 1000) ∧ -50 ≤ d.warm ∧ d.warm ≤ 50 := by
    intro d hm
    have := hd d hm
    unfold dayOk upB inB at this
    simp at this
    omega
  refine ⟨hc, hn, hcl, hme, ⟨by show 0 ≤ n; omega, by show n ≤ 1000; omega⟩, hs, fun i => ?_, by show (C.map _).length = cn; rw [List.length_map, hcl], hdl, hdn, by show (D.map _).length = dn; rw [List.length_map, hdl], rfl, fun d hm => (hdd d hm).2, fun r hr => ?_⟩
  · show 0 ≤ lvA (C.map (·.lo)) i ∧ lvA (C.map (·.lo)) i ≤ 100000
    unfold lvA
    rw [List.getD_eq_getElem?_getD, List.getElem?_map]
    cases hx : C[i]? with
    | none => simp
    | some c =>
      have := hc c (List.mem_of_getElem? hx)
      have h3 := this.1; have h4 := this.2.1
      simp; omega
  · obtain ⟨d, hm, rfl⟩ := List.mem_map.1 hr
    exact (hdd d hm).1
theorem stS_mono {C : List Cel} {D : List Dy} {melt sn p q : Int} {cn : Nat} (hc : ∀ c ∈ C, celOk cn c) (hme : 0 ≤ melt) (hs : 0 ≤ sn) (hd : ∀ d ∈ D, dayOk d = true) (hp : 0 ≤ p) (hpq : p ≤ q) (k : Nat) : LeL (stS C D melt sn p k).lv (stS C D melt sn q k).lv := by
  refine (days_mono hc hme hp hpq (fun x hx => ?_) (fun i => Int.le_refl _) (fun i => Int.le_refl _) hs (Int.le_refl _) k).1
  obtain ⟨d, hm, rfl⟩ := List.mem_map.1 hx
  have := hd d hm
  unfold dayOk upB inB at this
  simp at this
  omega
theorem rd_farF {w : World} {A : Option Addr} {n : Nat} {l : List Int} (h : Rd enc1 1 w A n l) {g : Nat} {t : TypeId} (hb : Blk w g t #[.nilFunc]) (u : Value) : Rd enc1 1 (w.setCell ⟨g, 0, none⟩ u) A n l := by
  refine ⟨h.1, fun hn => ?_⟩
  obtain ⟨b, o, e, hlt, hc⟩ := h.2 hn
  refine ⟨b, o, e, by simpa using hlt, fun i x hx j v hv => ?_⟩
  have h0 := hc i x hx j v hv
  have hne : b ≠ g := by
    rintro rfl
    rw [hb.cell] at h0
    have hj : j = 0 := by
      have := (List.getElem?_eq_some_iff.1 hv).1
      simp [enc1] at this; omega
    subst hj
    simp [enc1] at hv
    subst hv
    have hlt2 := (Array.getElem?_eq_some_iff.1 h0).1
    simp at hlt2
    simp [hlt2] at h0
  rw [World.cell?_of_block (w := w) (a := ⟨b, _, none⟩) (Below.heap_setCell w ⟨g, 0, none⟩ u b hne)]
  exact h0
set_option linter.unusedSimpArgs false in
set_option maxRecDepth 100000 in
set_option maxHeartbeats 8000000 in
theorem Learn_c {CA DA XA : Option Addr} {cn cc dn dc xn xc : Nat} {sn so0 so1 melt t : Int} {C : List Cel} {D : List Dy} {X : List WRd} {w : World}
    (hC : Rd encCel 7 w CA cn C) (hD : Rd encDy 3 w DA dn D) (hX : Rd encWR 4 w XA xn X) (hfa : faultW C sn sn so0 so1 melt D = 0) (hd1 : 1 ≤ dn) (hxn : xn ≤ 30) (hk1 : ∀ c ∈ C, c.lo = c.hi) (hk2 : ∀ d ∈ D, d.lo = d.hi)
    (hone : OneEach X) (hx : ∀ x ∈ X, (0 ≤ x.cell ∧ x.cell ≤ (cn : Int) - 1) ∧ (0 ≤ x.day ∧ x.day ≤ (dn : Int) - 1) ∧ x.lo = x.hi ∧ x.lo = lvA (stS C D melt sn t (x.day.toNat + 1)).lv x.cell.toNat) (ht : so0 ≤ t ∧ t ≤ so1) :
    Calls Tryz.prog 16 #[.agg #[.slice CA cn cc, .int .i64 sn, .int .i64 sn, .int .i64 so0, .int .i64 so1, .int .i64 melt], .slice DA dn dc, .slice XA xn xc] w fun e w' => ∃ a b, e = .returned (.tuple #[.agg #[.int .i64 a, .int .i64 b], .int .i64 0]) ∧ a ≤ t ∧ t ≤ b ∧ Below w.heap.size w w' := by
  have hcl := hC.len; have hdl := hD.len
  obtain ⟨hgr, hd30, hdo⟩ := faultW_zero.1 hfa
  obtain ⟨g1, g2, g3, g4, g5, g6⟩ := groundOk_iff.1 hgr
  have hokE := fun (LA : Option Addr) (lc : Nat) (RA : Option Addr) (rc : Nat) (n : Int) (h1 : so0 ≤ n) (h2 : n ≤ so1) => mkE_ok (CA := CA) (cn := cn) (cc := cc) (DA := DA) (dn := dn) (dc := dc) (LA := LA) (lc := lc) (RA := RA) (rc := rc) (so0 := so0) (so1 := so1) (melt := melt) (n := n) (by rw [hcl] at g2; exact g2) (by omega) hcl g5 ⟨g3.1, g3.2.2⟩ ⟨g4.1, g4.2.2⟩ hdl (by omega) hdo h1 h2
  have hmono := fun (p q : Int) (h1 : so0 ≤ p) (h2 : p ≤ q) (k : Nat) => stS_mono (C := C) (D := D) (melt := melt) (sn := sn) (p := p) (q := q) g2 g5.1 g3.1 hdo (by omega) h2 k
  have hwc := fun (W : World) (hW : Below w.heap.size w W) => wcheck_c (c := cc) (dc := dc) sn sn so0 so1 melt (hC.below hW) (by unfold maxLen; omega) (hD.below hW) (by unfold maxLen; omega)
  rw [hfa] at hwc
  have hkc := fun (W : World) (hW : Below w.heap.size w W) => known_c (cc := cc) (dc := dc) (sn := sn) (so0 := so0) (so1 := so1) (melt := melt) (hC.below hW) (hD.below hW) (by omega) (by omega) hk1 hk2
  have htc := fun (W : World) (hW : Below w.heap.size w W) => wtruth_c (cc := cc) (dc := dc) (sn0 := sn) (sn1 := sn) (so0 := so0) (so1 := so1) (melt := melt) (hC.below hW) (hD.below hW) (by omega) (by omega)
  have hxb : ∀ x ∈ X, 0 ≤ x.lo ∧ x.hi ≤ 100000 := by
    intro x hm
    obtain ⟨h1, h2, h3, h4⟩ := hx x hm
    have hb := (WE.bd (hokE none 0 none 0 t ht.1 ht.2) (x.day.toNat + 1)).1 x.cell.toNat
    rw [mkE_st, ← h4] at hb
    omega
  have hkey : KeyWR X := fun x hm => by have h := hx x hm; omega
  have hrc := fun (W : World) (hW : Below w.heap.size w W) => read_c (c := xc) (hX.below hW) (by omega) hone hkey
  have hps : ∀ p ∈ psOf X, (0 ≤ p.1.1 ∧ p.1.1 < (cn : Int)) ∧ 0 ≤ p.1.2 ∧ p.1.2 < (dn : Int) := by
    intro p hp
    obtain ⟨x, hm, rfl⟩ := List.mem_map.1 hp
    have h := hx x hm
    dsimp only; omega
  have hr3 : ∀ (n : Int), t ≤ n → ∀ p ∈ psOf X, rel3 (lvA (stS C D melt sn n (p.1.2.toNat + 1)).lv p.1.1.toNat) p.2 := by
    intro n hn p hp
    obtain ⟨x, hm, rfl⟩ := List.mem_map.1 hp
    obtain ⟨h1, h2, h3, h4⟩ := hx x hm
    have := hmono t n ht.1 hn (x.day.toNat + 1) x.cell.toNat
    unfold rel3; dsimp only; omega
  have hr4 : ∀ (n : Int), so0 ≤ n → n ≤ t → ∀ p ∈ psOf X, rel4 (lvA (stS C D melt sn n (p.1.2.toNat + 1)).lv p.1.1.toNat) p.2 := by
    intro n hn0 hn p hp
    obtain ⟨x, hm, rfl⟩ := List.mem_map.1 hp
    obtain ⟨h1, h2, h3, h4⟩ := hx x hm
    have := hmono n t hn0 hn (x.day.toNat + 1) x.cell.toNat
    unfold rel4; dsimp only; omega
  have hal := (((Below.refl w.heap.size w).alloc (Nat.le_refl _) (.cells #[.slice CA cn cc, .int .i64 sn, .int .i64 sn, .int .i64 so0, .int .i64 so1, .int .i64 melt] 46)).alloc (by simp) (.cells #[.slice DA dn dc] 48)).alloc (by simp; omega) (.cells #[.int .i64 0, .int .i64 0] 44)
  have b0 := ((Blk.new w 46 #[.slice CA cn cc, .int .i64 sn, .int .i64 sn, .int .i64 so0, .int .i64 so1, .int .i64 melt]).alloc (.cells #[.slice DA dn dc] 48)).alloc (.cells #[.int .i64 0, .int .i64 0] 44)
  have b1 := (Blk.new (w.alloc (.cells #[.slice CA cn cc, .int .i64 sn, .int .i64 sn, .int .i64 so0, .int .i64 so1, .int .i64 melt] 46)) 48 #[.slice DA dn dc]).alloc (.cells #[.int .i64 0, .int .i64 0] 44)
  have b2 := Blk.new ((w.alloc (.cells #[.slice CA cn cc, .int .i64 sn, .int .i64 sn, .int .i64 so0, .int .i64 so1, .int .i64 melt] 46)).alloc (.cells #[.slice DA dn dc] 48)) 44 #[.int .i64 0, .int .i64 0]
  simp only [World.size_alloc] at b1 b2
  have HB := Lib.hid hal; have HG := Lib.hid b0; have HDB := Lib.hid b1; have HRB := Lib.hid b2
  have HOK := Lib.hid hokE; have HWC := Lib.hid hwc; have HKC := Lib.hid hkc; have HTC := Lib.hid htc; have HXB := Lib.hid hxb; have HRC := Lib.hid hrc; have HPS := Lib.hid hps; have HR3 := Lib.hid hr3; have HR4 := Lib.hid hr4
  have HC := Lib.hid hC; have HD := Lib.hid hD; have HX := Lib.hid hX; have HXX := Lib.hid hx; have HG4 := Lib.hid g4; have HN := Lib.hid (show cn ≤ 8 ∧ dn ≤ 30 by omega); have HT := Lib.hid ht
  have hn8 : cn ≤ 8 := by omega
  have hn30 : dn ≤ 30 := by omega
  clear hal b0 b1 b2 hokE hmono hwc hkc htc hxb hrc hps hr3 hr4 hC hD hX hx hkey hone hfa hk1 hk2 hcl hdl hgr hd30 hdo g1 g2 g3 g5 g6 ht g4
  go_enter Tryz.func16, Tryz.ntmps16
  go_upto_region 1 with fail
  revert HB HG HDB HRB
  generalize World.alloc (World.alloc (World.alloc w _) _) _ = w1
  intro HB HG HDB HRB
  have g0 := HG.out.cell 0; have g1 := HG.out.cell 1; have g2 := HG.out.cell 2; have g3 := HG.out.cell 3; have g4 := HG.out.cell 4; have g5 := HG.out.cell 5; have d0 := HDB.out.cell 0
  simp at g0 g1 g2 g3 g4 g5 d0
  go_wp2_with fail
  go_at_call 21
  refine (HWC.out _ HB.out).mono ?_
  rintro e w2 ⟨rfl, hb9⟩
  have t0 := below_tr HB.out hb9; have t1 := HG.out.below hb9 HG.out.lt; have t2 := HDB.out.below hb9 HDB.out.lt; have t3 := HRB.out.below hb9 HRB.out.lt
  clear HB HG HDB HRB
  have HB := Lib.hid t0; have HG := Lib.hid t1; have HDB := Lib.hid t2; have HRB := Lib.hid t3
  clear t0 t1 t2 t3
  clear hb9 
  clear g0 g1 g2 g3 g4 g5 d0
  have HAL := Lib.hid (fun (W : World) (hW : Below w.heap.size w W) (hg : Blk W w.heap.size 46 #[.slice CA cn cc, .int .i64 sn, .int .i64 sn, .int .i64 so0, .int .i64 so1, .int .i64 melt]) (hd : Blk W (w.heap.size + 1) 48 #[.slice DA dn dc]) => by
    have h := allRdg_c (p := fun _ => true) (c := xc) w.heap.size W (HX.out.below hW) (by unfold maxLen; omega) (fun i x U hxi hU => reading_c x U (hg.below hU hg.lt) (hd.below hU hd.lt) (by omega) (by omega) (HXX.out x (List.mem_of_getElem? hxi)).1 (HXX.out x (List.mem_of_getElem? hxi)).2.1 (by
      have h1 := HXX.out x (List.mem_of_getElem? hxi); have h2 := HXB.out x (List.mem_of_getElem? hxi); omega))
    rw [allB_yes] at h
    exact h)
  have hx30 : ¬ (30 : Int) < (xn : Int) := by omega
  go_wp2_with fail
  go_at_call 40
  refine (HAL.out _ HB.out HG.out HDB.out).mono ?_
  rintro e w3 ⟨rfl, hb9⟩
  have t0 := below_tr HB.out hb9; have t1 := HG.out.below hb9 HG.out.lt; have t2 := HDB.out.below hb9 HDB.out.lt; have t3 := HRB.out.below hb9 HRB.out.lt
  clear HB HG HDB HRB
  have HB := Lib.hid t0; have HG := Lib.hid t1; have HDB := Lib.hid t2; have HRB := Lib.hid t3
  clear t0 t1 t2 t3
  clear hb9 
  have g0 := HG.out.cell 0; have g1 := HG.out.cell 1; have g2 := HG.out.cell 2; have g3 := HG.out.cell 3; have g4 := HG.out.cell 4; have g5 := HG.out.cell 5; have d0 := HDB.out.cell 0
  simp at g0 g1 g2 g3 g4 g5 d0
  go_wp2_with fail
  go_at_call 41
  refine (HKC.out _ HB.out).mono ?_
  rintro e w4 ⟨rfl, hb9⟩
  have t0 := below_tr HB.out hb9; have t1 := HG.out.below hb9 HG.out.lt; have t2 := HDB.out.below hb9 HDB.out.lt; have t3 := HRB.out.below hb9 HRB.out.lt
  clear HB HG HDB HRB
  have HB := Lib.hid t0; have HG := Lib.hid t1; have HDB := Lib.hid t2; have HRB := Lib.hid t3
  clear t0 t1 t2 t3
  clear hb9 
  clear g0 g1 g2 g3 g4 g5 d0 HAL HKC HWC
  go_upto_region 11 with fail
  go_cut [10] (fun pv wx => ∃ LA lc RA rc W1 B10, pv = .pointer (some ⟨B10, 0, none⟩) ∧ Blk wx B10 116 #[.func (.func 44) #[.pointer (some ⟨W1, 0, none⟩)] #[]] ∧
    Blk wx W1 87 (wayC ⟨CA, cn, cc⟩ sn sn so0 so1 melt ⟨DA, dn, dc⟩ sn so0 ⟨LA, cn, lc⟩ ⟨RA, dn, rc⟩ (lvA (C.map (·.lo))) sn 0) ∧ Rd enc1 1 wx LA cn (C.map (·.lo)) ∧ Rd enc1 1 wx RA dn (D.map (·.lo)) ∧
    Blk wx w.heap.size 46 #[.slice CA cn cc, .int .i64 sn, .int .i64 sn, .int .i64 so0, .int .i64 so1, .int .i64 melt] ∧ Blk wx (w.heap.size + 1 + 1) 44 #[.int .i64 0, .int .i64 0] ∧ Below w.heap.size w wx)
  case first =>
    have g0 := HG.out.cell 0; have g1 := HG.out.cell 1; have g2 := HG.out.cell 2; have g3 := HG.out.cell 3; have g4 := HG.out.cell 4; have g5 := HG.out.cell 5; have d0 := HDB.out.cell 0
    simp at g0 g1 g2 g3 g4 g5 d0
    have hmf : ∀ (fn : Fn) (first cap : Array Value) (w : World), (Instr.makeFunc fn first cap).run Tryz.prog w = .ok (.func fn first cap) w := fun _ _ _ _ => rfl
    refine wp_region_till [9] (fun U => U.cell? ⟨w.heap.size, 0, none⟩ = some (.slice CA cn cc) ∧ U.cell? ⟨w.heap.size, 1, none⟩ = some (.int .i64 sn) ∧ U.cell? ⟨w.heap.size, 2, none⟩ = some (.int .i64 sn) ∧ U.cell? ⟨w.heap.size, 3, none⟩ = some (.int .i64 so0) ∧ U.cell? ⟨w.heap.size, 4, none⟩ = some (.int .i64 so1) ∧ U.cell? ⟨w.heap.size, 5, none⟩ = some (.int .i64 melt) ∧ U.cell? ⟨w.heap.size + 1, 0, none⟩ = some (.slice DA dn dc)) (by kernel_rfl) (by exact ⟨g0, g1, g2, g3, g4, g5, d0⟩) (fun hHeld => ?_)
    have hb9 := (Below.refl w4.heap.size w4).drew
    have t0 := below_tr HB.out hb9; have t1 := HG.out.below hb9 HG.out.lt; have t2 := HDB.out.below hb9 HDB.out.lt; have t3 := HRB.out.below hb9 HRB.out.lt
    clear HB HG HDB HRB
    have HB := Lib.hid t0; have HG := Lib.hid t1; have HDB := Lib.hid t2; have HRB := Lib.hid t3
    clear t0 t1 t2 t3
    clear hb9
    revert hHeld HB HG HDB HRB
    generalize w4.drew = w0
    intro hHeld HB HG HDB HRB
    (refine wpAnyL_take (n := 0) (i := 0) (oi := ?ox1) (v := ?vx1) ?hix1 ?k1x1 ?k2x1 ?k3x1 ?k4x1 ?k5x1 ?k6x1 ?hQx1 ?hYx1 ?hSx1 ?restx1; (case hix1 => (simp only [List.getElem?_toArray, List.getElem?_cons_succ, List.getElem?_cons_zero]; exact rfl)); (case k1x1 => kernel_rfl); (case k2x1 => kernel_rfl); (case k3x1 => kernel_rfl); (case k4x1 => kernel_rfl); (case k5x1 => kernel_rfl); (case k6x1 => kernel_rfl); (case hSx1 => assumption); (case hYx1 => (refine Or.inl ⟨rfl, ?hyx1⟩; intro w hSw; (try dsimp only at hSw); go_simp; (try with_reducible rfl))); (case hQx1 => exact (fun _ _ _ h => h)); (try simp only [Act.put, List.setIfInBounds_toArray, List.set_cons_zero, List.set_cons_succ]))
    (refine wpAnyL_take (n := 0) (i := 1) (oi := ?ox2) (v := ?vx2) ?hix2 ?k1x2 ?k2x2 ?k3x2 ?k4x2 ?k5x2 ?k6x2 ?hQx2 ?hYx2 ?hSx2 ?restx2; (case hix2 => (simp only [List.getElem?_toArray, List.getElem?_cons_succ, List.getElem?_cons_zero]; exact rfl)); (case k1x2 => kernel_rfl); (case k2x2 => kernel_rfl); (case k3x2 => kernel_rfl); (case k4x2 => kernel_rfl); (case k5x2 => kernel_rfl); (case k6x2 => kernel_rfl); (case hSx2 => assumption); (case hYx2 => (refine Or.inl ⟨rfl, ?hyx2⟩; intro w hSw; (try dsimp only at hSw); go_simp; (try with_reducible rfl))); (case hQx2 => exact (fun _ _ _ h => h)); (try simp only [Act.put, List.setIfInBounds_toArray, List.set_cons_zero, List.set_cons_succ]))
    (refine wpAnyL_take (n := 0) (i := 3) (oi := ?ox3) (v := ?vx3) ?hix3 ?k1x3 ?k2x3 ?k3x3 ?k4x3 ?k5x3 ?k6x3 ?hQx3 ?hYx3 ?hSx3 ?restx3; (case hix3 => (simp only [List.getElem?_toArray, List.getElem?_cons_succ, List.getElem?_cons_zero]; exact rfl)); (case k1x3 => kernel_rfl); (case k2x3 => kernel_rfl); (case k3x3 => kernel_rfl); (case k4x3 => kernel_rfl); (case k5x3 => kernel_rfl); (case k6x3 => kernel_rfl); (case hSx3 => assumption); (case hYx3 => (refine Or.inl ⟨rfl, ?hyx3⟩; intro w hSw; (try dsimp only at hSw); go_simp; (try with_reducible rfl))); (case hQx3 => exact (fun _ _ _ h => h)); (try simp only [Act.put, List.setIfInBounds_toArray, List.set_cons_zero, List.set_cons_succ]))
    (refine wpAnyL_take (n := 0) (i := 4) (oi := ?ox4) (v := ?vx4) ?hix4 ?k1x4 ?k2x4 ?k3x4 ?k4x4 ?k5x4 ?k6x4 ?hQx4 ?hYx4 ?hSx4 ?restx4; (case hix4 => (simp only [List.getElem?_toArray, List.getElem?_cons_succ, List.getElem?_cons_zero]; exact rfl)); (case k1x4 => kernel_rfl); (case k2x4 => kernel_rfl); (case k3x4 => kernel_rfl); (case k4x4 => kernel_rfl); (case k5x4 => kernel_rfl); (case k6x4 => kernel_rfl); (case hSx4 => assumption); (case hYx4 => (refine Or.inl ⟨rfl, ?hyx4⟩; intro w hSw; (try dsimp only at hSw); go_simp; (try with_reducible rfl))); (case hQx4 => exact (fun _ _ _ h => h)); (try simp only [Act.put, List.setIfInBounds_toArray, List.set_cons_zero, List.set_cons_succ]))
    refine wpAnyL_ready (rs := [2, 8]) (by kernel_rfl) (by simp) ?_
    refine AllReadyL.cons (o := ?o2x5) ?hi2x5 (fun K hK => ?_) (AllReadyL.cons (o := ?o8x5) ?hi8x5 (fun K hK => ?_) AllReadyL.nil)
    (case hi2x5 => (simp only [List.getElem?_toArray, List.getElem?_cons_succ, List.getElem?_cons_zero]; exact rfl))
    (case hi8x5 => (simp only [List.getElem?_toArray, List.getElem?_cons_succ, List.getElem?_cons_zero]; exact rfl))
    · skip
      go_simp
      go_at_call 42
      refine (wleast_c _).mono ?_
      rintro e v1 ⟨rfl, hb9⟩
      have t0 := below_tr HB.out hb9; have t1 := HG.out.below hb9 HG.out.lt; have t2 := HDB.out.below hb9 HDB.out.lt; have t3 := HRB.out.below hb9 HRB.out.lt
      clear HB HG HDB HRB
      have HB := Lib.hid t0; have HG := Lib.hid t1; have HDB := Lib.hid t2; have HRB := Lib.hid t3
      clear t0 t1 t2 t3
      clear hb9 
      (try go_wp2_with fail)
      (try clear hHeld)
      refine hK.out _ _ (by (try dsimp only); exact ⟨by simpa using HG.out.cell 0, by simpa using HG.out.cell 1, by simpa using HG.out.cell 2, by simpa using HG.out.cell 3, by simpa using HG.out.cell 4, by simpa using HG.out.cell 5, by simpa using HDB.out.cell 0⟩) (fun hHeld => ?_)
      clear hK K
      (try simp only [Act.put, List.setIfInBounds_toArray, List.set_cons_zero, List.set_cons_succ])
      refine wpAnyL_ready (rs := [5, 8]) (by kernel_rfl) (by simp) ?_
      refine AllReadyL.cons (o := ?o5x6) ?hi5x6 (fun K hK => ?_) (AllReadyL.cons (o := ?o8x6) ?hi8x6 (fun K hK => ?_) AllReadyL.nil)
      (case hi5x6 => (simp only [List.getElem?_toArray, List.getElem?_cons_succ, List.getElem?_cons_zero]; exact rfl))
      (case hi8x6 => (simp only [List.getElem?_toArray, List.getElem?_cons_succ, List.getElem?_cons_zero]; exact rfl))
      · skip
        go_simp
        go_at_call 43
        refine (HTC.out _ HB.out).mono ?_
        rintro e v2 ⟨LA, lc, RA, rc, rfl, hla, hra, hb9⟩
        have t0 := below_tr HB.out hb9; have t1 := HG.out.below hb9 HG.out.lt; have t2 := HDB.out.below hb9 HDB.out.lt; have t3 := HRB.out.below hb9 HRB.out.lt
        clear HB HG HDB HRB
        have HB := Lib.hid t0; have HG := Lib.hid t1; have HDB := Lib.hid t2; have HRB := Lib.hid t3
        clear t0 t1 t2 t3
        have HLA := Lib.hid hla
        have HRA := Lib.hid hra
        clear hb9 hla hra
        (try go_wp2_with fail)
        (try clear hHeld)
        refine hK.out _ _ (by (try dsimp only); exact ⟨by simpa using HG.out.cell 0, by simpa using HG.out.cell 1, by simpa using HG.out.cell 2, by simpa using HG.out.cell 3, by simpa using HG.out.cell 4, by simpa using HG.out.cell 5, by simpa using HDB.out.cell 0⟩) (fun hHeld => ?_)
        clear hK K
        (try simp only [Act.put, List.setIfInBounds_toArray, List.set_cons_zero, List.set_cons_succ])
        refine wpAnyL_ready (rs := [6, 8]) (by kernel_rfl) (by simp) ?_
        refine AllReadyL.cons (o := ?o6x7) ?hi6x7 (fun K hK => ?_) (AllReadyL.cons (o := ?o8x7) ?hi8x7 (fun K hK => ?_) AllReadyL.nil)
        (case hi6x7 => (simp only [List.getElem?_toArray, List.getElem?_cons_succ, List.getElem?_cons_zero]; exact rfl))
        (case hi8x7 => (simp only [List.getElem?_toArray, List.getElem?_cons_succ, List.getElem?_cons_zero]; exact rfl))
        · skip
          go_simp
          go_at_call 23
          refine ((begin_c (CS := ⟨CA, cn, cc⟩) (DS := ⟨DA, dn, dc⟩) (LV := ⟨LA, cn, lc⟩) (RN := ⟨RA, dn, rc⟩) (L := C.map (·.lo)) HLA.out hn8)).mono ?_
          rintro e v3 ⟨W1, rfl, hge, hway, hb9⟩
          clear hge
          have t0 := below_tr HB.out hb9; have t1 := HG.out.below hb9 HG.out.lt; have t2 := HDB.out.below hb9 HDB.out.lt; have t3 := HRB.out.below hb9 HRB.out.lt; have t4 := HLA.out.below hb9; have t5 := HRA.out.below hb9
          clear HB HG HDB HRB HLA HRA
          have HB := Lib.hid t0; have HG := Lib.hid t1; have HDB := Lib.hid t2; have HRB := Lib.hid t3; have HLA := Lib.hid t4; have HRA := Lib.hid t5
          clear t0 t1 t2 t3 t4 t5
          have HWAY := Lib.hid hway
          clear hb9 hway
          (try go_wp2_with fail)
          (try clear hHeld)
          refine hK.out _ _ (by (try dsimp only); exact ⟨by simpa using HG.out.cell 0, by simpa using HG.out.cell 1, by simpa using HG.out.cell 2, by simpa using HG.out.cell 3, by simpa using HG.out.cell 4, by simpa using HG.out.cell 5, by simpa using HDB.out.cell 0⟩) (fun hHeld => ?_)
          clear hK K
          (try simp only [Act.put, List.setIfInBounds_toArray, List.set_cons_zero, List.set_cons_succ])
          (refine wpAnyL_take (n := 0) (i := 7) (oi := ?ox8) (v := ?vx8) ?hix8 ?k1x8 ?k2x8 ?k3x8 ?k4x8 ?k5x8 ?k6x8 ?hQx8 ?hYx8 ?hSx8 ?restx8; (case hix8 => (simp only [List.getElem?_toArray, List.getElem?_cons_succ, List.getElem?_cons_zero]; exact rfl)); (case k1x8 => kernel_rfl); (case k2x8 => kernel_rfl); (case k3x8 => kernel_rfl); (case k4x8 => kernel_rfl); (case k5x8 => kernel_rfl); (case k6x8 => kernel_rfl); (case hSx8 => assumption); (case hYx8 => (refine Or.inl ⟨rfl, ?hyx8⟩; intro w hSw; (try dsimp only at hSw); go_simp; (try with_reducible rfl))); (case hQx8 => exact (fun _ _ _ h => h)); (try simp only [Act.put, List.setIfInBounds_toArray, List.set_cons_zero, List.set_cons_succ]))
          refine wpAnyL_ready (rs := [8]) (by kernel_rfl) (by simp) ?_
          refine AllReadyL.cons (o := ?o8x9) ?hi8x9 (fun K hK => ?_) AllReadyL.nil
          (case hi8x9 => (simp only [List.getElem?_toArray, List.getElem?_cons_succ, List.getElem?_cons_zero]; exact rfl))
          go_simp
          have hb9 := (Below.refl v3.heap.size v3).alloc (Nat.le_refl _) (.cells #[.nilFunc] 116)
          have hn := Blk.new v3 116 #[.nilFunc]
          have HGA := Lib.hid (show w.heap.size ≤ v3.heap.size from HB.out.size)
          have t0 := below_tr HB.out hb9; have t1 := HG.out.below hb9 HG.out.lt; have t2 := HDB.out.below hb9 HDB.out.lt; have t3 := HRB.out.below hb9 HRB.out.lt; have t4 := HLA.out.below hb9; have t5 := HRA.out.below hb9; have t6 := HWAY.out.below hb9 HWAY.out.lt
          clear HB HG HDB HRB HLA HRA HWAY
          have HB := Lib.hid t0; have HG := Lib.hid t1; have HDB := Lib.hid t2; have HRB := Lib.hid t3; have HLA := Lib.hid t4; have HRA := Lib.hid t5; have HWAY := Lib.hid t6
          clear t0 t1 t2 t3 t4 t5 t6
          have HA := Lib.hid hn
          clear hb9 hn
          (try clear hHeld)
          refine hK.out _ _ (by (try dsimp only); exact ⟨by simpa using HG.out.cell 0, by simpa using HG.out.cell 1, by simpa using HG.out.cell 2, by simpa using HG.out.cell 3, by simpa using HG.out.cell 4, by simpa using HG.out.cell 5, by simpa using HDB.out.cell 0⟩) (fun hHeld => ?_)
          clear hK K
          (try simp only [Act.put, List.setIfInBounds_toArray, List.set_cons_zero, List.set_cons_succ])
          revert hHeld HGA HB HG HDB HRB HLA HRA HWAY HA
          generalize hgA : v3.heap.size = gA
          generalize (World.alloc v3 (.cells #[.nilFunc] 116)) = w0
          intro HGA HB HG HDB HRB HLA HRA HWAY HA hHeld
          clear hgA
          refine wpAnyL_ready (rs := [9]) (by kernel_rfl) (by simp) ?_
          refine AllReadyL.last (o := ?o9x10) ?hi9x10 ?he9x10 (fun K hK => ?_) AllReadyL.nil
          (case hi9x10 => (simp only [List.getElem?_toArray, List.getElem?_cons_succ, List.getElem?_cons_zero]; exact rfl))
          (case he9x10 => kernel_rfl)
          have s0 := HA.out.cell 0; have f0 := HA.out.frozen 0
          (try simp at s0)
          go_simp
          (try clear hHeld)
          refine hK.out _ _ ?_
          clear hK K
          (try simp only [Act.put, List.setIfInBounds_toArray, List.set_cons_zero, List.set_cons_succ])
          (refine wpAnyL_done (by kernel_rfl) ?_ _)
          clear s0 f0
          go_wp2_with fail
          go_meet
          exact ⟨LA, lc, RA, rc, W1, _, rfl, by simpa using HA.out.set_ 0 (.func (.func 44) #[.pointer (some ⟨W1, 0, none⟩)] #[]), HWAY.out.far (Blk.ne HWAY.out HA.out (by decide)) _, rd_farF HLA.out HA.out _, rd_farF HRA.out HA.out _, HG.out.far (Blk.ne HG.out HA.out (by decide)) _, HRB.out.far (Blk.ne HRB.out HA.out (by decide)) _, HB.out.setCell (p := ⟨_, 0, none⟩) HGA.out _⟩
        · skip
          go_simp
          have hb9 := (Below.refl v2.heap.size v2).alloc (Nat.le_refl _) (.cells #[.nilFunc] 116)
          have hn := Blk.new v2 116 #[.nilFunc]
          have HGA := Lib.hid (show w.heap.size ≤ v2.heap.size from HB.out.size)
          have t0 := below_tr HB.out hb9; have t1 := HG.out.below hb9 HG.out.lt; have t2 := HDB.out.below hb9 HDB.out.lt; have t3 := HRB.out.below hb9 HRB.out.lt; have t4 := HLA.out.below hb9; have t5 := HRA.out.below hb9
          clear HB HG HDB HRB HLA HRA
          have HB := Lib.hid t0; have HG := Lib.hid t1; have HDB := Lib.hid t2; have HRB := Lib.hid t3; have HLA := Lib.hid t4; have HRA := Lib.hid t5
          clear t0 t1 t2 t3 t4 t5
          have HA := Lib.hid hn
          clear hb9 hn
          (try clear hHeld)
          refine hK.out _ _ (by (try dsimp only); exact ⟨by simpa using HG.out.cell 0, by simpa using HG.out.cell 1, by simpa using HG.out.cell 2, by simpa using HG.out.cell 3, by simpa using HG.out.cell 4, by simpa using HG.out.cell 5, by simpa using HDB.out.cell 0⟩) (fun hHeld => ?_)
          clear hK K
          (try simp only [Act.put, List.setIfInBounds_toArray, List.set_cons_zero, List.set_cons_succ])
          revert hHeld HGA HB HG HDB HRB HLA HRA HA
          generalize hgA : v2.heap.size = gA
          generalize (World.alloc v2 (.cells #[.nilFunc] 116)) = w0
          intro HGA HB HG HDB HRB HLA HRA HA hHeld
          clear hgA
          refine wpAnyL_ready (rs := [6]) (by kernel_rfl) (by simp) ?_
          refine AllReadyL.cons (o := ?o6x11) ?hi6x11 (fun K hK => ?_) AllReadyL.nil
          (case hi6x11 => (simp only [List.getElem?_toArray, List.getElem?_cons_succ, List.getElem?_cons_zero]; exact rfl))
          go_simp
          go_at_call 23
          refine ((begin_c (CS := ⟨CA, cn, cc⟩) (DS := ⟨DA, dn, dc⟩) (LV := ⟨LA, cn, lc⟩) (RN := ⟨RA, dn, rc⟩) (L := C.map (·.lo)) HLA.out hn8)).mono ?_
          rintro e v3 ⟨W1, rfl, hge, hway, hb9⟩
          clear hge
          have t0 := below_tr HB.out hb9; have t1 := HG.out.below hb9 HG.out.lt; have t2 := HDB.out.below hb9 HDB.out.lt; have t3 := HRB.out.below hb9 HRB.out.lt; have t4 := HLA.out.below hb9; have t5 := HRA.out.below hb9; have t6 := HA.out.below hb9 HA.out.lt
          clear HB HG HDB HRB HLA HRA HA
          have HB := Lib.hid t0; have HG := Lib.hid t1; have HDB := Lib.hid t2; have HRB := Lib.hid t3; have HLA := Lib.hid t4; have HRA := Lib.hid t5; have HA := Lib.hid t6
          clear t0 t1 t2 t3 t4 t5 t6
          have HWAY := Lib.hid hway
          clear hb9 hway
          (try go_wp2_with fail)
          (try clear hHeld)
          refine hK.out _ _ (by (try dsimp only); exact ⟨by simpa using HG.out.cell 0, by simpa using HG.out.cell 1, by simpa using HG.out.cell 2, by simpa using HG.out.cell 3, by simpa using HG.out.cell 4, by simpa using HG.out.cell 5, by simpa using HDB.out.cell 0⟩) (fun hHeld => ?_)
          clear hK K
          (try simp only [Act.put, List.setIfInBounds_toArray, List.set_cons_zero, List.set_cons_succ])
          (refine wpAnyL_take (n := 0) (i := 7) (oi := ?ox12) (v := ?vx12) ?hix12 ?k1x12 ?k2x12 ?k3x12 ?k4x12 ?k5x12 ?k6x12 ?hQx12 ?hYx12 ?hSx12 ?restx12; (case hix12 => (simp only [List.getElem?_toArray, List.getElem?_cons_succ, List.getElem?_cons_zero]; exact rfl)); (case k1x12 => kernel_rfl); (case k2x12 => kernel_rfl); (case k3x12 => kernel_rfl); (case k4x12 => kernel_rfl); (case k5x12 => kernel_rfl); (case k6x12 => kernel_rfl); (case hSx12 => assumption); (case hYx12 => (refine Or.inl ⟨rfl, ?hyx12⟩; intro w hSw; (try dsimp only at hSw); go_simp; (try with_reducible rfl))); (case hQx12 => exact (fun _ _ _ h => h)); (try simp only [Act.put, List.setIfInBounds_toArray, List.set_cons_zero, List.set_cons_succ]))
          refine wpAnyL_ready (rs := [9]) (by kernel_rfl) (by simp) ?_
          refine AllReadyL.last (o := ?o9x13) ?hi9x13 ?he9x13 (fun K hK => ?_) AllReadyL.nil
          (case hi9x13 => (simp only [List.getElem?_toArray, List.getElem?_cons_succ, List.getElem?_cons_zero]; exact rfl))
          (case he9x13 => kernel_rfl)
          have s0 := HA.out.cell 0; have f0 := HA.out.frozen 0
          (try simp at s0)
          go_simp
          (try clear hHeld)
          refine hK.out _ _ ?_
          clear hK K
          (try simp only [Act.put, List.setIfInBounds_toArray, List.set_cons_zero, List.set_cons_succ])
          (refine wpAnyL_done (by kernel_rfl) ?_ _)
          clear s0 f0
          go_wp2_with fail
          go_meet
          exact ⟨LA, lc, RA, rc, W1, _, rfl, by simpa using HA.out.set_ 0 (.func (.func 44) #[.pointer (some ⟨W1, 0, none⟩)] #[]), HWAY.out.far (Blk.ne HWAY.out HA.out (by decide)) _, rd_farF HLA.out HA.out _, rd_farF HRA.out HA.out _, HG.out.far (Blk.ne HG.out HA.out (by decide)) _, HRB.out.far (Blk.ne HRB.out HA.out (by decide)) _, HB.out.setCell (p := ⟨_, 0, none⟩) HGA.out _⟩
      · skip
        go_simp
        have hb9 := (Below.refl v1.heap.size v1).alloc (Nat.le_refl _) (.cells #[.nilFunc] 116)
        have hn := Blk.new v1 116 #[.nilFunc]
        have HGA := Lib.hid (show w.heap.size ≤ v1.heap.size from HB.out.size)
        have t0 := below_tr HB.out hb9; have t1 := HG.out.below hb9 HG.out.lt; have t2 := HDB.out.below hb9 HDB.out.lt; have t3 := HRB.out.below hb9 HRB.out.lt
        clear HB HG HDB HRB
        have HB := Lib.hid t0; have HG := Lib.hid t1; have HDB := Lib.hid t2; have HRB := Lib.hid t3
        clear t0 t1 t2 t3
        have HA := Lib.hid hn
        clear hb9 hn
        (try clear hHeld)
        refine hK.out _ _ (by (try dsimp only); exact ⟨by simpa using HG.out.cell 0, by simpa using HG.out.cell 1, by simpa using HG.out.cell 2, by simpa using HG.out.cell 3, by simpa using HG.out.cell 4, by simpa using HG.out.cell 5, by simpa using HDB.out.cell 0⟩) (fun hHeld => ?_)
        clear hK K
        (try simp only [Act.put, List.setIfInBounds_toArray, List.set_cons_zero, List.set_cons_succ])
        revert hHeld HGA HB HG HDB HRB HA
        generalize hgA : v1.heap.size = gA
        generalize (World.alloc v1 (.cells #[.nilFunc] 116)) = w0
        intro HGA HB HG HDB HRB HA hHeld
        clear hgA
        refine wpAnyL_ready (rs := [5]) (by kernel_rfl) (by simp) ?_
        refine AllReadyL.cons (o := ?o5x14) ?hi5x14 (fun K hK => ?_) AllReadyL.nil
        (case hi5x14 => (simp only [List.getElem?_toArray, List.getElem?_cons_succ, List.getElem?_cons_zero]; exact rfl))
        go_simp
        go_at_call 43
        refine (HTC.out _ HB.out).mono ?_
        rintro e v2 ⟨LA, lc, RA, rc, rfl, hla, hra, hb9⟩
        have t0 := below_tr HB.out hb9; have t1 := HG.out.below hb9 HG.out.lt; have t2 := HDB.out.below hb9 HDB.out.lt; have t3 := HRB.out.below hb9 HRB.out.lt; have t4 := HA.out.below hb9 HA.out.lt
        clear HB HG HDB HRB HA
        have HB := Lib.hid t0; have HG := Lib.hid t1; have HDB := Lib.hid t2; have HRB := Lib.hid t3; have HA := Lib.hid t4
        clear t0 t1 t2 t3 t4
        have HLA := Lib.hid hla
        have HRA := Lib.hid hra
        clear hb9 hla hra
        (try go_wp2_with fail)
        (try clear hHeld)
        refine hK.out _ _ (by (try dsimp only); exact ⟨by simpa using HG.out.cell 0, by simpa using HG.out.cell 1, by simpa using HG.out.cell 2, by simpa using HG.out.cell 3, by simpa using HG.out.cell 4, by simpa using HG.out.cell 5, by simpa using HDB.out.cell 0⟩) (fun hHeld => ?_)
        clear hK K
        (try simp only [Act.put, List.setIfInBounds_toArray, List.set_cons_zero, List.set_cons_succ])
        refine wpAnyL_ready (rs := [6]) (by kernel_rfl) (by simp) ?_
        refine AllReadyL.cons (o := ?o6x15) ?hi6x15 (fun K hK => ?_) AllReadyL.nil
        (case hi6x15 => (simp only [List.getElem?_toArray, List.getElem?_cons_succ, List.getElem?_cons_zero]; exact rfl))
        go_simp
        go_at_call 23
        refine ((begin_c (CS := ⟨CA, cn, cc⟩) (DS := ⟨DA, dn, dc⟩) (LV := ⟨LA, cn, lc⟩) (RN := ⟨RA, dn, rc⟩) (L := C.map (·.lo)) HLA.out hn8)).mono ?_
        rintro e v3 ⟨W1, rfl, hge, hway, hb9⟩
        clear hge
        have t0 := below_tr HB.out hb9; have t1 := HG.out.below hb9 HG.out.lt; have t2 := HDB.out.below hb9 HDB.out.lt; have t3 := HRB.out.below hb9 HRB.out.lt; have t4 := HA.out.below hb9 HA.out.lt; have t5 := HLA.out.below hb9; have t6 := HRA.out.below hb9
        clear HB HG HDB HRB HA HLA HRA
        have HB := Lib.hid t0; have HG := Lib.hid t1; have HDB := Lib.hid t2; have HRB := Lib.hid t3; have HA := Lib.hid t4; have HLA := Lib.hid t5; have HRA := Lib.hid t6
        clear t0 t1 t2 t3 t4 t5 t6
        have HWAY := Lib.hid hway
        clear hb9 hway
        (try go_wp2_with fail)
        (try clear hHeld)
        refine hK.out _ _ (by (try dsimp only); exact ⟨by simpa using HG.out.cell 0, by simpa using HG.out.cell 1, by simpa using HG.out.cell 2, by simpa using HG.out.cell 3, by simpa using HG.out.cell 4, by simpa using HG.out.cell 5, by simpa using HDB.out.cell 0⟩) (fun hHeld => ?_)
        clear hK K
        (try simp only [Act.put, List.setIfInBounds_toArray, List.set_cons_zero, List.set_cons_succ])
        (refine wpAnyL_take (n := 0) (i := 7) (oi := ?ox16) (v := ?vx16) ?hix16 ?k1x16 ?k2x16 ?k3x16 ?k4x16 ?k5x16 ?k6x16 ?hQx16 ?hYx16 ?hSx16 ?restx16; (case hix16 => (simp only [List.getElem?_toArray, List.getElem?_cons_succ, List.getElem?_cons_zero]; exact rfl)); (case k1x16 => kernel_rfl); (case k2x16 => kernel_rfl); (case k3x16 => kernel_rfl); (case k4x16 => kernel_rfl); (case k5x16 => kernel_rfl); (case k6x16 => kernel_rfl); (case hSx16 => assumption); (case hYx16 => (refine Or.inl ⟨rfl, ?hyx16⟩; intro w hSw; (try dsimp only at hSw); go_simp; (try with_reducible rfl))); (case hQx16 => exact (fun _ _ _ h => h)); (try simp only [Act.put, List.setIfInBounds_toArray, List.set_cons_zero, List.set_cons_succ]))
        refine wpAnyL_ready (rs := [9]) (by kernel_rfl) (by simp) ?_
        refine AllReadyL.last (o := ?o9x17) ?hi9x17 ?he9x17 (fun K hK => ?_) AllReadyL.nil
        (case hi9x17 => (simp only [List.getElem?_toArray, List.getElem?_cons_succ, List.getElem?_cons_zero]; exact rfl))
        (case he9x17 => kernel_rfl)
        have s0 := HA.out.cell 0; have f0 := HA.out.frozen 0
        (try simp at s0)
        go_simp
        (try clear hHeld)
        refine hK.out _ _ ?_
        clear hK K
        (try simp only [Act.put, List.setIfInBounds_toArray, List.set_cons_zero, List.set_cons_succ])
        (refine wpAnyL_done (by kernel_rfl) ?_ _)
        clear s0 f0
        go_wp2_with fail
        go_meet
        exact ⟨LA, lc, RA, rc, W1, _, rfl, by simpa using HA.out.set_ 0 (.func (.func 44) #[.pointer (some ⟨W1, 0, none⟩)] #[]), HWAY.out.far (Blk.ne HWAY.out HA.out (by decide)) _, rd_farF HLA.out HA.out _, rd_farF HRA.out HA.out _, HG.out.far (Blk.ne HG.out HA.out (by decide)) _, HRB.out.far (Blk.ne HRB.out HA.out (by decide)) _, HB.out.setCell (p := ⟨_, 0, none⟩) HGA.out _⟩
    · skip
      go_simp
      have hb9 := (Below.refl w0.heap.size w0).alloc (Nat.le_refl _) (.cells #[.nilFunc] 116)
      have hn := Blk.new w0 116 #[.nilFunc]
      have HGA := Lib.hid (show w.heap.size ≤ w0.heap.size from HB.out.size)
      have t0 := below_tr HB.out hb9; have t1 := HG.out.below hb9 HG.out.lt; have t2 := HDB.out.below hb9 HDB.out.lt; have t3 := HRB.out.below hb9 HRB.out.lt
      clear HB HG HDB HRB
      have HB := Lib.hid t0; have HG := Lib.hid t1; have HDB := Lib.hid t2; have HRB := Lib.hid t3
      clear t0 t1 t2 t3
      have HA := Lib.hid hn
      clear hb9 hn
      (try clear hHeld)
      refine hK.out _ _ (by (try dsimp only); exact ⟨by simpa using HG.out.cell 0, by simpa using HG.out.cell 1, by simpa using HG.out.cell 2, by simpa using HG.out.cell 3, by simpa using HG.out.cell 4, by simpa using HG.out.cell 5, by simpa using HDB.out.cell 0⟩) (fun hHeld => ?_)
      clear hK K
      (try simp only [Act.put, List.setIfInBounds_toArray, List.set_cons_zero, List.set_cons_succ])
      revert hHeld HGA HB HG HDB HRB HA
      generalize hgA : w0.heap.size = gA
      generalize (World.alloc w0 (.cells #[.nilFunc] 116)) = w0
      intro HGA HB HG HDB HRB HA hHeld
      clear hgA
      refine wpAnyL_ready (rs := [2]) (by kernel_rfl) (by simp) ?_
      refine AllReadyL.cons (o := ?o2x18) ?hi2x18 (fun K hK => ?_) AllReadyL.nil
      (case hi2x18 => (simp only [List.getElem?_toArray, List.getElem?_cons_succ, List.getElem?_cons_zero]; exact rfl))
      go_simp
      go_at_call 42
      refine (wleast_c _).mono ?_
      rintro e v1 ⟨rfl, hb9⟩
      have t0 := below_tr HB.out hb9; have t1 := HG.out.below hb9 HG.out.lt; have t2 := HDB.out.below hb9 HDB.out.lt; have t3 := HRB.out.below hb9 HRB.out.lt; have t4 := HA.out.below hb9 HA.out.lt
      clear HB HG HDB HRB HA
      have HB := Lib.hid t0; have HG := Lib.hid t1; have HDB := Lib.hid t2; have HRB := Lib.hid t3; have HA := Lib.hid t4
      clear t0 t1 t2 t3 t4
      clear hb9 
      (try go_wp2_with fail)
      (try clear hHeld)
      refine hK.out _ _ (by (try dsimp only); exact ⟨by simpa using HG.out.cell 0, by simpa using HG.out.cell 1, by simpa using HG.out.cell 2, by simpa using HG.out.cell 3, by simpa using HG.out.cell 4, by simpa using HG.out.cell 5, by simpa using HDB.out.cell 0⟩) (fun hHeld => ?_)
      clear hK K
      (try simp only [Act.put, List.setIfInBounds_toArray, List.set_cons_zero, List.set_cons_succ])
      refine wpAnyL_ready (rs := [5]) (by kernel_rfl) (by simp) ?_
      refine AllReadyL.cons (o := ?o5x19) ?hi5x19 (fun K hK => ?_) AllReadyL.nil
      (case hi5x19 => (simp only [List.getElem?_toArray, List.getElem?_cons_succ, List.getElem?_cons_zero]; exact rfl))
      go_simp
      go_at_call 43
      refine (HTC.out _ HB.out).mono ?_
      rintro e v2 ⟨LA, lc, RA, rc, rfl, hla, hra, hb9⟩
      have t0 := below_tr HB.out hb9; have t1 := HG.out.below hb9 HG.out.lt; have t2 := HDB.out.below hb9 HDB.out.lt; have t3 := HRB.out.below hb9 HRB.out.lt; have t4 := HA.out.below hb9 HA.out.lt
      clear HB HG HDB HRB HA
      have HB := Lib.hid t0; have HG := Lib.hid t1; have HDB := Lib.hid t2; have HRB := Lib.hid t3; have HA := Lib.hid t4
      clear t0 t1 t2 t3 t4
      have HLA := Lib.hid hla
      have HRA := Lib.hid hra
      clear hb9 hla hra
      (try go_wp2_with fail)
      (try clear hHeld)
      refine hK.out _ _ (by (try dsimp only); exact ⟨by simpa using HG.out.cell 0, by simpa using HG.out.cell 1, by simpa using HG.out.cell 2, by simpa using HG.out.cell 3, by simpa using HG.out.cell 4, by simpa using HG.out.cell 5, by simpa using HDB.out.cell 0⟩) (fun hHeld => ?_)
      clear hK K
      (try simp only [Act.put, List.setIfInBounds_toArray, List.set_cons_zero, List.set_cons_succ])
      refine wpAnyL_ready (rs := [6]) (by kernel_rfl) (by simp) ?_
      refine AllReadyL.cons (o := ?o6x20) ?hi6x20 (fun K hK => ?_) AllReadyL.nil
      (case hi6x20 => (simp only [List.getElem?_toArray, List.getElem?_cons_succ, List.getElem?_cons_zero]; exact rfl))
      go_simp
      go_at_call 23
      refine ((begin_c (CS := ⟨CA, cn, cc⟩) (DS := ⟨DA, dn, dc⟩) (LV := ⟨LA, cn, lc⟩) (RN := ⟨RA, dn, rc⟩) (L := C.map (·.lo)) HLA.out hn8)).mono ?_
      rintro e v3 ⟨W1, rfl, hge, hway, hb9⟩
      clear hge
      have t0 := below_tr HB.out hb9; have t1 := HG.out.below hb9 HG.out.lt; have t2 := HDB.out.below hb9 HDB.out.lt; have t3 := HRB.out.below hb9 HRB.out.lt; have t4 := HA.out.below hb9 HA.out.lt; have t5 := HLA.out.below hb9; have t6 := HRA.out.below hb9
      clear HB HG HDB HRB HA HLA HRA
      have HB := Lib.hid t0; have HG := Lib.hid t1; have HDB := Lib.hid t2; have HRB := Lib.hid t3; have HA := Lib.hid t4; have HLA := Lib.hid t5; have HRA := Lib.hid t6
      clear t0 t1 t2 t3 t4 t5 t6
      have HWAY := Lib.hid hway
      clear hb9 hway
      (try go_wp2_with fail)
      (try clear hHeld)
      refine hK.out _ _ (by (try dsimp only); exact ⟨by simpa using HG.out.cell 0, by simpa using HG.out.cell 1, by simpa using HG.out.cell 2, by simpa using HG.out.cell 3, by simpa using HG.out.cell 4, by simpa using HG.out.cell 5, by simpa using HDB.out.cell 0⟩) (fun hHeld => ?_)
      clear hK K
      (try simp only [Act.put, List.setIfInBounds_toArray, List.set_cons_zero, List.set_cons_succ])
      (refine wpAnyL_take (n := 0) (i := 7) (oi := ?ox21) (v := ?vx21) ?hix21 ?k1x21 ?k2x21 ?k3x21 ?k4x21 ?k5x21 ?k6x21 ?hQx21 ?hYx21 ?hSx21 ?restx21; (case hix21 => (simp only [List.getElem?_toArray, List.getElem?_cons_succ, List.getElem?_cons_zero]; exact rfl)); (case k1x21 => kernel_rfl); (case k2x21 => kernel_rfl); (case k3x21 => kernel_rfl); (case k4x21 => kernel_rfl); (case k5x21 => kernel_rfl); (case k6x21 => kernel_rfl); (case hSx21 => assumption); (case hYx21 => (refine Or.inl ⟨rfl, ?hyx21⟩; intro w hSw; (try dsimp only at hSw); go_simp; (try with_reducible rfl))); (case hQx21 => exact (fun _ _ _ h => h)); (try simp only [Act.put, List.setIfInBounds_toArray, List.set_cons_zero, List.set_cons_succ]))
      refine wpAnyL_ready (rs := [9]) (by kernel_rfl) (by simp) ?_
      refine AllReadyL.last (o := ?o9x22) ?hi9x22 ?he9x22 (fun K hK => ?_) AllReadyL.nil
      (case hi9x22 => (simp only [List.getElem?_toArray, List.getElem?_cons_succ, List.getElem?_cons_zero]; exact rfl))
      (case he9x22 => kernel_rfl)
      have s0 := HA.out.cell 0; have f0 := HA.out.frozen 0
      (try simp at s0)
      go_simp
      (try clear hHeld)
      refine hK.out _ _ ?_
      clear hK K
      (try simp only [Act.put, List.setIfInBounds_toArray, List.set_cons_zero, List.set_cons_succ])
      (refine wpAnyL_done (by kernel_rfl) ?_ _)
      clear s0 f0
      go_wp2_with fail
      go_meet
      exact ⟨LA, lc, RA, rc, W1, _, rfl, by simpa using HA.out.set_ 0 (.func (.func 44) #[.pointer (some ⟨W1, 0, none⟩)] #[]), HWAY.out.far (Blk.ne HWAY.out HA.out (by decide)) _, rd_farF HLA.out HA.out _, rd_farF HRA.out HA.out _, HG.out.far (Blk.ne HG.out HA.out (by decide)) _, HRB.out.far (Blk.ne HRB.out HA.out (by decide)) _, HB.out.setCell (p := ⟨_, 0, none⟩) HGA.out _⟩
  case rest =>
    obtain ⟨LA, lc, RA, rc, W1, Br, rfl, hbr, hway, hla, hra, hgb, hrb, hbel⟩ := hcut
    clear HB HG HDB HRB
    have HB := Lib.hid hbel; have HG := Lib.hid hgb; have HRB := Lib.hid hrb; have HWAY := Lib.hid hway; have HLA := Lib.hid hla; have HRA := Lib.hid hra; have HBR := Lib.hid hbr
    clear hbel hgb hrb hway hla hra hbr
    go_wp2_with fail
    go_at_call 45
    refine (HRC.out _ HB.out).mono ?_
    rintro e w5 ⟨M, rfl, hm, hge, hb9⟩
    clear hge
    have t0 := below_tr HB.out hb9; have t1 := HG.out.below hb9 HG.out.lt; have t2 := HRB.out.below hb9 HRB.out.lt; have t3 := HWAY.out.below hb9 HWAY.out.lt; have t4 := HLA.out.below hb9; have t5 := HRA.out.below hb9; have t6 := HBR.out.below hb9 HBR.out.lt
    clear HB HG HRB HWAY HLA HRA HBR
    have HB := Lib.hid t0; have HG := Lib.hid t1; have HRB := Lib.hid t2; have HWAY := Lib.hid t3; have HLA := Lib.hid t4; have HRA := Lib.hid t5; have HBR := Lib.hid t6
    clear t0 t1 t2 t3 t4 t5 t6
    have HM := Lib.hid hm
    clear hb9 hm
    have hmf : ∀ (fn : Fn) (first cap : Array Value) (w : World), (Instr.makeFunc fn first cap).run Tryz.prog w = .ok (.func fn first cap) w := fun _ _ _ _ => rfl
    go_upto_region 14 with fail
    have hal := ((Below.refl w5.heap.size w5).alloc (Nat.le_refl _) (.cells #[.map (some M)] 122)).alloc (by simp) (.cells #[.func (.func 46) #[] #[.pointer (some ⟨Br, 0, none⟩), .pointer (some ⟨w5.heap.size, 0, none⟩)]] 127)
    have k0 := (Blk.new w5 122 #[.map (some M)]).alloc (.cells #[.func (.func 46) #[] #[.pointer (some ⟨Br, 0, none⟩), .pointer (some ⟨w5.heap.size, 0, none⟩)]] 127)
    have k1 := Blk.new (w5.alloc (.cells #[.map (some M)] 122)) 127 #[.func (.func 46) #[] #[.pointer (some ⟨Br, 0, none⟩), .pointer (some ⟨w5.heap.size, 0, none⟩)]]
    simp only [World.size_alloc] at k1
    have t0 := below_tr HB.out hal; have t1 := HG.out.below hal HG.out.lt; have t2 := HRB.out.below hal HRB.out.lt; have t3 := HWAY.out.below hal HWAY.out.lt; have t4 := HLA.out.below hal; have t5 := HRA.out.below hal; have t6 := HBR.out.below hal HBR.out.lt; have t7 := HM.out.below hal
    clear HB HG HRB HWAY HLA HRA HBR HM
    have HB := Lib.hid t0; have HG := Lib.hid t1; have HRB := Lib.hid t2; have HWAY := Lib.hid t3; have HLA := Lib.hid t4; have HRA := Lib.hid t5; have HBR := Lib.hid t6; have HM := Lib.hid t7
    clear t0 t1 t2 t3 t4 t5 t6 t7
    have HK0 := Lib.hid k0; have HK1 := Lib.hid k1
    clear hal k0 k1
    revert HB HG HRB HWAY HLA HRA HBR HM HK0 HK1
    generalize hgm : w5.heap.size = Bm
    generalize World.alloc (World.alloc w5 _) _ = w6
    intro HB HG HRB HWAY HLA HRA HBR HM HK0 HK1
    clear hgm
    have HLM := Lib.hid (fun (W : World) (hW : Below w6.heap.size w6 W) => show LearnM (mkE CA cn cc DA dn dc LA lc RA rc sn so0 so1 melt C D) so0 sn 0 (lvA (C.map (·.lo))) W1 Br Bm M (psOf X) W from
      ⟨HBR.out.below hW HBR.out.lt, HK0.out.below hW HK0.out.lt, HM.out.below hW, HWAY.out.below hW HWAY.out.lt, ⟨HC.out.below (HB.out.trans (hW.mono HB.out.size)), HD.out.below (HB.out.trans (hW.mono HB.out.size)), HRA.out.below hW⟩, HLA.out.below hW⟩)
    have HE6 := Lib.hid HK1.out
    have HL3 := Lib.hid (fun (U : World) (hU : Below w6.heap.size w6 U) => low3_c (lo := so0) (hi := so1) (t := t) (Be := Bm + 1) (w := U) (by have := HG4.out; have := HT.out; omega) (fun n W h1 h2 hW => (holds3_c (E := mkE CA cn cc DA dn dc LA lc RA rc sn so0 so1 melt C D) (n := n) (HOK.out LA lc RA rc n h1 h2) hd1 hn8 (HLM.out W (hU.trans (hW.mono hU.size))) HPS.out (HE6.out.below (hU.trans (hW.mono hU.size)) HE6.out.lt)).mono (fun e w' ⟨b, e1, e2, e3⟩ => ⟨b, e1, fun hs => e2 (HR3.out n hs), e3⟩)))
    have HL4 := Lib.hid (fun (U : World) (hU : Below w6.heap.size w6 U) => low4_c (lo := so0) (hi := so1) (t := t) (Be := Bm + 1) (w := U) (by have := HG4.out; have := HT.out; omega) (fun n W h1 h2 hW => (holds4_c (E := mkE CA cn cc DA dn dc LA lc RA rc sn so0 so1 melt C D) (n := n) (HOK.out LA lc RA rc n h1 h2) hd1 hn8 (HLM.out W (hU.trans (hW.mono hU.size))) HPS.out (HE6.out.below (hU.trans (hW.mono hU.size)) HE6.out.lt)).mono (fun e w' ⟨b, e1, e2, e3⟩ => ⟨b, e1, fun hs => e2 (HR4.out n h1 hs), e3⟩)))
    have HB6 := Lib.hid (Below.refl w6.heap.size w6)
    clear HWAY HLA HRA HBR HM HK0 HK1
    have g3 := HG.out.cell 3; have g4 := HG.out.cell 4
    simp at g3 g4
    go_cut [13] (fun pv wx => ∃ B13 a b, pv = .pointer (some ⟨B13, 0, none⟩) ∧ Blk wx B13 44 #[.int .i64 a, .int .i64 b] ∧ a ≤ t ∧ t ≤ b ∧ 0 ≤ a ∧ b ≤ 1001 ∧ Blk wx (w.heap.size + 1 + 1) 44 #[.int .i64 0, .int .i64 0] ∧ Below w.heap.size w wx ∧ B13 ≠ w.heap.size + 1 + 1)
    case first =>
      refine wp_region_till [19] (fun U => U.cell? ⟨w.heap.size, 3, none⟩ = some (.int .i64 so0) ∧ U.cell? ⟨w.heap.size, 4, none⟩ = some (.int .i64 so1)) (by kernel_rfl) (by exact ⟨g3, g4⟩) (fun hHeld => ?_)
      have hb9 := (Below.refl w6.heap.size w6).drew
      have t0 := below_tr HB.out hb9; have t1 := HG.out.below hb9 HG.out.lt; have t2 := HRB.out.below hb9 HRB.out.lt; have t3 := below_tr HB6.out hb9
      clear HB HG HRB HB6
      have HB := Lib.hid t0; have HG := Lib.hid t1; have HRB := Lib.hid t2; have HB6 := Lib.hid t3
      clear t0 t1 t2 t3
      clear hb9
      revert hHeld HB HG HRB HB6
      generalize w6.drew = w0
      intro hHeld HB HG HRB HB6
      (refine wpAnyL_take (n := 0) (i := 0) (oi := ?ox23) (v := ?vx23) ?hix23 ?k1x23 ?k2x23 ?k3x23 ?k4x23 ?k5x23 ?k6x23 ?hQx23 ?hYx23 ?hSx23 ?restx23; (case hix23 => (simp only [List.getElem?_toArray, List.getElem?_cons_succ, List.getElem?_cons_zero]; exact rfl)); (case k1x23 => kernel_rfl); (case k2x23 => kernel_rfl); (case k3x23 => kernel_rfl); (case k4x23 => kernel_rfl); (case k5x23 => kernel_rfl); (case k6x23 => kernel_rfl); (case hSx23 => assumption); (case hYx23 => (refine Or.inl ⟨rfl, ?hyx23⟩; intro w hSw; (try dsimp only at hSw); go_simp; (try with_reducible rfl))); (case hQx23 => exact (fun _ _ _ h => h)); (try simp only [Act.put, List.setIfInBounds_toArray, List.set_cons_zero, List.set_cons_succ]))
      (refine wpAnyL_take (n := 0) (i := 1) (oi := ?ox24) (v := ?vx24) ?hix24 ?k1x24 ?k2x24 ?k3x24 ?k4x24 ?k5x24 ?k6x24 ?hQx24 ?hYx24 ?hSx24 ?restx24; (case hix24 => (simp only [List.getElem?_toArray, List.getElem?_cons_succ, List.getElem?_cons_zero]; exact rfl)); (case k1x24 => kernel_rfl); (case k2x24 => kernel_rfl); (case k3x24 => kernel_rfl); (case k4x24 => kernel_rfl); (case k5x24 => kernel_rfl); (case k6x24 => kernel_rfl); (case hSx24 => assumption); (case hYx24 => (refine Or.inl ⟨rfl, ?hyx24⟩; intro w hSw; (try dsimp only at hSw); go_simp; (try with_reducible rfl))); (case hQx24 => exact (fun _ _ _ h => h)); (try simp only [Act.put, List.setIfInBounds_toArray, List.set_cons_zero, List.set_cons_succ]))
      (refine wpAnyL_take (n := 0) (i := 2) (oi := ?ox25) (v := ?vx25) ?hix25 ?k1x25 ?k2x25 ?k3x25 ?k4x25 ?k5x25 ?k6x25 ?hQx25 ?hYx25 ?hSx25 ?restx25; (case hix25 => (simp only [List.getElem?_toArray, List.getElem?_cons_succ, List.getElem?_cons_zero]; exact rfl)); (case k1x25 => kernel_rfl); (case k2x25 => kernel_rfl); (case k3x25 => kernel_rfl); (case k4x25 => kernel_rfl); (case k5x25 => kernel_rfl); (case k6x25 => kernel_rfl); (case hSx25 => assumption); (case hYx25 => (refine Or.inl ⟨rfl, ?hyx25⟩; intro w hSw; (try dsimp only at hSw); go_simp; (try with_reducible rfl))); (case hQx25 => exact (fun _ _ _ h => h)); (try simp only [Act.put, List.setIfInBounds_toArray, List.set_cons_zero, List.set_cons_succ]))
      (refine wpAnyL_take (n := 0) (i := 3) (oi := ?ox26) (v := ?vx26) ?hix26 ?k1x26 ?k2x26 ?k3x26 ?k4x26 ?k5x26 ?k6x26 ?hQx26 ?hYx26 ?hSx26 ?restx26; (case hix26 => (simp only [List.getElem?_toArray, List.getElem?_cons_succ, List.getElem?_cons_zero]; exact rfl)); (case k1x26 => kernel_rfl); (case k2x26 => kernel_rfl); (case k3x26 => kernel_rfl); (case k4x26 => kernel_rfl); (case k5x26 => kernel_rfl); (case k6x26 => kernel_rfl); (case hSx26 => assumption); (case hYx26 => (refine Or.inl ⟨rfl, ?hyx26⟩; intro w hSw; (try dsimp only at hSw); go_simp; (try with_reducible rfl))); (case hQx26 => exact (fun _ _ _ h => h)); (try simp only [Act.put, List.setIfInBounds_toArray, List.set_cons_zero, List.set_cons_succ]))
      (refine wpAnyL_take (n := 0) (i := 4) (oi := ?ox27) (v := ?vx27) ?hix27 ?k1x27 ?k2x27 ?k3x27 ?k4x27 ?k5x27 ?k6x27 ?hQx27 ?hYx27 ?hSx27 ?restx27; (case hix27 => (simp only [List.getElem?_toArray, List.getElem?_cons_succ, List.getElem?_cons_zero]; exact rfl)); (case k1x27 => kernel_rfl); (case k2x27 => kernel_rfl); (case k3x27 => kernel_rfl); (case k4x27 => kernel_rfl); (case k5x27 => kernel_rfl); (case k6x27 => kernel_rfl); (case hSx27 => assumption); (case hYx27 => (refine Or.inl ⟨rfl, ?hyx27⟩; intro w hSw; (try dsimp only at hSw); go_simp; (try with_reducible rfl))); (case hQx27 => exact (fun _ _ _ h => h)); (try simp only [Act.put, List.setIfInBounds_toArray, List.set_cons_zero, List.set_cons_succ]))
      (refine wpAnyL_take (n := 0) (i := 5) (oi := ?ox28) (v := ?vx28) ?hix28 ?k1x28 ?k2x28 ?k3x28 ?k4x28 ?k5x28 ?k6x28 ?hQx28 ?hYx28 ?hSx28 ?restx28; (case hix28 => (simp only [List.getElem?_toArray, List.getElem?_cons_succ, List.getElem?_cons_zero]; exact rfl)); (case k1x28 => kernel_rfl); (case k2x28 => kernel_rfl); (case k3x28 => kernel_rfl); (case k4x28 => kernel_rfl); (case k5x28 => kernel_rfl); (case k6x28 => kernel_rfl); (case hSx28 => assumption); (case hYx28 => (refine Or.inl ⟨rfl, ?hyx28⟩; intro w hSw; (try dsimp only at hSw); go_simp; (try with_reducible rfl))); (case hQx28 => exact (fun _ _ _ h => h)); (try simp only [Act.put, List.setIfInBounds_toArray, List.set_cons_zero, List.set_cons_succ]))
      (refine wpAnyL_take (n := 0) (i := 6) (oi := ?ox29) (v := ?vx29) ?hix29 ?k1x29 ?k2x29 ?k3x29 ?k4x29 ?k5x29 ?k6x29 ?hQx29 ?hYx29 ?hSx29 ?restx29; (case hix29 => (simp only [List.getElem?_toArray, List.getElem?_cons_succ, List.getElem?_cons_zero]; exact rfl)); (case k1x29 => kernel_rfl); (case k2x29 => kernel_rfl); (case k3x29 => kernel_rfl); (case k4x29 => kernel_rfl); (case k5x29 => kernel_rfl); (case k6x29 => kernel_rfl); (case hSx29 => assumption); (case hYx29 => (refine Or.inl ⟨rfl, ?hyx29⟩; intro w hSw; (try dsimp only at hSw); go_simp; (try with_reducible rfl))); (case hQx29 => exact (fun _ _ _ h => h)); (try simp only [Act.put, List.setIfInBounds_toArray, List.set_cons_zero, List.set_cons_succ]))
      (refine wpAnyL_take (n := 0) (i := 8) (oi := ?ox30) (v := ?vx30) ?hix30 ?k1x30 ?k2x30 ?k3x30 ?k4x30 ?k5x30 ?k6x30 ?hQx30 ?hYx30 ?hSx30 ?restx30; (case hix30 => (simp only [List.getElem?_toArray, List.getElem?_cons_succ, List.getElem?_cons_zero]; exact rfl)); (case k1x30 => kernel_rfl); (case k2x30 => kernel_rfl); (case k3x30 => kernel_rfl); (case k4x30 => kernel_rfl); (case k5x30 => kernel_rfl); (case k6x30 => kernel_rfl); (case hSx30 => assumption); (case hYx30 => (refine Or.inl ⟨rfl, ?hyx30⟩; intro w hSw; (try dsimp only at hSw); go_simp; (try with_reducible rfl))); (case hQx30 => exact (fun _ _ _ h => h)); (try simp only [Act.put, List.setIfInBounds_toArray, List.set_cons_zero, List.set_cons_succ]))
      (refine wpAnyL_take (n := 0) (i := 9) (oi := ?ox31) (v := ?vx31) ?hix31 ?k1x31 ?k2x31 ?k3x31 ?k4x31 ?k5x31 ?k6x31 ?hQx31 ?hYx31 ?hSx31 ?restx31; (case hix31 => (simp only [List.getElem?_toArray, List.getElem?_cons_succ, List.getElem?_cons_zero]; exact rfl)); (case k1x31 => kernel_rfl); (case k2x31 => kernel_rfl); (case k3x31 => kernel_rfl); (case k4x31 => kernel_rfl); (case k5x31 => kernel_rfl); (case k6x31 => kernel_rfl); (case hSx31 => assumption); (case hYx31 => (refine Or.inl ⟨rfl, ?hyx31⟩; intro w hSw; (try dsimp only at hSw); go_simp; (try with_reducible rfl))); (case hQx31 => exact (fun _ _ _ h => h)); (try simp only [Act.put, List.setIfInBounds_toArray, List.set_cons_zero, List.set_cons_succ]))
      (refine wpAnyL_take (n := 0) (i := 10) (oi := ?ox32) (v := ?vx32) ?hix32 ?k1x32 ?k2x32 ?k3x32 ?k4x32 ?k5x32 ?k6x32 ?hQx32 ?hYx32 ?hSx32 ?restx32; (case hix32 => (simp only [List.getElem?_toArray, List.getElem?_cons_succ, List.getElem?_cons_zero]; exact rfl)); (case k1x32 => kernel_rfl); (case k2x32 => kernel_rfl); (case k3x32 => kernel_rfl); (case k4x32 => kernel_rfl); (case k5x32 => kernel_rfl); (case k6x32 => kernel_rfl); (case hSx32 => assumption); (case hYx32 => (refine Or.inl ⟨rfl, ?hyx32⟩; intro w hSw; (try dsimp only at hSw); go_simp; (try with_reducible rfl))); (case hQx32 => exact (fun _ _ _ h => h)); (try simp only [Act.put, List.setIfInBounds_toArray, List.set_cons_zero, List.set_cons_succ]))
      (refine wpAnyL_take (n := 0) (i := 11) (oi := ?ox33) (v := ?vx33) ?hix33 ?k1x33 ?k2x33 ?k3x33 ?k4x33 ?k5x33 ?k6x33 ?hQx33 ?hYx33 ?hSx33 ?restx33; (case hix33 => (simp only [List.getElem?_toArray, List.getElem?_cons_succ, List.getElem?_cons_zero]; exact rfl)); (case k1x33 => kernel_rfl); (case k2x33 => kernel_rfl); (case k3x33 => kernel_rfl); (case k4x33 => kernel_rfl); (case k5x33 => kernel_rfl); (case k6x33 => kernel_rfl); (case hSx33 => assumption); (case hYx33 => (refine Or.inl ⟨rfl, ?hyx33⟩; intro w hSw; (try dsimp only at hSw); go_simp; (try with_reducible rfl))); (case hQx33 => exact (fun _ _ _ h => h)); (try simp only [Act.put, List.setIfInBounds_toArray, List.set_cons_zero, List.set_cons_succ]))
      (refine wpAnyL_take (n := 0) (i := 12) (oi := ?ox34) (v := ?vx34) ?hix34 ?k1x34 ?k2x34 ?k3x34 ?k4x34 ?k5x34 ?k6x34 ?hQx34 ?hYx34 ?hSx34 ?restx34; (case hix34 => (simp only [List.getElem?_toArray, List.getElem?_cons_succ, List.getElem?_cons_zero]; exact rfl)); (case k1x34 => kernel_rfl); (case k2x34 => kernel_rfl); (case k3x34 => kernel_rfl); (case k4x34 => kernel_rfl); (case k5x34 => kernel_rfl); (case k6x34 => kernel_rfl); (case hSx34 => assumption); (case hYx34 => (refine Or.inl ⟨rfl, ?hyx34⟩; intro w hSw; (try dsimp only at hSw); go_simp; (try with_reducible rfl))); (case hQx34 => exact (fun _ _ _ h => h)); (try simp only [Act.put, List.setIfInBounds_toArray, List.set_cons_zero, List.set_cons_succ]))
      (refine wpAnyL_take (n := 0) (i := 13) (oi := ?ox35) (v := ?vx35) ?hix35 ?k1x35 ?k2x35 ?k3x35 ?k4x35 ?k5x35 ?k6x35 ?hQx35 ?hYx35 ?hSx35 ?restx35; (case hix35 => (simp only [List.getElem?_toArray, List.getElem?_cons_succ, List.getElem?_cons_zero]; exact rfl)); (case k1x35 => kernel_rfl); (case k2x35 => kernel_rfl); (case k3x35 => kernel_rfl); (case k4x35 => kernel_rfl); (case k5x35 => kernel_rfl); (case k6x35 => kernel_rfl); (case hSx35 => assumption); (case hYx35 => (refine Or.inl ⟨rfl, ?hyx35⟩; intro w hSw; (try dsimp only at hSw); go_simp; (try with_reducible rfl))); (case hQx35 => exact (fun _ _ _ h => h)); (try simp only [Act.put, List.setIfInBounds_toArray, List.set_cons_zero, List.set_cons_succ]))
      (refine wpAnyL_take (n := 0) (i := 14) (oi := ?ox36) (v := ?vx36) ?hix36 ?k1x36 ?k2x36 ?k3x36 ?k4x36 ?k5x36 ?k6x36 ?hQx36 ?hYx36 ?hSx36 ?restx36; (case hix36 => (simp only [List.getElem?_toArray, List.getElem?_cons_succ, List.getElem?_cons_zero]; exact rfl)); (case k1x36 => kernel_rfl); (case k2x36 => kernel_rfl); (case k3x36 => kernel_rfl); (case k4x36 => kernel_rfl); (case k5x36 => kernel_rfl); (case k6x36 => kernel_rfl); (case hSx36 => assumption); (case hYx36 => (refine Or.inl ⟨rfl, ?hyx36⟩; intro w hSw; (try dsimp only at hSw); go_simp; (try with_reducible rfl))); (case hQx36 => exact (fun _ _ _ h => h)); (try simp only [Act.put, List.setIfInBounds_toArray, List.set_cons_zero, List.set_cons_succ]))
      refine wpAnyL_ready (rs := [7, 18]) (by kernel_rfl) (by simp) ?_
      refine AllReadyL.cons (o := ?o7x37) ?hi7x37 (fun K hK => ?_) (AllReadyL.cons (o := ?o18x37) ?hi18x37 (fun K hK => ?_) AllReadyL.nil)
      (case hi7x37 => (simp only [List.getElem?_toArray, List.getElem?_cons_succ, List.getElem?_cons_zero]; exact rfl))
      (case hi18x37 => (simp only [List.getElem?_toArray, List.getElem?_cons_succ, List.getElem?_cons_zero]; exact rfl))
      · skip
        go_simp
        go_at_call 47
        refine (HL3.out _ HB6.out).mono ?_
        rintro e v1 ⟨za, rfl, hza1, hza2, hza3, hb9⟩
        have t0 := below_tr HB.out hb9; have t1 := HG.out.below hb9 HG.out.lt; have t2 := HRB.out.below hb9 HRB.out.lt; have t3 := below_tr HB6.out hb9
        clear HB HG HRB HB6
        have HB := Lib.hid t0; have HG := Lib.hid t1; have HRB := Lib.hid t2; have HB6 := Lib.hid t3
        clear t0 t1 t2 t3
        clear hb9 
        (try go_wp2_with fail)
        (try clear hHeld)
        refine hK.out _ _ (by (try dsimp only); exact ⟨by simpa using HG.out.cell 3, by simpa using HG.out.cell 4⟩) (fun hHeld => ?_)
        clear hK K
        (try simp only [Act.put, List.setIfInBounds_toArray, List.set_cons_zero, List.set_cons_succ])
        refine wpAnyL_ready (rs := [15, 18]) (by kernel_rfl) (by simp) ?_
        refine AllReadyL.cons (o := ?o15x38) ?hi15x38 (fun K hK => ?_) (AllReadyL.cons (o := ?o18x38) ?hi18x38 (fun K hK => ?_) AllReadyL.nil)
        (case hi15x38 => (simp only [List.getElem?_toArray, List.getElem?_cons_succ, List.getElem?_cons_zero]; exact rfl))
        (case hi18x38 => (simp only [List.getElem?_toArray, List.getElem?_cons_succ, List.getElem?_cons_zero]; exact rfl))
        · skip
          go_simp
          go_at_call 47
          refine (HL4.out _ HB6.out).mono ?_
          rintro e v2 ⟨zb, rfl, hzb1, hzb2, hzb3, hb9⟩
          have t0 := below_tr HB.out hb9; have t1 := HG.out.below hb9 HG.out.lt; have t2 := HRB.out.below hb9 HRB.out.lt; have t3 := below_tr HB6.out hb9
          clear HB HG HRB HB6
          have HB := Lib.hid t0; have HG := Lib.hid t1; have HRB := Lib.hid t2; have HB6 := Lib.hid t3
          clear t0 t1 t2 t3
          clear hb9 
          have hzw : IntKind.i64.wrap (zb - 1) = zb - 1 := wi (by omega)
          (try go_wp2_with fail)
          (try clear hHeld)
          refine hK.out _ _ (by (try dsimp only); exact ⟨by simpa using HG.out.cell 3, by simpa using HG.out.cell 4⟩) (fun hHeld => ?_)
          clear hK K
          (try simp only [Act.put, List.setIfInBounds_toArray, List.set_cons_zero, List.set_cons_succ])
          (refine wpAnyL_take (n := 0) (i := 16) (oi := ?ox39) (v := ?vx39) ?hix39 ?k1x39 ?k2x39 ?k3x39 ?k4x39 ?k5x39 ?k6x39 ?hQx39 ?hYx39 ?hSx39 ?restx39; (case hix39 => (simp only [List.getElem?_toArray, List.getElem?_cons_succ, List.getElem?_cons_zero]; exact rfl)); (case k1x39 => kernel_rfl); (case k2x39 => kernel_rfl); (case k3x39 => kernel_rfl); (case k4x39 => kernel_rfl); (case k5x39 => kernel_rfl); (case k6x39 => kernel_rfl); (case hSx39 => assumption); (case hYx39 => (refine Or.inl ⟨rfl, ?hyx39⟩; intro w hSw; (try dsimp only at hSw); go_simp; (try with_reducible rfl))); (case hQx39 => exact (fun _ _ _ h => h)); (try simp only [Act.put, List.setIfInBounds_toArray, List.set_cons_zero, List.set_cons_succ]))
          (refine wpAnyL_take (n := 0) (i := 17) (oi := ?ox40) (v := ?vx40) ?hix40 ?k1x40 ?k2x40 ?k3x40 ?k4x40 ?k5x40 ?k6x40 ?hQx40 ?hYx40 ?hSx40 ?restx40; (case hix40 => (simp only [List.getElem?_toArray, List.getElem?_cons_succ, List.getElem?_cons_zero]; exact rfl)); (case k1x40 => kernel_rfl); (case k2x40 => kernel_rfl); (case k3x40 => kernel_rfl); (case k4x40 => kernel_rfl); (case k5x40 => kernel_rfl); (case k6x40 => kernel_rfl); (case hSx40 => assumption); (case hYx40 => (refine Or.inl ⟨rfl, ?hyx40⟩; intro w hSw; (try dsimp only at hSw); go_simp; (try with_reducible rfl))); (case hQx40 => exact (fun _ _ _ h => h)); (try simp only [Act.put, List.setIfInBounds_toArray, List.set_cons_zero, List.set_cons_succ]))
          refine wpAnyL_ready (rs := [18]) (by kernel_rfl) (by simp) ?_
          refine AllReadyL.cons (o := ?o18x41) ?hi18x41 (fun K hK => ?_) AllReadyL.nil
          (case hi18x41 => (simp only [List.getElem?_toArray, List.getElem?_cons_succ, List.getElem?_cons_zero]; exact rfl))
          go_simp
          have hb9 := (Below.refl v2.heap.size v2).alloc (Nat.le_refl _) (.cells #[.int .i64 0, .int .i64 0] 44)
          have hn := Blk.new v2 44 #[.int .i64 0, .int .i64 0]
          have HGA := Lib.hid (show w.heap.size ≤ v2.heap.size ∧ w.heap.size + 1 + 1 < v2.heap.size from ⟨HB.out.size, HRB.out.lt⟩)
          have t0 := below_tr HB.out hb9; have t1 := HG.out.below hb9 HG.out.lt; have t2 := HRB.out.below hb9 HRB.out.lt; have t3 := below_tr HB6.out hb9
          clear HB HG HRB HB6
          have HB := Lib.hid t0; have HG := Lib.hid t1; have HRB := Lib.hid t2; have HB6 := Lib.hid t3
          clear t0 t1 t2 t3
          have HA := Lib.hid hn
          clear hb9 hn
          (try clear hHeld)
          refine hK.out _ _ (by (try dsimp only); exact ⟨by simpa using HG.out.cell 3, by simpa using HG.out.cell 4⟩) (fun hHeld => ?_)
          clear hK K
          (try simp only [Act.put, List.setIfInBounds_toArray, List.set_cons_zero, List.set_cons_succ])
          revert hHeld HGA HB HG HRB HB6 HA
          generalize hgA : v2.heap.size = gA
          generalize (World.alloc v2 (.cells #[.int .i64 0, .int .i64 0] 44)) = w0
          intro HGA HB HG HRB HB6 HA hHeld
          clear hgA
          refine wpAnyL_ready (rs := [19]) (by kernel_rfl) (by simp) ?_
          refine AllReadyL.last (o := ?o19x42) ?hi19x42 ?he19x42 (fun K hK => ?_) AllReadyL.nil
          (case hi19x42 => (simp only [List.getElem?_toArray, List.getElem?_cons_succ, List.getElem?_cons_zero]; exact rfl))
          (case he19x42 => kernel_rfl)
          have s0 := HA.out.cell 0; have f0 := HA.out.frozen 0; have s1 := HA.out.cell 1; have f1 := HA.out.frozen 1
          (try simp at s0 s1)
          go_simp
          (try clear hHeld)
          refine hK.out _ _ ?_
          clear hK K
          (try simp only [Act.put, List.setIfInBounds_toArray, List.set_cons_zero, List.set_cons_succ])
          (refine wpAnyL_done (by kernel_rfl) ?_ _)
          clear s0 f0 s1 f1
          go_wp2_with fail
          go_meet
          have hga := HGA.out
          have kk := (HA.out.set_ 0 (.int .i64 za)).set_ 1 (.int .i64 (zb - 1))
          exact ⟨gA, za, zb - 1, rfl, by simpa using kk, hza1, by omega, hza2, by omega, (HRB.out.far (p := ⟨gA, 0, none⟩) (by dsimp only; omega) _).far (p := ⟨gA, 1, none⟩) (by dsimp only; omega) _, (HB.out.setCell (p := ⟨gA, 0, none⟩) hga.1 _).setCell (p := ⟨gA, 1, none⟩) hga.1 _, by omega⟩
        · skip
          go_simp
          have hb9 := (Below.refl v1.heap.size v1).alloc (Nat.le_refl _) (.cells #[.int .i64 0, .int .i64 0] 44)
          have hn := Blk.new v1 44 #[.int .i64 0, .int .i64 0]
          have HGA := Lib.hid (show w.heap.size ≤ v1.heap.size ∧ w.heap.size + 1 + 1 < v1.heap.size from ⟨HB.out.size, HRB.out.lt⟩)
          have t0 := below_tr HB.out hb9; have t1 := HG.out.below hb9 HG.out.lt; have t2 := HRB.out.below hb9 HRB.out.lt; have t3 := below_tr HB6.out hb9
          clear HB HG HRB HB6
          have HB := Lib.hid t0; have HG := Lib.hid t1; have HRB := Lib.hid t2; have HB6 := Lib.hid t3
          clear t0 t1 t2 t3
          have HA := Lib.hid hn
          clear hb9 hn
          (try clear hHeld)
          refine hK.out _ _ (by (try dsimp only); exact ⟨by simpa using HG.out.cell 3, by simpa using HG.out.cell 4⟩) (fun hHeld => ?_)
          clear hK K
          (try simp only [Act.put, List.setIfInBounds_toArray, List.set_cons_zero, List.set_cons_succ])
          revert hHeld HGA HB HG HRB HB6 HA
          generalize hgA : v1.heap.size = gA
          generalize (World.alloc v1 (.cells #[.int .i64 0, .int .i64 0] 44)) = w0
          intro HGA HB HG HRB HB6 HA hHeld
          clear hgA
          refine wpAnyL_ready (rs := [15]) (by kernel_rfl) (by simp) ?_
          refine AllReadyL.cons (o := ?o15x43) ?hi15x43 (fun K hK => ?_) AllReadyL.nil
          (case hi15x43 => (simp only [List.getElem?_toArray, List.getElem?_cons_succ, List.getElem?_cons_zero]; exact rfl))
          go_simp
          go_at_call 47
          refine (HL4.out _ HB6.out).mono ?_
          rintro e v2 ⟨zb, rfl, hzb1, hzb2, hzb3, hb9⟩
          have t0 := below_tr HB.out hb9; have t1 := HG.out.below hb9 HG.out.lt; have t2 := HRB.out.below hb9 HRB.out.lt; have t3 := below_tr HB6.out hb9; have t4 := HA.out.below hb9 HA.out.lt
          clear HB HG HRB HB6 HA
          have HB := Lib.hid t0; have HG := Lib.hid t1; have HRB := Lib.hid t2; have HB6 := Lib.hid t3; have HA := Lib.hid t4
          clear t0 t1 t2 t3 t4
          clear hb9 
          have hzw : IntKind.i64.wrap (zb - 1) = zb - 1 := wi (by omega)
          (try go_wp2_with fail)
          (try clear hHeld)
          refine hK.out _ _ (by (try dsimp only); exact ⟨by simpa using HG.out.cell 3, by simpa using HG.out.cell 4⟩) (fun hHeld => ?_)
          clear hK K
          (try simp only [Act.put, List.setIfInBounds_toArray, List.set_cons_zero, List.set_cons_succ])
          (refine wpAnyL_take (n := 0) (i := 16) (oi := ?ox44) (v := ?vx44) ?hix44 ?k1x44 ?k2x44 ?k3x44 ?k4x44 ?k5x44 ?k6x44 ?hQx44 ?hYx44 ?hSx44 ?restx44; (case hix44 => (simp only [List.getElem?_toArray, List.getElem?_cons_succ, List.getElem?_cons_zero]; exact rfl)); (case k1x44 => kernel_rfl); (case k2x44 => kernel_rfl); (case k3x44 => kernel_rfl); (case k4x44 => kernel_rfl); (case k5x44 => kernel_rfl); (case k6x44 => kernel_rfl); (case hSx44 => assumption); (case hYx44 => (refine Or.inl ⟨rfl, ?hyx44⟩; intro w hSw; (try dsimp only at hSw); go_simp; (try with_reducible rfl))); (case hQx44 => exact (fun _ _ _ h => h)); (try simp only [Act.put, List.setIfInBounds_toArray, List.set_cons_zero, List.set_cons_succ]))
          (refine wpAnyL_take (n := 0) (i := 17) (oi := ?ox45) (v := ?vx45) ?hix45 ?k1x45 ?k2x45 ?k3x45 ?k4x45 ?k5x45 ?k6x45 ?hQx45 ?hYx45 ?hSx45 ?restx45; (case hix45 => (simp only [List.getElem?_toArray, List.getElem?_cons_succ, List.getElem?_cons_zero]; exact rfl)); (case k1x45 => kernel_rfl); (case k2x45 => kernel_rfl); (case k3x45 => kernel_rfl); (case k4x45 => kernel_rfl); (case k5x45 => kernel_rfl); (case k6x45 => kernel_rfl); (case hSx45 => assumption); (case hYx45 => (refine Or.inl ⟨rfl, ?hyx45⟩; intro w hSw; (try dsimp only at hSw); go_simp; (try with_reducible rfl))); (case hQx45 => exact (fun _ _ _ h => h)); (try simp only [Act.put, List.setIfInBounds_toArray, List.set_cons_zero, List.set_cons_succ]))
          refine wpAnyL_ready (rs := [19]) (by kernel_rfl) (by simp) ?_
          refine AllReadyL.last (o := ?o19x46) ?hi19x46 ?he19x46 (fun K hK => ?_) AllReadyL.nil
          (case hi19x46 => (simp only [List.getElem?_toArray, List.getElem?_cons_succ, List.getElem?_cons_zero]; exact rfl))
          (case he19x46 => kernel_rfl)
          have s0 := HA.out.cell 0; have f0 := HA.out.frozen 0; have s1 := HA.out.cell 1; have f1 := HA.out.frozen 1
          (try simp at s0 s1)
          go_simp
          (try clear hHeld)
          refine hK.out _ _ ?_
          clear hK K
          (try simp only [Act.put, List.setIfInBounds_toArray, List.set_cons_zero, List.set_cons_succ])
          (refine wpAnyL_done (by kernel_rfl) ?_ _)
          clear s0 f0 s1 f1
          go_wp2_with fail
          go_meet
          have hga := HGA.out
          have kk := (HA.out.set_ 0 (.int .i64 za)).set_ 1 (.int .i64 (zb - 1))
          exact ⟨gA, za, zb - 1, rfl, by simpa using kk, hza1, by omega, hza2, by omega, (HRB.out.far (p := ⟨gA, 0, none⟩) (by dsimp only; omega) _).far (p := ⟨gA, 1, none⟩) (by dsimp only; omega) _, (HB.out.setCell (p := ⟨gA, 0, none⟩) hga.1 _).setCell (p := ⟨gA, 1, none⟩) hga.1 _, by omega⟩
      · skip
        go_simp
        have hb9 := (Below.refl w0.heap.size w0).alloc (Nat.le_refl _) (.cells #[.int .i64 0, .int .i64 0] 44)
        have hn := Blk.new w0 44 #[.int .i64 0, .int .i64 0]
        have HGA := Lib.hid (show w.heap.size ≤ w0.heap.size ∧ w.heap.size + 1 + 1 < w0.heap.size from ⟨HB.out.size, HRB.out.lt⟩)
        have t0 := below_tr HB.out hb9; have t1 := HG.out.below hb9 HG.out.lt; have t2 := HRB.out.below hb9 HRB.out.lt; have t3 := below_tr HB6.out hb9
        clear HB HG HRB HB6
        have HB := Lib.hid t0; have HG := Lib.hid t1; have HRB := Lib.hid t2; have HB6 := Lib.hid t3
        clear t0 t1 t2 t3
        have HA := Lib.hid hn
        clear hb9 hn
        (try clear hHeld)
        refine hK.out _ _ (by (try dsimp only); exact ⟨by simpa using HG.out.cell 3, by simpa using HG.out.cell 4⟩) (fun hHeld => ?_)
        clear hK K
        (try simp only [Act.put, List.setIfInBounds_toArray, List.set_cons_zero, List.set_cons_succ])
        revert hHeld HGA HB HG HRB HB6 HA
        generalize hgA : w0.heap.size = gA
        generalize (World.alloc w0 (.cells #[.int .i64 0, .int .i64 0] 44)) = w0
        intro HGA HB HG HRB HB6 HA hHeld
        clear hgA
        refine wpAnyL_ready (rs := [7]) (by kernel_rfl) (by simp) ?_
        refine AllReadyL.cons (o := ?o7x47) ?hi7x47 (fun K hK => ?_) AllReadyL.nil
        (case hi7x47 => (simp only [List.getElem?_toArray, List.getElem?_cons_succ, List.getElem?_cons_zero]; exact rfl))
        go_simp
        go_at_call 47
        refine (HL3.out _ HB6.out).mono ?_
        rintro e v1 ⟨za, rfl, hza1, hza2, hza3, hb9⟩
        have t0 := below_tr HB.out hb9; have t1 := HG.out.below hb9 HG.out.lt; have t2 := HRB.out.below hb9 HRB.out.lt; have t3 := below_tr HB6.out hb9; have t4 := HA.out.below hb9 HA.out.lt
        clear HB HG HRB HB6 HA
        have HB := Lib.hid t0; have HG := Lib.hid t1; have HRB := Lib.hid t2; have HB6 := Lib.hid t3; have HA := Lib.hid t4
        clear t0 t1 t2 t3 t4
        clear hb9 
        (try go_wp2_with fail)
        (try clear hHeld)
        refine hK.out _ _ (by (try dsimp only); exact ⟨by simpa using HG.out.cell 3, by simpa using HG.out.cell 4⟩) (fun hHeld => ?_)
        clear hK K
        (try simp only [Act.put, List.setIfInBounds_toArray, List.set_cons_zero, List.set_cons_succ])
        refine wpAnyL_ready (rs := [15]) (by kernel_rfl) (by simp) ?_
        refine AllReadyL.cons (o := ?o15x48) ?hi15x48 (fun K hK => ?_) AllReadyL.nil
        (case hi15x48 => (simp only [List.getElem?_toArray, List.getElem?_cons_succ, List.getElem?_cons_zero]; exact rfl))
        go_simp
        go_at_call 47
        refine (HL4.out _ HB6.out).mono ?_
        rintro e v2 ⟨zb, rfl, hzb1, hzb2, hzb3, hb9⟩
        have t0 := below_tr HB.out hb9; have t1 := HG.out.below hb9 HG.out.lt; have t2 := HRB.out.below hb9 HRB.out.lt; have t3 := below_tr HB6.out hb9; have t4 := HA.out.below hb9 HA.out.lt
        clear HB HG HRB HB6 HA
        have HB := Lib.hid t0; have HG := Lib.hid t1; have HRB := Lib.hid t2; have HB6 := Lib.hid t3; have HA := Lib.hid t4
        clear t0 t1 t2 t3 t4
        clear hb9 
        have hzw : IntKind.i64.wrap (zb - 1) = zb - 1 := wi (by omega)
        (try go_wp2_with fail)
        (try clear hHeld)
        refine hK.out _ _ (by (try dsimp only); exact ⟨by simpa using HG.out.cell 3, by simpa using HG.out.cell 4⟩) (fun hHeld => ?_)
        clear hK K
        (try simp only [Act.put, List.setIfInBounds_toArray, List.set_cons_zero, List.set_cons_succ])
        (refine wpAnyL_take (n := 0) (i := 16) (oi := ?ox49) (v := ?vx49) ?hix49 ?k1x49 ?k2x49 ?k3x49 ?k4x49 ?k5x49 ?k6x49 ?hQx49 ?hYx49 ?hSx49 ?restx49; (case hix49 => (simp only [List.getElem?_toArray, List.getElem?_cons_succ, List.getElem?_cons_zero]; exact rfl)); (case k1x49 => kernel_rfl); (case k2x49 => kernel_rfl); (case k3x49 => kernel_rfl); (case k4x49 => kernel_rfl); (case k5x49 => kernel_rfl); (case k6x49 => kernel_rfl); (case hSx49 => assumption); (case hYx49 => (refine Or.inl ⟨rfl, ?hyx49⟩; intro w hSw; (try dsimp only at hSw); go_simp; (try with_reducible rfl))); (case hQx49 => exact (fun _ _ _ h => h)); (try simp only [Act.put, List.setIfInBounds_toArray, List.set_cons_zero, List.set_cons_succ]))
        (refine wpAnyL_take (n := 0) (i := 17) (oi := ?ox50) (v := ?vx50) ?hix50 ?k1x50 ?k2x50 ?k3x50 ?k4x50 ?k5x50 ?k6x50 ?hQx50 ?hYx50 ?hSx50 ?restx50; (case hix50 => (simp only [List.getElem?_toArray, List.getElem?_cons_succ, List.getElem?_cons_zero]; exact rfl)); (case k1x50 => kernel_rfl); (case k2x50 => kernel_rfl); (case k3x50 => kernel_rfl); (case k4x50 => kernel_rfl); (case k5x50 => kernel_rfl); (case k6x50 => kernel_rfl); (case hSx50 => assumption); (case hYx50 => (refine Or.inl ⟨rfl, ?hyx50⟩; intro w hSw; (try dsimp only at hSw); go_simp; (try with_reducible rfl))); (case hQx50 => exact (fun _ _ _ h => h)); (try simp only [Act.put, List.setIfInBounds_toArray, List.set_cons_zero, List.set_cons_succ]))
        refine wpAnyL_ready (rs := [19]) (by kernel_rfl) (by simp) ?_
        refine AllReadyL.last (o := ?o19x51) ?hi19x51 ?he19x51 (fun K hK => ?_) AllReadyL.nil
        (case hi19x51 => (simp only [List.getElem?_toArray, List.getElem?_cons_succ, List.getElem?_cons_zero]; exact rfl))
        (case he19x51 => kernel_rfl)
        have s0 := HA.out.cell 0; have f0 := HA.out.frozen 0; have s1 := HA.out.cell 1; have f1 := HA.out.frozen 1
        (try simp at s0 s1)
        go_simp
        (try clear hHeld)
        refine hK.out _ _ ?_
        clear hK K
        (try simp only [Act.put, List.setIfInBounds_toArray, List.set_cons_zero, List.set_cons_succ])
        (refine wpAnyL_done (by kernel_rfl) ?_ _)
        clear s0 f0 s1 f1
        go_wp2_with fail
        go_meet
        have hga := HGA.out
        have kk := (HA.out.set_ 0 (.int .i64 za)).set_ 1 (.int .i64 (zb - 1))
        exact ⟨gA, za, zb - 1, rfl, by simpa using kk, hza1, by omega, hza2, by omega, (HRB.out.far (p := ⟨gA, 0, none⟩) (by dsimp only; omega) _).far (p := ⟨gA, 1, none⟩) (by dsimp only; omega) _, (HB.out.setCell (p := ⟨gA, 0, none⟩) hga.1 _).setCell (p := ⟨gA, 1, none⟩) hga.1 _, by omega⟩
    case rest =>
      obtain ⟨B13, a, b, rfl, hk, hat, htb, ha0, hb1, hrb, hbel, hne⟩ := hcut
      have q0 := hk.cell 0; have q1 := hk.cell 1
      have r0 := hrb.cell 0; have r1 := hrb.cell 1; have f0 := hrb.frozen 0; have f1 := hrb.frozen 1
      simp at q0 q1 r0 r1
      have HK := Lib.hid hrb; have HBL := Lib.hid hbel
      clear hk hrb hbel
      have hab : ¬ b < a := by omega
      go_wp2_with fail
      have kk := (HK.out.set_ 0 (.int .i64 a)).set_ 1 (.int .i64 b)
      have z0 := kk.cell 0; have z1 := kk.cell 1
      simp at z0 z1
      refine bodyPost_ret (v := .tuple #[.agg #[.int .i64 a, .int .i64 b], .int .i64 0]) ?_ rfl ⟨a, b, rfl, hat, htb, (HBL.out.setCell (p := ⟨w.heap.size + 1 + 1, 0, none⟩) (by dsimp only; omega) _).setCell (p := ⟨w.heap.size + 1 + 1, 1, none⟩) (by dsimp only; omega) _⟩
      simp [results, Tryz.f16, go_sem, z0, z1]
end Go.Proofs.YtjpobkmlcjbpiaaGreat
