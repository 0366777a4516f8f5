/- THE CONTRACT of the law's Valley: the same valley, in memory of the call's own. -/
import Derived.Test.YtphdndiikikecaaZVal
import Derived.Deep.AppendLies
import Derived.Deep.DrawnRows
set_option linter.unusedVariables false
set_option linter.unusedSimpArgs false
namespace Go.Proofs.Ytphdndiikikecaa
open Go.RowKit Go.Proofs
attribute [local go_sem ↓] Go.wp_at_zero Go.wp_at_succ

theorem infoPar : (Try.prog.info? 111).map (fun i => (i.zero, i.size, i.bytes)) = some (some (.agg #[.int .i64 0, .int .i64 0, .int .i64 0, .bool false]), 4, 32) := by kernel_rfl
theorem infoSli : (Try.prog.info? 103).map (fun i => (i.zero, i.size, i.bytes)) = some (some (.agg #[.slice none 0 0, .int .i64 0, .int .i64 0, .int .i64 0]), 4, 48) := by kernel_rfl
/-- the ways, in memory of the call's own -/
def LW (base : Nat) (L : List Sli) (w : World) : Prop := ∀ (i : Nat) (x : Sli), L[i]? = some x → x.n ≤ x.c ∧ w.ownsRow base 3 1 (.slice x.A x.n x.c) x.n (x.way.flatMap enc1) ∧ x.way.length = x.n
theorem oneP (x : Par) : ∀ u ∈ encP x, u.oneCell' = true := by intro u hu; simp [encP] at hu; rcases hu with rfl | rfl | rfl | rfl <;> rfl
theorem oneS4 (x : Sli) : ∀ u ∈ encS x, u.oneCell' = true := by intro u hu; simp [encS] at hu; rcases hu with rfl | rfl | rfl | rfl <;> rfl
abbrev outA (A : Option Addr) (n c : Nat) (A2 : Option Addr) (n2 c2 : Nat) (v : Vly) : Array Value := #[.slice A n c, .slice A2 n2 c2, .int .i64 v.s0, .int .i64 v.s1, .int .i64 v.s2]
abbrev zeroV : Array Value := #[.slice none 0 0, .slice none 0 0, .int .i64 0, .int .i64 0, .int .i64 0]

theorem grown_cell {W W' : World} {row : Option Nat} (h : W.grownBy W' row) {p : Addr} (hp : p.block < W.heap.size) (hr : some p.block ≠ row) : W'.cell? p = W.cell? p := World.cell?_of_block (w := W) (a := p) (h.block p.block hp hr)
theorem own_base_ge2 {w : World} {base : Nat} {e : TypeId} {size n : Nat} {v : Value} {xs : List Value} (h : w.ownsRow base e size v n xs) {g : Nat} (hg : v.ownBlock = some g) : base ≤ g := Nat.le_of_not_lt fun hlt => own_ge h hlt hg.symm
/-- what holds between two slides -/
def VI (w : World) (v : Vly) (I : Array Value) (pn : Nat) (A1 : Option Addr) (c1 q : Nat) (L2 : List Sli) (A2 : Option Addr) (c2 : Nat) (W : World) : Prop :=
  q ≤ c2 ∧ L2.length = q ∧ L2.map core = (v.sls.take q).map core ∧ LW (w.heap.size + 1 + 1 + 1) L2 W ∧ W.ownsRow (w.heap.size + 1 + 1 + 1) 103 4 (.slice A2 q c2) q (L2.flatMap encS) ∧
    W.ownsRow (w.heap.size + 1 + 1 + 1) 111 4 (.slice A1 pn c1) pn (v.pars.flatMap encP) ∧ Blk W (w.heap.size + 1 + 1) 36 (outA A1 pn c1 A2 q c2 v) ∧ Blk W (w.heap.size + 1) 36 zeroV ∧ Blk W w.heap.size 26 I ∧ Below w.heap.size w W ∧ w.heap.size + 1 + 1 + 1 ≤ W.heap.size
theorem VI.step {w wr w3 w4 : World} {v : Vly} {I : Array Value} {pn : Nat} {A1 : Option Addr} {c1 q : Nat} {L2 : List Sli} {A2 : Option Addr} {c2 : Nat} {x : Sli} {UA : Option Addr} {uc bu gg cap : Nat} (h : VI w v I pn A1 c1 q L2 A2 c2 wr) (hx : v.sls[q]? = some x) (hb3 : Below wr.heap.size wr w3)
    (hu : w3.ownsRow bu 3 1 (.slice UA x.n uc) x.n (x.way.flatMap enc1)) (hbu : w.heap.size + 1 + 1 + 1 ≤ bu) (huc : x.n ≤ uc) (hxl : x.way.length = x.n)
    (hown4 : w4.ownsRow (w.heap.size + 1 + 1 + 1) 103 4 (.slice (some ⟨gg, 0, none⟩) (q + 1) cap) (q + 1) (L2.flatMap encS ++ [.slice UA x.n uc, .int .i64 x.rate, .int .i64 x.lo, .int .i64 x.hi]))
    (hgrow : (w3.alloc (.cells #[.slice UA x.n uc, .int .i64 x.rate, .int .i64 x.lo, .int .i64 x.hi] 103)).grownBy w4 (Value.slice A2 q c2).ownBlock) :
    VI w v I pn A1 c1 (q + 1) (L2 ++ [(⟨UA, x.n, uc, x.way, x.rate, x.lo, x.hi⟩ : Sli)]) (some ⟨gg, 0, none⟩) cap (w4.setCell ⟨w.heap.size + 1 + 1, 1, none⟩ (.slice (some ⟨gg, 0, none⟩) (q + 1) cap)) := by
  obtain ⟨_, hl, hcr, hlw, hS, hP, ho, hz, hi, hb, hsz⟩ := h
  have hba := hb3.alloc hb3.size (.cells #[.slice UA x.n uc, .int .i64 x.rate, .int .i64 x.lo, .int .i64 x.hi] 103)
  have hal : Below w3.heap.size w3 (w3.alloc (.cells #[.slice UA x.n uc, .int .i64 x.rate, .int .i64 x.lo, .int .i64 x.hi] 103)) := (Below.refl _ _).alloc (Nat.le_refl _) _
  have F4 := (Fr.refl (fun b => b = w.heap.size + 1 + 1) w4).setAt (p := ⟨w.heap.size + 1 + 1, 1, none⟩) (.inl rfl) (.slice (some ⟨gg, 0, none⟩) (q + 1) cap)
  have hS3 := own_mono hS hba
  have keep : ∀ {e : TypeId} {size n : Nat} {u : Value} {xs : List Value} {W : World}, W.ownsRow (w.heap.size + 1 + 1 + 1) e size u n xs → Below W.heap.size W (w3.alloc (.cells #[.slice UA x.n uc, .int .i64 x.rate, .int .i64 x.lo, .int .i64 x.hi] 103)) → 103 ≠ e →
      (w4.setCell ⟨w.heap.size + 1 + 1, 1, none⟩ (.slice (some ⟨gg, 0, none⟩) (q + 1) cap)).ownsRow (w.heap.size + 1 + 1 + 1) e size u n xs := fun h1 h2 hne => by
    have h3 := own_mono h1 h2
    have h4 := own_kept h3 hgrow (fun g hg e => own_tyne hS3 h3 hne g e hg)
    exact F4.row h4 (fun g hg hh => by have := own_base_ge2 h4 hg; omega)
  have hblk : ∀ {g : Nat} {t : TypeId} {cs : Array Value}, Blk wr g t cs → g < w.heap.size + 1 + 1 + 1 → Blk w4 g t cs := fun h1 h2 => Blk.grown (h1.below hba h1.lt) hgrow (fun e => own_ge hS h2 e)
  refine ⟨?_, by rw [List.length_append, hl]; rfl, ?_, ?_, ?_, keep hP hba (by decide), ?_, F4.blk (hblk hz (by omega)) (by omega), F4.blk (hblk hi (by omega)) (by omega), ?_, ?_⟩
  · obtain ⟨_, _, e1, h1⟩ := own_form hown4
    injection e1 with _ _ e3
    omega
  · rw [List.map_append, hcr, List.take_add_one, hx, List.map_append]; rfl
  · intro i y hy
    rcases Nat.lt_or_ge i L2.length with hil | hil
    · rw [List.getElem?_append_left hil] at hy
      have hh := hlw i y hy
      exact ⟨hh.1, keep hh.2.1 hba (by decide), hh.2.2⟩
    · rw [List.getElem?_append_right hil] at hy
      have hye : y = ⟨UA, x.n, uc, x.way, x.rate, x.lo, x.hi⟩ := by have := List.mem_of_getElem? hy; simpa using this
      subst hye
      exact ⟨huc, keep (own_base hu hbu) hal (by decide), hxl⟩
  · rw [List.flatMap_append]
    exact F4.row (by simpa [encS] using hown4) (fun g hg hh => by have := own_base_ge2 hown4 hg; omega)
  · have := (hblk ho (by omega)).set_ 1 (.slice (some ⟨gg, 0, none⟩) (q + 1) cap)
    exact this
  · have h1 := (below_tr hb hb3).alloc (Nat.le_trans hb.size hb3.size) (.cells #[.slice UA x.n uc, .int .i64 x.rate, .int .i64 x.lo, .int .i64 x.hi] 103)
    exact (h1.grown hgrow h1.size (fun g hg => by have := (hS.lt g hg).1; omega)).setCell (by simp; omega) _
  · have := hgrow.size; have := hb3.size; simp at *; omega

set_option maxRecDepth 100000 in
set_option maxHeartbeats 4000000 in
theorem Valley_c {v : Vly} {PA SA : Option Addr} {pn pc sn sc : Nat} {w : World} (h : RdV w PA pn SA sn v) (hpn : pn ≤ 1000) (hsn : sn ≤ 1000) (hwn : ∀ s ∈ v.sls, s.way.length ≤ 1000) :
    Calls Try.prog 20 #[.agg #[.slice PA pn pc, .slice SA sn sc, .int .i64 v.s0, .int .i64 v.s1, .int .i64 v.s2]] w fun e w' => ∃ A1 c1 A2 c2 v', e = .returned (.agg #[.slice A1 pn c1, .slice A2 sn c2, .int .i64 v'.s0, .int .i64 v'.s1, .int .i64 v'.s2]) ∧ RdV w' A1 pn A2 sn v' ∧ VAlike v v' ∧ Below w.heap.size w w' := by
  obtain ⟨i0, hi0, hz0, hz1, hz2⟩ := info_parts infoPar
  obtain ⟨j0, hj0, hy0, hy1, hy2⟩ := info_parts infoSli
  have HI := Lib.hid hi0; have HZ0 := Lib.hid hz0; have HZ1 := Lib.hid hz1; have HZ2 := Lib.hid hz2
  have HJ := Lib.hid hj0; have HY0 := Lib.hid hy0; have HY1 := Lib.hid hy1; have HY2 := Lib.hid hy2
  clear hi0 hz0 hz1 hz2 hj0 hy0 hy1 hy2
  have HLP := Lib.hid h.pars.len; have HLS := Lib.hid h.sls.len
  have HV := Lib.hid h; have HWN := Lib.hid hwn
  clear h hwn
  go_enter Try.func20, Try.ntmps20
  go_wp2_with fail
  go_loopw [4] (fun i wr => ∃ (k : Nat) (A1 : Option Addr) (c1 : Nat), k ≤ pn ∧ i = .int .i64 k ∧ k ≤ c1 ∧ wr.ownsRow (w.heap.size + 1 + 1 + 1) 111 4 (.slice A1 k c1) k ((v.pars.take k).flatMap encP) ∧ Blk wr (w.heap.size + 1 + 1) 36 (outA A1 k c1 none 0 0 v) ∧ Blk wr (w.heap.size + 1) 36 zeroV ∧ Blk wr w.heap.size 26 (vA PA pn pc SA sn sc v) ∧ Below w.heap.size w wr ∧ w.heap.size + 1 + 1 + 1 ≤ wr.heap.size) (fun i _ => pn - (intOf i).toNat)
  case atStart =>
    obtain ⟨h1, h2, h3, h4⟩ := blk3l w (vA PA pn pc SA sn sc v) zeroV (outA none 0 0 none 0 0 v) 26 36 36
    exact ⟨0, none, 0, Nat.zero_le _, rfl, Nat.le_refl _, World.ownsRow_nil _ _ _ _, h1, h3, h2, h4, by simp⟩
  case round =>
    obtain ⟨k, A1, c1, hk, rfl, hc1, hown, hbo, hbz, hbi, hb, hsz⟩ := hrel
    have HO := Lib.hid hown; have HBO := Lib.hid hbo; have HBZ := Lib.hid hbz; have HBI := Lib.hid hbi; have HB := Lib.hid hb
    have i0 := hbi.cell 0
    simp at i0
    by_cases hlt : k < pn
    · obtain ⟨b, o, x, hA, hblt, hx, h0, h1, h2, h3⟩ := (HV.out.pars.below hb).atP hlt
      subst hA
      have HX := Lib.hid hx
      have q0 := hbo.cell 0
      have q0f := hbo.frozen 0
      simp at q0
      have hkn : (k : Int) < (pn : Int) := by omega
      have hk0 : (0 : Int) ≤ (k : Int) := by omega
      have hl1 := hbo.lt; have hl2 := hbi.lt
      clear hx hown hbo hbz hbi hb
      go_wp2_with (at_builtin; go_must (refine wpList_append_own_at _ rfl _ _ 33 rfl (w.heap.size + 1 + 1 + 1) 111 _ _ 4 32 Try.underlying33 HI.out HZ0.out HZ1.out HZ2.out rfl (by decide) _ _ _ rfl ((HO.out.alloc (.cells #[.int .i64 x.worth, .int .i64 x.price, .int .i64 x.people, .bool x.ins] 57)).alloc _) ⟨wr.heap.size + 1, 0, none⟩ 1 1 (encP x) rfl rfl (fun j u hj => by have := World.news_of_block (cs := #[.int .i64 x.worth, .int .i64 x.price, .int .i64 x.people, .bool x.ins]) (t := 111) (fr := (0, 0)) (heap_alloc_new (wr.alloc (.cells #[.int .i64 x.worth, .int .i64 x.price, .int .i64 x.people, .bool x.ins] 57)) _) j u hj; simpa using this) (oneP x) (by unfold maxLen; omega) (by omega) (by simp; omega) ?_; intro v' w1 hown' hgrow _ _; obtain ⟨gg, cap, rfl, hcap⟩ := own_pos hown' (by omega); have hbo1 := ((HBO.out.alloc (.cells #[.int .i64 x.worth, .int .i64 x.price, .int .i64 x.people, .bool x.ins] 57)).alloc _).grown hgrow (fun e => own_ge HO.out (by omega : w.heap.size + 1 + 1 < w.heap.size + 1 + 1 + 1) e); have q1 := hbo1.cell 0; have q1f := hbo1.frozen 0; simp at q1))
      have hsz1 : w.heap.size + 1 + 1 + 1 ≤ w1.heap.size := by have := hgrow.size; simp at this; omega
      have F1 := (Fr.refl (fun g => g = w.heap.size + 1 + 1) w1).setAt (p := ⟨w.heap.size + 1 + 1, 0, none⟩) (.inl rfl) (.slice (some ⟨gg, 0, none⟩) (k + 1) cap)
      have R1 : Hid (World.ownsRow _ (w.heap.size + 1 + 1 + 1) 111 4 (.slice (some ⟨gg, 0, none⟩) (k + 1) cap) (k + 1) ((v.pars.take (k + 1)).flatMap encP)) := Lib.hid (F1.row (by rw [List.take_add_one, HX.out, List.flatMap_append]; simpa using hown') (fun g hg hh => by have := own_base_ge2 hown' hg; omega))
      have X1 := Lib.hid (hbo1.set_ 0 (.slice (some ⟨gg, 0, none⟩) (k + 1) cap))
      have X2 := Lib.hid (F1.blk (((HBZ.out.alloc (.cells #[.int .i64 x.worth, .int .i64 x.price, .int .i64 x.people, .bool x.ins] 57)).alloc (.cells #[.int .i64 x.worth, .int .i64 x.price, .int .i64 x.people, .bool x.ins] 111)).grown hgrow (fun e => own_ge HO.out (by omega : w.heap.size + 1 < w.heap.size + 1 + 1 + 1) e)) (by omega))
      have X3 := Lib.hid (F1.blk (((HBI.out.alloc (.cells #[.int .i64 x.worth, .int .i64 x.price, .int .i64 x.people, .bool x.ins] 57)).alloc (.cells #[.int .i64 x.worth, .int .i64 x.price, .int .i64 x.people, .bool x.ins] 111)).grown hgrow (fun e => own_ge HO.out (by omega : w.heap.size < w.heap.size + 1 + 1 + 1) e)) (by omega))
      have X4 := Lib.hid ((((HB.out.alloc HB.out.size (.cells #[.int .i64 x.worth, .int .i64 x.price, .int .i64 x.people, .bool x.ins] 57)).alloc (by have := HB.out.size; simp; omega) (.cells #[.int .i64 x.worth, .int .i64 x.price, .int .i64 x.people, .bool x.ins] 111)).grown hgrow (by have := HB.out.size; simp; omega) (fun g hg => by have := (HO.out.lt g hg).1; omega)).setCell (p := ⟨w.heap.size + 1 + 1, 0, none⟩) (by simp; omega) (.slice (some ⟨gg, 0, none⟩) (k + 1) cap))
      clear hown' hgrow hbo1 F1 q1 q1f
      go_roundw
      case rel => exact ⟨k + 1, some ⟨gg, 0, none⟩, cap, by omega, by go_num, hcap, R1.out, X1.out, X2.out, X3.out, X4.out, by simp; omega⟩
      case measure => simp [intOf] <;> omega
    · obtain rfl : k = pn := by omega
      have hp := HO.out
      rw [List.take_of_length_le (by rw [HLP.out]; exact Nat.le_refl _)] at hp
      have HP := Lib.hid hp
      clear hp hown hbo hbz hbi hb HO
      go_wp2_with fail
      go_loopw [6] (fun i wr => ∃ (q : Nat) (L2 : List Sli) (A2 : Option Addr) (c2 : Nat), q ≤ sn ∧ i = .int .i64 q ∧ VI w v (vA PA k pc SA sn sc v) k A1 c1 q L2 A2 c2 wr) (fun i _ => sn - (intOf i).toNat)
      case atStart => exact ⟨0, [], none, 0, Nat.zero_le _, rfl, Nat.le_refl _, rfl, rfl, (fun i x hx => by simp at hx), World.ownsRow_nil _ _ _ _, HP.out, HBO.out, HBZ.out, HBI.out, HB.out, hsz⟩
      case round =>
        obtain ⟨q, L2, A2, c2, hq, rfl, hvi⟩ := hrel
        have HVI := Lib.hid hvi
        obtain ⟨hc2, hL2, hcr, hlw, hown, hpar, hbo, hbz, hbi, hb, hsz2⟩ := hvi
        have HLW := Lib.hid hlw; have HO2 := Lib.hid hown; have HP2 := Lib.hid hpar; have HBO2 := Lib.hid hbo; have HBZ2 := Lib.hid hbz; have HBI2 := Lib.hid hbi; have HB2 := Lib.hid hb; have HCR := Lib.hid hcr; have HL2 := Lib.hid hL2
        have i1 := hbi.cell 1
        simp at i1
        by_cases hlt2 : q < sn
        · obtain ⟨b, o, x, hA, hblt, hx, h0, h1, h2, h3⟩ := (HV.out.sls.below hb).atS hlt2
          subst hA
          have HX := Lib.hid hx
          have hqn : (q : Int) < (sn : Int) := by omega
          have hq0 : (0 : Int) ≤ (q : Int) := by omega
          have hway := ((HV.out.below hb).way q x hx).1
          have hxl := hway.len
          have hxw : x.n ≤ 1000 := by have := HWN.out x (List.mem_of_getElem? hx); omega
          have q1 := hbo.cell 1
          have q1f := hbo.frozen 1
          simp at q1
          have hl1 := hbo.lt; have hl2 := hbi.lt
          obtain ⟨WB, hWB⟩ : ∃ WB : World, WB = wr.alloc (.cells #[.slice x.A x.n x.c, .int .i64 x.rate, .int .i64 x.lo, .int .i64 x.hi] 62) := ⟨_, rfl⟩
          have hbB : Below wr.heap.size wr WB := by rw [hWB]; exact (Below.refl _ wr).alloc (Nat.le_refl _) _
          have hsB := Blk.new wr 62 #[.slice x.A x.n x.c, .int .i64 x.rate, .int .i64 x.lo, .int .i64 x.hi]
          rw [← hWB] at hsB
          have hszB : WB.heap.size = wr.heap.size + 1 := by rw [hWB]; simp
          have HSC := Lib.hid (fun (W : World) (hW : Blk W wr.heap.size 62 #[.slice x.A x.n x.c, .int .i64 x.rate, .int .i64 x.lo, .int .i64 x.hi]) => show W.cell? ⟨wr.heap.size, 0, none⟩ = some (.slice x.A x.n x.c) ∧ W.cell? ⟨wr.heap.size, 1, none⟩ = some (.int .i64 x.rate) ∧ W.cell? ⟨wr.heap.size, 2, none⟩ = some (.int .i64 x.lo) ∧ W.cell? ⟨wr.heap.size, 3, none⟩ = some (.int .i64 x.hi) from ⟨by rw [hW.cell 0]; rfl, by rw [hW.cell 1]; rfl, by rw [hW.cell 2]; rfl, by rw [hW.cell 3]; rfl⟩)
          have HLI := Lib.hid (fun W (hW : Below WB.heap.size WB W) => list_c (c := x.c) ((hway.below hbB).below hW) (by omega))
          have HBB := Lib.hid hbB; have HSB := Lib.hid hsB
          have HWB := Lib.hid hWB
          have S0 := HSC.out _ (blk_drew hsB)
          have S00 := HSC.out _ hsB
          rw [hWB] at S0 S00
          have hne21 : ¬ wr.heap.size = w.heap.size + 1 + 1 := by omega
          have hltw : w.heap.size + 1 + 1 < wr.heap.size := by omega
          clear hx hlw hown hpar hbo hbz hbi hb hway hbB hsB hWB hcr
          go_wp2_with fail
          refine wp_region_held_drew (S := (fun w' => w'.cell? ⟨wr.heap.size, 0, none⟩ = some (.slice x.A x.n x.c) ∧ w'.cell? ⟨wr.heap.size, 1, none⟩ = some (.int .i64 x.rate) ∧ w'.cell? ⟨wr.heap.size, 2, none⟩ = some (.int .i64 x.lo) ∧ w'.cell? ⟨wr.heap.size, 3, none⟩ = some (.int .i64 x.hi))) (by kernel_rfl) (by (first | exact S0 | exact S00 | exact S3 | exact S3a | exact S4 | exact HSC.out _ (HB4S.out.far (p := ⟨w.heap.size + 1 + 1, 1, none⟩) hne21 _) | assumption)) (fun hHeld => ?_)
          (refine wpAnyH_take (i := 0) (oi := ?ox1) (v := ?vx1) ?hix1 ?k1x1 ?k2x1 ?k3x1 ?hQx1 ?hYx1 ?hSx1 ?restx1; (case hix1 => (simp only [List.getElem?_toArray, List.getElem?_cons_succ, List.getElem?_cons_zero]; exact rfl)); (case k1x1 => kernel_rfl); (case k2x1 => kernel_rfl); (case k3x1 => kernel_rfl); (case hSx1 => assumption); (case hYx1 => (refine Or.inl ⟨rfl, ?hyx1⟩; intro w hSw; (try dsimp only at hSw); go_simp; (try with_reducible rfl))); (case hQx1 => exact (fun _ _ _ h => h)); (try simp only [Act.put, List.setIfInBounds_toArray, List.set_cons_zero, List.set_cons_succ]))
          (refine wpAnyH_take (i := 2) (oi := ?ox2) (v := ?vx2) ?hix2 ?k1x2 ?k2x2 ?k3x2 ?hQx2 ?hYx2 ?hSx2 ?restx2; (case hix2 => (simp only [List.getElem?_toArray, List.getElem?_cons_succ, List.getElem?_cons_zero]; exact rfl)); (case k1x2 => kernel_rfl); (case k2x2 => kernel_rfl); (case k3x2 => kernel_rfl); (case hSx2 => assumption); (case hYx2 => (refine Or.inl ⟨rfl, ?hyx2⟩; intro w hSw; (try dsimp only at hSw); go_simp; (try with_reducible rfl))); (case hQx2 => exact (fun _ _ _ h => h)); (try simp only [Act.put, List.setIfInBounds_toArray, List.set_cons_zero, List.set_cons_succ]))
          (refine wpAnyH_take (i := 3) (oi := ?ox3) (v := ?vx3) ?hix3 ?k1x3 ?k2x3 ?k3x3 ?hQx3 ?hYx3 ?hSx3 ?restx3; (case hix3 => (simp only [List.getElem?_toArray, List.getElem?_cons_succ, List.getElem?_cons_zero]; exact rfl)); (case k1x3 => kernel_rfl); (case k2x3 => kernel_rfl); (case k3x3 => kernel_rfl); (case hSx3 => assumption); (case hYx3 => (refine Or.inl ⟨rfl, ?hyx3⟩; intro w hSw; (try dsimp only at hSw); go_simp; (try with_reducible rfl))); (case hQx3 => exact (fun _ _ _ h => h)); (try simp only [Act.put, List.setIfInBounds_toArray, List.set_cons_zero, List.set_cons_succ]))
          (refine wpAnyH_take (i := 5) (oi := ?ox4) (v := ?vx4) ?hix4 ?k1x4 ?k2x4 ?k3x4 ?hQx4 ?hYx4 ?hSx4 ?restx4; (case hix4 => (simp only [List.getElem?_toArray, List.getElem?_cons_succ, List.getElem?_cons_zero]; exact rfl)); (case k1x4 => kernel_rfl); (case k2x4 => kernel_rfl); (case k3x4 => kernel_rfl); (case hSx4 => assumption); (case hYx4 => (refine Or.inl ⟨rfl, ?hyx4⟩; intro w hSw; (try dsimp only at hSw); go_simp; (try with_reducible rfl))); (case hQx4 => exact (fun _ _ _ h => h)); (try simp only [Act.put, List.setIfInBounds_toArray, List.set_cons_zero, List.set_cons_succ]))
          (refine wpAnyH_take (i := 6) (oi := ?ox5) (v := ?vx5) ?hix5 ?k1x5 ?k2x5 ?k3x5 ?hQx5 ?hYx5 ?hSx5 ?restx5; (case hix5 => (simp only [List.getElem?_toArray, List.getElem?_cons_succ, List.getElem?_cons_zero]; exact rfl)); (case k1x5 => kernel_rfl); (case k2x5 => kernel_rfl); (case k3x5 => kernel_rfl); (case hSx5 => assumption); (case hYx5 => (refine Or.inl ⟨rfl, ?hyx5⟩; intro w hSw; (try dsimp only at hSw); go_simp; (try with_reducible rfl))); (case hQx5 => exact (fun _ _ _ h => h)); (try simp only [Act.put, List.setIfInBounds_toArray, List.set_cons_zero, List.set_cons_succ]))
          (refine wpAnyH_take (i := 7) (oi := ?ox6) (v := ?vx6) ?hix6 ?k1x6 ?k2x6 ?k3x6 ?hQx6 ?hYx6 ?hSx6 ?restx6; (case hix6 => (simp only [List.getElem?_toArray, List.getElem?_cons_succ, List.getElem?_cons_zero]; exact rfl)); (case k1x6 => kernel_rfl); (case k2x6 => kernel_rfl); (case k3x6 => kernel_rfl); (case hSx6 => assumption); (case hYx6 => (refine Or.inl ⟨rfl, ?hyx6⟩; intro w hSw; (try dsimp only at hSw); go_simp; (try with_reducible rfl))); (case hQx6 => exact (fun _ _ _ h => h)); (try simp only [Act.put, List.setIfInBounds_toArray, List.set_cons_zero, List.set_cons_succ]))
          (refine wpAnyH_take (i := 8) (oi := ?ox7) (v := ?vx7) ?hix7 ?k1x7 ?k2x7 ?k3x7 ?hQx7 ?hYx7 ?hSx7 ?restx7; (case hix7 => (simp only [List.getElem?_toArray, List.getElem?_cons_succ, List.getElem?_cons_zero]; exact rfl)); (case k1x7 => kernel_rfl); (case k2x7 => kernel_rfl); (case k3x7 => kernel_rfl); (case hSx7 => assumption); (case hYx7 => (refine Or.inl ⟨rfl, ?hyx7⟩; intro w hSw; (try dsimp only at hSw); go_simp; (try with_reducible rfl))); (case hQx7 => exact (fun _ _ _ h => h)); (try simp only [Act.put, List.setIfInBounds_toArray, List.set_cons_zero, List.set_cons_succ]))
          (refine wpAnyH_take (i := 9) (oi := ?ox8) (v := ?vx8) ?hix8 ?k1x8 ?k2x8 ?k3x8 ?hQx8 ?hYx8 ?hSx8 ?restx8; (case hix8 => (simp only [List.getElem?_toArray, List.getElem?_cons_succ, List.getElem?_cons_zero]; exact rfl)); (case k1x8 => kernel_rfl); (case k2x8 => kernel_rfl); (case k3x8 => kernel_rfl); (case hSx8 => assumption); (case hYx8 => (refine Or.inl ⟨rfl, ?hyx8⟩; intro w hSw; (try dsimp only at hSw); go_simp; (try with_reducible rfl))); (case hQx8 => exact (fun _ _ _ h => h)); (try simp only [Act.put, List.setIfInBounds_toArray, List.set_cons_zero, List.set_cons_succ]))
          (refine wpAnyH_take (i := 10) (oi := ?ox9) (v := ?vx9) ?hix9 ?k1x9 ?k2x9 ?k3x9 ?hQx9 ?hYx9 ?hSx9 ?restx9; (case hix9 => (simp only [List.getElem?_toArray, List.getElem?_cons_succ, List.getElem?_cons_zero]; exact rfl)); (case k1x9 => kernel_rfl); (case k2x9 => kernel_rfl); (case k3x9 => kernel_rfl); (case hSx9 => assumption); (case hYx9 => (refine Or.inl ⟨rfl, ?hyx9⟩; intro w hSw; (try dsimp only at hSw); go_simp; (try with_reducible rfl))); (case hQx9 => exact (fun _ _ _ h => h)); (try simp only [Act.put, List.setIfInBounds_toArray, List.set_cons_zero, List.set_cons_succ]))
          (refine wpAnyH_take (i := 11) (oi := ?ox10) (v := ?vx10) ?hix10 ?k1x10 ?k2x10 ?k3x10 ?hQx10 ?hYx10 ?hSx10 ?restx10; (case hix10 => (simp only [List.getElem?_toArray, List.getElem?_cons_succ, List.getElem?_cons_zero]; exact rfl)); (case k1x10 => kernel_rfl); (case k2x10 => kernel_rfl); (case k3x10 => kernel_rfl); (case hSx10 => assumption); (case hYx10 => (refine Or.inl ⟨rfl, ?hyx10⟩; intro w hSw; (try dsimp only at hSw); go_simp; (try with_reducible rfl))); (case hQx10 => exact (fun _ _ _ h => h)); (try simp only [Act.put, List.setIfInBounds_toArray, List.set_cons_zero, List.set_cons_succ]))
          (refine wpAnyH_take (i := 12) (oi := ?ox11) (v := ?vx11) ?hix11 ?k1x11 ?k2x11 ?k3x11 ?hQx11 ?hYx11 ?hSx11 ?restx11; (case hix11 => (simp only [List.getElem?_toArray, List.getElem?_cons_succ, List.getElem?_cons_zero]; exact rfl)); (case k1x11 => kernel_rfl); (case k2x11 => kernel_rfl); (case k3x11 => kernel_rfl); (case hSx11 => assumption); (case hYx11 => (refine Or.inl ⟨rfl, ?hyx11⟩; intro w hSw; (try dsimp only at hSw); go_simp; (try with_reducible rfl))); (case hQx11 => exact (fun _ _ _ h => h)); (try simp only [Act.put, List.setIfInBounds_toArray, List.set_cons_zero, List.set_cons_succ]))
          (refine wpAnyH_take (i := 13) (oi := ?ox12) (v := ?vx12) ?hix12 ?k1x12 ?k2x12 ?k3x12 ?hQx12 ?hYx12 ?hSx12 ?restx12; (case hix12 => (simp only [List.getElem?_toArray, List.getElem?_cons_succ, List.getElem?_cons_zero]; exact rfl)); (case k1x12 => kernel_rfl); (case k2x12 => kernel_rfl); (case k3x12 => kernel_rfl); (case hSx12 => assumption); (case hYx12 => (refine Or.inl ⟨rfl, ?hyx12⟩; intro w hSw; (try dsimp only at hSw); go_simp; (try with_reducible rfl))); (case hQx12 => exact (fun _ _ _ h => h)); (try simp only [Act.put, List.setIfInBounds_toArray, List.set_cons_zero, List.set_cons_succ]))
          refine wpAnyH_ready (rs := [1, 4]) (by kernel_rfl) (by simp) ?_
          refine AllReadyH.cons (o := ?ox13) ?hix13 (fun K hK => ?_) (AllReadyH.cons (o := ?o2x13) ?hi2x13 (fun K hK => ?_) AllReadyH.nil)
          (case hix13 => (simp only [List.getElem?_toArray, List.getElem?_cons_succ, List.getElem?_cons_zero]; exact rfl))
          (case hi2x13 => (simp only [List.getElem?_toArray, List.getElem?_cons_succ, List.getElem?_cons_zero]; exact rfl))
          · skip
            go_simp
            refine hK.out _ _ (by (try dsimp only); (first | exact S0 | exact S00 | exact S3 | exact S3a | exact S4 | exact HSC.out _ (HB4S.out.far (p := ⟨w.heap.size + 1 + 1, 1, none⟩) hne21 _) | assumption)) (fun hHeld => ?_)
            clear hK K
            (try simp only [Act.put, List.setIfInBounds_toArray, List.set_cons_zero, List.set_cons_succ])
            refine wpAnyH_ready (rs := [4]) (by kernel_rfl) (by simp) ?_
            refine AllReadyH.cons (o := ?ox14) ?hix14 (fun K hK => ?_) AllReadyH.nil
            (case hix14 => (simp only [List.getElem?_toArray, List.getElem?_cons_succ, List.getElem?_cons_zero]; exact rfl))
            go_simp
            (go_at_call 32; refine (HLI.out _ (by rw [HWB.out]; exact (Below.refl _ _).drew)).mono ?_; rintro e w3 ⟨u, rfl, hownu, hbu⟩; obtain ⟨UA, uc, rfl, huc⟩ := own_form hownu; have hW3 : Below WB.heap.size WB w3 := (by rw [HWB.out]; exact (Below.refl _ _).drew.trans hbu); have hb3 := below_tr HBB.out hW3; have HSB3 := Lib.hid (HSB.out.below hW3 HSB.out.lt); have S3 := HSC.out w3 HSB3.out; have S3a := HSC.out _ (HSB3.out.alloc (.cells #[.slice UA x.n uc, .int .i64 x.rate, .int .i64 x.lo, .int .i64 x.hi] 103)); have HX3 := Lib.hid (HBO2.out.below hb3 HBO2.out.lt); have q31 := HX3.out.cell 1; have q31l := HX3.out.lt; simp at q31)
            (try go_wp2_with fail)
            refine hK.out _ _ (by (try dsimp only); (first | exact S0 | exact S00 | exact S3 | exact S3a | exact S4 | exact HSC.out _ (HB4S.out.far (p := ⟨w.heap.size + 1 + 1, 1, none⟩) hne21 _) | assumption)) (fun hHeld => ?_)
            clear hK K
            (try simp only [Act.put, List.setIfInBounds_toArray, List.set_cons_zero, List.set_cons_succ])
            (refine wpAnyH_take (i := 14) (oi := ?ox15) (v := ?vx15) ?hix15 ?k1x15 ?k2x15 ?k3x15 ?hQx15 ?hYx15 ?hSx15 ?restx15; (case hix15 => (simp only [List.getElem?_toArray, List.getElem?_cons_succ, List.getElem?_cons_zero]; exact rfl)); (case k1x15 => kernel_rfl); (case k2x15 => kernel_rfl); (case k3x15 => kernel_rfl); (case hSx15 => assumption); (case hYx15 => (refine Or.inl ⟨rfl, ?hyx15⟩; intro w hSw; (try dsimp only at hSw); go_simp; (try with_reducible rfl))); (case hQx15 => exact (fun _ _ _ h => h)); (try simp only [Act.put, List.setIfInBounds_toArray, List.set_cons_zero, List.set_cons_succ]))
            refine wpAnyH_ready (rs := [15]) (by kernel_rfl) (by simp) ?_
            refine AllReadyH.cons (o := ?ox16) ?hix16 (fun K hK => ?_) AllReadyH.nil
            (case hix16 => (simp only [List.getElem?_toArray, List.getElem?_cons_succ, List.getElem?_cons_zero]; exact rfl))
            go_simp
            refine hK.out _ _ (by (try dsimp only); (first | exact S0 | exact S00 | exact S3 | exact S3a | exact S4 | exact HSC.out _ (HB4S.out.far (p := ⟨w.heap.size + 1 + 1, 1, none⟩) hne21 _) | assumption)) (fun hHeld => ?_)
            clear hK K
            (try simp only [Act.put, List.setIfInBounds_toArray, List.set_cons_zero, List.set_cons_succ])
            refine wpAnyH_ready (rs := [16]) (by kernel_rfl) (by simp) ?_
            refine AllReadyH.cons (o := ?ox17) ?hix17 (fun K hK => ?_) AllReadyH.nil
            (case hix17 => (simp only [List.getElem?_toArray, List.getElem?_cons_succ, List.getElem?_cons_zero]; exact rfl))
            (refine step_append_lies _ (by rfl) _ _ _ (by rfl) (w.heap.size + 1 + 1 + 1) 103 _ _ 4 48 Try.underlying34 HJ.out HY0.out HY1.out HY2.out rfl (by omega) _ q (L2.flatMap encS) (by rfl) ((own_mono HO2.out hb3).alloc _) ⟨w3.heap.size, 0, none⟩ 1 1 [.slice UA x.n uc, .int .i64 x.rate, .int .i64 x.lo, .int .i64 x.hi] (by rfl) (by rfl) (World.news_of_block (cs := #[.slice UA x.n uc, .int .i64 x.rate, .int .i64 x.lo, .int .i64 x.hi]) (t := 103) (fr := (0, 0)) (heap_alloc_new w3 _)) (by simp [Value.oneCell']) (by omega) (by unfold maxLen; omega) (by omega) (by have := hW3.size; simp; omega) (w3.heap.size + 1) (by simp) ?_; intro gg cap w4 hown4 hgrow hat hlt4; have hg1 : some (w.heap.size + 1 + 1) ≠ (Value.slice A2 q c2).ownBlock := own_ge HO2.out (by omega); have hg2 : some wr.heap.size ≠ (Value.slice A2 q c2).ownBlock := (fun e => own_new_ne HO2.out e.symm); have HB4S := Lib.hid ((HSB3.out.alloc (.cells #[.slice UA x.n uc, .int .i64 x.rate, .int .i64 x.lo, .int .i64 x.hi] 103)).grown hgrow hg2); have S4 := HSC.out _ HB4S.out; have hX4 := (HX3.out.alloc (.cells #[.slice UA x.n uc, .int .i64 x.rate, .int .i64 x.lo, .int .i64 x.hi] 103)).grown hgrow hg1; have f41 := hX4.frozen 1; have c41 := hX4.cell 1; simp at c41)
            refine hK.out _ _ (by (try dsimp only); (first | exact S0 | exact S00 | exact S3 | exact S3a | exact S4 | exact HSC.out _ (HB4S.out.far (p := ⟨w.heap.size + 1 + 1, 1, none⟩) hne21 _) | assumption)) (fun hHeld => ?_)
            clear hK K
            (try simp only [Act.put, List.setIfInBounds_toArray, List.set_cons_zero, List.set_cons_succ])
            (refine wpAnyH_take (i := 17) (oi := ?ox18) (v := ?vx18) ?hix18 ?k1x18 ?k2x18 ?k3x18 ?hQx18 ?hYx18 ?hSx18 ?restx18; (case hix18 => (simp only [List.getElem?_toArray, List.getElem?_cons_succ, List.getElem?_cons_zero]; exact rfl)); (case k1x18 => kernel_rfl); (case k2x18 => kernel_rfl); (case k3x18 => kernel_rfl); (case hSx18 => assumption); (case hYx18 => (refine Or.inl ⟨rfl, ?hyx18⟩; intro w hSw; (try dsimp only at hSw); go_simp; (try with_reducible rfl))); (case hQx18 => exact (fun _ _ _ h => h)); (try simp only [Act.put, List.setIfInBounds_toArray, List.set_cons_zero, List.set_cons_succ]))
            refine wpAnyH_ready (rs := [18]) (by kernel_rfl) (by simp) ?_
            refine AllReadyH.cons (o := ?ox19) ?hix19 (fun K hK => ?_) AllReadyH.nil
            (case hix19 => (simp only [List.getElem?_toArray, List.getElem?_cons_succ, List.getElem?_cons_zero]; exact rfl))
            go_simp
            refine hK.out _ _ (by (try dsimp only); (first | exact S0 | exact S00 | exact S3 | exact S3a | exact S4 | exact HSC.out _ (HB4S.out.far (p := ⟨w.heap.size + 1 + 1, 1, none⟩) hne21 _) | assumption)) (fun hHeld => ?_)
            clear hK K
            (try simp only [Act.put, List.setIfInBounds_toArray, List.set_cons_zero, List.set_cons_succ])
            (try refine wpAnyH_done (by kernel_rfl) ?_ _)
            have HV4 := Lib.hid (HVI.out.step HX.out hb3 hownu (by have := hszB; simp; omega) huc hxl hown4 hgrow)
            clear hown4 hgrow hX4 f41 c41 S4 S3 S3a S0 S00 q31
            go_wp2_with fail
            go_roundw
            case rel => exact ⟨q + 1, _, _, _, by omega, by go_num, HV4.out⟩
            case measure => simp [intOf] <;> omega
          · skip
            go_simp
            (go_at_call 32; refine (HLI.out _ (by rw [HWB.out]; exact (Below.refl _ _).drew)).mono ?_; rintro e w3 ⟨u, rfl, hownu, hbu⟩; obtain ⟨UA, uc, rfl, huc⟩ := own_form hownu; have hW3 : Below WB.heap.size WB w3 := (by rw [HWB.out]; exact (Below.refl _ _).drew.trans hbu); have hb3 := below_tr HBB.out hW3; have HSB3 := Lib.hid (HSB.out.below hW3 HSB.out.lt); have S3 := HSC.out w3 HSB3.out; have S3a := HSC.out _ (HSB3.out.alloc (.cells #[.slice UA x.n uc, .int .i64 x.rate, .int .i64 x.lo, .int .i64 x.hi] 103)); have HX3 := Lib.hid (HBO2.out.below hb3 HBO2.out.lt); have q31 := HX3.out.cell 1; have q31l := HX3.out.lt; simp at q31)
            (try go_wp2_with fail)
            refine hK.out _ _ (by (try dsimp only); (first | exact S0 | exact S00 | exact S3 | exact S3a | exact S4 | exact HSC.out _ (HB4S.out.far (p := ⟨w.heap.size + 1 + 1, 1, none⟩) hne21 _) | assumption)) (fun hHeld => ?_)
            clear hK K
            (try simp only [Act.put, List.setIfInBounds_toArray, List.set_cons_zero, List.set_cons_succ])
            (refine wpAnyH_take (i := 14) (oi := ?ox20) (v := ?vx20) ?hix20 ?k1x20 ?k2x20 ?k3x20 ?hQx20 ?hYx20 ?hSx20 ?restx20; (case hix20 => (simp only [List.getElem?_toArray, List.getElem?_cons_succ, List.getElem?_cons_zero]; exact rfl)); (case k1x20 => kernel_rfl); (case k2x20 => kernel_rfl); (case k3x20 => kernel_rfl); (case hSx20 => assumption); (case hYx20 => (refine Or.inl ⟨rfl, ?hyx20⟩; intro w hSw; (try dsimp only at hSw); go_simp; (try with_reducible rfl))); (case hQx20 => exact (fun _ _ _ h => h)); (try simp only [Act.put, List.setIfInBounds_toArray, List.set_cons_zero, List.set_cons_succ]))
            refine wpAnyH_ready (rs := [1, 15]) (by kernel_rfl) (by simp) ?_
            refine AllReadyH.cons (o := ?ox21) ?hix21 (fun K hK => ?_) (AllReadyH.cons (o := ?o2x21) ?hi2x21 (fun K hK => ?_) AllReadyH.nil)
            (case hix21 => (simp only [List.getElem?_toArray, List.getElem?_cons_succ, List.getElem?_cons_zero]; exact rfl))
            (case hi2x21 => (simp only [List.getElem?_toArray, List.getElem?_cons_succ, List.getElem?_cons_zero]; exact rfl))
            · skip
              go_simp
              refine hK.out _ _ (by (try dsimp only); (first | exact S0 | exact S00 | exact S3 | exact S3a | exact S4 | exact HSC.out _ (HB4S.out.far (p := ⟨w.heap.size + 1 + 1, 1, none⟩) hne21 _) | assumption)) (fun hHeld => ?_)
              clear hK K
              (try simp only [Act.put, List.setIfInBounds_toArray, List.set_cons_zero, List.set_cons_succ])
              refine wpAnyH_ready (rs := [15]) (by kernel_rfl) (by simp) ?_
              refine AllReadyH.cons (o := ?ox22) ?hix22 (fun K hK => ?_) AllReadyH.nil
              (case hix22 => (simp only [List.getElem?_toArray, List.getElem?_cons_succ, List.getElem?_cons_zero]; exact rfl))
              go_simp
              refine hK.out _ _ (by (try dsimp only); (first | exact S0 | exact S00 | exact S3 | exact S3a | exact S4 | exact HSC.out _ (HB4S.out.far (p := ⟨w.heap.size + 1 + 1, 1, none⟩) hne21 _) | assumption)) (fun hHeld => ?_)
              clear hK K
              (try simp only [Act.put, List.setIfInBounds_toArray, List.set_cons_zero, List.set_cons_succ])
              refine wpAnyH_ready (rs := [16]) (by kernel_rfl) (by simp) ?_
              refine AllReadyH.cons (o := ?ox23) ?hix23 (fun K hK => ?_) AllReadyH.nil
              (case hix23 => (simp only [List.getElem?_toArray, List.getElem?_cons_succ, List.getElem?_cons_zero]; exact rfl))
              (refine step_append_lies _ (by rfl) _ _ _ (by rfl) (w.heap.size + 1 + 1 + 1) 103 _ _ 4 48 Try.underlying34 HJ.out HY0.out HY1.out HY2.out rfl (by omega) _ q (L2.flatMap encS) (by rfl) ((own_mono HO2.out hb3).alloc _) ⟨w3.heap.size, 0, none⟩ 1 1 [.slice UA x.n uc, .int .i64 x.rate, .int .i64 x.lo, .int .i64 x.hi] (by rfl) (by rfl) (World.news_of_block (cs := #[.slice UA x.n uc, .int .i64 x.rate, .int .i64 x.lo, .int .i64 x.hi]) (t := 103) (fr := (0, 0)) (heap_alloc_new w3 _)) (by simp [Value.oneCell']) (by omega) (by unfold maxLen; omega) (by omega) (by have := hW3.size; simp; omega) (w3.heap.size + 1) (by simp) ?_; intro gg cap w4 hown4 hgrow hat hlt4; have hg1 : some (w.heap.size + 1 + 1) ≠ (Value.slice A2 q c2).ownBlock := own_ge HO2.out (by omega); have hg2 : some wr.heap.size ≠ (Value.slice A2 q c2).ownBlock := (fun e => own_new_ne HO2.out e.symm); have HB4S := Lib.hid ((HSB3.out.alloc (.cells #[.slice UA x.n uc, .int .i64 x.rate, .int .i64 x.lo, .int .i64 x.hi] 103)).grown hgrow hg2); have S4 := HSC.out _ HB4S.out; have hX4 := (HX3.out.alloc (.cells #[.slice UA x.n uc, .int .i64 x.rate, .int .i64 x.lo, .int .i64 x.hi] 103)).grown hgrow hg1; have f41 := hX4.frozen 1; have c41 := hX4.cell 1; simp at c41)
              refine hK.out _ _ (by (try dsimp only); (first | exact S0 | exact S00 | exact S3 | exact S3a | exact S4 | exact HSC.out _ (HB4S.out.far (p := ⟨w.heap.size + 1 + 1, 1, none⟩) hne21 _) | assumption)) (fun hHeld => ?_)
              clear hK K
              (try simp only [Act.put, List.setIfInBounds_toArray, List.set_cons_zero, List.set_cons_succ])
              (refine wpAnyH_take (i := 17) (oi := ?ox24) (v := ?vx24) ?hix24 ?k1x24 ?k2x24 ?k3x24 ?hQx24 ?hYx24 ?hSx24 ?restx24; (case hix24 => (simp only [List.getElem?_toArray, List.getElem?_cons_succ, List.getElem?_cons_zero]; exact rfl)); (case k1x24 => kernel_rfl); (case k2x24 => kernel_rfl); (case k3x24 => kernel_rfl); (case hSx24 => assumption); (case hYx24 => (refine Or.inl ⟨rfl, ?hyx24⟩; intro w hSw; (try dsimp only at hSw); go_simp; (try with_reducible rfl))); (case hQx24 => exact (fun _ _ _ h => h)); (try simp only [Act.put, List.setIfInBounds_toArray, List.set_cons_zero, List.set_cons_succ]))
              refine wpAnyH_ready (rs := [18]) (by kernel_rfl) (by simp) ?_
              refine AllReadyH.cons (o := ?ox25) ?hix25 (fun K hK => ?_) AllReadyH.nil
              (case hix25 => (simp only [List.getElem?_toArray, List.getElem?_cons_succ, List.getElem?_cons_zero]; exact rfl))
              go_simp
              refine hK.out _ _ (by (try dsimp only); (first | exact S0 | exact S00 | exact S3 | exact S3a | exact S4 | exact HSC.out _ (HB4S.out.far (p := ⟨w.heap.size + 1 + 1, 1, none⟩) hne21 _) | assumption)) (fun hHeld => ?_)
              clear hK K
              (try simp only [Act.put, List.setIfInBounds_toArray, List.set_cons_zero, List.set_cons_succ])
              (try refine wpAnyH_done (by kernel_rfl) ?_ _)
              have HV4 := Lib.hid (HVI.out.step HX.out hb3 hownu (by have := hszB; simp; omega) huc hxl hown4 hgrow)
              clear hown4 hgrow hX4 f41 c41 S4 S3 S3a S0 S00 q31
              go_wp2_with fail
              go_roundw
              case rel => exact ⟨q + 1, _, _, _, by omega, by go_num, HV4.out⟩
              case measure => simp [intOf] <;> omega
            · skip
              go_simp
              refine hK.out _ _ (by (try dsimp only); (first | exact S0 | exact S00 | exact S3 | exact S3a | exact S4 | exact HSC.out _ (HB4S.out.far (p := ⟨w.heap.size + 1 + 1, 1, none⟩) hne21 _) | assumption)) (fun hHeld => ?_)
              clear hK K
              (try simp only [Act.put, List.setIfInBounds_toArray, List.set_cons_zero, List.set_cons_succ])
              refine wpAnyH_ready (rs := [1]) (by kernel_rfl) (by simp) ?_
              refine AllReadyH.cons (o := ?ox26) ?hix26 (fun K hK => ?_) AllReadyH.nil
              (case hix26 => (simp only [List.getElem?_toArray, List.getElem?_cons_succ, List.getElem?_cons_zero]; exact rfl))
              go_simp
              refine hK.out _ _ (by (try dsimp only); (first | exact S0 | exact S00 | exact S3 | exact S3a | exact S4 | exact HSC.out _ (HB4S.out.far (p := ⟨w.heap.size + 1 + 1, 1, none⟩) hne21 _) | assumption)) (fun hHeld => ?_)
              clear hK K
              (try simp only [Act.put, List.setIfInBounds_toArray, List.set_cons_zero, List.set_cons_succ])
              refine wpAnyH_ready (rs := [16]) (by kernel_rfl) (by simp) ?_
              refine AllReadyH.cons (o := ?ox27) ?hix27 (fun K hK => ?_) AllReadyH.nil
              (case hix27 => (simp only [List.getElem?_toArray, List.getElem?_cons_succ, List.getElem?_cons_zero]; exact rfl))
              (refine step_append_lies _ (by rfl) _ _ _ (by rfl) (w.heap.size + 1 + 1 + 1) 103 _ _ 4 48 Try.underlying34 HJ.out HY0.out HY1.out HY2.out rfl (by omega) _ q (L2.flatMap encS) (by rfl) ((own_mono HO2.out hb3).alloc _) ⟨w3.heap.size, 0, none⟩ 1 1 [.slice UA x.n uc, .int .i64 x.rate, .int .i64 x.lo, .int .i64 x.hi] (by rfl) (by rfl) (World.news_of_block (cs := #[.slice UA x.n uc, .int .i64 x.rate, .int .i64 x.lo, .int .i64 x.hi]) (t := 103) (fr := (0, 0)) (heap_alloc_new w3 _)) (by simp [Value.oneCell']) (by omega) (by unfold maxLen; omega) (by omega) (by have := hW3.size; simp; omega) (w3.heap.size + 1) (by simp) ?_; intro gg cap w4 hown4 hgrow hat hlt4; have hg1 : some (w.heap.size + 1 + 1) ≠ (Value.slice A2 q c2).ownBlock := own_ge HO2.out (by omega); have hg2 : some wr.heap.size ≠ (Value.slice A2 q c2).ownBlock := (fun e => own_new_ne HO2.out e.symm); have HB4S := Lib.hid ((HSB3.out.alloc (.cells #[.slice UA x.n uc, .int .i64 x.rate, .int .i64 x.lo, .int .i64 x.hi] 103)).grown hgrow hg2); have S4 := HSC.out _ HB4S.out; have hX4 := (HX3.out.alloc (.cells #[.slice UA x.n uc, .int .i64 x.rate, .int .i64 x.lo, .int .i64 x.hi] 103)).grown hgrow hg1; have f41 := hX4.frozen 1; have c41 := hX4.cell 1; simp at c41)
              refine hK.out _ _ (by (try dsimp only); (first | exact S0 | exact S00 | exact S3 | exact S3a | exact S4 | exact HSC.out _ (HB4S.out.far (p := ⟨w.heap.size + 1 + 1, 1, none⟩) hne21 _) | assumption)) (fun hHeld => ?_)
              clear hK K
              (try simp only [Act.put, List.setIfInBounds_toArray, List.set_cons_zero, List.set_cons_succ])
              (refine wpAnyH_take (i := 17) (oi := ?ox28) (v := ?vx28) ?hix28 ?k1x28 ?k2x28 ?k3x28 ?hQx28 ?hYx28 ?hSx28 ?restx28; (case hix28 => (simp only [List.getElem?_toArray, List.getElem?_cons_succ, List.getElem?_cons_zero]; exact rfl)); (case k1x28 => kernel_rfl); (case k2x28 => kernel_rfl); (case k3x28 => kernel_rfl); (case hSx28 => assumption); (case hYx28 => (refine Or.inl ⟨rfl, ?hyx28⟩; intro w hSw; (try dsimp only at hSw); go_simp; (try with_reducible rfl))); (case hQx28 => exact (fun _ _ _ h => h)); (try simp only [Act.put, List.setIfInBounds_toArray, List.set_cons_zero, List.set_cons_succ]))
              refine wpAnyH_ready (rs := [18]) (by kernel_rfl) (by simp) ?_
              refine AllReadyH.cons (o := ?ox29) ?hix29 (fun K hK => ?_) AllReadyH.nil
              (case hix29 => (simp only [List.getElem?_toArray, List.getElem?_cons_succ, List.getElem?_cons_zero]; exact rfl))
              go_simp
              refine hK.out _ _ (by (try dsimp only); (first | exact S0 | exact S00 | exact S3 | exact S3a | exact S4 | exact HSC.out _ (HB4S.out.far (p := ⟨w.heap.size + 1 + 1, 1, none⟩) hne21 _) | assumption)) (fun hHeld => ?_)
              clear hK K
              (try simp only [Act.put, List.setIfInBounds_toArray, List.set_cons_zero, List.set_cons_succ])
              (try refine wpAnyH_done (by kernel_rfl) ?_ _)
              have HV4 := Lib.hid (HVI.out.step HX.out hb3 hownu (by have := hszB; simp; omega) huc hxl hown4 hgrow)
              clear hown4 hgrow hX4 f41 c41 S4 S3 S3a S0 S00 q31
              go_wp2_with fail
              go_roundw
              case rel => exact ⟨q + 1, _, _, _, by omega, by go_num, HV4.out⟩
              case measure => simp [intOf] <;> omega
        · obtain rfl : q = sn := by omega
          have o0 := hbo.cell 0; have o1 := hbo.cell 1; have o2 := hbo.cell 2; have o3 := hbo.cell 3; have o4 := hbo.cell 4
          have r0 := hbz.cell 0; have r1 := hbz.cell 1; have r2 := hbz.cell 2; have r3 := hbz.cell 3; have r4 := hbz.cell 4
          have g0 := hbz.frozen 0; have g1 := hbz.frozen 1; have g2 := hbz.frozen 2; have g3 := hbz.frozen 3; have g4 := hbz.frozen 4
          simp at o0 o1 o2 o3 o4 r0 r1 r2 r3 r4
          clear hbo hbz hbi hb hown hpar hlw hcr
          go_wp2_with fail
          obtain ⟨_, _, hcr, hlw, hS, hP, ho, hz, _, hb, hsz⟩ := HVI.out
          rw [List.take_of_length_le (by rw [HLS.out]; exact Nat.le_refl _)] at hcr
          have q0 := Fr.refl (fun b => b = w.heap.size + 1) wr
          have q1 := q0.setAt (p := ⟨w.heap.size + 1, 0, none⟩) (.inl rfl) (.slice A1 k c1)
          have q2 := q1.setAt (p := ⟨w.heap.size + 1, 1, none⟩) (.inl rfl) (.slice A2 q c2)
          have q3 := q2.setAt (p := ⟨w.heap.size + 1, 2, none⟩) (.inl rfl) (.int .i64 v.s0)
          have q4 := q3.setAt (p := ⟨w.heap.size + 1, 3, none⟩) (.inl rfl) (.int .i64 v.s1)
          have q5 := q4.setAt (p := ⟨w.heap.size + 1, 4, none⟩) (.inl rfl) (.int .i64 v.s2)
          have hz5 := ((((hz.set_ 0 (.slice A1 k c1)).set_ 1 (.slice A2 q c2)).set_ 2 (.int .i64 v.s0)).set_ 3 (.int .i64 v.s1)).set_ 4 (.int .i64 v.s2)
          generalize (((((wr.setCell ⟨w.heap.size + 1, 0, none⟩ (.slice A1 k c1)).setCell ⟨w.heap.size + 1, 1, none⟩ (.slice A2 q c2)).setCell ⟨w.heap.size + 1, 2, none⟩ (.int .i64 v.s0)).setCell ⟨w.heap.size + 1, 3, none⟩ (.int .i64 v.s1)).setCell ⟨w.heap.size + 1, 4, none⟩ (.int .i64 v.s2)) = W5 at q5 hz5 ⊢
          have z0 := hz5.cell 0; have z1 := hz5.cell 1; have z2 := hz5.cell 2; have z3 := hz5.cell 3; have z4 := hz5.cell 4
          simp at z0 z1 z2 z3 z4
          have hfr : ∀ {e : TypeId} {size n : Nat} {u : Value} {xs : List Value}, wr.ownsRow (w.heap.size + 1 + 1 + 1) e size u n xs → W5.ownsRow (w.heap.size + 1 + 1 + 1) e size u n xs := fun h1 => q5.row h1 (fun g hg hh => by have := own_base_ge2 h1 hg; omega)
          refine bodyPost_ret (v := .agg #[.slice A1 k c1, .slice A2 q c2, .int .i64 v.s0, .int .i64 v.s1, .int .i64 v.s2]) ?_ rfl ⟨A1, c1, A2, c2, ⟨v.pars, L2, v.s0, v.s1, v.s2⟩, rfl, ⟨Rd.of_own encP_len (hfr hP) HLP.out, Rd.of_own encS_len (hfr hS) hL2, fun i x hx => ?_⟩, ⟨rfl, hcr, rfl, rfl, rfl⟩, hb.trans (q5.below hb.size (fun g hg => by omega))⟩
          · simp [results, Try.f20, go_sem, z0, z1, z2, z3, z4]
          · have hh := hlw i x hx
            obtain ⟨s', hs', hc'⟩ := core_get hcr.symm hx
            have hw' := HWN.out s' (List.mem_of_getElem? hs')
            injection hc' with hc1 _
            rw [hc1, hh.2.2] at hw'
            exact ⟨Rd.of_own enc1_len (hfr hh.2.1) hh.2.2, by unfold maxLen; omega, hh.1⟩
end Go.Proofs.Ytphdndiikikecaa
