/- CONTRACT of sackunglaw02.Picked: a truth whose numbers lie in their ranges (written by wip/mkypicked.py). -/
import Derived.Test.YtjpobkmlcjbpiaaGreatYTConv
import Derived.Deep.CutBlock
set_option linter.unusedVariables false
set_option linter.unusedSimpArgs false
namespace Go.Proofs.YtjpobkmlcjbpiaaGreat
open Go.RowKit Go.Proofs
attribute [local go_sem ↓] Go.wp_at_zero Go.wp_at_succ

def encU6 (z : Int) : List Value := [.int .u16 z]
theorem encU6_len (z : Int) : (encU6 z).length = 1 := rfl
theorem Rd.atU6 {w : World} {A : Option Addr} {n : Nat} {l : List Int} (h : Rd encU6 1 w A n l) {i : Nat} (hi : i < n) :
    ∃ b o x, A = some ⟨b, o, none⟩ ∧ b < w.heap.size ∧ l[i]? = some x ∧ w.cell? ⟨b, o + i, none⟩ = some (.int .u16 x) := by
  obtain ⟨b, o, x, e, hb, hx, hc⟩ := h.at_ hi
  exact ⟨b, o, x, e, hb, hx, by simpa using hc 0 _ rfl⟩
/-- each number lies in its range -/
def FitL {α : Type} (lo hi : α → Int) (C : List α) (xs : List Int) : Prop := ∀ (i : Nat) (x : Int) (c : α), xs[i]? = some x → C[i]? = some c → lo c ≤ x ∧ x ≤ hi c
theorem FitL.nil {α : Type} (lo hi : α → Int) (C : List α) : FitL lo hi C [] := fun i x c h => by simp at h
theorem FitL.snoc {α : Type} {lo hi : α → Int} {C : List α} {xs : List Int} (h : FitL lo hi C xs) {k : Nat} (hk : xs.length = k) {c : α} (hc : C[k]? = some c) {y : Int} (hy : lo c ≤ y ∧ y ≤ hi c) : FitL lo hi C (xs ++ [y]) := by
  intro i x d hx hd
  rcases Nat.lt_or_ge i xs.length with h1 | h1
  · rw [List.getElem?_append_left h1] at hx; exact h i x d hx hd
  · have h2 := (List.getElem?_eq_some_iff.1 hx).1
    simp at h2
    obtain rfl : i = k := by omega
    subst hk
    rw [hc] at hd
    obtain rfl := Option.some.inj hd
    simp at hx
    subst hx
    exact hy
/-- words -/
def WdOk (cs : Array Value) (N : Nat) : Prop := cs.size = N ∧ ∀ j, j < N → ∃ u : Int, cs[j]? = some (.int .u16 u) ∧ 0 ≤ u ∧ u ≤ 65535
theorem WdOk.set {cs : Array Value} {N : Nat} (h : WdOk cs N) (k : Nat) {u : Int} (hu : 0 ≤ u ∧ u ≤ 65535) : WdOk (cs.setIfInBounds k (.int .u16 u)) N := by
  refine ⟨by simpa using h.1, fun j hj => ?_⟩
  rw [Array.getElem?_setIfInBounds]
  by_cases hk : k = j
  · subst hk; rw [if_pos rfl, if_pos (by rw [h.1]; exact hj)]; exact ⟨u, rfl, hu⟩
  · rw [if_neg hk]; exact h.2 j hj
theorem infoU16 : (Tryz.prog.info? 53).map (fun i => (i.zero, i.size, i.bytes)) = some (some (.int .u16 0), 1, 2) := by kernel_rfl
theorem infoNp : (Tryz.prog.info? 3).map (fun i => (i.zero, i.size, i.bytes)) = some (some (.int .i64 0), 1, 8) := by kernel_rfl
theorem mk_u16 (n : Nat) (hn : n ≤ 1000) (W : World) : (Instr.makeSlice 28 (.int .i64 (n : Int)) (.int .i64 (n : Int))).run Tryz.prog W = .ok (.slice (some ⟨W.heap.size, 0, none⟩) n n) (W.alloc (.cells (madeCells #[.int .u16 0] n) 53)) := by
  obtain ⟨i, h0, hz0, hz1, hz2⟩ := info_parts infoU16
  have := run_make (P := Tryz.prog) W 28 53 i _ Tryz.underlying28 h0 hz0 .i64 .i64 n n (by omega) (by omega) (by rw [hz2]; omega) (by omega)
  rw [hz1, show (Value.int IntKind.u16 0).cells = #[.int .u16 0] from rfl] at this
  simpa using this
theorem wd_made (N : Nat) : WdOk (madeCells #[.int .u16 0] N) N := by
  refine ⟨by simp [madeCells], fun j hj => ⟨0, ?_, by omega, by omega⟩⟩
  have hm : j % 1 = 0 := Nat.mod_one j
  simp only [madeCells]
  simp [hj, Array.getElem?_range, hm]
theorem blk_ne9 {W : World} {g g' : Nat} {t t' : TypeId} {cs cs' : Array Value} (h : Blk W g t cs) (h' : Blk W g' t' cs') (hne : t ≠ t') : g ≠ g' := by
  rintro rfl
  have e := (show W.heap[g]? = _ from h).symm.trans (show W.heap[g]? = _ from h')
  injection e with e
  injection e with _ e
  exact hne e
/-- before the truth is made -/
structure PwI (w : World) (GC : Array Value) (g : Nat) (cs : Array Value) (W : World) : Prop where
  gr : Blk W w.heap.size 26 GC
  rs : Blk W (w.heap.size + 1) 35 #[.int .i64 0, .int .i64 0, .slice none 0 0, .slice none 0 0]
  wd : Blk W g 53 cs
  bel : Below w.heap.size w W
  lo : w.heap.size + 1 < g
theorem PwI.below {w : World} {GC : Array Value} {g : Nat} {cs : Array Value} {W W' : World} (h : PwI w GC g cs W) (hb : Below W.heap.size W W') : PwI w GC g cs W' :=
  ⟨h.gr.below hb h.gr.lt, h.rs.below hb h.rs.lt, h.wd.below hb h.wd.lt, h.bel.trans (hb.mono h.bel.size), h.lo⟩
theorem PwI.set {w : World} {GC : Array Value} {g : Nat} {cs : Array Value} {W : World} (h : PwI w GC g cs W) (k : Nat) (u : Value) : PwI w GC g (cs.setIfInBounds k u) (W.setCell ⟨g, k, none⟩ u) := by
  have hf : Fr (fun b => b = g) W (W.setCell ⟨g, k, none⟩ u) := Fr.setAt (E := fun b => b = g) (Fr.refl _ _) (p := ⟨g, k, none⟩) (.inl rfl) _
  have hlo := h.lo
  exact ⟨hf.blk h.gr (by omega), hf.blk h.rs (by omega), h.wd.set_ k u, h.bel.setCell (p := ⟨g, k, none⟩) (by dsimp only; omega) _, h.lo⟩
/-- the truth that is made, and its two rows -/
structure PkI (w : World) (GC : Array Value) (gw : Nat) (cs : Array Value) (B7 : Nat) (sn so : Int) (v1 v2 u1 u2 : Value) (xs ys : List Int) (W : World) : Prop where
  tb : Blk W B7 35 #[.int .i64 sn, .int .i64 so, u1, u2]
  gr : Blk W w.heap.size 26 GC
  rs : Blk W (w.heap.size + 1) 35 #[.int .i64 0, .int .i64 0, .slice none 0 0, .slice none 0 0]
  wd : Blk W gw 53 cs
  o1 : W.ownsRow w.heap.size 3 1 v1 xs.length (xs.flatMap enc1)
  o2 : W.ownsRow w.heap.size 3 1 v2 ys.length (ys.flatMap enc1)
  ap : ∀ g, v1.ownBlock = some g → v2.ownBlock ≠ some g
  bel : Below w.heap.size w W
  lo : w.heap.size + 1 < B7
section
variable {w : World} {GC : Array Value} {gw : Nat} {cs : Array Value} {B7 : Nat} {sn so : Int} {v1 v2 u1 u2 : Value} {xs ys : List Int} {W W' : World}
theorem PkI.below (h : PkI w GC gw cs B7 sn so v1 v2 u1 u2 xs ys W) (hb : Below W.heap.size W W') : PkI w GC gw cs B7 sn so v1 v2 u1 u2 xs ys W' :=
  ⟨h.tb.below hb h.tb.lt, h.gr.below hb h.gr.lt, h.rs.below hb h.rs.lt, h.wd.below hb h.wd.lt, own_mono h.o1 hb, own_mono h.o2 hb, h.ap, h.bel.trans (hb.mono h.bel.size), h.lo⟩
theorem PkI.grow1 (h : PkI w GC gw cs B7 sn so v1 v2 u1 u2 xs ys W) {n : Nat} (hn : xs.length = n) {gg c : Nat} {y : Int} (hown : W'.ownsRow w.heap.size 3 1 (.slice (some ⟨gg, 0, none⟩) (n + 1) c) (n + 1) (xs.flatMap enc1 ++ [.int .i64 y])) (hg : W.grownBy W' v1.ownBlock) (hat : v1.ownBlock = some gg ∨ gg = W.heap.size) :
    PkI w GC gw cs B7 sn so (.slice (some ⟨gg, 0, none⟩) (n + 1) c) v2 u1 u2 (xs ++ [y]) ys W' := by
  subst hn
  have kb : ∀ {g : Nat} {t : TypeId} {cs : Array Value}, Blk W g t cs → t ≠ 3 → Blk W' g t cs := fun hb ht => hb.grown hg (fun e => own_blk_ne h.o1 hb (fun e' => ht e'.symm) e.symm)
  refine ⟨kb h.tb (by decide), kb h.gr (by decide), kb h.rs (by decide), kb h.wd (by decide), by simpa [enc1] using hown, own_kept h.o2 hg (fun g h2 h1 => h.ap g h1 h2), fun g hgg e => ?_, h.bel.grown hg h.bel.size (fun g hg => (h.o1.lt g hg).1), h.lo⟩
  obtain rfl : gg = g := by simpa [Value.ownBlock] using hgg
  rcases hat with ha | ha
  · exact h.ap gg ha e
  · have := (h.o2.lt gg e).2; omega
theorem PkI.grow2 (h : PkI w GC gw cs B7 sn so v1 v2 u1 u2 xs ys W) {n : Nat} (hn : ys.length = n) {gg c : Nat} {y : Int} (hown : W'.ownsRow w.heap.size 3 1 (.slice (some ⟨gg, 0, none⟩) (n + 1) c) (n + 1) (ys.flatMap enc1 ++ [.int .i64 y])) (hg : W.grownBy W' v2.ownBlock) (hat : v2.ownBlock = some gg ∨ gg = W.heap.size) :
    PkI w GC gw cs B7 sn so v1 (.slice (some ⟨gg, 0, none⟩) (n + 1) c) u1 u2 xs (ys ++ [y]) W' := by
  subst hn
  have kb : ∀ {g : Nat} {t : TypeId} {cs : Array Value}, Blk W g t cs → t ≠ 3 → Blk W' g t cs := fun hb ht => hb.grown hg (fun e => own_blk_ne h.o2 hb (fun e' => ht e'.symm) e.symm)
  refine ⟨kb h.tb (by decide), kb h.gr (by decide), kb h.rs (by decide), kb h.wd (by decide), own_kept h.o1 hg (fun g h1 h2 => h.ap g h1 h2), by simpa [enc1] using hown, fun g hgg e => ?_, h.bel.grown hg h.bel.size (fun g hg => (h.o2.lt g hg).1), h.lo⟩
  obtain rfl : gg = g := by simpa [Value.ownBlock] using e
  rcases hat with ha | ha
  · exact h.ap gg hgg ha
  · have := (h.o1.lt gg hgg).2; omega
theorem PkI.set1 (h : PkI w GC gw cs B7 sn so v1 v2 u1 u2 xs ys W) (u : Value) : PkI w GC gw cs B7 sn so v1 v2 u u2 xs ys (W.setCell ⟨B7, 2, none⟩ u) := by
  have hf : Fr (fun g => g = B7) W (W.setCell ⟨B7, 2, none⟩ u) := Fr.setAt (E := fun g => g = B7) (Fr.refl _ _) (p := ⟨B7, 2, none⟩) (.inl rfl) _
  have hlo := h.lo
  have hne : gw ≠ B7 := blk_ne9 h.wd h.tb (by decide)
  exact ⟨by simpa using h.tb.set_ 2 u, hf.blk h.gr (by omega), hf.blk h.rs (by omega), hf.blk h.wd hne, hf.row h.o1 (fun g hg e => by subst e; exact own_blk_ne h.o1 h.tb (by decide) hg), hf.row h.o2 (fun g hg e => by subst e; exact own_blk_ne h.o2 h.tb (by decide) hg), h.ap, h.bel.setCell (p := ⟨B7, 2, none⟩) (by dsimp only; omega) _, h.lo⟩
theorem PkI.set2 (h : PkI w GC gw cs B7 sn so v1 v2 u1 u2 xs ys W) (u : Value) : PkI w GC gw cs B7 sn so v1 v2 u1 u xs ys (W.setCell ⟨B7, 3, none⟩ u) := by
  have hf : Fr (fun g => g = B7) W (W.setCell ⟨B7, 3, none⟩ u) := Fr.setAt (E := fun g => g = B7) (Fr.refl _ _) (p := ⟨B7, 3, none⟩) (.inl rfl) _
  have hlo := h.lo
  have hne : gw ≠ B7 := blk_ne9 h.wd h.tb (by decide)
  exact ⟨by simpa using h.tb.set_ 3 u, hf.blk h.gr (by omega), hf.blk h.rs (by omega), hf.blk h.wd hne, hf.row h.o1 (fun g hg e => by subst e; exact own_blk_ne h.o1 h.tb (by decide) hg), hf.row h.o2 (fun g hg e => by subst e; exact own_blk_ne h.o2 h.tb (by decide) hg), h.ap, h.bel.setCell (p := ⟨B7, 3, none⟩) (by dsimp only; omega) _, h.lo⟩
end
set_option linter.unusedSimpArgs false in
set_option maxRecDepth 100000 in
set_option maxHeartbeats 8000000 in
theorem rPicked_c {CA DA WA : Option Addr} {cn cc dn dc wn wc : Nat} {sn0 sn1 so0 so1 melt : Int} {C : List Cel} {D : List Dy} {ws : List Int} {w : World}
    (hC : Rd encCel 7 w CA cn C) (hD : Rd encDy 3 w DA dn D) (hW : Rd encU6 1 w WA wn ws) (hws : ∀ z ∈ ws, 0 ≤ z ∧ z ≤ 65535) (hcn : cn ≤ 100) (hdn : dn ≤ 100) (hwn : wn ≤ maxLen)
    (hc : ∀ c ∈ C, 0 ≤ c.lo ∧ c.lo ≤ c.hi ∧ c.hi ≤ 1000000) (hd : ∀ d ∈ D, 0 ≤ d.lo ∧ d.lo ≤ d.hi ∧ d.hi ≤ 1000000) (hsn : 0 ≤ sn0 ∧ sn0 ≤ sn1 ∧ sn1 ≤ 1000000) (hso : 0 ≤ so0 ∧ so0 ≤ so1 ∧ so1 ≤ 1000000) :
    Calls Tryz.prog 7 #[.agg #[.slice CA cn cc, .int .i64 sn0, .int .i64 sn1, .int .i64 so0, .int .i64 so1, .int .i64 melt], .slice DA dn dc, .slice WA wn wc] w fun e w' =>
      ∃ tsn tso LA lc RA rc L Rn, e = .returned (.agg #[.int .i64 tsn, .int .i64 tso, .slice LA cn lc, .slice RA dn rc]) ∧ (sn0 ≤ tsn ∧ tsn ≤ sn1) ∧ (so0 ≤ tso ∧ tso ≤ so1) ∧ FitL (fun c : Cel => c.lo) (fun c => c.hi) C L ∧ FitL (fun d : Dy => d.lo) (fun d => d.hi) D Rn ∧
        Rd enc1 1 w' LA cn L ∧ Rd enc1 1 w' RA dn Rn ∧ Below w.heap.size w w' := by
  obtain ⟨N, hN⟩ : ∃ N, N = 2 + cn + dn := ⟨_, rfl⟩
  have hlc := hC.len; have hld := hD.len
  unfold maxLen at hwn
  have mk : ∀ W : World, (Instr.makeSlice 28 (.int .i64 (2 + (cn : Int) + (dn : Int))) (.int .i64 (2 + (cn : Int) + (dn : Int)))).run Tryz.prog W = .ok (.slice (some ⟨W.heap.size, 0, none⟩) N N) (W.alloc (.cells (madeCells #[.int .u16 0] N) 53)) := fun W => by
    have h1 := mk_u16 N (by omega) W
    rw [show ((N : Nat) : Int) = 2 + (cn : Int) + (dn : Int) by omega] at h1
    exact h1
  have hwm := wd_made N
  have hN2 : N ≤ 202 := by omega
  have hN0 : 0 < N := by omega
  have hN1 : (1 : Int) < (N : Int) := by omega
  have hN3 : 2 + (cn : Int) + (dn : Int) ≤ (N : Int) := by omega
  have hal := (((Below.refl w.heap.size w).alloc (Nat.le_refl _) (.cells #[.slice CA cn cc, .int .i64 sn0, .int .i64 sn1, .int .i64 so0, .int .i64 so1, .int .i64 melt] 26)).alloc (by simp) (.cells #[.int .i64 0, .int .i64 0, .slice none 0 0, .slice none 0 0] 35)).alloc (by simp; omega) (.cells (madeCells #[.int .u16 0] N) 53)
  have b1 := ((Blk.new w 26 #[.slice CA cn cc, .int .i64 sn0, .int .i64 sn1, .int .i64 so0, .int .i64 so1, .int .i64 melt]).alloc (.cells #[.int .i64 0, .int .i64 0, .slice none 0 0, .slice none 0 0] 35)).alloc (.cells (madeCells #[.int .u16 0] N) 53)
  have b2 := (Blk.new (w.alloc (.cells #[.slice CA cn cc, .int .i64 sn0, .int .i64 sn1, .int .i64 so0, .int .i64 so1, .int .i64 melt] 26)) 35 #[.int .i64 0, .int .i64 0, .slice none 0 0, .slice none 0 0]).alloc (.cells (madeCells #[.int .u16 0] N) 53)
  have b3 := Blk.new ((w.alloc (.cells #[.slice CA cn cc, .int .i64 sn0, .int .i64 sn1, .int .i64 so0, .int .i64 so1, .int .i64 melt] 26)).alloc (.cells #[.int .i64 0, .int .i64 0, .slice none 0 0, .slice none 0 0] 35)) 53 (madeCells #[.int .u16 0] N)
  simp only [World.size_alloc] at b2 b3
  have HP := Lib.hid (PwI.mk (w := w) b1 b2 b3 hal (by omega))
  have HC := Lib.hid hC; have HD := Lib.hid hD; have HW := Lib.hid hW; have HWS := Lib.hid hws; have HLC := Lib.hid hlc; have HLD := Lib.hid hld; have HRC := Lib.hid hc; have HRD := Lib.hid hd; have HSN := Lib.hid hsn; have HSO := Lib.hid hso; have HWM := Lib.hid hwm; have HNN := Lib.hid hN
  clear hal b1 b2 b3 hC hD hW hws hlc hld hc hd hsn hso hwm hN
  obtain ⟨j0, hj0, hy0, hy1, hy2⟩ := info_parts infoNp
  have HJ0 := Lib.hid hj0; have HY0 := Lib.hid hy0; have HY1 := Lib.hid hy1; have HY2 := Lib.hid hy2
  clear hj0 hy0 hy1 hy2
  go_enter Tryz.func7, Tryz.ntmps7
  go_upto_region 3 with fail
  revert HP
  generalize World.alloc (World.alloc (World.alloc w _) _) _ = w1
  intro HP
  clear mk
  go_upto_block 0 with fail
  go_cut [9] (fun _ wx => ∃ cs, WdOk cs N ∧ PwI w #[.slice CA cn cc, .int .i64 sn0, .int .i64 sn1, .int .i64 so0, .int .i64 so1, .int .i64 melt] (w.heap.size + 1 + 1) cs wx)
  case first =>
    go_wp2_with fail
    go_loopw [9] (fun i wr => ∃ (k : Nat) (cs : Array Value), k ≤ N ∧ i = .int .i64 (k : Int) ∧ WdOk cs N ∧ PwI w #[.slice CA cn cc, .int .i64 sn0, .int .i64 sn1, .int .i64 so0, .int .i64 so1, .int .i64 melt] (w.heap.size + 1 + 1) cs wr) (fun i _ => N - (intOf i).toNat)
    case atStart => exact ⟨0, _, Nat.zero_le _, rfl, HWM.out, HP.out⟩
    case round =>
      obtain ⟨k, cs, hk, rfl, hcs, hpw⟩ := hrel
      clear HP
      by_cases hlt : k < N
      · by_cases hw0 : wn = 0
        · obtain rfl := hw0
          have hkn : (k : Int) < (N : Int) := by omega
          have HP := Lib.hid hpw; have HCS := Lib.hid hcs
          clear hpw hcs
          go_wp2_with fail
          go_meet
          exact ⟨cs, HCS.out, HP.out⟩
        · have hwp : (0 : Int) < (wn : Int) := by omega
          have hkn : (k : Int) < (N : Int) := by omega
          have hk0 : (0 : Int) ≤ (k : Int) := by omega
          have hm0 : 0 ≤ (k : Int) % (wn : Int) := Int.emod_nonneg _ (by omega)
          have hm1 : (k : Int) % (wn : Int) < (wn : Int) := Int.emod_lt_of_pos _ (by omega)
          obtain ⟨b, o, x, rfl, hbl, hx, y0⟩ := (HW.out.below hpw.bel).atU6 (i := k % wn) (Nat.mod_lt _ (by omega))
          have hxb := HWS.out x (List.mem_of_getElem? hx)
          have hnz : ((wn : Int) == 0) = false := by simp; omega
          have hnz' : ¬ ((wn : Int) = 0) := by omega
          obtain ⟨u0, hu0, _⟩ := hcs.2 k hlt
          have s0 := hpw.wd.cell k; have f0 := hpw.wd.frozen k
          rw [hu0] at s0
          have HP := Lib.hid hpw; have HCS := Lib.hid hcs; have HXB := Lib.hid hxb
          clear hpw hcs hx hxb hu0
          go_wp2_with fail
          go_roundw
          case rel => exact ⟨k + 1, _, by omega, by go_num, HCS.out.set k HXB.out, HP.out.set k _⟩
          case measure => simp [intOf] <;> omega
      · have HP := Lib.hid hpw; have HCS := Lib.hid hcs
        have hkn : ¬ (k : Int) < (N : Int) := by omega
        clear hpw hcs
        go_wp2_with fail
        go_meet
        exact ⟨cs, HCS.out, HP.out⟩
  case rest =>
    obtain ⟨cs, hcs, hpw⟩ := hcut
    clear HP
    obtain ⟨a0, hw0, ha0⟩ := hcs.2 0 (by omega)
    obtain ⟨a1, hw1, ha1⟩ := hcs.2 1 (by omega)
    have g1 := hpw.gr.cell 1; have g2 := hpw.gr.cell 2; have g3 := hpw.gr.cell 3; have g4 := hpw.gr.cell 4; have e0 := hpw.wd.cell 0; have e1 := hpw.wd.cell 1
    rw [hw0] at e0; rw [hw1] at e1
    simp at g1 g2 g3 g4
    have HP := Lib.hid hpw; have HCS := Lib.hid hcs; have HA0 := Lib.hid ha0; have HA1 := Lib.hid ha1; have HE0 := Lib.hid hw0; have HE1 := Lib.hid hw1
    clear hpw hcs ha0 ha1 hw0 hw1
    go_upto_region 7 with fail
    go_cut [10] (fun pv wx => ∃ B7 tsn tso, pv = .pointer (some ⟨B7, 0, none⟩) ∧ (sn0 ≤ tsn ∧ tsn ≤ sn1) ∧ (so0 ≤ tso ∧ tso ≤ so1) ∧ PkI w #[.slice CA cn cc, .int .i64 sn0, .int .i64 sn1, .int .i64 so0, .int .i64 so1, .int .i64 melt] (w.heap.size + 1 + 1) cs B7 tsn tso (.slice none 0 0) (.slice none 0 0) (.slice none 0 0) (.slice none 0 0) [] [] wx)
    case first =>
      refine wp_region_till [14] (fun U => U.cell? ⟨w.heap.size, 1, none⟩ = some (.int .i64 sn0) ∧ U.cell? ⟨w.heap.size, 2, none⟩ = some (.int .i64 sn1) ∧ U.cell? ⟨w.heap.size, 3, none⟩ = some (.int .i64 so0) ∧ U.cell? ⟨w.heap.size, 4, none⟩ = some (.int .i64 so1) ∧ U.cell? ⟨w.heap.size + 1 + 1, 0, none⟩ = some (.int .u16 a0) ∧ U.cell? ⟨w.heap.size + 1 + 1, 1, none⟩ = some (.int .u16 a1)) (by kernel_rfl) (by exact ⟨g1, g2, g3, g4, e0, e1⟩) (fun hHeld => ?_)
      have hb9 := (Below.refl wc.heap.size wc).drew
      have t0 := HP.out.below hb9
      clear HP
      have HP := Lib.hid t0
      clear t0
      clear hb9
      revert hHeld HP
      generalize wc.drew = w0
      intro hHeld HP
      (refine wpAnyL_take (n := 0) (i := 0) (oi := ?ox1) (v := ?vx1) ?hix1 ?k1x1 ?k2x1 ?k3x1 ?k4x1 ?k5x1 ?k6x1 ?hQx1 ?hYx1 ?hSx1 ?restx1; (case hix1 => (simp only [List.getElem?_toArray, List.getElem?_cons_succ, List.getElem?_cons_zero]; exact rfl)); (case k1x1 => kernel_rfl); (case k2x1 => kernel_rfl); (case k3x1 => kernel_rfl); (case k4x1 => kernel_rfl); (case k5x1 => kernel_rfl); (case k6x1 => kernel_rfl); (case hSx1 => assumption); (case hYx1 => (refine Or.inl ⟨rfl, ?hyx1⟩; intro w hSw; (try dsimp only at hSw); go_simp; (try with_reducible rfl))); (case hQx1 => exact (fun _ _ _ h => h)); (try simp only [Act.put, List.setIfInBounds_toArray, List.set_cons_zero, List.set_cons_succ]))
      (refine wpAnyL_take (n := 0) (i := 1) (oi := ?ox2) (v := ?vx2) ?hix2 ?k1x2 ?k2x2 ?k3x2 ?k4x2 ?k5x2 ?k6x2 ?hQx2 ?hYx2 ?hSx2 ?restx2; (case hix2 => (simp only [List.getElem?_toArray, List.getElem?_cons_succ, List.getElem?_cons_zero]; exact rfl)); (case k1x2 => kernel_rfl); (case k2x2 => kernel_rfl); (case k3x2 => kernel_rfl); (case k4x2 => kernel_rfl); (case k5x2 => kernel_rfl); (case k6x2 => kernel_rfl); (case hSx2 => assumption); (case hYx2 => (refine Or.inl ⟨rfl, ?hyx2⟩; intro w hSw; (try dsimp only at hSw); go_simp; (try with_reducible rfl))); (case hQx2 => exact (fun _ _ _ h => h)); (try simp only [Act.put, List.setIfInBounds_toArray, List.set_cons_zero, List.set_cons_succ]))
      (refine wpAnyL_take (n := 0) (i := 2) (oi := ?ox3) (v := ?vx3) ?hix3 ?k1x3 ?k2x3 ?k3x3 ?k4x3 ?k5x3 ?k6x3 ?hQx3 ?hYx3 ?hSx3 ?restx3; (case hix3 => (simp only [List.getElem?_toArray, List.getElem?_cons_succ, List.getElem?_cons_zero]; exact rfl)); (case k1x3 => kernel_rfl); (case k2x3 => kernel_rfl); (case k3x3 => kernel_rfl); (case k4x3 => kernel_rfl); (case k5x3 => kernel_rfl); (case k6x3 => kernel_rfl); (case hSx3 => assumption); (case hYx3 => (refine Or.inl ⟨rfl, ?hyx3⟩; intro w hSw; (try dsimp only at hSw); go_simp; (try with_reducible rfl))); (case hQx3 => exact (fun _ _ _ h => h)); (try simp only [Act.put, List.setIfInBounds_toArray, List.set_cons_zero, List.set_cons_succ]))
      (refine wpAnyL_take (n := 0) (i := 3) (oi := ?ox4) (v := ?vx4) ?hix4 ?k1x4 ?k2x4 ?k3x4 ?k4x4 ?k5x4 ?k6x4 ?hQx4 ?hYx4 ?hSx4 ?restx4; (case hix4 => (simp only [List.getElem?_toArray, List.getElem?_cons_succ, List.getElem?_cons_zero]; exact rfl)); (case k1x4 => kernel_rfl); (case k2x4 => kernel_rfl); (case k3x4 => kernel_rfl); (case k4x4 => kernel_rfl); (case k5x4 => kernel_rfl); (case k6x4 => kernel_rfl); (case hSx4 => assumption); (case hYx4 => (refine Or.inl ⟨rfl, ?hyx4⟩; intro w hSw; (try dsimp only at hSw); go_simp; (try with_reducible rfl))); (case hQx4 => exact (fun _ _ _ h => h)); (try simp only [Act.put, List.setIfInBounds_toArray, List.set_cons_zero, List.set_cons_succ]))
      (refine wpAnyL_take (n := 0) (i := 4) (oi := ?ox5) (v := ?vx5) ?hix5 ?k1x5 ?k2x5 ?k3x5 ?k4x5 ?k5x5 ?k6x5 ?hQx5 ?hYx5 ?hSx5 ?restx5; (case hix5 => (simp only [List.getElem?_toArray, List.getElem?_cons_succ, List.getElem?_cons_zero]; exact rfl)); (case k1x5 => kernel_rfl); (case k2x5 => kernel_rfl); (case k3x5 => kernel_rfl); (case k4x5 => kernel_rfl); (case k5x5 => kernel_rfl); (case k6x5 => kernel_rfl); (case hSx5 => assumption); (case hYx5 => (refine Or.inl ⟨rfl, ?hyx5⟩; intro w hSw; (try dsimp only at hSw); go_simp; (try with_reducible rfl))); (case hQx5 => exact (fun _ _ _ h => h)); (try simp only [Act.put, List.setIfInBounds_toArray, List.set_cons_zero, List.set_cons_succ]))
      (refine wpAnyL_take (n := 0) (i := 6) (oi := ?ox6) (v := ?vx6) ?hix6 ?k1x6 ?k2x6 ?k3x6 ?k4x6 ?k5x6 ?k6x6 ?hQx6 ?hYx6 ?hSx6 ?restx6; (case hix6 => (simp only [List.getElem?_toArray, List.getElem?_cons_succ, List.getElem?_cons_zero]; exact rfl)); (case k1x6 => kernel_rfl); (case k2x6 => kernel_rfl); (case k3x6 => kernel_rfl); (case k4x6 => kernel_rfl); (case k5x6 => kernel_rfl); (case k6x6 => kernel_rfl); (case hSx6 => assumption); (case hYx6 => (refine Or.inl ⟨rfl, ?hyx6⟩; intro w hSw; (try dsimp only at hSw); go_simp; (try with_reducible rfl))); (case hQx6 => exact (fun _ _ _ h => h)); (try simp only [Act.put, List.setIfInBounds_toArray, List.set_cons_zero, List.set_cons_succ]))
      (refine wpAnyL_take (n := 0) (i := 7) (oi := ?ox7) (v := ?vx7) ?hix7 ?k1x7 ?k2x7 ?k3x7 ?k4x7 ?k5x7 ?k6x7 ?hQx7 ?hYx7 ?hSx7 ?restx7; (case hix7 => (simp only [List.getElem?_toArray, List.getElem?_cons_succ, List.getElem?_cons_zero]; exact rfl)); (case k1x7 => kernel_rfl); (case k2x7 => kernel_rfl); (case k3x7 => kernel_rfl); (case k4x7 => kernel_rfl); (case k5x7 => kernel_rfl); (case k6x7 => kernel_rfl); (case hSx7 => assumption); (case hYx7 => (refine Or.inl ⟨rfl, ?hyx7⟩; intro w hSw; (try dsimp only at hSw); go_simp; (try with_reducible rfl))); (case hQx7 => exact (fun _ _ _ h => h)); (try simp only [Act.put, List.setIfInBounds_toArray, List.set_cons_zero, List.set_cons_succ]))
      (refine wpAnyL_take (n := 0) (i := 8) (oi := ?ox8) (v := ?vx8) ?hix8 ?k1x8 ?k2x8 ?k3x8 ?k4x8 ?k5x8 ?k6x8 ?hQx8 ?hYx8 ?hSx8 ?restx8; (case hix8 => (simp only [List.getElem?_toArray, List.getElem?_cons_succ, List.getElem?_cons_zero]; exact rfl)); (case k1x8 => kernel_rfl); (case k2x8 => kernel_rfl); (case k3x8 => kernel_rfl); (case k4x8 => kernel_rfl); (case k5x8 => kernel_rfl); (case k6x8 => kernel_rfl); (case hSx8 => assumption); (case hYx8 => (refine Or.inl ⟨rfl, ?hyx8⟩; intro w hSw; (try dsimp only at hSw); go_simp; (try with_reducible rfl))); (case hQx8 => exact (fun _ _ _ h => h)); (try simp only [Act.put, List.setIfInBounds_toArray, List.set_cons_zero, List.set_cons_succ]))
      (refine wpAnyL_take (n := 0) (i := 9) (oi := ?ox9) (v := ?vx9) ?hix9 ?k1x9 ?k2x9 ?k3x9 ?k4x9 ?k5x9 ?k6x9 ?hQx9 ?hYx9 ?hSx9 ?restx9; (case hix9 => (simp only [List.getElem?_toArray, List.getElem?_cons_succ, List.getElem?_cons_zero]; exact rfl)); (case k1x9 => kernel_rfl); (case k2x9 => kernel_rfl); (case k3x9 => kernel_rfl); (case k4x9 => kernel_rfl); (case k5x9 => kernel_rfl); (case k6x9 => kernel_rfl); (case hSx9 => assumption); (case hYx9 => (refine Or.inl ⟨rfl, ?hyx9⟩; intro w hSw; (try dsimp only at hSw); go_simp; (try with_reducible rfl))); (case hQx9 => exact (fun _ _ _ h => h)); (try simp only [Act.put, List.setIfInBounds_toArray, List.set_cons_zero, List.set_cons_succ]))
      (refine wpAnyL_take (n := 0) (i := 10) (oi := ?ox10) (v := ?vx10) ?hix10 ?k1x10 ?k2x10 ?k3x10 ?k4x10 ?k5x10 ?k6x10 ?hQx10 ?hYx10 ?hSx10 ?restx10; (case hix10 => (simp only [List.getElem?_toArray, List.getElem?_cons_succ, List.getElem?_cons_zero]; exact rfl)); (case k1x10 => kernel_rfl); (case k2x10 => kernel_rfl); (case k3x10 => kernel_rfl); (case k4x10 => kernel_rfl); (case k5x10 => kernel_rfl); (case k6x10 => kernel_rfl); (case hSx10 => assumption); (case hYx10 => (refine Or.inl ⟨rfl, ?hyx10⟩; intro w hSw; (try dsimp only at hSw); go_simp; (try with_reducible rfl))); (case hQx10 => exact (fun _ _ _ h => h)); (try simp only [Act.put, List.setIfInBounds_toArray, List.set_cons_zero, List.set_cons_succ]))
      refine wpAnyL_ready (rs := [5, 13]) (by kernel_rfl) (by simp) ?_
      refine AllReadyL.cons (o := ?o5x11) ?hi5x11 (fun K hK => ?_) (AllReadyL.cons (o := ?o13x11) ?hi13x11 (fun K hK => ?_) AllReadyL.nil)
      (case hi5x11 => (simp only [List.getElem?_toArray, List.getElem?_cons_succ, List.getElem?_cons_zero]; exact rfl))
      (case hi13x11 => (simp only [List.getElem?_toArray, List.getElem?_cons_succ, List.getElem?_cons_zero]; exact rfl))
      · skip
        go_simp
        go_at_call 20
        refine (pick_c _ _ _ _ HSN.out HA0.out).mono ?_
        rintro e w1 ⟨rfl, hb9⟩
        have t0 := HP.out.below hb9
        clear HP
        have HP := Lib.hid t0
        clear t0
        clear hb9 
        (try go_wp2_with fail)
        (try clear hHeld)
        refine hK.out _ _ (by (try dsimp only); exact ⟨by simpa using HP.out.gr.cell 1, by simpa using HP.out.gr.cell 2, by simpa using HP.out.gr.cell 3, by simpa using HP.out.gr.cell 4, (HP.out.wd.cell 0).trans HE0.out, (HP.out.wd.cell 1).trans HE1.out⟩) (fun hHeld => ?_)
        clear hK K
        (try simp only [Act.put, List.setIfInBounds_toArray, List.set_cons_zero, List.set_cons_succ])
        refine wpAnyL_ready (rs := [11, 13]) (by kernel_rfl) (by simp) ?_
        refine AllReadyL.cons (o := ?o11x12) ?hi11x12 (fun K hK => ?_) (AllReadyL.cons (o := ?o13x12) ?hi13x12 (fun K hK => ?_) AllReadyL.nil)
        (case hi11x12 => (simp only [List.getElem?_toArray, List.getElem?_cons_succ, List.getElem?_cons_zero]; exact rfl))
        (case hi13x12 => (simp only [List.getElem?_toArray, List.getElem?_cons_succ, List.getElem?_cons_zero]; exact rfl))
        · skip
          go_simp
          go_at_call 20
          refine (pick_c _ _ _ _ HSO.out HA1.out).mono ?_
          rintro e w2 ⟨rfl, hb9⟩
          have t0 := HP.out.below hb9
          clear HP
          have HP := Lib.hid t0
          clear t0
          clear hb9 
          (try go_wp2_with fail)
          (try clear hHeld)
          refine hK.out _ _ (by (try dsimp only); exact ⟨by simpa using HP.out.gr.cell 1, by simpa using HP.out.gr.cell 2, by simpa using HP.out.gr.cell 3, by simpa using HP.out.gr.cell 4, (HP.out.wd.cell 0).trans HE0.out, (HP.out.wd.cell 1).trans HE1.out⟩) (fun hHeld => ?_)
          clear hK K
          (try simp only [Act.put, List.setIfInBounds_toArray, List.set_cons_zero, List.set_cons_succ])
          (refine wpAnyL_take (n := 0) (i := 12) (oi := ?ox13) (v := ?vx13) ?hix13 ?k1x13 ?k2x13 ?k3x13 ?k4x13 ?k5x13 ?k6x13 ?hQx13 ?hYx13 ?hSx13 ?restx13; (case hix13 => (simp only [List.getElem?_toArray, List.getElem?_cons_succ, List.getElem?_cons_zero]; exact rfl)); (case k1x13 => kernel_rfl); (case k2x13 => kernel_rfl); (case k3x13 => kernel_rfl); (case k4x13 => kernel_rfl); (case k5x13 => kernel_rfl); (case k6x13 => kernel_rfl); (case hSx13 => assumption); (case hYx13 => (refine Or.inl ⟨rfl, ?hyx13⟩; intro w hSw; (try dsimp only at hSw); go_simp; (try with_reducible rfl))); (case hQx13 => exact (fun _ _ _ h => h)); (try simp only [Act.put, List.setIfInBounds_toArray, List.set_cons_zero, List.set_cons_succ]))
          refine wpAnyL_ready (rs := [13]) (by kernel_rfl) (by simp) ?_
          refine AllReadyL.cons (o := ?o13x14) ?hi13x14 (fun K hK => ?_) AllReadyL.nil
          (case hi13x14 => (simp only [List.getElem?_toArray, List.getElem?_cons_succ, List.getElem?_cons_zero]; exact rfl))
          go_simp
          have hb9 := (Below.refl w2.heap.size w2).alloc (Nat.le_refl _) (.cells #[.int .i64 0, .int .i64 0, .slice none 0 0, .slice none 0 0] 35)
          have hn := Blk.new w2 35 #[.int .i64 0, .int .i64 0, .slice none 0 0, .slice none 0 0]
          have HGA := Lib.hid (show w.heap.size + 1 < w2.heap.size from HP.out.rs.lt)
          have t0 := HP.out.below hb9
          clear HP
          have HP := Lib.hid t0
          clear t0
          have HA := Lib.hid hn
          clear hb9 hn
          (try clear hHeld)
          refine hK.out _ _ (by (try dsimp only); exact ⟨by simpa using HP.out.gr.cell 1, by simpa using HP.out.gr.cell 2, by simpa using HP.out.gr.cell 3, by simpa using HP.out.gr.cell 4, (HP.out.wd.cell 0).trans HE0.out, (HP.out.wd.cell 1).trans HE1.out⟩) (fun hHeld => ?_)
          clear hK K
          (try simp only [Act.put, List.setIfInBounds_toArray, List.set_cons_zero, List.set_cons_succ])
          revert hHeld HGA HP HA
          generalize hgA : w2.heap.size = gA
          generalize (World.alloc w2 (.cells #[.int .i64 0, .int .i64 0, .slice none 0 0, .slice none 0 0] 35)) = w0
          intro HGA HP HA hHeld
          clear hgA
          refine wpAnyL_ready (rs := [14]) (by kernel_rfl) (by simp) ?_
          refine AllReadyL.last (o := ?o14x15) ?hi14x15 ?he14x15 (fun K hK => ?_) AllReadyL.nil
          (case hi14x15 => (simp only [List.getElem?_toArray, List.getElem?_cons_succ, List.getElem?_cons_zero]; exact rfl))
          (case he14x15 => kernel_rfl)
          have s0 := HA.out.cell 0; have s1 := HA.out.cell 1; have s2 := HA.out.cell 2; have s3 := HA.out.cell 3
          have f0 := HA.out.frozen 0; have f1 := HA.out.frozen 1; have f2 := HA.out.frozen 2; have f3 := HA.out.frozen 3
          (try simp at s0 s1 s2 s3)
          go_simp
          (try clear hHeld)
          refine hK.out _ _ ?_
          clear hK K
          (try simp only [Act.put, List.setIfInBounds_toArray, List.set_cons_zero, List.set_cons_succ])
          (refine wpAnyL_done (by kernel_rfl) ?_ _)
          clear s0 s1 s2 s3 f0 f1 f2 f3
          go_wp2_with fail
          go_meet
          have k0 := ((HA.out.set_ 0 (.int .i64 (pickP sn0 sn1 a0))).set_ 1 (.int .i64 (pickP so0 so1 a1))).set_ 2 (.slice none 0 0) |>.set_ 3 (.slice none 0 0)
          have hga := HGA.out
          have hf : Fr (fun g => g = gA) w0 ((((w0.setCell ⟨gA, 0, none⟩ (.int .i64 (pickP sn0 sn1 a0))).setCell ⟨gA, 1, none⟩ (.int .i64 (pickP so0 so1 a1))).setCell ⟨gA, 2, none⟩ (.slice none 0 0)).setCell ⟨gA, 3, none⟩ (.slice none 0 0)) := Fr.setAt (Fr.setAt (Fr.setAt (Fr.setAt (E := fun g => g = gA) (Fr.refl _ _) (p := ⟨gA, 0, none⟩) (.inl rfl) _) (p := ⟨gA, 1, none⟩) (.inl rfl) _) (p := ⟨gA, 2, none⟩) (.inl rfl) _) (p := ⟨gA, 3, none⟩) (.inl rfl) _
          exact ⟨gA, _, _, rfl, pickP_in HSN.out.2.1, pickP_in HSO.out.2.1, by simpa using k0, hf.blk HP.out.gr (by omega), hf.blk HP.out.rs (by omega), hf.blk HP.out.wd (blk_ne9 HP.out.wd HA.out (by decide)), World.ownsRow_nil _ _ _ _, World.ownsRow_nil _ _ _ _, fun g h => by simp [Value.ownBlock] at h, HP.out.bel.trans (hf.below HP.out.bel.size (fun g e => by subst e; omega)), hga⟩
        · skip
          go_simp
          have hb9 := (Below.refl w1.heap.size w1).alloc (Nat.le_refl _) (.cells #[.int .i64 0, .int .i64 0, .slice none 0 0, .slice none 0 0] 35)
          have hn := Blk.new w1 35 #[.int .i64 0, .int .i64 0, .slice none 0 0, .slice none 0 0]
          have HGA := Lib.hid (show w.heap.size + 1 < w1.heap.size from HP.out.rs.lt)
          have t0 := HP.out.below hb9
          clear HP
          have HP := Lib.hid t0
          clear t0
          have HA := Lib.hid hn
          clear hb9 hn
          (try clear hHeld)
          refine hK.out _ _ (by (try dsimp only); exact ⟨by simpa using HP.out.gr.cell 1, by simpa using HP.out.gr.cell 2, by simpa using HP.out.gr.cell 3, by simpa using HP.out.gr.cell 4, (HP.out.wd.cell 0).trans HE0.out, (HP.out.wd.cell 1).trans HE1.out⟩) (fun hHeld => ?_)
          clear hK K
          (try simp only [Act.put, List.setIfInBounds_toArray, List.set_cons_zero, List.set_cons_succ])
          revert hHeld HGA HP HA
          generalize hgA : w1.heap.size = gA
          generalize (World.alloc w1 (.cells #[.int .i64 0, .int .i64 0, .slice none 0 0, .slice none 0 0] 35)) = w0
          intro HGA HP HA hHeld
          clear hgA
          refine wpAnyL_ready (rs := [11]) (by kernel_rfl) (by simp) ?_
          refine AllReadyL.cons (o := ?o11x16) ?hi11x16 (fun K hK => ?_) AllReadyL.nil
          (case hi11x16 => (simp only [List.getElem?_toArray, List.getElem?_cons_succ, List.getElem?_cons_zero]; exact rfl))
          go_simp
          go_at_call 20
          refine (pick_c _ _ _ _ HSO.out HA1.out).mono ?_
          rintro e w2 ⟨rfl, hb9⟩
          have t0 := HP.out.below hb9; have t1 := HA.out.below hb9 HA.out.lt
          clear HP HA
          have HP := Lib.hid t0; have HA := Lib.hid t1
          clear t0 t1
          clear hb9 
          (try go_wp2_with fail)
          (try clear hHeld)
          refine hK.out _ _ (by (try dsimp only); exact ⟨by simpa using HP.out.gr.cell 1, by simpa using HP.out.gr.cell 2, by simpa using HP.out.gr.cell 3, by simpa using HP.out.gr.cell 4, (HP.out.wd.cell 0).trans HE0.out, (HP.out.wd.cell 1).trans HE1.out⟩) (fun hHeld => ?_)
          clear hK K
          (try simp only [Act.put, List.setIfInBounds_toArray, List.set_cons_zero, List.set_cons_succ])
          (refine wpAnyL_take (n := 0) (i := 12) (oi := ?ox17) (v := ?vx17) ?hix17 ?k1x17 ?k2x17 ?k3x17 ?k4x17 ?k5x17 ?k6x17 ?hQx17 ?hYx17 ?hSx17 ?restx17; (case hix17 => (simp only [List.getElem?_toArray, List.getElem?_cons_succ, List.getElem?_cons_zero]; exact rfl)); (case k1x17 => kernel_rfl); (case k2x17 => kernel_rfl); (case k3x17 => kernel_rfl); (case k4x17 => kernel_rfl); (case k5x17 => kernel_rfl); (case k6x17 => kernel_rfl); (case hSx17 => assumption); (case hYx17 => (refine Or.inl ⟨rfl, ?hyx17⟩; intro w hSw; (try dsimp only at hSw); go_simp; (try with_reducible rfl))); (case hQx17 => exact (fun _ _ _ h => h)); (try simp only [Act.put, List.setIfInBounds_toArray, List.set_cons_zero, List.set_cons_succ]))
          refine wpAnyL_ready (rs := [14]) (by kernel_rfl) (by simp) ?_
          refine AllReadyL.last (o := ?o14x18) ?hi14x18 ?he14x18 (fun K hK => ?_) AllReadyL.nil
          (case hi14x18 => (simp only [List.getElem?_toArray, List.getElem?_cons_succ, List.getElem?_cons_zero]; exact rfl))
          (case he14x18 => kernel_rfl)
          have s0 := HA.out.cell 0; have s1 := HA.out.cell 1; have s2 := HA.out.cell 2; have s3 := HA.out.cell 3
          have f0 := HA.out.frozen 0; have f1 := HA.out.frozen 1; have f2 := HA.out.frozen 2; have f3 := HA.out.frozen 3
          (try simp at s0 s1 s2 s3)
          go_simp
          (try clear hHeld)
          refine hK.out _ _ ?_
          clear hK K
          (try simp only [Act.put, List.setIfInBounds_toArray, List.set_cons_zero, List.set_cons_succ])
          (refine wpAnyL_done (by kernel_rfl) ?_ _)
          clear s0 s1 s2 s3 f0 f1 f2 f3
          go_wp2_with fail
          go_meet
          have k0 := ((HA.out.set_ 0 (.int .i64 (pickP sn0 sn1 a0))).set_ 1 (.int .i64 (pickP so0 so1 a1))).set_ 2 (.slice none 0 0) |>.set_ 3 (.slice none 0 0)
          have hga := HGA.out
          have hf : Fr (fun g => g = gA) w2 ((((w2.setCell ⟨gA, 0, none⟩ (.int .i64 (pickP sn0 sn1 a0))).setCell ⟨gA, 1, none⟩ (.int .i64 (pickP so0 so1 a1))).setCell ⟨gA, 2, none⟩ (.slice none 0 0)).setCell ⟨gA, 3, none⟩ (.slice none 0 0)) := Fr.setAt (Fr.setAt (Fr.setAt (Fr.setAt (E := fun g => g = gA) (Fr.refl _ _) (p := ⟨gA, 0, none⟩) (.inl rfl) _) (p := ⟨gA, 1, none⟩) (.inl rfl) _) (p := ⟨gA, 2, none⟩) (.inl rfl) _) (p := ⟨gA, 3, none⟩) (.inl rfl) _
          exact ⟨gA, _, _, rfl, pickP_in HSN.out.2.1, pickP_in HSO.out.2.1, by simpa using k0, hf.blk HP.out.gr (by omega), hf.blk HP.out.rs (by omega), hf.blk HP.out.wd (blk_ne9 HP.out.wd HA.out (by decide)), World.ownsRow_nil _ _ _ _, World.ownsRow_nil _ _ _ _, fun g h => by simp [Value.ownBlock] at h, HP.out.bel.trans (hf.below HP.out.bel.size (fun g e => by subst e; omega)), hga⟩
      · skip
        go_simp
        have hb9 := (Below.refl w0.heap.size w0).alloc (Nat.le_refl _) (.cells #[.int .i64 0, .int .i64 0, .slice none 0 0, .slice none 0 0] 35)
        have hn := Blk.new w0 35 #[.int .i64 0, .int .i64 0, .slice none 0 0, .slice none 0 0]
        have HGA := Lib.hid (show w.heap.size + 1 < w0.heap.size from HP.out.rs.lt)
        have t0 := HP.out.below hb9
        clear HP
        have HP := Lib.hid t0
        clear t0
        have HA := Lib.hid hn
        clear hb9 hn
        (try clear hHeld)
        refine hK.out _ _ (by (try dsimp only); exact ⟨by simpa using HP.out.gr.cell 1, by simpa using HP.out.gr.cell 2, by simpa using HP.out.gr.cell 3, by simpa using HP.out.gr.cell 4, (HP.out.wd.cell 0).trans HE0.out, (HP.out.wd.cell 1).trans HE1.out⟩) (fun hHeld => ?_)
        clear hK K
        (try simp only [Act.put, List.setIfInBounds_toArray, List.set_cons_zero, List.set_cons_succ])
        revert hHeld HGA HP HA
        generalize hgA : w0.heap.size = gA
        generalize (World.alloc w0 (.cells #[.int .i64 0, .int .i64 0, .slice none 0 0, .slice none 0 0] 35)) = w0
        intro HGA HP HA hHeld
        clear hgA
        refine wpAnyL_ready (rs := [5]) (by kernel_rfl) (by simp) ?_
        refine AllReadyL.cons (o := ?o5x19) ?hi5x19 (fun K hK => ?_) AllReadyL.nil
        (case hi5x19 => (simp only [List.getElem?_toArray, List.getElem?_cons_succ, List.getElem?_cons_zero]; exact rfl))
        go_simp
        go_at_call 20
        refine (pick_c _ _ _ _ HSN.out HA0.out).mono ?_
        rintro e w1 ⟨rfl, hb9⟩
        have t0 := HP.out.below hb9; have t1 := HA.out.below hb9 HA.out.lt
        clear HP HA
        have HP := Lib.hid t0; have HA := Lib.hid t1
        clear t0 t1
        clear hb9 
        (try go_wp2_with fail)
        (try clear hHeld)
        refine hK.out _ _ (by (try dsimp only); exact ⟨by simpa using HP.out.gr.cell 1, by simpa using HP.out.gr.cell 2, by simpa using HP.out.gr.cell 3, by simpa using HP.out.gr.cell 4, (HP.out.wd.cell 0).trans HE0.out, (HP.out.wd.cell 1).trans HE1.out⟩) (fun hHeld => ?_)
        clear hK K
        (try simp only [Act.put, List.setIfInBounds_toArray, List.set_cons_zero, List.set_cons_succ])
        refine wpAnyL_ready (rs := [11]) (by kernel_rfl) (by simp) ?_
        refine AllReadyL.cons (o := ?o11x20) ?hi11x20 (fun K hK => ?_) AllReadyL.nil
        (case hi11x20 => (simp only [List.getElem?_toArray, List.getElem?_cons_succ, List.getElem?_cons_zero]; exact rfl))
        go_simp
        go_at_call 20
        refine (pick_c _ _ _ _ HSO.out HA1.out).mono ?_
        rintro e w2 ⟨rfl, hb9⟩
        have t0 := HP.out.below hb9; have t1 := HA.out.below hb9 HA.out.lt
        clear HP HA
        have HP := Lib.hid t0; have HA := Lib.hid t1
        clear t0 t1
        clear hb9 
        (try go_wp2_with fail)
        (try clear hHeld)
        refine hK.out _ _ (by (try dsimp only); exact ⟨by simpa using HP.out.gr.cell 1, by simpa using HP.out.gr.cell 2, by simpa using HP.out.gr.cell 3, by simpa using HP.out.gr.cell 4, (HP.out.wd.cell 0).trans HE0.out, (HP.out.wd.cell 1).trans HE1.out⟩) (fun hHeld => ?_)
        clear hK K
        (try simp only [Act.put, List.setIfInBounds_toArray, List.set_cons_zero, List.set_cons_succ])
        (refine wpAnyL_take (n := 0) (i := 12) (oi := ?ox21) (v := ?vx21) ?hix21 ?k1x21 ?k2x21 ?k3x21 ?k4x21 ?k5x21 ?k6x21 ?hQx21 ?hYx21 ?hSx21 ?restx21; (case hix21 => (simp only [List.getElem?_toArray, List.getElem?_cons_succ, List.getElem?_cons_zero]; exact rfl)); (case k1x21 => kernel_rfl); (case k2x21 => kernel_rfl); (case k3x21 => kernel_rfl); (case k4x21 => kernel_rfl); (case k5x21 => kernel_rfl); (case k6x21 => kernel_rfl); (case hSx21 => assumption); (case hYx21 => (refine Or.inl ⟨rfl, ?hyx21⟩; intro w hSw; (try dsimp only at hSw); go_simp; (try with_reducible rfl))); (case hQx21 => exact (fun _ _ _ h => h)); (try simp only [Act.put, List.setIfInBounds_toArray, List.set_cons_zero, List.set_cons_succ]))
        refine wpAnyL_ready (rs := [14]) (by kernel_rfl) (by simp) ?_
        refine AllReadyL.last (o := ?o14x22) ?hi14x22 ?he14x22 (fun K hK => ?_) AllReadyL.nil
        (case hi14x22 => (simp only [List.getElem?_toArray, List.getElem?_cons_succ, List.getElem?_cons_zero]; exact rfl))
        (case he14x22 => kernel_rfl)
        have s0 := HA.out.cell 0; have s1 := HA.out.cell 1; have s2 := HA.out.cell 2; have s3 := HA.out.cell 3
        have f0 := HA.out.frozen 0; have f1 := HA.out.frozen 1; have f2 := HA.out.frozen 2; have f3 := HA.out.frozen 3
        (try simp at s0 s1 s2 s3)
        go_simp
        (try clear hHeld)
        refine hK.out _ _ ?_
        clear hK K
        (try simp only [Act.put, List.setIfInBounds_toArray, List.set_cons_zero, List.set_cons_succ])
        (refine wpAnyL_done (by kernel_rfl) ?_ _)
        clear s0 s1 s2 s3 f0 f1 f2 f3
        go_wp2_with fail
        go_meet
        have k0 := ((HA.out.set_ 0 (.int .i64 (pickP sn0 sn1 a0))).set_ 1 (.int .i64 (pickP so0 so1 a1))).set_ 2 (.slice none 0 0) |>.set_ 3 (.slice none 0 0)
        have hga := HGA.out
        have hf : Fr (fun g => g = gA) w2 ((((w2.setCell ⟨gA, 0, none⟩ (.int .i64 (pickP sn0 sn1 a0))).setCell ⟨gA, 1, none⟩ (.int .i64 (pickP so0 so1 a1))).setCell ⟨gA, 2, none⟩ (.slice none 0 0)).setCell ⟨gA, 3, none⟩ (.slice none 0 0)) := Fr.setAt (Fr.setAt (Fr.setAt (Fr.setAt (E := fun g => g = gA) (Fr.refl _ _) (p := ⟨gA, 0, none⟩) (.inl rfl) _) (p := ⟨gA, 1, none⟩) (.inl rfl) _) (p := ⟨gA, 2, none⟩) (.inl rfl) _) (p := ⟨gA, 3, none⟩) (.inl rfl) _
        exact ⟨gA, _, _, rfl, pickP_in HSN.out.2.1, pickP_in HSO.out.2.1, by simpa using k0, hf.blk HP.out.gr (by omega), hf.blk HP.out.rs (by omega), hf.blk HP.out.wd (blk_ne9 HP.out.wd HA.out (by decide)), World.ownsRow_nil _ _ _ _, World.ownsRow_nil _ _ _ _, fun g h => by simp [Value.ownBlock] at h, HP.out.bel.trans (hf.below HP.out.bel.size (fun g e => by subst e; omega)), hga⟩
    case rest =>
      obtain ⟨B7, tsn, tso, rfl, htsn, htso, htr⟩ := hcut
      clear HP g1 g2 g3 g4 e0 e1 HE0 HE1 HA0 HA1
      have g0 := htr.gr.cell 0
      simp at g0
      have HT := Lib.hid htr; have HTN := Lib.hid htsn; have HTO := Lib.hid htso
      clear htr htsn htso
      go_wp2_with fail
      go_loopw [11] (fun i wr => ∃ (k : Nat) (v : Value) (xs : List Int), k ≤ cn ∧ i = .int .i64 (k : Int) ∧ xs.length = k ∧ FitL (fun c : Cel => c.lo) (fun c => c.hi) C xs ∧ PkI w #[.slice CA cn cc, .int .i64 sn0, .int .i64 sn1, .int .i64 so0, .int .i64 so1, .int .i64 melt] (w.heap.size + 1 + 1) cs B7 tsn tso v (.slice none 0 0) v (.slice none 0 0) xs [] wr) (fun i _ => cn - (intOf i).toNat)
      case atStart => exact ⟨0, _, [], Nat.zero_le _, rfl, rfl, FitL.nil _ _ _, HT.out⟩
      case round =>
        obtain ⟨k, v, xs, hk, rfl, hxl, hfit, htr⟩ := hrel
        clear HT g0
        have g0 := htr.gr.cell 0
        simp at g0
        by_cases hlt : k < cn
        · obtain ⟨b, o, x, rfl, hbl, hx, y0, y1, y2, y3, y4, y5, y6⟩ := (HC.out.below htr.bel).atCel hlt
          obtain ⟨a, hwa, ha⟩ := HCS.out.2 (2 + k) (by omega)
          have hr := HRC.out x (List.mem_of_getElem? hx)
          have hwz : cs[(2 + (k : Int)).toNat]? = some (.int .u16 a) := by rw [show (2 + (k : Int)).toNat = 2 + k by omega]; exact hwa
          have wa := htr.wd.cell ((2 + (k : Int)).toNat)
          rw [hwz] at wa
          have hK0 : (0 : Int) ≤ (k : Int) := by omega
          have hK1 : (k : Int) < (cn : Int) := by omega
          have hi0 : (0 : Int) ≤ (2 + (k : Int)) := by omega
          have hi1 : (2 + (k : Int)) < (N : Int) := by omega
          have hi2 : 2 + k < N := by omega
          have hwr : IntKind.i64.wrap (2 + (k : Int)) = 2 + (k : Int) := wi (by omega)
          have tf := htr.tb.cell 2
          simp at tf
          have HXA := Lib.hid hx; have HR9 := Lib.hid hr; have HA9 := Lib.hid ha; have HWA := Lib.hid hwz; have HT := Lib.hid htr; have HL9 := Lib.hid hxl; have HF9 := Lib.hid hfit
          clear hx hr ha hwa hwz htr hxl hfit
          go_upto_region 12 with fail
          have HBR := Lib.hid (Below.refl wr.heap.size wr)
          refine wp_region_till [16, 18] (fun U => U.cell? ⟨b, o + k * 7, none⟩ = some (.int .i64 x.lo) ∧ U.cell? ⟨b, o + k * 7 + 1, none⟩ = some (.int .i64 x.hi) ∧ U.cell? ⟨B7, 2, none⟩ = some v ∧ U.cell? ⟨w.heap.size + 1 + 1, (2 + (k : Int)).toNat, none⟩ = some (.int .u16 a) ∧ U.cell? ⟨w.heap.size, 0, none⟩ = some (.slice (some ⟨b, o, none⟩) cn cc)) (by kernel_rfl) (by exact ⟨y0, y1, tf, wa, g0⟩) (fun hHeld => ?_)
          have hb9 := (Below.refl wr.heap.size wr).drew
          have t0 := below_tr HBR.out hb9; have t1 := HT.out.below hb9
          clear HBR HT
          have HBR := Lib.hid t0; have HT := Lib.hid t1
          clear t0 t1
          clear hb9
          revert hHeld HBR HT
          generalize wr.drew = w0
          intro hHeld HBR HT
          (refine wpAnyL_take (n := 1) (i := 0) (oi := ?ox23) (v := ?vx23) ?hix23 ?k1x23 ?k2x23 ?k3x23 ?k4x23 ?k5x23 ?k6x23 ?hQx23 ?hYx23 ?hSx23 ?restx23; (case hix23 => (simp only [List.getElem?_toArray, List.getElem?_cons_succ, List.getElem?_cons_zero]; exact rfl)); (case k1x23 => kernel_rfl); (case k2x23 => kernel_rfl); (case k3x23 => kernel_rfl); (case k4x23 => kernel_rfl); (case k5x23 => kernel_rfl); (case k6x23 => kernel_rfl); (case hSx23 => assumption); (case hYx23 => (refine Or.inl ⟨rfl, ?hyx23⟩; intro w hSw; (try dsimp only at hSw); go_simp; (try with_reducible rfl))); (case hQx23 => exact (fun _ _ _ h => h)); (try simp only [Act.put, List.setIfInBounds_toArray, List.set_cons_zero, List.set_cons_succ]))
          (refine wpAnyL_take (n := 0) (i := 1) (oi := ?ox24) (v := ?vx24) ?hix24 ?k1x24 ?k2x24 ?k3x24 ?k4x24 ?k5x24 ?k6x24 ?hQx24 ?hYx24 ?hSx24 ?restx24; (case hix24 => (simp only [List.getElem?_toArray, List.getElem?_cons_succ, List.getElem?_cons_zero]; exact rfl)); (case k1x24 => kernel_rfl); (case k2x24 => kernel_rfl); (case k3x24 => kernel_rfl); (case k4x24 => kernel_rfl); (case k5x24 => kernel_rfl); (case k6x24 => kernel_rfl); (case hSx24 => assumption); (case hYx24 => (refine Or.inl ⟨rfl, ?hyx24⟩; intro w hSw; (try dsimp only at hSw); go_simp; (try with_reducible rfl))); (case hQx24 => exact (fun _ _ _ h => h)); (try simp only [Act.put, List.setIfInBounds_toArray, List.set_cons_zero, List.set_cons_succ]))
          (refine wpAnyL_take (n := 5) (i := 2) (oi := ?ox25) (v := ?vx25) ?hix25 ?k1x25 ?k2x25 ?k3x25 ?k4x25 ?k5x25 ?k6x25 ?hQx25 ?hYx25 ?hSx25 ?restx25; (case hix25 => (simp only [List.getElem?_toArray, List.getElem?_cons_succ, List.getElem?_cons_zero]; exact rfl)); (case k1x25 => kernel_rfl); (case k2x25 => kernel_rfl); (case k3x25 => kernel_rfl); (case k4x25 => kernel_rfl); (case k5x25 => kernel_rfl); (case k6x25 => kernel_rfl); (case hSx25 => assumption); (case hYx25 => (refine Or.inl ⟨rfl, ?hyx25⟩; intro w hSw; (try dsimp only at hSw); go_simp; (try with_reducible rfl))); (case hQx25 => exact (fun _ _ _ h => h)); (try simp only [Act.put, List.setIfInBounds_toArray, List.set_cons_zero, List.set_cons_succ]))
          (refine wpAnyL_take (n := 4) (i := 3) (oi := ?ox26) (v := ?vx26) ?hix26 ?k1x26 ?k2x26 ?k3x26 ?k4x26 ?k5x26 ?k6x26 ?hQx26 ?hYx26 ?hSx26 ?restx26; (case hix26 => (simp only [List.getElem?_toArray, List.getElem?_cons_succ, List.getElem?_cons_zero]; exact rfl)); (case k1x26 => kernel_rfl); (case k2x26 => kernel_rfl); (case k3x26 => kernel_rfl); (case k4x26 => kernel_rfl); (case k5x26 => kernel_rfl); (case k6x26 => kernel_rfl); (case hSx26 => assumption); (case hYx26 => (refine Or.inl ⟨rfl, ?hyx26⟩; intro w hSw; (try dsimp only at hSw); go_simp; (try with_reducible rfl))); (case hQx26 => exact (fun _ _ _ h => h)); (try simp only [Act.put, List.setIfInBounds_toArray, List.set_cons_zero, List.set_cons_succ]))
          (refine wpAnyL_take (n := 4) (i := 4) (oi := ?ox27) (v := ?vx27) ?hix27 ?k1x27 ?k2x27 ?k3x27 ?k4x27 ?k5x27 ?k6x27 ?hQx27 ?hYx27 ?hSx27 ?restx27; (case hix27 => (simp only [List.getElem?_toArray, List.getElem?_cons_succ, List.getElem?_cons_zero]; exact rfl)); (case k1x27 => kernel_rfl); (case k2x27 => kernel_rfl); (case k3x27 => kernel_rfl); (case k4x27 => kernel_rfl); (case k5x27 => kernel_rfl); (case k6x27 => kernel_rfl); (case hSx27 => assumption); (case hYx27 => (refine Or.inl ⟨rfl, ?hyx27⟩; intro w hSw; (try dsimp only at hSw); go_simp; (try with_reducible rfl))); (case hQx27 => exact (fun _ _ _ h => h)); (try simp only [Act.put, List.setIfInBounds_toArray, List.set_cons_zero, List.set_cons_succ]))
          (refine wpAnyL_take (n := 3) (i := 5) (oi := ?ox28) (v := ?vx28) ?hix28 ?k1x28 ?k2x28 ?k3x28 ?k4x28 ?k5x28 ?k6x28 ?hQx28 ?hYx28 ?hSx28 ?restx28; (case hix28 => (simp only [List.getElem?_toArray, List.getElem?_cons_succ, List.getElem?_cons_zero]; exact rfl)); (case k1x28 => kernel_rfl); (case k2x28 => kernel_rfl); (case k3x28 => kernel_rfl); (case k4x28 => kernel_rfl); (case k5x28 => kernel_rfl); (case k6x28 => kernel_rfl); (case hSx28 => assumption); (case hYx28 => (refine Or.inl ⟨rfl, ?hyx28⟩; intro w hSw; (try dsimp only at hSw); go_simp; (try with_reducible rfl))); (case hQx28 => exact (fun _ _ _ h => h)); (try simp only [Act.put, List.setIfInBounds_toArray, List.set_cons_zero, List.set_cons_succ]))
          (refine wpAnyL_take (n := 2) (i := 6) (oi := ?ox29) (v := ?vx29) ?hix29 ?k1x29 ?k2x29 ?k3x29 ?k4x29 ?k5x29 ?k6x29 ?hQx29 ?hYx29 ?hSx29 ?restx29; (case hix29 => (simp only [List.getElem?_toArray, List.getElem?_cons_succ, List.getElem?_cons_zero]; exact rfl)); (case k1x29 => kernel_rfl); (case k2x29 => kernel_rfl); (case k3x29 => kernel_rfl); (case k4x29 => kernel_rfl); (case k5x29 => kernel_rfl); (case k6x29 => kernel_rfl); (case hSx29 => assumption); (case hYx29 => (refine Or.inl ⟨rfl, ?hyx29⟩; intro w hSw; (try dsimp only at hSw); go_simp; (try with_reducible rfl))); (case hQx29 => exact (fun _ _ _ h => h)); (try simp only [Act.put, List.setIfInBounds_toArray, List.set_cons_zero, List.set_cons_succ]))
          (refine wpAnyL_take (n := 1) (i := 7) (oi := ?ox30) (v := ?vx30) ?hix30 ?k1x30 ?k2x30 ?k3x30 ?k4x30 ?k5x30 ?k6x30 ?hQx30 ?hYx30 ?hSx30 ?restx30; (case hix30 => (simp only [List.getElem?_toArray, List.getElem?_cons_succ, List.getElem?_cons_zero]; exact rfl)); (case k1x30 => kernel_rfl); (case k2x30 => kernel_rfl); (case k3x30 => kernel_rfl); (case k4x30 => kernel_rfl); (case k5x30 => kernel_rfl); (case k6x30 => kernel_rfl); (case hSx30 => assumption); (case hYx30 => (refine Or.inl ⟨rfl, ?hyx30⟩; intro w hSw; (try dsimp only at hSw); go_simp; (try with_reducible rfl))); (case hQx30 => exact (fun _ _ _ h => h)); (try simp only [Act.put, List.setIfInBounds_toArray, List.set_cons_zero, List.set_cons_succ]))
          (refine wpAnyL_take (n := 3) (i := 8) (oi := ?ox31) (v := ?vx31) ?hix31 ?k1x31 ?k2x31 ?k3x31 ?k4x31 ?k5x31 ?k6x31 ?hQx31 ?hYx31 ?hSx31 ?restx31; (case hix31 => (simp only [List.getElem?_toArray, List.getElem?_cons_succ, List.getElem?_cons_zero]; exact rfl)); (case k1x31 => kernel_rfl); (case k2x31 => kernel_rfl); (case k3x31 => kernel_rfl); (case k4x31 => kernel_rfl); (case k5x31 => kernel_rfl); (case k6x31 => kernel_rfl); (case hSx31 => assumption); (case hYx31 => (refine Or.inl ⟨rfl, ?hyx31⟩; intro w hSw; (try dsimp only at hSw); go_simp; (try with_reducible rfl))); (case hQx31 => exact (fun _ _ _ h => h)); (try simp only [Act.put, List.setIfInBounds_toArray, List.set_cons_zero, List.set_cons_succ]))
          (refine wpAnyL_take (n := 4) (i := 9) (oi := ?ox32) (v := ?vx32) ?hix32 ?k1x32 ?k2x32 ?k3x32 ?k4x32 ?k5x32 ?k6x32 ?hQx32 ?hYx32 ?hSx32 ?restx32; (case hix32 => (simp only [List.getElem?_toArray, List.getElem?_cons_succ, List.getElem?_cons_zero]; exact rfl)); (case k1x32 => kernel_rfl); (case k2x32 => kernel_rfl); (case k3x32 => kernel_rfl); (case k4x32 => kernel_rfl); (case k5x32 => kernel_rfl); (case k6x32 => kernel_rfl); (case hSx32 => assumption); (case hYx32 => (refine Or.inl ⟨rfl, ?hyx32⟩; intro w hSw; (try dsimp only at hSw); go_simp; (try with_reducible rfl))); (case hQx32 => exact (fun _ _ _ h => h)); (try simp only [Act.put, List.setIfInBounds_toArray, List.set_cons_zero, List.set_cons_succ]))
          (refine wpAnyL_take (n := 4) (i := 10) (oi := ?ox33) (v := ?vx33) ?hix33 ?k1x33 ?k2x33 ?k3x33 ?k4x33 ?k5x33 ?k6x33 ?hQx33 ?hYx33 ?hSx33 ?restx33; (case hix33 => (simp only [List.getElem?_toArray, List.getElem?_cons_succ, List.getElem?_cons_zero]; exact rfl)); (case k1x33 => kernel_rfl); (case k2x33 => kernel_rfl); (case k3x33 => kernel_rfl); (case k4x33 => kernel_rfl); (case k5x33 => kernel_rfl); (case k6x33 => kernel_rfl); (case hSx33 => assumption); (case hYx33 => (refine Or.inl ⟨rfl, ?hyx33⟩; intro w hSw; (try dsimp only at hSw); go_simp; (try with_reducible rfl))); (case hQx33 => exact (fun _ _ _ h => h)); (try simp only [Act.put, List.setIfInBounds_toArray, List.set_cons_zero, List.set_cons_succ]))
          (refine wpAnyL_take (n := 3) (i := 11) (oi := ?ox34) (v := ?vx34) ?hix34 ?k1x34 ?k2x34 ?k3x34 ?k4x34 ?k5x34 ?k6x34 ?hQx34 ?hYx34 ?hSx34 ?restx34; (case hix34 => (simp only [List.getElem?_toArray, List.getElem?_cons_succ, List.getElem?_cons_zero]; exact rfl)); (case k1x34 => kernel_rfl); (case k2x34 => kernel_rfl); (case k3x34 => kernel_rfl); (case k4x34 => kernel_rfl); (case k5x34 => kernel_rfl); (case k6x34 => kernel_rfl); (case hSx34 => assumption); (case hYx34 => (refine Or.inl ⟨rfl, ?hyx34⟩; intro w hSw; (try dsimp only at hSw); go_simp; (try with_reducible rfl))); (case hQx34 => exact (fun _ _ _ h => h)); (try simp only [Act.put, List.setIfInBounds_toArray, List.set_cons_zero, List.set_cons_succ]))
          (refine wpAnyL_take (n := 2) (i := 12) (oi := ?ox35) (v := ?vx35) ?hix35 ?k1x35 ?k2x35 ?k3x35 ?k4x35 ?k5x35 ?k6x35 ?hQx35 ?hYx35 ?hSx35 ?restx35; (case hix35 => (simp only [List.getElem?_toArray, List.getElem?_cons_succ, List.getElem?_cons_zero]; exact rfl)); (case k1x35 => kernel_rfl); (case k2x35 => kernel_rfl); (case k3x35 => kernel_rfl); (case k4x35 => kernel_rfl); (case k5x35 => kernel_rfl); (case k6x35 => kernel_rfl); (case hSx35 => assumption); (case hYx35 => (refine Or.inl ⟨rfl, ?hyx35⟩; intro w hSw; (try dsimp only at hSw); go_simp; (try with_reducible rfl))); (case hQx35 => exact (fun _ _ _ h => h)); (try simp only [Act.put, List.setIfInBounds_toArray, List.set_cons_zero, List.set_cons_succ]))
          (refine wpAnyL_take (n := 1) (i := 13) (oi := ?ox36) (v := ?vx36) ?hix36 ?k1x36 ?k2x36 ?k3x36 ?k4x36 ?k5x36 ?k6x36 ?hQx36 ?hYx36 ?hSx36 ?restx36; (case hix36 => (simp only [List.getElem?_toArray, List.getElem?_cons_succ, List.getElem?_cons_zero]; exact rfl)); (case k1x36 => kernel_rfl); (case k2x36 => kernel_rfl); (case k3x36 => kernel_rfl); (case k4x36 => kernel_rfl); (case k5x36 => kernel_rfl); (case k6x36 => kernel_rfl); (case hSx36 => assumption); (case hYx36 => (refine Or.inl ⟨rfl, ?hyx36⟩; intro w hSw; (try dsimp only at hSw); go_simp; (try with_reducible rfl))); (case hQx36 => exact (fun _ _ _ h => h)); (try simp only [Act.put, List.setIfInBounds_toArray, List.set_cons_zero, List.set_cons_succ]))
          refine wpAnyL_ready (rs := [14]) (by kernel_rfl) (by simp) ?_
          refine AllReadyL.cons (o := ?o14x37) ?hi14x37 (fun K hK => ?_) AllReadyL.nil
          (case hi14x37 => (simp only [List.getElem?_toArray, List.getElem?_cons_succ, List.getElem?_cons_zero]; exact rfl))
          go_simp
          go_at_call 20
          refine (pick_c _ _ _ _ HR9.out HA9.out).mono ?_
          rintro e w1 ⟨rfl, hb9⟩
          have t0 := below_tr HBR.out hb9; have t1 := HT.out.below hb9
          clear HBR HT
          have HBR := Lib.hid t0; have HT := Lib.hid t1
          clear t0 t1
          clear hb9 
          (try go_wp2_with fail)
          (try clear hHeld)
          refine hK.out _ _ (by (try dsimp only); exact ⟨(HBR.out.cell (p := ⟨b, _, none⟩) hbl).trans y0, (HBR.out.cell (p := ⟨b, _, none⟩) hbl).trans y1, by simpa using HT.out.tb.cell 2, (HT.out.wd.cell ((2 + (k : Int)).toNat)).trans HWA.out, by simpa using HT.out.gr.cell 0⟩) (fun hHeld => ?_)
          clear hK K
          (try simp only [Act.put, List.setIfInBounds_toArray, List.set_cons_zero, List.set_cons_succ])
          refine wpAnyL_ready (rs := [15]) (by kernel_rfl) (by simp) ?_
          refine AllReadyL.cons (o := ?o15x38) ?hi15x38 (fun K hK => ?_) AllReadyL.nil
          (case hi15x38 => (simp only [List.getElem?_toArray, List.getElem?_cons_succ, List.getElem?_cons_zero]; exact rfl))
          go_simp
          have hb9 := (Below.refl w1.heap.size w1).alloc (Nat.le_refl _) (.cells #[.int .i64 (pickP x.lo x.hi a)] 3)
          have hn := Blk.new w1 3 #[.int .i64 (pickP x.lo x.hi a)]
          have t0 := below_tr HBR.out hb9; have t1 := HT.out.below hb9
          clear HBR HT
          have HBR := Lib.hid t0; have HT := Lib.hid t1
          clear t0 t1
          have HA := Lib.hid hn
          clear hb9 hn
          (try clear hHeld)
          refine hK.out _ _ (by (try dsimp only); exact ⟨(HBR.out.cell (p := ⟨b, _, none⟩) hbl).trans y0, (HBR.out.cell (p := ⟨b, _, none⟩) hbl).trans y1, by simpa using HT.out.tb.cell 2, (HT.out.wd.cell ((2 + (k : Int)).toNat)).trans HWA.out, by simpa using HT.out.gr.cell 0⟩) (fun hHeld => ?_)
          clear hK K
          (try simp only [Act.put, List.setIfInBounds_toArray, List.set_cons_zero, List.set_cons_succ])
          revert hHeld HBR HT HA
          generalize hgA : w1.heap.size = gA
          generalize (World.alloc w1 (.cells #[.int .i64 (pickP x.lo x.hi a)] 3)) = w0
          intro HBR HT HA hHeld
          clear hgA
          refine wpAnyL_ready (rs := [16]) (by kernel_rfl) (by simp) ?_
          refine AllReadyL.last (o := ?o16x39) ?hi16x39 ?he16x39 (fun K hK => ?_) AllReadyL.nil
          (case hi16x39 => (simp only [List.getElem?_toArray, List.getElem?_cons_succ, List.getElem?_cons_zero]; exact rfl))
          (case he16x39 => kernel_rfl)
          have ho9 := HT.out.o1
          rw [HL9.out] at ho9
          refine step_append_lies _ rfl _ _ 33 rfl w.heap.size 3 j0 (.int .i64 0) 1 8 Tryz.underlying33 HJ0.out HY0.out HY1.out HY2.out rfl (by decide) v k (xs.flatMap enc1) rfl ho9 ⟨gA, 0, none⟩ 1 1 [.int .i64 (pickP x.lo x.hi a)] rfl rfl (World.news_of_block (cs := #[.int .i64 (pickP x.lo x.hi a)]) HA.out) (by simp [Value.oneCell']) (by omega) (by unfold maxLen; omega) (by omega) HT.out.bel.size _ rfl ?_
          intro gl cl w8 hown5 hgrow hat hlt5
          have ht9 := HT.out.grow1 HL9.out hown5 hgrow hat
          clear HT HA HBR
          have HT := Lib.hid ht9
          clear ht9 hgrow hown5 hat ho9
          (try clear hHeld)
          refine hK.out _ _ ?_
          clear hK K
          (try simp only [Act.put, List.setIfInBounds_toArray, List.set_cons_zero, List.set_cons_succ])
          (refine wpAnyL_free (i := 17) (oi := ?ox40) (v := ?vx40) ?hix40 ?k1x40 ?k2x40 ?k3x40 ?k4x40 ?k5x40 ?hQx40 ?hYx40 ?restx40; (case hix40 => (simp only [List.getElem?_toArray, List.getElem?_cons_succ, List.getElem?_cons_zero]; exact rfl)); (case k1x40 => kernel_rfl); (case k2x40 => kernel_rfl); (case k3x40 => kernel_rfl); (case k4x40 => kernel_rfl); (case k5x40 => kernel_rfl); (case hYx40 => (refine Or.inl ⟨rfl, ?hyx40⟩; intro w hSw; (try dsimp only at hSw); go_simp; (try with_reducible rfl))); (case hQx40 => exact (fun _ _ _ h => h)); (try simp only [Act.put, List.setIfInBounds_toArray, List.set_cons_zero, List.set_cons_succ]))
          refine wpAnyL_ready (rs := [18]) (by kernel_rfl) (by simp) ?_
          refine AllReadyL.last (o := ?o18x41) ?hi18x41 ?he18x41 (fun K hK => ?_) AllReadyL.nil
          (case hi18x41 => (simp only [List.getElem?_toArray, List.getElem?_cons_succ, List.getElem?_cons_zero]; exact rfl))
          (case he18x41 => kernel_rfl)
          have s0 := HT.out.tb.cell 2; have f0 := HT.out.tb.frozen 2
          (try simp at s0)
          go_simp
          (try clear hHeld)
          refine hK.out _ _ ?_
          clear hK K
          (try simp only [Act.put, List.setIfInBounds_toArray, List.set_cons_zero, List.set_cons_succ])
          (refine wpAnyL_done (by kernel_rfl) ?_ _)
          have ht9 := HT.out.set1 (.slice (some ⟨gl, 0, none⟩) (k + 1) cl)
          clear s0 f0
          go_wp2_with fail
          go_roundw
          case rel => exact ⟨k + 1, _, _, by omega, by go_num, by rw [List.length_append, HL9.out]; rfl, HF9.out.snoc HL9.out HXA.out (pickP_in HR9.out.2.1), ht9⟩
          case measure => simp [intOf] <;> omega
        · obtain rfl : cn = k := by omega
          have HT := Lib.hid htr; have HXL := Lib.hid hxl; have HFX := Lib.hid hfit
          clear htr hxl hfit hlt
          go_wp2_with fail
          clear g0
          go_loopw [12] (fun i wr => ∃ (j : Nat) (vz : Value) (ys : List Int), j ≤ dn ∧ i = .int .i64 (j : Int) ∧ ys.length = j ∧ FitL (fun d : Dy => d.lo) (fun d => d.hi) D ys ∧ PkI w #[.slice CA cn cc, .int .i64 sn0, .int .i64 sn1, .int .i64 so0, .int .i64 so1, .int .i64 melt] (w.heap.size + 1 + 1) cs B7 tsn tso v vz v vz xs ys wr) (fun i _ => dn - (intOf i).toNat)
          case atStart => exact ⟨0, _, [], Nat.zero_le _, rfl, rfl, FitL.nil _ _ _, HT.out⟩
          case round =>
            obtain ⟨j, vz, ys, hj, rfl, hyl, hfit, htr⟩ := hrel
            clear HT
            by_cases hlt : j < dn
            · obtain ⟨b, o, x, rfl, hbl, hx, y0, y1, y2⟩ := (HD.out.below htr.bel).atDy hlt
              obtain ⟨a, hwa, ha⟩ := HCS.out.2 (2 + cn + j) (by omega)
              have hr := HRD.out x (List.mem_of_getElem? hx)
              have hwz : cs[(2 + (cn : Int) + (j : Int)).toNat]? = some (.int .u16 a) := by rw [show (2 + (cn : Int) + (j : Int)).toNat = 2 + cn + j by omega]; exact hwa
              have wa := htr.wd.cell ((2 + (cn : Int) + (j : Int)).toNat)
              rw [hwz] at wa
              have hK0 : (0 : Int) ≤ (j : Int) := by omega
              have hK1 : (j : Int) < (dn : Int) := by omega
              have hi0 : (0 : Int) ≤ (2 + (cn : Int) + (j : Int)) := by omega
              have hi1 : (2 + (cn : Int) + (j : Int)) < (N : Int) := by omega
              have hi2 : 2 + cn + j < N := by omega
              have hwr : IntKind.i64.wrap (2 + (cn : Int) + (j : Int)) = 2 + (cn : Int) + (j : Int) := wi (by omega)
              have tf := htr.tb.cell 3
              simp at tf
              have HXA := Lib.hid hx; have HR9 := Lib.hid hr; have HA9 := Lib.hid ha; have HWA := Lib.hid hwz; have HT := Lib.hid htr; have HL9 := Lib.hid hyl; have HF9 := Lib.hid hfit
              clear hx hr ha hwa hwz htr hyl hfit
              go_upto_region 17 with fail
              have HBR := Lib.hid (Below.refl wr.heap.size wr)
              refine wp_region_till [15, 17] (fun U => U.cell? ⟨b, o + j * 3, none⟩ = some (.int .i64 x.lo) ∧ U.cell? ⟨b, o + j * 3 + 1, none⟩ = some (.int .i64 x.hi) ∧ U.cell? ⟨B7, 3, none⟩ = some vz ∧ U.cell? ⟨w.heap.size + 1 + 1, (2 + (cn : Int) + (j : Int)).toNat, none⟩ = some (.int .u16 a)) (by kernel_rfl) (by exact ⟨y0, y1, tf, wa⟩) (fun hHeld => ?_)
              have hb9 := (Below.refl wr.heap.size wr).drew
              have t0 := below_tr HBR.out hb9; have t1 := HT.out.below hb9
              clear HBR HT
              have HBR := Lib.hid t0; have HT := Lib.hid t1
              clear t0 t1
              clear hb9
              revert hHeld HBR HT
              generalize wr.drew = w0
              intro hHeld HBR HT
              (refine wpAnyL_take (n := 1) (i := 0) (oi := ?ox42) (v := ?vx42) ?hix42 ?k1x42 ?k2x42 ?k3x42 ?k4x42 ?k5x42 ?k6x42 ?hQx42 ?hYx42 ?hSx42 ?restx42; (case hix42 => (simp only [List.getElem?_toArray, List.getElem?_cons_succ, List.getElem?_cons_zero]; exact rfl)); (case k1x42 => kernel_rfl); (case k2x42 => kernel_rfl); (case k3x42 => kernel_rfl); (case k4x42 => kernel_rfl); (case k5x42 => kernel_rfl); (case k6x42 => kernel_rfl); (case hSx42 => assumption); (case hYx42 => (refine Or.inl ⟨rfl, ?hyx42⟩; intro w hSw; (try dsimp only at hSw); go_simp; (try with_reducible rfl))); (case hQx42 => exact (fun _ _ _ h => h)); (try simp only [Act.put, List.setIfInBounds_toArray, List.set_cons_zero, List.set_cons_succ]))
              (refine wpAnyL_take (n := 0) (i := 1) (oi := ?ox43) (v := ?vx43) ?hix43 ?k1x43 ?k2x43 ?k3x43 ?k4x43 ?k5x43 ?k6x43 ?hQx43 ?hYx43 ?hSx43 ?restx43; (case hix43 => (simp only [List.getElem?_toArray, List.getElem?_cons_succ, List.getElem?_cons_zero]; exact rfl)); (case k1x43 => kernel_rfl); (case k2x43 => kernel_rfl); (case k3x43 => kernel_rfl); (case k4x43 => kernel_rfl); (case k5x43 => kernel_rfl); (case k6x43 => kernel_rfl); (case hSx43 => assumption); (case hYx43 => (refine Or.inl ⟨rfl, ?hyx43⟩; intro w hSw; (try dsimp only at hSw); go_simp; (try with_reducible rfl))); (case hQx43 => exact (fun _ _ _ h => h)); (try simp only [Act.put, List.setIfInBounds_toArray, List.set_cons_zero, List.set_cons_succ]))
              (refine wpAnyL_take (n := 4) (i := 2) (oi := ?ox44) (v := ?vx44) ?hix44 ?k1x44 ?k2x44 ?k3x44 ?k4x44 ?k5x44 ?k6x44 ?hQx44 ?hYx44 ?hSx44 ?restx44; (case hix44 => (simp only [List.getElem?_toArray, List.getElem?_cons_succ, List.getElem?_cons_zero]; exact rfl)); (case k1x44 => kernel_rfl); (case k2x44 => kernel_rfl); (case k3x44 => kernel_rfl); (case k4x44 => kernel_rfl); (case k5x44 => kernel_rfl); (case k6x44 => kernel_rfl); (case hSx44 => assumption); (case hYx44 => (refine Or.inl ⟨rfl, ?hyx44⟩; intro w hSw; (try dsimp only at hSw); go_simp; (try with_reducible rfl))); (case hQx44 => exact (fun _ _ _ h => h)); (try simp only [Act.put, List.setIfInBounds_toArray, List.set_cons_zero, List.set_cons_succ]))
              (refine wpAnyL_take (n := 4) (i := 3) (oi := ?ox45) (v := ?vx45) ?hix45 ?k1x45 ?k2x45 ?k3x45 ?k4x45 ?k5x45 ?k6x45 ?hQx45 ?hYx45 ?hSx45 ?restx45; (case hix45 => (simp only [List.getElem?_toArray, List.getElem?_cons_succ, List.getElem?_cons_zero]; exact rfl)); (case k1x45 => kernel_rfl); (case k2x45 => kernel_rfl); (case k3x45 => kernel_rfl); (case k4x45 => kernel_rfl); (case k5x45 => kernel_rfl); (case k6x45 => kernel_rfl); (case hSx45 => assumption); (case hYx45 => (refine Or.inl ⟨rfl, ?hyx45⟩; intro w hSw; (try dsimp only at hSw); go_simp; (try with_reducible rfl))); (case hQx45 => exact (fun _ _ _ h => h)); (try simp only [Act.put, List.setIfInBounds_toArray, List.set_cons_zero, List.set_cons_succ]))
              (refine wpAnyL_take (n := 3) (i := 4) (oi := ?ox46) (v := ?vx46) ?hix46 ?k1x46 ?k2x46 ?k3x46 ?k4x46 ?k5x46 ?k6x46 ?hQx46 ?hYx46 ?hSx46 ?restx46; (case hix46 => (simp only [List.getElem?_toArray, List.getElem?_cons_succ, List.getElem?_cons_zero]; exact rfl)); (case k1x46 => kernel_rfl); (case k2x46 => kernel_rfl); (case k3x46 => kernel_rfl); (case k4x46 => kernel_rfl); (case k5x46 => kernel_rfl); (case k6x46 => kernel_rfl); (case hSx46 => assumption); (case hYx46 => (refine Or.inl ⟨rfl, ?hyx46⟩; intro w hSw; (try dsimp only at hSw); go_simp; (try with_reducible rfl))); (case hQx46 => exact (fun _ _ _ h => h)); (try simp only [Act.put, List.setIfInBounds_toArray, List.set_cons_zero, List.set_cons_succ]))
              (refine wpAnyL_take (n := 2) (i := 5) (oi := ?ox47) (v := ?vx47) ?hix47 ?k1x47 ?k2x47 ?k3x47 ?k4x47 ?k5x47 ?k6x47 ?hQx47 ?hYx47 ?hSx47 ?restx47; (case hix47 => (simp only [List.getElem?_toArray, List.getElem?_cons_succ, List.getElem?_cons_zero]; exact rfl)); (case k1x47 => kernel_rfl); (case k2x47 => kernel_rfl); (case k3x47 => kernel_rfl); (case k4x47 => kernel_rfl); (case k5x47 => kernel_rfl); (case k6x47 => kernel_rfl); (case hSx47 => assumption); (case hYx47 => (refine Or.inl ⟨rfl, ?hyx47⟩; intro w hSw; (try dsimp only at hSw); go_simp; (try with_reducible rfl))); (case hQx47 => exact (fun _ _ _ h => h)); (try simp only [Act.put, List.setIfInBounds_toArray, List.set_cons_zero, List.set_cons_succ]))
              (refine wpAnyL_take (n := 1) (i := 6) (oi := ?ox48) (v := ?vx48) ?hix48 ?k1x48 ?k2x48 ?k3x48 ?k4x48 ?k5x48 ?k6x48 ?hQx48 ?hYx48 ?hSx48 ?restx48; (case hix48 => (simp only [List.getElem?_toArray, List.getElem?_cons_succ, List.getElem?_cons_zero]; exact rfl)); (case k1x48 => kernel_rfl); (case k2x48 => kernel_rfl); (case k3x48 => kernel_rfl); (case k4x48 => kernel_rfl); (case k5x48 => kernel_rfl); (case k6x48 => kernel_rfl); (case hSx48 => assumption); (case hYx48 => (refine Or.inl ⟨rfl, ?hyx48⟩; intro w hSw; (try dsimp only at hSw); go_simp; (try with_reducible rfl))); (case hQx48 => exact (fun _ _ _ h => h)); (try simp only [Act.put, List.setIfInBounds_toArray, List.set_cons_zero, List.set_cons_succ]))
              (refine wpAnyL_take (n := 3) (i := 7) (oi := ?ox49) (v := ?vx49) ?hix49 ?k1x49 ?k2x49 ?k3x49 ?k4x49 ?k5x49 ?k6x49 ?hQx49 ?hYx49 ?hSx49 ?restx49; (case hix49 => (simp only [List.getElem?_toArray, List.getElem?_cons_succ, List.getElem?_cons_zero]; exact rfl)); (case k1x49 => kernel_rfl); (case k2x49 => kernel_rfl); (case k3x49 => kernel_rfl); (case k4x49 => kernel_rfl); (case k5x49 => kernel_rfl); (case k6x49 => kernel_rfl); (case hSx49 => assumption); (case hYx49 => (refine Or.inl ⟨rfl, ?hyx49⟩; intro w hSw; (try dsimp only at hSw); go_simp; (try with_reducible rfl))); (case hQx49 => exact (fun _ _ _ h => h)); (try simp only [Act.put, List.setIfInBounds_toArray, List.set_cons_zero, List.set_cons_succ]))
              (refine wpAnyL_take (n := 4) (i := 8) (oi := ?ox50) (v := ?vx50) ?hix50 ?k1x50 ?k2x50 ?k3x50 ?k4x50 ?k5x50 ?k6x50 ?hQx50 ?hYx50 ?hSx50 ?restx50; (case hix50 => (simp only [List.getElem?_toArray, List.getElem?_cons_succ, List.getElem?_cons_zero]; exact rfl)); (case k1x50 => kernel_rfl); (case k2x50 => kernel_rfl); (case k3x50 => kernel_rfl); (case k4x50 => kernel_rfl); (case k5x50 => kernel_rfl); (case k6x50 => kernel_rfl); (case hSx50 => assumption); (case hYx50 => (refine Or.inl ⟨rfl, ?hyx50⟩; intro w hSw; (try dsimp only at hSw); go_simp; (try with_reducible rfl))); (case hQx50 => exact (fun _ _ _ h => h)); (try simp only [Act.put, List.setIfInBounds_toArray, List.set_cons_zero, List.set_cons_succ]))
              (refine wpAnyL_take (n := 4) (i := 9) (oi := ?ox51) (v := ?vx51) ?hix51 ?k1x51 ?k2x51 ?k3x51 ?k4x51 ?k5x51 ?k6x51 ?hQx51 ?hYx51 ?hSx51 ?restx51; (case hix51 => (simp only [List.getElem?_toArray, List.getElem?_cons_succ, List.getElem?_cons_zero]; exact rfl)); (case k1x51 => kernel_rfl); (case k2x51 => kernel_rfl); (case k3x51 => kernel_rfl); (case k4x51 => kernel_rfl); (case k5x51 => kernel_rfl); (case k6x51 => kernel_rfl); (case hSx51 => assumption); (case hYx51 => (refine Or.inl ⟨rfl, ?hyx51⟩; intro w hSw; (try dsimp only at hSw); go_simp; (try with_reducible rfl))); (case hQx51 => exact (fun _ _ _ h => h)); (try simp only [Act.put, List.setIfInBounds_toArray, List.set_cons_zero, List.set_cons_succ]))
              (refine wpAnyL_take (n := 3) (i := 10) (oi := ?ox52) (v := ?vx52) ?hix52 ?k1x52 ?k2x52 ?k3x52 ?k4x52 ?k5x52 ?k6x52 ?hQx52 ?hYx52 ?hSx52 ?restx52; (case hix52 => (simp only [List.getElem?_toArray, List.getElem?_cons_succ, List.getElem?_cons_zero]; exact rfl)); (case k1x52 => kernel_rfl); (case k2x52 => kernel_rfl); (case k3x52 => kernel_rfl); (case k4x52 => kernel_rfl); (case k5x52 => kernel_rfl); (case k6x52 => kernel_rfl); (case hSx52 => assumption); (case hYx52 => (refine Or.inl ⟨rfl, ?hyx52⟩; intro w hSw; (try dsimp only at hSw); go_simp; (try with_reducible rfl))); (case hQx52 => exact (fun _ _ _ h => h)); (try simp only [Act.put, List.setIfInBounds_toArray, List.set_cons_zero, List.set_cons_succ]))
              (refine wpAnyL_take (n := 2) (i := 11) (oi := ?ox53) (v := ?vx53) ?hix53 ?k1x53 ?k2x53 ?k3x53 ?k4x53 ?k5x53 ?k6x53 ?hQx53 ?hYx53 ?hSx53 ?restx53; (case hix53 => (simp only [List.getElem?_toArray, List.getElem?_cons_succ, List.getElem?_cons_zero]; exact rfl)); (case k1x53 => kernel_rfl); (case k2x53 => kernel_rfl); (case k3x53 => kernel_rfl); (case k4x53 => kernel_rfl); (case k5x53 => kernel_rfl); (case k6x53 => kernel_rfl); (case hSx53 => assumption); (case hYx53 => (refine Or.inl ⟨rfl, ?hyx53⟩; intro w hSw; (try dsimp only at hSw); go_simp; (try with_reducible rfl))); (case hQx53 => exact (fun _ _ _ h => h)); (try simp only [Act.put, List.setIfInBounds_toArray, List.set_cons_zero, List.set_cons_succ]))
              (refine wpAnyL_take (n := 1) (i := 12) (oi := ?ox54) (v := ?vx54) ?hix54 ?k1x54 ?k2x54 ?k3x54 ?k4x54 ?k5x54 ?k6x54 ?hQx54 ?hYx54 ?hSx54 ?restx54; (case hix54 => (simp only [List.getElem?_toArray, List.getElem?_cons_succ, List.getElem?_cons_zero]; exact rfl)); (case k1x54 => kernel_rfl); (case k2x54 => kernel_rfl); (case k3x54 => kernel_rfl); (case k4x54 => kernel_rfl); (case k5x54 => kernel_rfl); (case k6x54 => kernel_rfl); (case hSx54 => assumption); (case hYx54 => (refine Or.inl ⟨rfl, ?hyx54⟩; intro w hSw; (try dsimp only at hSw); go_simp; (try with_reducible rfl))); (case hQx54 => exact (fun _ _ _ h => h)); (try simp only [Act.put, List.setIfInBounds_toArray, List.set_cons_zero, List.set_cons_succ]))
              refine wpAnyL_ready (rs := [13]) (by kernel_rfl) (by simp) ?_
              refine AllReadyL.cons (o := ?o13x55) ?hi13x55 (fun K hK => ?_) AllReadyL.nil
              (case hi13x55 => (simp only [List.getElem?_toArray, List.getElem?_cons_succ, List.getElem?_cons_zero]; exact rfl))
              go_simp
              go_at_call 20
              refine (pick_c _ _ _ _ HR9.out HA9.out).mono ?_
              rintro e w1 ⟨rfl, hb9⟩
              have t0 := below_tr HBR.out hb9; have t1 := HT.out.below hb9
              clear HBR HT
              have HBR := Lib.hid t0; have HT := Lib.hid t1
              clear t0 t1
              clear hb9 
              (try go_wp2_with fail)
              (try clear hHeld)
              refine hK.out _ _ (by (try dsimp only); exact ⟨(HBR.out.cell (p := ⟨b, _, none⟩) hbl).trans y0, (HBR.out.cell (p := ⟨b, _, none⟩) hbl).trans y1, by simpa using HT.out.tb.cell 3, (HT.out.wd.cell ((2 + (cn : Int) + (j : Int)).toNat)).trans HWA.out⟩) (fun hHeld => ?_)
              clear hK K
              (try simp only [Act.put, List.setIfInBounds_toArray, List.set_cons_zero, List.set_cons_succ])
              refine wpAnyL_ready (rs := [14]) (by kernel_rfl) (by simp) ?_
              refine AllReadyL.cons (o := ?o14x56) ?hi14x56 (fun K hK => ?_) AllReadyL.nil
              (case hi14x56 => (simp only [List.getElem?_toArray, List.getElem?_cons_succ, List.getElem?_cons_zero]; exact rfl))
              go_simp
              have hb9 := (Below.refl w1.heap.size w1).alloc (Nat.le_refl _) (.cells #[.int .i64 (pickP x.lo x.hi a)] 3)
              have hn := Blk.new w1 3 #[.int .i64 (pickP x.lo x.hi a)]
              have t0 := below_tr HBR.out hb9; have t1 := HT.out.below hb9
              clear HBR HT
              have HBR := Lib.hid t0; have HT := Lib.hid t1
              clear t0 t1
              have HA := Lib.hid hn
              clear hb9 hn
              (try clear hHeld)
              refine hK.out _ _ (by (try dsimp only); exact ⟨(HBR.out.cell (p := ⟨b, _, none⟩) hbl).trans y0, (HBR.out.cell (p := ⟨b, _, none⟩) hbl).trans y1, by simpa using HT.out.tb.cell 3, (HT.out.wd.cell ((2 + (cn : Int) + (j : Int)).toNat)).trans HWA.out⟩) (fun hHeld => ?_)
              clear hK K
              (try simp only [Act.put, List.setIfInBounds_toArray, List.set_cons_zero, List.set_cons_succ])
              revert hHeld HBR HT HA
              generalize hgA : w1.heap.size = gA
              generalize (World.alloc w1 (.cells #[.int .i64 (pickP x.lo x.hi a)] 3)) = w0
              intro HBR HT HA hHeld
              clear hgA
              refine wpAnyL_ready (rs := [15]) (by kernel_rfl) (by simp) ?_
              refine AllReadyL.last (o := ?o15x57) ?hi15x57 ?he15x57 (fun K hK => ?_) AllReadyL.nil
              (case hi15x57 => (simp only [List.getElem?_toArray, List.getElem?_cons_succ, List.getElem?_cons_zero]; exact rfl))
              (case he15x57 => kernel_rfl)
              have ho9 := HT.out.o2
              rw [HL9.out] at ho9
              refine step_append_lies _ rfl _ _ 33 rfl w.heap.size 3 j0 (.int .i64 0) 1 8 Tryz.underlying33 HJ0.out HY0.out HY1.out HY2.out rfl (by decide) vz j (ys.flatMap enc1) rfl ho9 ⟨gA, 0, none⟩ 1 1 [.int .i64 (pickP x.lo x.hi a)] rfl rfl (World.news_of_block (cs := #[.int .i64 (pickP x.lo x.hi a)]) HA.out) (by simp [Value.oneCell']) (by omega) (by unfold maxLen; omega) (by omega) HT.out.bel.size _ rfl ?_
              intro gl cl w8 hown5 hgrow hat hlt5
              have ht9 := HT.out.grow2 HL9.out hown5 hgrow hat
              clear HT HA HBR
              have HT := Lib.hid ht9
              clear ht9 hgrow hown5 hat ho9
              (try clear hHeld)
              refine hK.out _ _ ?_
              clear hK K
              (try simp only [Act.put, List.setIfInBounds_toArray, List.set_cons_zero, List.set_cons_succ])
              (refine wpAnyL_free (i := 16) (oi := ?ox58) (v := ?vx58) ?hix58 ?k1x58 ?k2x58 ?k3x58 ?k4x58 ?k5x58 ?hQx58 ?hYx58 ?restx58; (case hix58 => (simp only [List.getElem?_toArray, List.getElem?_cons_succ, List.getElem?_cons_zero]; exact rfl)); (case k1x58 => kernel_rfl); (case k2x58 => kernel_rfl); (case k3x58 => kernel_rfl); (case k4x58 => kernel_rfl); (case k5x58 => kernel_rfl); (case hYx58 => (refine Or.inl ⟨rfl, ?hyx58⟩; intro w hSw; (try dsimp only at hSw); go_simp; (try with_reducible rfl))); (case hQx58 => exact (fun _ _ _ h => h)); (try simp only [Act.put, List.setIfInBounds_toArray, List.set_cons_zero, List.set_cons_succ]))
              refine wpAnyL_ready (rs := [17]) (by kernel_rfl) (by simp) ?_
              refine AllReadyL.last (o := ?o17x59) ?hi17x59 ?he17x59 (fun K hK => ?_) AllReadyL.nil
              (case hi17x59 => (simp only [List.getElem?_toArray, List.getElem?_cons_succ, List.getElem?_cons_zero]; exact rfl))
              (case he17x59 => kernel_rfl)
              have s0 := HT.out.tb.cell 3; have f0 := HT.out.tb.frozen 3
              (try simp at s0)
              go_simp
              (try clear hHeld)
              refine hK.out _ _ ?_
              clear hK K
              (try simp only [Act.put, List.setIfInBounds_toArray, List.set_cons_zero, List.set_cons_succ])
              (refine wpAnyL_done (by kernel_rfl) ?_ _)
              have ht9 := HT.out.set2 (.slice (some ⟨gl, 0, none⟩) (j + 1) cl)
              clear s0 f0
              go_wp2_with fail
              go_roundw
              case rel => exact ⟨j + 1, _, _, by omega, by go_num, by rw [List.length_append, HL9.out]; rfl, HF9.out.snoc HL9.out HXA.out (pickP_in HR9.out.2.1), ht9⟩
              case measure => simp [intOf] <;> omega
            · obtain rfl : dn = j := by omega
              have t0 := htr.tb.cell 0; have t1 := htr.tb.cell 1; have t2 := htr.tb.cell 2; have t3 := htr.tb.cell 3
              have r0 := htr.rs.cell 0; have r1 := htr.rs.cell 1; have r2 := htr.rs.cell 2; have r3 := htr.rs.cell 3
              have f0 := htr.rs.frozen 0; have f1 := htr.rs.frozen 1; have f2 := htr.rs.frozen 2; have f3 := htr.rs.frozen 3
              have ho1 := htr.o1; have ho2 := htr.o2
              rw [HXL.out] at ho1; rw [hyl] at ho2
              obtain ⟨LA, lc, rfl, _⟩ := own_form ho1
              obtain ⟨RA, rc, rfl, _⟩ := own_form ho2
              simp at t0 t1 t2 t3 r0 r1 r2 r3
              have HT := Lib.hid htr; have HO1 := Lib.hid ho1; have HO2 := Lib.hid ho2; have HYL := Lib.hid hyl; have HFY := Lib.hid hfit
              clear htr ho1 ho2 hyl hfit
              go_wp2_with fail
              have kb := (((HT.out.rs.set_ 0 (.int .i64 tsn)).set_ 1 (.int .i64 tso)).set_ 2 (.slice LA cn lc)).set_ 3 (.slice RA dn rc)
              have hf : Fr (fun g => g = w.heap.size + 1) wr ((((wr.setCell ⟨w.heap.size + 1, 0, none⟩ (.int .i64 tsn)).setCell ⟨w.heap.size + 1, 1, none⟩ (.int .i64 tso)).setCell ⟨w.heap.size + 1, 2, none⟩ (.slice LA cn lc)).setCell ⟨w.heap.size + 1, 3, none⟩ (.slice RA dn rc)) := Fr.setAt (Fr.setAt (Fr.setAt (Fr.setAt (E := fun g => g = w.heap.size + 1) (Fr.refl _ _) (p := ⟨w.heap.size + 1, 0, none⟩) (.inl rfl) _) (p := ⟨w.heap.size + 1, 1, none⟩) (.inl rfl) _) (p := ⟨w.heap.size + 1, 2, none⟩) (.inl rfl) _) (p := ⟨w.heap.size + 1, 3, none⟩) (.inl rfl) _
              have p1 := hf.row HO1.out (fun g hg e => by subst e; exact own_blk_ne HO1.out HT.out.rs (by decide) hg)
              have p2 := hf.row HO2.out (fun g hg e => by subst e; exact own_blk_ne HO2.out HT.out.rs (by decide) hg)
              have q0 := kb.cell 0; have q1 := kb.cell 1; have q2 := kb.cell 2; have q3 := kb.cell 3
              simp at q0 q1 q2 q3
              refine bodyPost_ret (v := .agg #[.int .i64 tsn, .int .i64 tso, .slice LA cn lc, .slice RA dn rc]) ?_ rfl ⟨tsn, tso, LA, lc, RA, rc, xs, ys, rfl, HTN.out, HTO.out, HFX.out, HFY.out, Rd.of_own enc1_len p1 HXL.out, Rd.of_own enc1_len p2 HYL.out, HT.out.bel.trans (hf.below HT.out.bel.size (fun g e => by subst e; omega))⟩
              simp [results, Tryz.f7, go_sem, q0, q1, q2, q3]
end Go.Proofs.YtjpobkmlcjbpiaaGreat
