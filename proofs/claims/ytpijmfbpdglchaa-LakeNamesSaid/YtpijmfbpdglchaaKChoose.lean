/- THE CONTRACT of choices' inner function choose: it goes on from a choice with each work behind. -/
import Derived.Test.YtpijmfbpdglchaaKSort
import Derived.Deep.RegionHeld3
set_option linter.unusedVariables false
set_option linter.unusedSimpArgs false
namespace Go.Proofs.Ytpijmfbpdglchaa
open Go.RowKit Go.Proofs
attribute [local go_sem ↓] Go.wp_at_zero Go.wp_at_succ

theorem infoC : (Try.prog.info? 124).map (fun i => (i.zero, i.size, i.bytes)) = some (some (.agg #[.slice none 0 0, .int .i64 0]), 2, 32) := by kernel_rfl
theorem own_weak {w : World} {base base' : Nat} {e : TypeId} {size n : Nat} {v : Value} {xs : List Value} (h : w.ownsRow base' e size v n xs) (hb : base ≤ base') : w.ownsRow base e size v n xs := by
  refine ⟨h.1, ?_⟩
  rcases h.2 with h0 | ⟨g, cap, cur, rfl, hg, hr⟩
  · exact .inl h0
  · exact .inr ⟨g, cap, cur, rfl, by omega, hr⟩
theorem own_base_ge {w : World} {base : Nat} {e : TypeId} {size n : Nat} {v : Value} {xs : List Value} (h : w.ownsRow base e size v n xs) {g : Nat} (hg : v.ownBlock = some g) : base ≤ g := Nat.le_of_not_lt fun hlt => own_ge h hlt hg.symm
/-- a choice's slice -/
def Chc.v (x : Chc) : Value := .slice x.A x.n x.c
/-- Where the choices find what they read and write. -/
structure CEnv where
  Bo : Nat
  Bw : Nat
  Bf : Nat
  base : Nat
  WA : Option Addr
  nW : Nat
  cW : Nat
  ws : List Wrk
def CEnv.cap (E : CEnv) : Array Value := #[.pointer (some ⟨E.Bo, 0, none⟩), .pointer (some ⟨E.Bw, 0, none⟩), .pointer (some ⟨E.Bf, 0, none⟩)]
structure CEnv.Ok (E : CEnv) (w0 : World) : Prop where
  lt : E.Bo < E.base ∧ E.Bw < E.base ∧ E.Bf < E.base
  ne : E.Bw ≠ E.Bo ∧ E.Bf ≠ E.Bo
  ge : w0.heap.size ≤ E.Bo ∧ w0.heap.size ≤ E.base
  ok : WOk E.ws
  rd : Rd encW 3 w0 E.WA E.nW E.ws
/-- what never turns -/
structure CFix (E : CEnv) (w0 w : World) : Prop where
  wbox : Blk w E.Bw 40 #[.slice E.WA E.nW E.cW]
  fn : Blk w E.Bf 161 #[.func (.func 87) #[] E.cap]
  below : Below w0.heap.size w0 w
  size : E.base ≤ w.heap.size
/-- the choices so far -/
structure CSt (E : CEnv) (w : World) (ov : Value) (L : List Chc) : Prop where
  box : Blk w E.Bo 121 #[ov]
  row : w.ownsRow E.base 124 2 ov L.length (L.flatMap encC)
  el : ∀ x ∈ L, w.ownsRow E.base 3 1 x.v x.n (x.l.flatMap enc1) ∧ x.l.length = x.n ∧ x.n ≤ 10 ∧ x.p = priceC E.ws x.l
/-- blocks that a call may turn -/
def CEx (E : CEnv) (ov vv : Value) (g : Nat) : Prop := g = E.Bo ∨ ov.ownBlock = some g ∨ vv.ownBlock = some g
section
variable {E : CEnv} {w0 w w' : World} {P : Nat → Prop} {ov : Value} {L : List Chc}
theorem CFix.fr (h : CFix E w0 w) (hE : E.Ok w0) (hf : Fr P w w') (hP : ∀ g, P g → g = E.Bo ∨ E.base ≤ g) : CFix E w0 w' := by
  have hn : ∀ g, g < E.base → g ≠ E.Bo → ¬ P g := fun g h1 h2 h4 => by
    rcases hP g h4 with h5 | h5
    · exact h2 h5
    · omega
  have l := hE.lt; have t := hE.ne
  refine ⟨hf.blk h.wbox (hn _ l.2.1 t.1), hf.blk h.fn (hn _ l.2.2 t.2), ?_, Nat.le_trans h.size hf.size⟩
  refine h.below.trans (hf.below h.below.size fun g hg => ?_)
  have := hE.ge
  rcases hP g hg with h5 | h5 <;> omega
theorem CFix.of_below (h : CFix E w0 w) (hE : E.Ok w0) (hb : Below w.heap.size w w') : CFix E w0 w' := h.fr hE (Fr.of_below hb (fun _ => False)) (fun _ h => h.elim)
theorem CSt.fr (h : CSt E w ov L) (hf : Fr P w w') (h1 : ¬ P E.Bo) (h2 : ∀ g, ov.ownBlock = some g → ¬ P g) (h3 : ∀ x ∈ L, ∀ g, x.v.ownBlock = some g → ¬ P g) : CSt E w' ov L :=
  ⟨hf.blk h.box h1, hf.row h.row h2, fun x hx => ⟨hf.row (h.el x hx).1 (h3 x hx), (h.el x hx).2⟩⟩
theorem CSt.of_below (h : CSt E w ov L) (hb : Below w.heap.size w w') : CSt E w' ov L := h.fr (Fr.of_below hb (fun _ => False)) (fun h => h) (fun _ _ h => h) (fun _ _ _ _ h => h)
end
/-- what a call leaves -/
def ChoP (E : CEnv) (w0 w : World) (ov vv : Value) (n : Nat) (l : List Int) (k : Nat) (L : List Chc) (e : Ending) (w' : World) : Prop :=
  e = .returned (.tuple #[]) ∧ ∃ ov' L', CSt E w' ov' (L ++ L') ∧ CFix E w0 w' ∧ w'.ownsRow E.base 3 1 vv n (l.flatMap enc1) ∧ L'.map (·.l) = treeC E.nW k l ∧ (∀ x ∈ L', ∀ g, x.v.ownBlock = some g → w.heap.size < g) ∧
    (ov'.ownBlock = ov.ownBlock ∨ ∀ g, ov'.ownBlock = some g → w.heap.size < g) ∧ Fr (CEx E ov vv) w w'
theorem choP_out {E : CEnv} {w0 w : World} {ov vv : Value} {n : Nat} {l : List Int} {k : Nat} {L : List Chc} {e : Ending} {w' : World} (h : ChoP E w0 w ov vv n l k L e w') :
    e = .returned (.tuple #[]) ∧ ∃ ov' L', CSt E w' ov' (L ++ L') ∧ CFix E w0 w' ∧ w'.ownsRow E.base 3 1 vv n (l.flatMap enc1) ∧ L'.map (·.l) = treeC E.nW k l ∧ (∀ x ∈ L', ∀ g, x.v.ownBlock = some g → w.heap.size < g) ∧
    (ov'.ownBlock = ov.ownBlock ∨ ∀ g, ov'.ownBlock = some g → w.heap.size < g) ∧ Fr (CEx E ov vv) w w' := h

set_option maxRecDepth 100000 in
set_option maxHeartbeats 4000000 in
theorem choose_c {E : CEnv} {w0 : World} (hE : E.Ok w0) : ∀ (k : Nat) (w : World) (i : Nat) (l : List Int) (vv : Value) (n : Nat) (ov : Value) (L : List Chc), i + k = E.nW → l.length = n → n ≤ i → L.length + 2 ^ k ≤ 1024 →
    CFix E w0 w → CSt E w ov L → w.ownsRow E.base 3 1 vv n (l.flatMap enc1) → (∀ x ∈ L, ∀ g, x.v.ownBlock = some g → vv.ownBlock ≠ some g) →
    Calls Try.prog 87 (#[.agg #[vv, .int .i64 (priceC E.ws l)], .int .i64 i] ++ E.cap) w fun e w' => ChoP E w0 w ov vv n l k L e w' := by
  intro k
  induction k using Nat.strongRecOn with
  | ind k ih =>
  intro w i l vv n ov L hik hln hni hroom hfix hst hown hfar
  have hwl := hE.rd.len
  have hw10 := hE.ok.n
  have hn10 : n ≤ 10 := by omega
  obtain ⟨VA, vc, rfl, hvc⟩ := own_form hown
  obtain ⟨OA, oc, rfl, hoc⟩ := own_form hst.row
  have hpb := priceTo_bd hE.ok l l.length
  obtain ⟨p, hp⟩ : ∃ p, p = priceC E.ws l := ⟨_, rfl⟩
  have hpb : 0 ≤ p ∧ p ≤ 10000000 := by rw [hp]; unfold priceC; omega
  rw [← hp]
  have HPP := Lib.hid hp
  have HFX := Lib.hid hfix; have HST := Lib.hid hst; have HOW := Lib.hid hown; have HFAR := Lib.hid hfar; have HE := Lib.hid hE; have IH := Lib.hid ih
  have hb0 : Below w.heap.size w (w.alloc (.cells #[.slice VA n vc, .int .i64 p] 124)) := (Below.refl _ w).alloc (Nat.le_refl _) _
  have HB0 := Lib.hid hb0
  have HNB := Lib.hid (Blk.new w 124 #[.slice VA n vc, .int .i64 p])
  have hrl : Rd enc1 1 w VA n l := Rd.of_own enc1_len hown hln
  have HCL := Lib.hid (clone_c (c := vc) (hrl.below hb0.drew) (by omega))
  have HVL := Lib.hid (fun b (hb : (Value.slice VA n vc).ownBlock = some b) => (hown.lt b hb).2)
  have HOL := Lib.hid (fun b (hb : (Value.slice OA L.length oc).ownBlock = some b) => (hst.row.lt b hb).2)
  have HOV := Lib.hid (fun b (hb : (Value.slice OA L.length oc).ownBlock = some b) => own_own_ne hst.row hown (by decide) hb)
  have HBL := Lib.hid hst.box.lt
  have d0 := hst.box.cell 0
  simp at d0
  have hbl := hst.box.lt
  obtain ⟨j0, hj0, hy0, hy1, hy2⟩ := info_parts infoC
  have JI := Lib.hid hj0; have JZ0 := Lib.hid hy0; have JZ1 := Lib.hid hy1; have JZ2 := Lib.hid hy2
  have HROOM := Lib.hid hroom
  have hpow : 0 < 2 ^ k := Nat.two_pow_pos k
  have hL1024 : L.length < 1024 := by omega
  clear ih hE hfix hst hown hfar hb0 hp hrl hj0 hy0 hy1 hy2 hroom hpow
  unfold CEnv.cap
  simp only [List.append_toArray, List.cons_append, List.nil_append]
  go_enter Try.func87, Try.ntmps87
  go_upto_region 1 with fail
  go_cut [] (fun wx => ∃ (x : Chc) (ov1 : Value), CSt E wx ov1 (L ++ [x]) ∧ x.l = l ∧ CFix E w0 wx ∧ wx.ownsRow E.base 3 1 (.slice VA n vc) n (l.flatMap enc1) ∧ Blk wx w.heap.size 124 #[.slice VA n vc, .int .i64 p] ∧ (∀ g, x.v.ownBlock = some g → w.heap.size < g) ∧
    (ov1.ownBlock = (Value.slice OA L.length oc).ownBlock ∨ ∀ g, ov1.ownBlock = some g → w.heap.size < g) ∧ Fr (CEx E (.slice OA L.length oc) (.slice VA n vc)) w wx)
  case first =>
    have HS := Lib.hid (fun (U : World) (hU : Below (w.alloc (.cells #[.slice VA n vc, .int .i64 p] 124)).heap.size (w.alloc (.cells #[.slice VA n vc, .int .i64 p] 124)) U) => show U.cell? ⟨w.heap.size, 0, none⟩ = some (.slice VA n vc) ∧ U.cell? ⟨w.heap.size, 1, none⟩ = some (.int .i64 p) from ⟨(hU.cell (p := ⟨w.heap.size, 0, none⟩) (by simp)).trans (HNB.out.cell 0), (hU.cell (p := ⟨w.heap.size, 1, none⟩) (by simp)).trans (HNB.out.cell 1)⟩)
    refine wp_region_held_drew (S := (fun U => U.cell? ⟨w.heap.size, 0, none⟩ = some (.slice VA n vc) ∧ U.cell? ⟨w.heap.size, 1, none⟩ = some (.int .i64 p))) (by kernel_rfl) (by (first | exact HS.out _ (Below.refl _ _).drew | exact ⟨m0, m1⟩ | exact ⟨k0, k1⟩ | exact ⟨l0, l1⟩ | exact ⟨q0, q1⟩)) (fun hHeld => ?_)
    (refine wpAnyH_take (i := 1) (oi := ?ox1) (v := ?vx1) ?hix1 ?k1x1 ?k2x1 ?k3x1 ?hQx1 ?hYx1 ?hSx1 ?restx1; (case hix1 => (simp only [List.getElem?_toArray, List.getElem?_cons_succ, List.getElem?_cons_zero]; exact rfl)); (case k1x1 => kernel_rfl); (case k2x1 => kernel_rfl); (case k3x1 => kernel_rfl); (case hSx1 => assumption); (case hYx1 => (refine Or.inl ⟨rfl, ?hyx1⟩; intro w hSw; (try dsimp only at hSw); go_simp; (try with_reducible rfl))); (case hQx1 => exact (fun _ _ _ h => h)); (try simp only [Act.put, List.setIfInBounds_toArray, List.set_cons_zero, List.set_cons_succ]))
    (refine wpAnyH_take (i := 2) (oi := ?ox2) (v := ?vx2) ?hix2 ?k1x2 ?k2x2 ?k3x2 ?hQx2 ?hYx2 ?hSx2 ?restx2; (case hix2 => (simp only [List.getElem?_toArray, List.getElem?_cons_succ, List.getElem?_cons_zero]; exact rfl)); (case k1x2 => kernel_rfl); (case k2x2 => kernel_rfl); (case k3x2 => kernel_rfl); (case hSx2 => assumption); (case hYx2 => (refine Or.inl ⟨rfl, ?hyx2⟩; intro w hSw; (try dsimp only at hSw); go_simp; (try with_reducible rfl))); (case hQx2 => exact (fun _ _ _ h => h)); (try simp only [Act.put, List.setIfInBounds_toArray, List.set_cons_zero, List.set_cons_succ]))
    (refine wpAnyH_take (i := 4) (oi := ?ox3) (v := ?vx3) ?hix3 ?k1x3 ?k2x3 ?k3x3 ?hQx3 ?hYx3 ?hSx3 ?restx3; (case hix3 => (simp only [List.getElem?_toArray, List.getElem?_cons_succ, List.getElem?_cons_zero]; exact rfl)); (case k1x3 => kernel_rfl); (case k2x3 => kernel_rfl); (case k3x3 => kernel_rfl); (case hSx3 => assumption); (case hYx3 => (refine Or.inl ⟨rfl, ?hyx3⟩; intro w hSw; (try dsimp only at hSw); go_simp; (try with_reducible rfl))); (case hQx3 => exact (fun _ _ _ h => h)); (try simp only [Act.put, List.setIfInBounds_toArray, List.set_cons_zero, List.set_cons_succ]))
    (refine wpAnyH_take (i := 5) (oi := ?ox4) (v := ?vx4) ?hix4 ?k1x4 ?k2x4 ?k3x4 ?hQx4 ?hYx4 ?hSx4 ?restx4; (case hix4 => (simp only [List.getElem?_toArray, List.getElem?_cons_succ, List.getElem?_cons_zero]; exact rfl)); (case k1x4 => kernel_rfl); (case k2x4 => kernel_rfl); (case k3x4 => kernel_rfl); (case hSx4 => assumption); (case hYx4 => (refine Or.inl ⟨rfl, ?hyx4⟩; intro w hSw; (try dsimp only at hSw); go_simp; (try with_reducible rfl))); (case hQx4 => exact (fun _ _ _ h => h)); (try simp only [Act.put, List.setIfInBounds_toArray, List.set_cons_zero, List.set_cons_succ]))
    refine wpAnyH_ready (rs := [0, 3]) (by kernel_rfl) (by simp) ?_
    refine AllReadyH.cons (o := ?o0x5) ?hi0x5 (fun K hK => ?_) (AllReadyH.cons (o := ?o1x5) ?hi1x5 (fun K hK => ?_) AllReadyH.nil)
    (case hi0x5 => (simp only [List.getElem?_toArray, List.getElem?_cons_succ, List.getElem?_cons_zero]; exact rfl))
    (case hi1x5 => (simp only [List.getElem?_toArray, List.getElem?_cons_succ, List.getElem?_cons_zero]; exact rfl))
    · skip
      go_simp
      refine hK.out _ _ (by (try dsimp only) <;> (first | exact HS.out _ (Below.refl _ _).drew | exact ⟨m0, m1⟩ | exact ⟨k0, k1⟩ | exact ⟨l0, l1⟩ | exact ⟨q0, q1⟩)) (fun hHeld => ?_)
      clear hK K
      (try simp only [Act.put, List.setIfInBounds_toArray, List.set_cons_zero, List.set_cons_succ])
      refine wpAnyH_ready (rs := [3]) (by kernel_rfl) (by simp) ?_
      refine AllReadyH.cons (o := ?o0x6) ?hi0x6 (fun K hK => ?_) AllReadyH.nil
      (case hi0x6 => (simp only [List.getElem?_toArray, List.getElem?_cons_succ, List.getElem?_cons_zero]; exact rfl))
      go_simp
      (go_at_call 88; refine HCL.out.mono ?_; rintro e w3 ⟨u, rfl, hownu, hb3'⟩; obtain ⟨UA, uc, rfl, huc⟩ := own_form hownu; have hb3 := (Below.refl (w.alloc (.cells #[.slice VA n vc, .int .i64 p] 124)).heap.size (w.alloc (.cells #[.slice VA n vc, .int .i64 p] 124))).drew.trans hb3'; have hn3 := HNB.out.below hb3 (by simp); have m0 := hn3.cell 0; have m1 := hn3.cell 1; simp at m0 m1; have hst3 := HST.out.of_below (below_tr HB0.out hb3); have e3 := hst3.box.cell 0; simp at e3; have hbl3 := hst3.box.lt; have hb4 := (Below.refl w3.heap.size w3).alloc (Nat.le_refl _) (.cells #[.slice UA n uc, .int .i64 p] 124); have hst4 := hst3.of_below hb4; have hn4 := hn3.below hb4 hn3.lt; have k0 := hn4.cell 0; have k1 := hn4.cell 1; simp at k0 k1; have hfx4 := HFX.out.of_below HE.out (below_tr HB0.out (hb3.trans (hb4.mono hb3.size))); obtain ⟨v5, w5, hrun, hown5, hgr5, _, hbk5⟩ := run_append_own_at (P := Try.prog) (w := w3.alloc (.cells #[.slice UA n uc, .int .i64 p] 124)) E.base 121 121 124 j0 _ 2 32 Try.underlying121 JI.out JZ0.out JZ1.out JZ2.out rfl (by decide) (.slice OA L.length oc) L.length (L.flatMap encC) hst4.row ⟨w3.heap.size, 0, none⟩ 1 1 [.slice UA n uc, .int .i64 p] rfl (World.news_of_block (cs := #[.slice UA n uc, .int .i64 p]) (t := 124) (fr := (0, 0)) (heap_alloc_new w3 _)) (by simp [Value.oneCell']) (by unfold maxLen; omega) (by omega) hfx4.size; obtain ⟨A5, c5, rfl, hc5⟩ := own_form hown5; have hn5 := hn4.grown hgr5 (fun he => by have := HOL.out _ he.symm; omega); have l0 := hn5.cell 0; have l1 := hn5.cell 1; simp at l0 l1; have hx5 := hst4.box.grown hgr5 (fun he => absurd (own_base_ge HST.out.row he.symm) (by have := HE.out.lt; omega)); have f5 := hx5.frozen 0; have e5 := hx5.cell 0; simp at e5; have hn6 := hn5.far (p := ⟨E.Bo, 0, none⟩) (by show w.heap.size ≠ E.Bo; have := HBL.out; omega) (.slice A5 (L.length + 1) c5); have q0 := hn6.cell 0; have q1 := hn6.cell 1; simp at q0 q1)
      (try go_wp2_with fail)
      refine hK.out _ _ (by (try dsimp only) <;> (first | exact HS.out _ (Below.refl _ _).drew | exact ⟨m0, m1⟩ | exact ⟨k0, k1⟩ | exact ⟨l0, l1⟩ | exact ⟨q0, q1⟩)) (fun hHeld => ?_)
      clear hK K
      (try simp only [Act.put, List.setIfInBounds_toArray, List.set_cons_zero, List.set_cons_succ])
      (refine wpAnyH_take (i := 6) (oi := ?ox7) (v := ?vx7) ?hix7 ?k1x7 ?k2x7 ?k3x7 ?hQx7 ?hYx7 ?hSx7 ?restx7; (case hix7 => (simp only [List.getElem?_toArray, List.getElem?_cons_succ, List.getElem?_cons_zero]; exact rfl)); (case k1x7 => kernel_rfl); (case k2x7 => kernel_rfl); (case k3x7 => kernel_rfl); (case hSx7 => assumption); (case hYx7 => (refine Or.inl ⟨rfl, ?hyx7⟩; intro w hSw; (try dsimp only at hSw); go_simp; (try with_reducible rfl))); (case hQx7 => exact (fun _ _ _ h => h)); (try simp only [Act.put, List.setIfInBounds_toArray, List.set_cons_zero, List.set_cons_succ]))
      refine wpAnyH_ready (rs := [7]) (by kernel_rfl) (by simp) ?_
      refine AllReadyH.cons (o := ?o0x8) ?hi0x8 (fun K hK => ?_) AllReadyH.nil
      (case hi0x8 => (simp only [List.getElem?_toArray, List.getElem?_cons_succ, List.getElem?_cons_zero]; exact rfl))
      go_simp
      refine hK.out _ _ (by (try dsimp only) <;> (first | exact HS.out _ (Below.refl _ _).drew | exact ⟨m0, m1⟩ | exact ⟨k0, k1⟩ | exact ⟨l0, l1⟩ | exact ⟨q0, q1⟩)) (fun hHeld => ?_)
      clear hK K
      (try simp only [Act.put, List.setIfInBounds_toArray, List.set_cons_zero, List.set_cons_succ])
      refine wpAnyH_ready (rs := [8]) (by kernel_rfl) (by simp) ?_
      refine AllReadyH.cons (o := ?o0x9) ?hi0x9 (fun K hK => ?_) AllReadyH.nil
      (case hi0x9 => (simp only [List.getElem?_toArray, List.getElem?_cons_succ, List.getElem?_cons_zero]; exact rfl))
      (refine step_append_run (by rfl) (.tmp 8) (.tmp 15) 121 (by rfl) (.slice OA L.length oc) (.slice (some ⟨w3.heap.size, 0, none⟩) 1 1) (.slice A5 (L.length + 1) c5) w5 (by rfl) (by rfl) ?_ ?_; (go_must (with_reducible exact hrun)))
      refine hK.out _ _ (by (try dsimp only) <;> (first | exact HS.out _ (Below.refl _ _).drew | exact ⟨m0, m1⟩ | exact ⟨k0, k1⟩ | exact ⟨l0, l1⟩ | exact ⟨q0, q1⟩)) (fun hHeld => ?_)
      clear hK K
      (try simp only [Act.put, List.setIfInBounds_toArray, List.set_cons_zero, List.set_cons_succ])
      refine wpAnyH_ready (rs := [9]) (by kernel_rfl) (by simp) ?_
      refine AllReadyH.cons (o := ?o0x10) ?hi0x10 (fun K hK => ?_) AllReadyH.nil
      (case hi0x10 => (simp only [List.getElem?_toArray, List.getElem?_cons_succ, List.getElem?_cons_zero]; exact rfl))
      go_simp
      refine hK.out _ _ (by (try dsimp only) <;> (first | exact HS.out _ (Below.refl _ _).drew | exact ⟨m0, m1⟩ | exact ⟨k0, k1⟩ | exact ⟨l0, l1⟩ | exact ⟨q0, q1⟩)) (fun hHeld => ?_)
      clear hK K
      (try simp only [Act.put, List.setIfInBounds_toArray, List.set_cons_zero, List.set_cons_succ])
      (try refine wpAnyH_done (by kernel_rfl) ?_ _)
      have hz5 : L.length + 1 = (L ++ [(⟨UA, n, uc, l, p⟩ : Chc)]).length := by simp
      have hub : ∀ g, (Value.slice UA n uc).ownBlock = some g → w.heap.size < g ∧ g < w3.heap.size := fun g hg => by
        have h1 := own_base_ge hownu hg
        have h2 := (hownu.lt g hg).2
        simp at h1
        omega
      have hs3 := hb3.size
      simp at hs3
      have F5 : Fr (fun b => (Value.slice OA L.length oc).ownBlock = some b) (w3.alloc (.cells #[.slice UA n uc, .int .i64 p] 124)) w5 := Fr.of_grown hgr5 (fun b hb _ => hb)
      have F6 : Fr (fun b => b = E.Bo) w5 (w5.setCell ⟨E.Bo, 0, none⟩ (.slice A5 (L.length + 1) c5)) := (Fr.refl (fun b => b = E.Bo) w5).setAt (p := ⟨E.Bo, 0, none⟩) (.inl rfl) (.slice A5 (L.length + 1) c5)
      have hblt := HE.out.lt
      have hbsz := HFX.out.size
      have hnOB : ∀ g, (Value.slice A5 (L.length + 1) c5).ownBlock = some g → g ≠ E.Bo := fun g hg he => by have := own_base_ge hown5 hg; omega
      have hnUO : ∀ g, (Value.slice UA n uc).ownBlock = some g → (Value.slice OA L.length oc).ownBlock ≠ some g := fun g hg he => by have := hub g hg; have := HOL.out g he; omega
      have hrow6 := F6.row hown5 (fun g hg he => hnOB g hg he)
      have hbox6 := hx5.set_ 0 (.slice A5 (L.length + 1) c5)
      have hel6 : ∀ x ∈ L ++ [(⟨UA, n, uc, l, p⟩ : Chc)], (w5.setCell ⟨E.Bo, 0, none⟩ (.slice A5 (L.length + 1) c5)).ownsRow E.base 3 1 x.v x.n (x.l.flatMap enc1) ∧ x.l.length = x.n ∧ x.n ≤ 10 ∧ x.p = priceC E.ws x.l := fun x hx => by
        rcases List.mem_append.1 hx with h | h
        · have he := hst4.el x h
          refine ⟨F6.row (F5.row he.1 (fun g hg ho => ?_)) (fun g hg ho => ?_), he.2⟩
          · exact own_own_ne HST.out.row (HST.out.el x h).1 (by decide) ho hg
          · have := own_base_ge he.1 hg; omega
        · obtain rfl : x = ⟨UA, n, uc, l, p⟩ := by simpa using h
          refine ⟨F6.row (F5.row (own_mono (own_weak hownu (by simp; omega)) hb4) (fun g hg ho => hnUO g hg ho)) (fun g hg ho => ?_), hln, hn10, HPP.out⟩
          have := hub g hg; omega
      have hfl6 : (L ++ [(⟨UA, n, uc, l, p⟩ : Chc)]).flatMap encC = L.flatMap encC ++ [.slice UA n uc, .int .i64 p] := by rw [List.flatMap_append]; rfl
      have hcs6 : CSt E (w5.setCell ⟨E.Bo, 0, none⟩ (.slice A5 (L.length + 1) c5)) (.slice A5 (L.length + 1) c5) (L ++ [⟨UA, n, uc, l, p⟩]) := by
        refine ⟨hbox6, ?_, hel6⟩
        rw [← hz5, hfl6]; exact hrow6
      have hfx6 := (hfx4.fr HE.out F5 (fun g hg => .inr (own_base_ge HST.out.row hg))).fr HE.out F6 (fun g hg => .inl hg)
      have hrv6 := F6.row (F5.row (own_mono HOW.out (below_tr HB0.out (hb3.trans (hb4.mono hb3.size)))) (fun g hg ho => HOV.out g ho hg)) (fun g hg ho => by have := own_base_ge HOW.out hg; omega)
      have hfr6 : Fr (CEx E (.slice OA L.length oc) (.slice VA n vc)) w (w5.setCell ⟨E.Bo, 0, none⟩ (.slice A5 (L.length + 1) c5)) :=
        ((Fr.of_below (below_tr HB0.out (hb3.trans (hb4.mono hb3.size))) (CEx E (.slice OA L.length oc) (.slice VA n vc))).comp F5 (fun g hg => .inl (.inr (.inl hg)))).comp F6 (fun g hg => .inl (.inl hg))
      have hob6 : (Value.slice A5 (L.length + 1) c5).ownBlock = (Value.slice OA L.length oc).ownBlock ∨ ∀ g, (Value.slice A5 (L.length + 1) c5).ownBlock = some g → w.heap.size < g := by
        rcases hbk5 with h | h
        · exact .inl h
        · refine .inr fun g hg => ?_
          rw [h] at hg
          injection hg with hg
          simp at hg; omega
      have HH := Lib.hid (And.intro hcs6 (And.intro hfx6 (And.intro hrv6 (And.intro hn6 (And.intro hob6 hfr6)))))
      have HUB := Lib.hid hub
      clear hz5 hub F5 F6 hnOB hnUO hrow6 hbox6 hel6 hfl6 hcs6 hfx6 hrv6 hn6 hob6 hfr6 hrun hown5 hgr5 hbk5 hst4 hst3 hfx4 hx5 hn5 hn4 hn3 hb3 hb4 hownu l0 l1 q0 q1 m0 m1 k0 k1 f5 e5 e3
      go_wp2_with fail
      go_meet
      exact ⟨⟨UA, n, uc, l, p⟩, _, HH.out.1, rfl, HH.out.2.1, HH.out.2.2.1, HH.out.2.2.2.1, fun g hg => (HUB.out g hg).1, HH.out.2.2.2.2.1, HH.out.2.2.2.2.2⟩
    · skip
      go_simp
      (go_at_call 88; refine HCL.out.mono ?_; rintro e w3 ⟨u, rfl, hownu, hb3'⟩; obtain ⟨UA, uc, rfl, huc⟩ := own_form hownu; have hb3 := (Below.refl (w.alloc (.cells #[.slice VA n vc, .int .i64 p] 124)).heap.size (w.alloc (.cells #[.slice VA n vc, .int .i64 p] 124))).drew.trans hb3'; have hn3 := HNB.out.below hb3 (by simp); have m0 := hn3.cell 0; have m1 := hn3.cell 1; simp at m0 m1; have hst3 := HST.out.of_below (below_tr HB0.out hb3); have e3 := hst3.box.cell 0; simp at e3; have hbl3 := hst3.box.lt; have hb4 := (Below.refl w3.heap.size w3).alloc (Nat.le_refl _) (.cells #[.slice UA n uc, .int .i64 p] 124); have hst4 := hst3.of_below hb4; have hn4 := hn3.below hb4 hn3.lt; have k0 := hn4.cell 0; have k1 := hn4.cell 1; simp at k0 k1; have hfx4 := HFX.out.of_below HE.out (below_tr HB0.out (hb3.trans (hb4.mono hb3.size))); obtain ⟨v5, w5, hrun, hown5, hgr5, _, hbk5⟩ := run_append_own_at (P := Try.prog) (w := w3.alloc (.cells #[.slice UA n uc, .int .i64 p] 124)) E.base 121 121 124 j0 _ 2 32 Try.underlying121 JI.out JZ0.out JZ1.out JZ2.out rfl (by decide) (.slice OA L.length oc) L.length (L.flatMap encC) hst4.row ⟨w3.heap.size, 0, none⟩ 1 1 [.slice UA n uc, .int .i64 p] rfl (World.news_of_block (cs := #[.slice UA n uc, .int .i64 p]) (t := 124) (fr := (0, 0)) (heap_alloc_new w3 _)) (by simp [Value.oneCell']) (by unfold maxLen; omega) (by omega) hfx4.size; obtain ⟨A5, c5, rfl, hc5⟩ := own_form hown5; have hn5 := hn4.grown hgr5 (fun he => by have := HOL.out _ he.symm; omega); have l0 := hn5.cell 0; have l1 := hn5.cell 1; simp at l0 l1; have hx5 := hst4.box.grown hgr5 (fun he => absurd (own_base_ge HST.out.row he.symm) (by have := HE.out.lt; omega)); have f5 := hx5.frozen 0; have e5 := hx5.cell 0; simp at e5; have hn6 := hn5.far (p := ⟨E.Bo, 0, none⟩) (by show w.heap.size ≠ E.Bo; have := HBL.out; omega) (.slice A5 (L.length + 1) c5); have q0 := hn6.cell 0; have q1 := hn6.cell 1; simp at q0 q1)
      (try go_wp2_with fail)
      refine hK.out _ _ (by (try dsimp only) <;> (first | exact HS.out _ (Below.refl _ _).drew | exact ⟨m0, m1⟩ | exact ⟨k0, k1⟩ | exact ⟨l0, l1⟩ | exact ⟨q0, q1⟩)) (fun hHeld => ?_)
      clear hK K
      (try simp only [Act.put, List.setIfInBounds_toArray, List.set_cons_zero, List.set_cons_succ])
      (refine wpAnyH_take (i := 6) (oi := ?ox11) (v := ?vx11) ?hix11 ?k1x11 ?k2x11 ?k3x11 ?hQx11 ?hYx11 ?hSx11 ?restx11; (case hix11 => (simp only [List.getElem?_toArray, List.getElem?_cons_succ, List.getElem?_cons_zero]; exact rfl)); (case k1x11 => kernel_rfl); (case k2x11 => kernel_rfl); (case k3x11 => kernel_rfl); (case hSx11 => assumption); (case hYx11 => (refine Or.inl ⟨rfl, ?hyx11⟩; intro w hSw; (try dsimp only at hSw); go_simp; (try with_reducible rfl))); (case hQx11 => exact (fun _ _ _ h => h)); (try simp only [Act.put, List.setIfInBounds_toArray, List.set_cons_zero, List.set_cons_succ]))
      refine wpAnyH_ready (rs := [0, 7]) (by kernel_rfl) (by simp) ?_
      refine AllReadyH.cons (o := ?o0x12) ?hi0x12 (fun K hK => ?_) (AllReadyH.cons (o := ?o1x12) ?hi1x12 (fun K hK => ?_) AllReadyH.nil)
      (case hi0x12 => (simp only [List.getElem?_toArray, List.getElem?_cons_succ, List.getElem?_cons_zero]; exact rfl))
      (case hi1x12 => (simp only [List.getElem?_toArray, List.getElem?_cons_succ, List.getElem?_cons_zero]; exact rfl))
      · skip
        go_simp
        refine hK.out _ _ (by (try dsimp only) <;> (first | exact HS.out _ (Below.refl _ _).drew | exact ⟨m0, m1⟩ | exact ⟨k0, k1⟩ | exact ⟨l0, l1⟩ | exact ⟨q0, q1⟩)) (fun hHeld => ?_)
        clear hK K
        (try simp only [Act.put, List.setIfInBounds_toArray, List.set_cons_zero, List.set_cons_succ])
        refine wpAnyH_ready (rs := [7]) (by kernel_rfl) (by simp) ?_
        refine AllReadyH.cons (o := ?o0x13) ?hi0x13 (fun K hK => ?_) AllReadyH.nil
        (case hi0x13 => (simp only [List.getElem?_toArray, List.getElem?_cons_succ, List.getElem?_cons_zero]; exact rfl))
        go_simp
        refine hK.out _ _ (by (try dsimp only) <;> (first | exact HS.out _ (Below.refl _ _).drew | exact ⟨m0, m1⟩ | exact ⟨k0, k1⟩ | exact ⟨l0, l1⟩ | exact ⟨q0, q1⟩)) (fun hHeld => ?_)
        clear hK K
        (try simp only [Act.put, List.setIfInBounds_toArray, List.set_cons_zero, List.set_cons_succ])
        refine wpAnyH_ready (rs := [8]) (by kernel_rfl) (by simp) ?_
        refine AllReadyH.cons (o := ?o0x14) ?hi0x14 (fun K hK => ?_) AllReadyH.nil
        (case hi0x14 => (simp only [List.getElem?_toArray, List.getElem?_cons_succ, List.getElem?_cons_zero]; exact rfl))
        (refine step_append_run (by rfl) (.tmp 8) (.tmp 15) 121 (by rfl) (.slice OA L.length oc) (.slice (some ⟨w3.heap.size, 0, none⟩) 1 1) (.slice A5 (L.length + 1) c5) w5 (by rfl) (by rfl) ?_ ?_; (go_must (with_reducible exact hrun)))
        refine hK.out _ _ (by (try dsimp only) <;> (first | exact HS.out _ (Below.refl _ _).drew | exact ⟨m0, m1⟩ | exact ⟨k0, k1⟩ | exact ⟨l0, l1⟩ | exact ⟨q0, q1⟩)) (fun hHeld => ?_)
        clear hK K
        (try simp only [Act.put, List.setIfInBounds_toArray, List.set_cons_zero, List.set_cons_succ])
        refine wpAnyH_ready (rs := [9]) (by kernel_rfl) (by simp) ?_
        refine AllReadyH.cons (o := ?o0x15) ?hi0x15 (fun K hK => ?_) AllReadyH.nil
        (case hi0x15 => (simp only [List.getElem?_toArray, List.getElem?_cons_succ, List.getElem?_cons_zero]; exact rfl))
        go_simp
        refine hK.out _ _ (by (try dsimp only) <;> (first | exact HS.out _ (Below.refl _ _).drew | exact ⟨m0, m1⟩ | exact ⟨k0, k1⟩ | exact ⟨l0, l1⟩ | exact ⟨q0, q1⟩)) (fun hHeld => ?_)
        clear hK K
        (try simp only [Act.put, List.setIfInBounds_toArray, List.set_cons_zero, List.set_cons_succ])
        (try refine wpAnyH_done (by kernel_rfl) ?_ _)
        have hz5 : L.length + 1 = (L ++ [(⟨UA, n, uc, l, p⟩ : Chc)]).length := by simp
        have hub : ∀ g, (Value.slice UA n uc).ownBlock = some g → w.heap.size < g ∧ g < w3.heap.size := fun g hg => by
          have h1 := own_base_ge hownu hg
          have h2 := (hownu.lt g hg).2
          simp at h1
          omega
        have hs3 := hb3.size
        simp at hs3
        have F5 : Fr (fun b => (Value.slice OA L.length oc).ownBlock = some b) (w3.alloc (.cells #[.slice UA n uc, .int .i64 p] 124)) w5 := Fr.of_grown hgr5 (fun b hb _ => hb)
        have F6 : Fr (fun b => b = E.Bo) w5 (w5.setCell ⟨E.Bo, 0, none⟩ (.slice A5 (L.length + 1) c5)) := (Fr.refl (fun b => b = E.Bo) w5).setAt (p := ⟨E.Bo, 0, none⟩) (.inl rfl) (.slice A5 (L.length + 1) c5)
        have hblt := HE.out.lt
        have hbsz := HFX.out.size
        have hnOB : ∀ g, (Value.slice A5 (L.length + 1) c5).ownBlock = some g → g ≠ E.Bo := fun g hg he => by have := own_base_ge hown5 hg; omega
        have hnUO : ∀ g, (Value.slice UA n uc).ownBlock = some g → (Value.slice OA L.length oc).ownBlock ≠ some g := fun g hg he => by have := hub g hg; have := HOL.out g he; omega
        have hrow6 := F6.row hown5 (fun g hg he => hnOB g hg he)
        have hbox6 := hx5.set_ 0 (.slice A5 (L.length + 1) c5)
        have hel6 : ∀ x ∈ L ++ [(⟨UA, n, uc, l, p⟩ : Chc)], (w5.setCell ⟨E.Bo, 0, none⟩ (.slice A5 (L.length + 1) c5)).ownsRow E.base 3 1 x.v x.n (x.l.flatMap enc1) ∧ x.l.length = x.n ∧ x.n ≤ 10 ∧ x.p = priceC E.ws x.l := fun x hx => by
          rcases List.mem_append.1 hx with h | h
          · have he := hst4.el x h
            refine ⟨F6.row (F5.row he.1 (fun g hg ho => ?_)) (fun g hg ho => ?_), he.2⟩
            · exact own_own_ne HST.out.row (HST.out.el x h).1 (by decide) ho hg
            · have := own_base_ge he.1 hg; omega
          · obtain rfl : x = ⟨UA, n, uc, l, p⟩ := by simpa using h
            refine ⟨F6.row (F5.row (own_mono (own_weak hownu (by simp; omega)) hb4) (fun g hg ho => hnUO g hg ho)) (fun g hg ho => ?_), hln, hn10, HPP.out⟩
            have := hub g hg; omega
        have hfl6 : (L ++ [(⟨UA, n, uc, l, p⟩ : Chc)]).flatMap encC = L.flatMap encC ++ [.slice UA n uc, .int .i64 p] := by rw [List.flatMap_append]; rfl
        have hcs6 : CSt E (w5.setCell ⟨E.Bo, 0, none⟩ (.slice A5 (L.length + 1) c5)) (.slice A5 (L.length + 1) c5) (L ++ [⟨UA, n, uc, l, p⟩]) := by
          refine ⟨hbox6, ?_, hel6⟩
          rw [← hz5, hfl6]; exact hrow6
        have hfx6 := (hfx4.fr HE.out F5 (fun g hg => .inr (own_base_ge HST.out.row hg))).fr HE.out F6 (fun g hg => .inl hg)
        have hrv6 := F6.row (F5.row (own_mono HOW.out (below_tr HB0.out (hb3.trans (hb4.mono hb3.size)))) (fun g hg ho => HOV.out g ho hg)) (fun g hg ho => by have := own_base_ge HOW.out hg; omega)
        have hfr6 : Fr (CEx E (.slice OA L.length oc) (.slice VA n vc)) w (w5.setCell ⟨E.Bo, 0, none⟩ (.slice A5 (L.length + 1) c5)) :=
          ((Fr.of_below (below_tr HB0.out (hb3.trans (hb4.mono hb3.size))) (CEx E (.slice OA L.length oc) (.slice VA n vc))).comp F5 (fun g hg => .inl (.inr (.inl hg)))).comp F6 (fun g hg => .inl (.inl hg))
        have hob6 : (Value.slice A5 (L.length + 1) c5).ownBlock = (Value.slice OA L.length oc).ownBlock ∨ ∀ g, (Value.slice A5 (L.length + 1) c5).ownBlock = some g → w.heap.size < g := by
          rcases hbk5 with h | h
          · exact .inl h
          · refine .inr fun g hg => ?_
            rw [h] at hg
            injection hg with hg
            simp at hg; omega
        have HH := Lib.hid (And.intro hcs6 (And.intro hfx6 (And.intro hrv6 (And.intro hn6 (And.intro hob6 hfr6)))))
        have HUB := Lib.hid hub
        clear hz5 hub F5 F6 hnOB hnUO hrow6 hbox6 hel6 hfl6 hcs6 hfx6 hrv6 hn6 hob6 hfr6 hrun hown5 hgr5 hbk5 hst4 hst3 hfx4 hx5 hn5 hn4 hn3 hb3 hb4 hownu l0 l1 q0 q1 m0 m1 k0 k1 f5 e5 e3
        go_wp2_with fail
        go_meet
        exact ⟨⟨UA, n, uc, l, p⟩, _, HH.out.1, rfl, HH.out.2.1, HH.out.2.2.1, HH.out.2.2.2.1, fun g hg => (HUB.out g hg).1, HH.out.2.2.2.2.1, HH.out.2.2.2.2.2⟩
      · skip
        go_simp
        refine hK.out _ _ (by (try dsimp only) <;> (first | exact HS.out _ (Below.refl _ _).drew | exact ⟨m0, m1⟩ | exact ⟨k0, k1⟩ | exact ⟨l0, l1⟩ | exact ⟨q0, q1⟩)) (fun hHeld => ?_)
        clear hK K
        (try simp only [Act.put, List.setIfInBounds_toArray, List.set_cons_zero, List.set_cons_succ])
        refine wpAnyH_ready (rs := [0]) (by kernel_rfl) (by simp) ?_
        refine AllReadyH.cons (o := ?o0x16) ?hi0x16 (fun K hK => ?_) AllReadyH.nil
        (case hi0x16 => (simp only [List.getElem?_toArray, List.getElem?_cons_succ, List.getElem?_cons_zero]; exact rfl))
        go_simp
        refine hK.out _ _ (by (try dsimp only) <;> (first | exact HS.out _ (Below.refl _ _).drew | exact ⟨m0, m1⟩ | exact ⟨k0, k1⟩ | exact ⟨l0, l1⟩ | exact ⟨q0, q1⟩)) (fun hHeld => ?_)
        clear hK K
        (try simp only [Act.put, List.setIfInBounds_toArray, List.set_cons_zero, List.set_cons_succ])
        refine wpAnyH_ready (rs := [8]) (by kernel_rfl) (by simp) ?_
        refine AllReadyH.cons (o := ?o0x17) ?hi0x17 (fun K hK => ?_) AllReadyH.nil
        (case hi0x17 => (simp only [List.getElem?_toArray, List.getElem?_cons_succ, List.getElem?_cons_zero]; exact rfl))
        (refine step_append_run (by rfl) (.tmp 8) (.tmp 15) 121 (by rfl) (.slice OA L.length oc) (.slice (some ⟨w3.heap.size, 0, none⟩) 1 1) (.slice A5 (L.length + 1) c5) w5 (by rfl) (by rfl) ?_ ?_; (go_must (with_reducible exact hrun)))
        refine hK.out _ _ (by (try dsimp only) <;> (first | exact HS.out _ (Below.refl _ _).drew | exact ⟨m0, m1⟩ | exact ⟨k0, k1⟩ | exact ⟨l0, l1⟩ | exact ⟨q0, q1⟩)) (fun hHeld => ?_)
        clear hK K
        (try simp only [Act.put, List.setIfInBounds_toArray, List.set_cons_zero, List.set_cons_succ])
        refine wpAnyH_ready (rs := [9]) (by kernel_rfl) (by simp) ?_
        refine AllReadyH.cons (o := ?o0x18) ?hi0x18 (fun K hK => ?_) AllReadyH.nil
        (case hi0x18 => (simp only [List.getElem?_toArray, List.getElem?_cons_succ, List.getElem?_cons_zero]; exact rfl))
        go_simp
        refine hK.out _ _ (by (try dsimp only) <;> (first | exact HS.out _ (Below.refl _ _).drew | exact ⟨m0, m1⟩ | exact ⟨k0, k1⟩ | exact ⟨l0, l1⟩ | exact ⟨q0, q1⟩)) (fun hHeld => ?_)
        clear hK K
        (try simp only [Act.put, List.setIfInBounds_toArray, List.set_cons_zero, List.set_cons_succ])
        (try refine wpAnyH_done (by kernel_rfl) ?_ _)
        have hz5 : L.length + 1 = (L ++ [(⟨UA, n, uc, l, p⟩ : Chc)]).length := by simp
        have hub : ∀ g, (Value.slice UA n uc).ownBlock = some g → w.heap.size < g ∧ g < w3.heap.size := fun g hg => by
          have h1 := own_base_ge hownu hg
          have h2 := (hownu.lt g hg).2
          simp at h1
          omega
        have hs3 := hb3.size
        simp at hs3
        have F5 : Fr (fun b => (Value.slice OA L.length oc).ownBlock = some b) (w3.alloc (.cells #[.slice UA n uc, .int .i64 p] 124)) w5 := Fr.of_grown hgr5 (fun b hb _ => hb)
        have F6 : Fr (fun b => b = E.Bo) w5 (w5.setCell ⟨E.Bo, 0, none⟩ (.slice A5 (L.length + 1) c5)) := (Fr.refl (fun b => b = E.Bo) w5).setAt (p := ⟨E.Bo, 0, none⟩) (.inl rfl) (.slice A5 (L.length + 1) c5)
        have hblt := HE.out.lt
        have hbsz := HFX.out.size
        have hnOB : ∀ g, (Value.slice A5 (L.length + 1) c5).ownBlock = some g → g ≠ E.Bo := fun g hg he => by have := own_base_ge hown5 hg; omega
        have hnUO : ∀ g, (Value.slice UA n uc).ownBlock = some g → (Value.slice OA L.length oc).ownBlock ≠ some g := fun g hg he => by have := hub g hg; have := HOL.out g he; omega
        have hrow6 := F6.row hown5 (fun g hg he => hnOB g hg he)
        have hbox6 := hx5.set_ 0 (.slice A5 (L.length + 1) c5)
        have hel6 : ∀ x ∈ L ++ [(⟨UA, n, uc, l, p⟩ : Chc)], (w5.setCell ⟨E.Bo, 0, none⟩ (.slice A5 (L.length + 1) c5)).ownsRow E.base 3 1 x.v x.n (x.l.flatMap enc1) ∧ x.l.length = x.n ∧ x.n ≤ 10 ∧ x.p = priceC E.ws x.l := fun x hx => by
          rcases List.mem_append.1 hx with h | h
          · have he := hst4.el x h
            refine ⟨F6.row (F5.row he.1 (fun g hg ho => ?_)) (fun g hg ho => ?_), he.2⟩
            · exact own_own_ne HST.out.row (HST.out.el x h).1 (by decide) ho hg
            · have := own_base_ge he.1 hg; omega
          · obtain rfl : x = ⟨UA, n, uc, l, p⟩ := by simpa using h
            refine ⟨F6.row (F5.row (own_mono (own_weak hownu (by simp; omega)) hb4) (fun g hg ho => hnUO g hg ho)) (fun g hg ho => ?_), hln, hn10, HPP.out⟩
            have := hub g hg; omega
        have hfl6 : (L ++ [(⟨UA, n, uc, l, p⟩ : Chc)]).flatMap encC = L.flatMap encC ++ [.slice UA n uc, .int .i64 p] := by rw [List.flatMap_append]; rfl
        have hcs6 : CSt E (w5.setCell ⟨E.Bo, 0, none⟩ (.slice A5 (L.length + 1) c5)) (.slice A5 (L.length + 1) c5) (L ++ [⟨UA, n, uc, l, p⟩]) := by
          refine ⟨hbox6, ?_, hel6⟩
          rw [← hz5, hfl6]; exact hrow6
        have hfx6 := (hfx4.fr HE.out F5 (fun g hg => .inr (own_base_ge HST.out.row hg))).fr HE.out F6 (fun g hg => .inl hg)
        have hrv6 := F6.row (F5.row (own_mono HOW.out (below_tr HB0.out (hb3.trans (hb4.mono hb3.size)))) (fun g hg ho => HOV.out g ho hg)) (fun g hg ho => by have := own_base_ge HOW.out hg; omega)
        have hfr6 : Fr (CEx E (.slice OA L.length oc) (.slice VA n vc)) w (w5.setCell ⟨E.Bo, 0, none⟩ (.slice A5 (L.length + 1) c5)) :=
          ((Fr.of_below (below_tr HB0.out (hb3.trans (hb4.mono hb3.size))) (CEx E (.slice OA L.length oc) (.slice VA n vc))).comp F5 (fun g hg => .inl (.inr (.inl hg)))).comp F6 (fun g hg => .inl (.inl hg))
        have hob6 : (Value.slice A5 (L.length + 1) c5).ownBlock = (Value.slice OA L.length oc).ownBlock ∨ ∀ g, (Value.slice A5 (L.length + 1) c5).ownBlock = some g → w.heap.size < g := by
          rcases hbk5 with h | h
          · exact .inl h
          · refine .inr fun g hg => ?_
            rw [h] at hg
            injection hg with hg
            simp at hg; omega
        have HH := Lib.hid (And.intro hcs6 (And.intro hfx6 (And.intro hrv6 (And.intro hn6 (And.intro hob6 hfr6)))))
        have HUB := Lib.hid hub
        clear hz5 hub F5 F6 hnOB hnUO hrow6 hbox6 hel6 hfl6 hcs6 hfx6 hrv6 hn6 hob6 hfr6 hrun hown5 hgr5 hbk5 hst4 hst3 hfx4 hx5 hn5 hn4 hn3 hb3 hb4 hownu l0 l1 q0 q1 m0 m1 k0 k1 f5 e5 e3
        go_wp2_with fail
        go_meet
        exact ⟨⟨UA, n, uc, l, p⟩, _, HH.out.1, rfl, HH.out.2.1, HH.out.2.2.1, HH.out.2.2.2.1, fun g hg => (HUB.out g hg).1, HH.out.2.2.2.2.1, HH.out.2.2.2.2.2⟩
  case rest =>
    obtain ⟨x1, ov1, hst1, hxl, hfx1, hrv1, hbx1, hxb, hov1, hfr1⟩ := hcut
    have HS1 := Lib.hid hst1; have HF1 := Lib.hid hfx1; have HR1 := Lib.hid hrv1; have HN1 := Lib.hid hbx1; have HXB := Lib.hid hxb; have HO1 := Lib.hid hov1; have HFR1 := Lib.hid hfr1; have HXL := Lib.hid hxl
    have HXB1 := Lib.hid (show ∀ x ∈ [x1], ∀ g, x.v.ownBlock = some g → w.heap.size < g from fun x hx g hg => by
      rw [List.mem_singleton] at hx
      rw [hx] at hg
      exact hxb g hg)
    have hk : E.nW - i = k := by omega
    have HT0 := Lib.hid (show [x1].map (·.l) ++ restC E.nW (E.nW - i) l = treeC E.nW k l by rw [hk]; simp [treeC, hxl])
    clear hst1 hfx1 hrv1 hbx1 hxb hov1 hfr1 hxl HFX HST HNB HCL HB0 d0 hbl
    obtain ⟨i0, hi0, hz0, hz1, hz2⟩ := info_parts infoZ
    have HI := Lib.hid hi0; have HZ0 := Lib.hid hz0; have HZ1 := Lib.hid hz1; have HZ2 := Lib.hid hz2
    clear hi0 hz0 hz1 hz2
    go_wp2_with fail
    go_loopw [7] (fun x wr => ∃ (j : Nat) (ov2 : Value) (L2 : List Chc), i ≤ j ∧ j ≤ E.nW ∧ x = .int .i64 j ∧ CSt E wr ov2 (L ++ L2) ∧ CFix E w0 wr ∧ wr.ownsRow E.base 3 1 (.slice VA n vc) n (l.flatMap enc1) ∧ Blk wr w.heap.size 124 #[.slice VA n vc, .int .i64 p] ∧
      L2.map (·.l) ++ restC E.nW (E.nW - j) l = treeC E.nW k l ∧ (∀ x ∈ L2, ∀ g, x.v.ownBlock = some g → w.heap.size < g) ∧ (ov2.ownBlock = (Value.slice OA L.length oc).ownBlock ∨ ∀ g, ov2.ownBlock = some g → w.heap.size < g) ∧ Fr (CEx E (.slice OA L.length oc) (.slice VA n vc)) w wr) (fun x _ => E.nW - (intOf x).toNat)
    case atStart => exact ⟨i, ov1, [x1], Nat.le_refl _, by omega, rfl, HS1.out, HF1.out, HR1.out, HN1.out, HT0.out, HXB1.out, HO1.out, HFR1.out⟩
    case round =>
      obtain ⟨j, ov2, L2, hij, hjp, rfl, hst2, hfx2, hrow2, hnow2, hT2, hfre2, hov2, hfr2⟩ := hrel
      have HS2 := Lib.hid hst2; have HF2 := Lib.hid hfx2; have HR2 := Lib.hid hrow2; have HN2 := Lib.hid hnow2; have HT2 := Lib.hid hT2; have HFRE2 := Lib.hid hfre2; have HOV2 := Lib.hid hov2; have HFR2 := Lib.hid hfr2
      have f6 := hfx2.wbox.cell 0
      simp at f6
      clear hst2 hrow2 hnow2 hT2 hfre2 hov2 hfr2
      by_cases hlt : j < E.nW
      · obtain ⟨b, o, y, hA, hb, hy, _, _, py⟩ := (HE.out.rd).atW hlt
        have hyb := (okW_iff.1 (HE.out.ok.all _ _ hy)).2.2
        have hpr : priceC E.ws (l ++ [(j : Int)]) = p + y.price := by rw [priceC_snoc hy, HPP.out]
        have hS : ∀ W, CFix E w0 W → Blk W w.heap.size 124 #[.slice VA n vc, .int .i64 p] → W.cell? ⟨E.Bf, 0, none⟩ = some (.func (.func 87) #[] E.cap) ∧ W.cell? ⟨w.heap.size, 0, none⟩ = some (.slice VA n vc) ∧ W.cell? ⟨w.heap.size, 1, none⟩ = some (.int .i64 p) ∧ W.cell? ⟨E.Bw, 0, none⟩ = some (.slice (some ⟨b, o, none⟩) E.nW E.cW) ∧ W.cell? ⟨b, o + j * 3 + 2, none⟩ = some (.int .i64 y.price) := fun W hW hN => by
          refine ⟨?_, ?_, ?_, ?_, ?_⟩
          · rw [hW.fn.cell 0]; rfl
          · rw [hN.cell 0]; rfl
          · rw [hN.cell 1]; rfl
          · rw [hW.wbox.cell 0, ← hA]; rfl
          · exact (hW.below.cell (p := ⟨b, _, none⟩) hb).trans py
        have hbA : Below wr.heap.size wr (wr.alloc (.cells #[.int .i64 (j : Int)] 3)).drew := ((Below.refl _ wr).alloc (Nat.le_refl _) _).drew
        have hfA := HF2.out.of_below HE.out hbA
        have hnA := HN2.out.below hbA HN2.out.lt
        have hsA := HS2.out.of_below hbA
        obtain ⟨v5, w5, hrun, hown5, hgr5, hbk5, hold5⟩ := run_app1 (P := Try.prog) (wr.alloc (.cells #[.int .i64 (j : Int)] 3)).drew E.base 22 22 3 i0 (.int .i64 0) Try.underlying22 HI.out HZ0.out HZ1.out HZ2.out rfl (.slice VA n vc) n (l.flatMap enc1) (own_mono HR2.out hbA) ⟨wr.heap.size, 0, none⟩ 1 (.int .i64 (j : Int))
          (by simp) rfl (by omega) (by have := hfA.size; omega)
        obtain ⟨A5, c5, rfl, hc5⟩ := own_form hown5
        have F5 : Fr (fun b => (Value.slice VA n vc).ownBlock = some b) (wr.alloc (.cells #[.int .i64 (j : Int)] 3)).drew w5 := Fr.of_grown hgr5 (fun b hb _ => hb)
        have hob : ∀ b, (Value.slice VA n vc).ownBlock = some b → E.base ≤ b ∧ b < wr.heap.size := fun b hb => ⟨own_base_ge HR2.out hb, (HR2.out.lt b hb).2⟩
        have hlt1 := HE.out.lt
        have hf5 := hfA.fr HE.out F5 (fun b hb => .inr (hob b hb).1)
        have hA2f : ∀ x ∈ L ++ L2, ∀ g, x.v.ownBlock = some g → (Value.slice VA n vc).ownBlock ≠ some g := fun x hx g hg he => by
          rcases List.mem_append.1 hx with h5 | h5
          · exact HFAR.out x h5 g hg he
          · have h6 := HFRE2.out x h5 g hg
            have h7 := HVL.out g he
            omega
        have hvl := HVL.out
        have hnb5 : ∀ b, (Value.slice VA n vc).ownBlock = some b → ¬ w.heap.size = b := fun b hb he => by have := hvl b hb; omega
        have hn5 := F5.blk hnA (fun hh => hnb5 _ hh rfl)
        have hs5 := hsA.fr F5 (fun hh => by have := hob _ hh; omega) (fun g hg hh => own_own_ne HS2.out.row HR2.out (by decide) hg hh) (fun x hx g hg hh => hA2f x hx g hg hh)
        have hwsz : (wr.alloc (.cells #[.int .i64 (j : Int)] 3)).drew.heap.size = wr.heap.size + 1 := by simp
        have hfar5 : ∀ x ∈ L ++ L2, ∀ g, x.v.ownBlock = some g → (Value.slice A5 (n + 1) c5).ownBlock ≠ some g := fun x hx g hg he => by
          rcases hbk5 with h5 | h5
          · exact hA2f x hx g hg (by rw [← h5]; exact he)
          · rw [h5, hwsz] at he
            have h6 := ((HS2.out.el x hx).1.lt g hg).2
            injection he with he
            omega
        have hflat : (l ++ [(j : Int)]).flatMap enc1 = l.flatMap enc1 ++ [.int .i64 (j : Int)] := by rw [List.flatMap_append]; rfl
        have hjc : ((j + 1 : Nat) : Int) = (j : Int) + 1 := by push_cast; rfl
        have hkk : E.nW - j = (E.nW - (j + 1)) + 1 := by omega
        have hlenT := congrArg List.length HT2.out
        rw [List.length_append, List.length_map, treeC_len, restC_len, hkk, Nat.pow_succ] at hlenT
        have hp2 : 0 < 2 ^ (E.nW - (j + 1)) := Nat.two_pow_pos _
        have hih := IH.out (E.nW - (j + 1)) (by omega) w5 (j + 1) (l ++ [(j : Int)]) (.slice A5 (n + 1) c5) (n + 1) ov2 (L ++ L2) (by omega) (by simp [hln]) (by omega) (by have := HROOM.out; rw [List.length_append]; omega) hf5 hs5 (by rw [hflat]; exact hown5) hfar5
        rw [hpr] at hih
        have hwj : IntKind.i64.wrap ((j : Int) + 1) = (j : Int) + 1 := wi (by omega)
        rw [hjc, ← hwj] at hih
        have HIH := Lib.hid hih
        clear hwj
        have S0 := hS wr HF2.out HN2.out
        have S1 := hS _ hfA hnA
        have S5 := hS _ hf5 hn5
        have HF5 := Lib.hid F5; have HN5 := Lib.hid hn5; have HOLD5 := Lib.hid hold5; have HOWN5 := Lib.hid hown5; have HBK5 := Lib.hid hbk5; have HOB := Lib.hid hob; have HBA := Lib.hid hbA; have HHF5 := Lib.hid hf5
        have hw2 : IntKind.i64.wrap (p + y.price) = p + y.price := wi (by omega)
        have hj0 : (0 : Int) ≤ (j : Int) := by omega
        have hjn : (j : Int) < (E.nW : Int) := by omega
        have hfs5 := hf5.size
        have HSS := Lib.hid hS
        have hbl0 := HBL.out
        have HNX : Hid (¬ CEx E ov2 (.slice A5 (n + 1) c5) w.heap.size) := Lib.hid (fun hh => by
          have hwle := HFR2.out.size
          rcases hh with h8 | h8 | h8
          · omega
          · rcases HOV2.out with h5 | h5
            · have := HOL.out _ (by rw [← h5]; exact h8); omega
            · have := h5 _ h8; omega
          · rcases HBK5.out with h5 | h5
            · exact hnb5 _ (by rw [← h5]; exact h8) rfl
            · rw [h5, hwsz] at h8; injection h8 with h8; omega)
        have HKK := Lib.hid hkk
        clear hbA hfA hnA hsA hgr5 hbk5 hold5 F5 hob hf5 hA2f hn5 hs5 hfar5 hflat hih hown5 hy hS hvl hlenT hp2 hpr hyb hkk
        go_wp2_with fail
        go_region_held3 (fun w' => w'.cell? ⟨E.Bf, 0, none⟩ = some (.func (.func 87) #[] E.cap) ∧ w'.cell? ⟨w.heap.size, 0, none⟩ = some (.slice VA n vc) ∧ w'.cell? ⟨w.heap.size, 1, none⟩ = some (.int .i64 p) ∧ w'.cell? ⟨E.Bw, 0, none⟩ = some (.slice (some ⟨b, o, none⟩) E.nW E.cW) ∧ w'.cell? ⟨b, o + j * 3 + 2, none⟩ = some (.int .i64 y.price))
          (first | exact S0 | exact S1 | exact S5 | exact S6 | assumption)
          (first
            | (refine step_append_run (by rfl) (.tmp 26) (.tmp 28) 22 (by rfl) (.slice VA n vc) (.slice (some ⟨wr.heap.size, 0, none⟩) 1 1) (.slice A5 (n + 1) c5) w5 (by rfl) (by rfl) ?_ ?_; (go_must (with_reducible exact hrun)))
            | (with_reducible refine HIH.out.mono ?_; intro e w6 hTP; obtain ⟨rfl, ov6, L6, ht6, hf6, ho6, hl6, ha6, hv6, hfr6⟩ := choP_out hTP; have hnow6 := hfr6.blk HN5.out HNX.out; have S6 := HSS.out w6 hf6 hnow6))
        all_goals
          have hlb := HE.out.lt
          have hbl0 := HBL.out
          have hflat : (l ++ [(j : Int)]).flatMap enc1 = l.flatMap enc1 ++ [.int .i64 (j : Int)] := by rw [List.flatMap_append]; rfl
          have hwsz : (wr.alloc (.cells #[.int .i64 (j : Int)] 3)).drew.heap.size = wr.heap.size + 1 := by simp
          have hwle := HFR2.out.size
          have hw5 : wr.heap.size + 1 ≤ w5.heap.size := by have := HF5.out.size; omega
          have hrow6 : w6.ownsRow E.base 3 1 (.slice VA n vc) n (l.flatMap enc1) := by
            rcases HBK5.out with h5 | h5
            · exact own_pre HOLD5.out HOWN5.out h5 (by rw [← hflat]; exact ho6)
            · refine hfr6.row HOLD5.out (fun b hb hh => ?_)
              have h7 := HOB.out b hb
              rcases hh with h8 | h8 | h8
              · omega
              · exact own_own_ne HS2.out.row HR2.out (by decide) h8 hb
              · rw [h5, hwsz] at h8; injection h8 with h8; omega
          have hfr9 : Fr (CEx E (.slice OA L.length oc) (.slice VA n vc)) w w6 := by
            refine ((HFR2.out.comp (Fr.of_below HBA.out (fun _ => False)) (fun _ h => h.elim)).comp HF5.out (fun b hb => .inl (.inr (.inr hb)))).comp hfr6 (fun b hb => ?_)
            rcases hb with h8 | h8 | h8
            · exact .inl (.inl h8)
            · rcases HOV2.out with h5 | h5
              · exact .inl (.inr (.inl (by rw [← h5]; exact h8)))
              · exact .inr (by have := h5 _ h8; omega)
            · rcases HBK5.out with h5 | h5
              · exact .inl (.inr (.inr (by rw [← h5]; exact h8)))
              · rw [h5, hwsz] at h8; injection h8 with h8; exact .inr (by omega)
          have hT6 : (L2 ++ L6).map (·.l) ++ restC E.nW (E.nW - (j + 1)) l = treeC E.nW k l := by
            rw [← HT2.out, HKK.out, List.map_append, hl6, List.append_assoc]
            congr 1
            simp only [restC, treeC]
            have hjj : E.nW - (E.nW - (j + 1) + 1) = j := by omega
            rw [hjj]
            simp
          have hfre6 : ∀ x ∈ L2 ++ L6, ∀ g, x.v.ownBlock = some g → w.heap.size < g := fun x hx g hg => by
            rcases List.mem_append.1 hx with h5 | h5
            · exact HFRE2.out x h5 g hg
            · have := ha6 x h5 g hg; omega
          have hov6 : ov6.ownBlock = (Value.slice OA L.length oc).ownBlock ∨ ∀ g, ov6.ownBlock = some g → w.heap.size < g := by
            rcases hv6 with h5 | h5
            · rw [h5]; exact HOV2.out
            · exact .inr fun g hg => by have := h5 g hg; omega
          rw [List.append_assoc] at ht6
          have HH := Lib.hid (And.intro hrow6 (And.intro hnow6 (And.intro hT6 (And.intro hfr9 (And.intro ht6 (And.intro hf6 (And.intro hfre6 hov6)))))))
          clear hrow6 hnow6 hT6 hfr9 ht6 hf6 hfre6 hov6 hflat hwsz hw5 ho6 ha6 hfr6 hl6 hv6
          go_wp2_with fail
          go_roundw
          case rel => exact ⟨j + 1, ov6, L2 ++ L6, by omega, by omega, by go_num, HH.out.2.2.2.2.1, HH.out.2.2.2.2.2.1, HH.out.1, HH.out.2.1, HH.out.2.2.1, HH.out.2.2.2.2.2.2.1, HH.out.2.2.2.2.2.2.2, HH.out.2.2.2.1⟩
          case measure => simp [intOf] <;> omega
      · obtain rfl : j = E.nW := by omega
        have hfin := HT2.out
        rw [Nat.sub_self] at hfin
        simp only [restC, List.append_nil] at hfin
        have HPH := Lib.hid (show ChoP E w0 w (.slice OA L.length oc) (.slice VA n vc) n l k L (.returned (.tuple #[])) wr from ⟨rfl, ov2, L2, HS2.out, HF2.out, HR2.out, hfin, HFRE2.out, HOV2.out, HFR2.out⟩)
        clear hfin hfx2
        go_wp2_with fail
        exact bodyPost_ret (results_none rfl _ _ _) rfl HPH.out
end Go.Proofs.Ytpijmfbpdglchaa
