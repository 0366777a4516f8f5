/- THE CONTRACT of choices: all choices of works, the best one first. -/
import Derived.Test.YtpijmfbpdglchaaKChoose
import Derived.Laws.EntriesVeiled
set_option linter.unusedVariables false
set_option linter.unusedSimpArgs false
namespace Go.Proofs.Ytpijmfbpdglchaa
open Go.RowKit Go.Proofs
attribute [local go_sem ↓] Go.wp_at_zero Go.wp_at_succ

theorem inj_of_nodup {α β : Type} {f : α → β} : ∀ {L : List α}, (L.map f).Nodup → ∀ x ∈ L, ∀ y ∈ L, f x = f y → x = y
  | [], _, x, hx, _, _, _ => absurd hx (by simp)
  | a :: L, h, x, hx, y, hy, he => by
    rw [List.map_cons, List.nodup_cons] at h
    rcases List.mem_cons.1 hx with rfl | hx
    · rcases List.mem_cons.1 hy with rfl | hy
      · rfl
      · exact absurd (he ▸ List.mem_map_of_mem hy) h.1
    · rcases List.mem_cons.1 hy with h2 | hy
      · rw [h2] at he
        exact absurd (he ▸ List.mem_map_of_mem hx) h.1
      · exact inj_of_nodup h.2 x hx y hy he
/-- all choices in memory, the best one first -/
def ChsP (w0 w : World) (nW : Nat) (ws : List Wrk) (e : Ending) (w' : World) : Prop :=
  ∃ A n c s, e = .returned (.slice A n c) ∧ n ≤ 1024 ∧ Rd encC 2 w' A n s ∧ (∀ x ∈ s, Rd enc1 1 w' x.A x.n x.l ∧ x.n ≤ 10 ∧ x.p = priceC ws x.l) ∧ List.Pairwise (fun a b : Chc => ltC ws b.l a.l = false) s ∧ (s.map (·.l)).Perm (treeC nW nW []) ∧ Below w0.heap.size w0 w'
set_option maxRecDepth 100000 in
set_option maxHeartbeats 4000000 in
theorem choices_c {ws : List Wrk} {WA : Option Addr} {nW cW : Nat} {w : World} (h : Rd encW 3 w WA nW ws) (hw : WOk ws) :
    Calls Try.prog 58 #[.slice WA nW cW] w (ChsP w w nW ws) := by
  have hwl := h.len
  have hw10 := hw.n
  obtain ⟨E, hE⟩ : ∃ E : CEnv, E = { Bo := w.heap.size + 1, Bw := w.heap.size, Bf := w.heap.size + 1 + 1, base := w.heap.size + 1 + 1 + 1, WA := WA, nW := nW, cW := cW, ws := ws } := ⟨_, rfl⟩
  obtain ⟨W4, hW4⟩ : ∃ W4 : World, W4 = ((w.alloc (.cells #[.slice WA nW cW] 40)).alloc (.cells #[.slice none 0 0] 121)).alloc (.cells #[.func (.func 87) #[] E.cap] 161) := ⟨_, rfl⟩
  have hb4 : Below w.heap.size w W4 := by rw [hW4]; exact (((Below.refl _ w).alloc (Nat.le_refl _) _).alloc (by simp) _).alloc (by simp; omega) _
  have k1 := ((Blk.new w 40 #[.slice WA nW cW]).alloc (.cells #[.slice none 0 0] 121)).alloc (.cells #[.func (.func 87) #[] E.cap] 161)
  have k2 := (Blk.new (w.alloc (.cells #[.slice WA nW cW] 40)) 121 #[.slice none 0 0]).alloc (.cells #[.func (.func 87) #[] E.cap] 161)
  have k3 := Blk.new ((w.alloc (.cells #[.slice WA nW cW] 40)).alloc (.cells #[.slice none 0 0] 121)) 161 #[.func (.func 87) #[] E.cap]
  simp only [World.size_alloc] at k2 k3
  rw [← hW4] at k1 k2 k3
  have hs4 : W4.heap.size = w.heap.size + 1 + 1 + 1 := by rw [hW4]; simp
  have hEok : E.Ok w := by
    subst hE
    refine ⟨?_, ?_, ?_, hw, h⟩
    all_goals (simp only; omega)
  have hfix : CFix E w W4 := by
    subst hE
    exact ⟨k1, k3, hb4, by simp only; omega⟩
  have hst : CSt E W4 (.slice none 0 0) [] := by
    subst hE
    exact ⟨k2, World.ownsRow_nil _ _ _ _, fun x hx => absurd hx (by simp)⟩
  have hpow : 2 ^ nW ≤ 1024 := Nat.pow_le_pow_right (n := 2) (by omega) (show nW ≤ 10 by omega)
  have hEv : E.nW = nW ∧ E.ws = ws ∧ E.base = w.heap.size + 1 + 1 + 1 ∧ E.Bo = w.heap.size + 1 := by subst hE; exact ⟨rfl, rfl, rfl, rfl⟩
  have hcall := choose_c hEok nW W4 0 [] (.slice none 0 0) 0 (.slice none 0 0) [] (by rw [hEv.1]; omega) rfl (Nat.le_refl _) (by simp; omega) hfix hst (World.ownsRow_nil _ _ _ _) (fun x hx => absurd hx (by simp))
  have hcap : E.cap = #[.pointer (some ⟨w.heap.size + 1, 0, none⟩), .pointer (some ⟨w.heap.size, 0, none⟩), .pointer (some ⟨w.heap.size + 1 + 1, 0, none⟩)] := by subst hE; rfl
  have hp0 : priceC E.ws [] = 0 := rfl
  rw [hp0] at hcall
  have HW4 := Lib.hid hW4
  rw [hW4, hcap] at hcall
  simp only [List.append_toArray, List.cons_append, List.nil_append] at hcall
  rw [show ((0 : Nat) : Int) = 0 from rfl] at hcall
  have HCL := Lib.hid hcall
  have HEV := Lib.hid hEv
  clear hcall hEok hfix hst hpow hb4 k1 k2 k3 hW4 hE hp0 hEv h hs4
  go_enter Try.func58, Try.ntmps58
  go_wp2_with fail
  refine HCL.out.mono ?_
  rw [← hcap, ← HW4.out]
  intro e w5 hTP
  obtain ⟨rfl, ov5, L5, ht5, hf5, _, hl5, _, _, _⟩ := choP_out hTP
  rw [List.nil_append] at ht5
  rw [HEV.out.1] at hl5
  have hL5 : L5.length = 2 ^ nW := by have := congrArg List.length hl5; rw [List.length_map, treeC_len] at this; exact this
  have hpow : 2 ^ nW ≤ 1024 := Nat.pow_le_pow_right (n := 2) (by omega) (show nW ≤ 10 by omega)
  have hpos : 0 < 2 ^ nW := Nat.two_pow_pos nW
  obtain ⟨OA, oc, rfl, hoc⟩ := own_form ht5.row
  have HS := Lib.hid (sortC_c (ws := ws) ht5.row rfl (by omega) (fun h0 => by rw [h0] at hL5; simp at hL5; omega)
    (fun x hx => ⟨Rd.of_own enc1_len (ht5.el x hx).1 (ht5.el x hx).2.1, by have := (ht5.el x hx).2.2.1; omega, fun a ha => fun he => own_own_ne ht5.row (ht5.el x hx).1 (by decide) he (by unfold Chc.v; rw [ha]; rfl)⟩)
    (fun x hx => by rw [← HEV.out.2.1]; exact (ht5.el x hx).2.2.2) (inj_of_nodup (by rw [hl5]; exact treeC_nodup nW)))
  have hbx5 := ht5.box
  have hB : E.Bo = w.heap.size + 1 := HEV.out.2.2.2
  rw [hB] at hbx5
  have c0 := hbx5.cell 0
  simp at c0
  have HT5 := Lib.hid ht5; have HF5 := Lib.hid hf5; have HL5 := Lib.hid hl5; have HX5 := Lib.hid hbx5
  have HLEN := Lib.hid (show L5.length ≤ 1024 by omega)
  clear hTP HCL hl5 hf5 ht5 hcap hbx5 hL5 hpow hpos
  go_wp2_with fail
  refine HS.out.mono ?_
  rintro e w6 ⟨rfl, s, hpw, hperm, hrow6, hgr6⟩
  have hne : (some (w.heap.size + 1) : Option Nat) ≠ (Value.slice OA L5.length oc).ownBlock := fun he => by
    have := own_base_ge HT5.out.row he.symm
    have := HEV.out.2.2.1
    omega
  have hx6 := HX5.out.grown hgr6 hne
  have c6 := hx6.cell 0
  have f6 := hx6.frozen 0
  simp at c6
  have F6 : Fr (fun b => (Value.slice OA L5.length oc).ownBlock = some b) w5 w6 := Fr.of_grown hgr6 (fun b hb _ => hb)
  have hb6 : Below w.heap.size w w6 := HF5.out.below.trans (F6.below HF5.out.below.size (fun g hg => by have := own_base_ge HT5.out.row hg; have := HEV.out.2.2.1; omega))
  have hel6 : ∀ x ∈ s, w6.ownsRow E.base 3 1 x.v x.n (x.l.flatMap enc1) ∧ x.l.length = x.n ∧ x.n ≤ 10 ∧ x.p = priceC ws x.l := fun x hx => by
    have he := HT5.out.el x (hperm.mem_iff.1 hx)
    exact ⟨F6.row he.1 (fun g hg ho => own_own_ne HT5.out.row he.1 (by decide) ho hg), he.2.1, he.2.2.1, by rw [← HEV.out.2.1]; exact he.2.2.2⟩
  have HX6 := Lib.hid hx6; have HB6 := Lib.hid hb6; have HEL := Lib.hid hel6; have HPW := Lib.hid hpw; have HPM := Lib.hid hperm; have HR6 := Lib.hid hrow6
  clear hx6 hb6 hel6 hpw hperm hrow6 F6 hgr6 HS
  go_wp2_with fail
  have hx7 := HX6.out.set_ 0 (.slice OA L5.length oc)
  have c7 := hx7.cell 0
  simp at c7
  have F7 : Fr (fun b => b = w.heap.size + 1) w6 (w6.setCell ⟨w.heap.size + 1, 0, none⟩ (.slice OA L5.length oc)) := (Fr.refl (fun b => b = w.heap.size + 1) w6).setAt (p := ⟨w.heap.size + 1, 0, none⟩) (.inl rfl) (.slice OA L5.length oc)
  have hbase := HEV.out.2.2.1
  refine bodyPost_ret (v := .slice OA L5.length oc) ?_ rfl ⟨OA, L5.length, oc, s, rfl, HLEN.out, ?_, ?_, HPW.out, ?_, HB6.out.setCell (by simp) _⟩
  · simp [results, Try.f58, go_sem, c7]
  · exact Rd.of_own encC_len (F7.row HR6.out (fun g hg he => by have := own_base_ge HR6.out hg; omega)) HPM.out.length_eq
  · intro x hx
    have he := HEL.out x hx
    exact ⟨Rd.of_own enc1_len (F7.row he.1 (fun g hg h1 => by have := own_base_ge he.1 hg; omega)) he.2.1, he.2.2.1, he.2.2.2⟩
  · rw [← HL5.out]; exact HPM.out.map _
end Go.Proofs.Ytpijmfbpdglchaa
