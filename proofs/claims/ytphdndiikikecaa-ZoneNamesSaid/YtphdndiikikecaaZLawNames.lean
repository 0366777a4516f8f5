/- THE WALK of ZoneNames. -/
import Derived.Test.YtphdndiikikecaaZNm
import Derived.Test.YtphdndiikikecaaKHeld
set_option linter.unusedVariables false
set_option linter.unusedSimpArgs false
namespace Go.Proofs.Ytphdndiikikecaa
open Go.RowKit Go.Proofs
attribute [local go_sem ↓] Go.wp_at_zero Go.wp_at_succ
/-- A row that make has made reads as that many zeros. -/
theorem rd_made {α : Type} {enc : α → List Value} {k : Nat} (x : α) (henc : (enc x).length = k) (_hk : 0 < k) {w : World} {g n : Nat} {t : TypeId} {fr : Nat × Nat} {z : Array Value} (hz : z.toList = enc x)
    (h : w.heap[g]? = some (.cells (madeCells z (n * k)) t fr)) : Rd enc k w (some ⟨g, 0, none⟩) n (List.replicate n x) := by
  refine ⟨by simp, fun _ => ⟨g, 0, rfl, (Array.getElem?_eq_some_iff.1 h).1, fun i y hy j v hv => ?_⟩⟩
  obtain ⟨hi, rfl⟩ : i < n ∧ x = y := by
    rw [List.getElem?_replicate] at hy
    split at hy
    · exact ⟨by assumption, by simpa using hy⟩
    · cases hy
  have hj : j < k := by have := (List.getElem?_eq_some_iff.1 hv).1; omega
  have hsz : z.size = k := by rw [← henc, ← hz]; simp
  have hlt : i * k + j < n * k := by
    have : (i + 1) * k ≤ n * k := Nat.mul_le_mul_right k hi
    rw [Nat.add_mul] at this; omega
  rw [Nat.zero_add, cell_of_row w g _ _ t fr h]
  unfold madeCells
  rw [Array.getElem?_map, Array.getElem?_range, if_pos hlt, hsz]
  have hm : (i * k + j) % k = j := by rw [Nat.mul_comm, Nat.mul_add_mod, Nat.mod_eq_of_lt hj]
  simp only [Option.map_some, hm]
  rw [← hz] at hv
  rw [Array.getElem?_toList] at hv
  rw [getElem!_def, hv]
theorem Rd.away {α : Type} {enc : α → List Value} {k : Nat} {w : World} {g n : Nat} {l : List α} (h : Rd enc k w (some ⟨g, 0, none⟩) n l) {p : Addr} (hp : p.block ≠ g) (u : Value) : Rd enc k (w.setCell p u) (some ⟨g, 0, none⟩) n l := by
  refine ⟨h.1, fun h0 => ?_⟩
  obtain ⟨b, o, e, hb, hc⟩ := h.2 h0
  cases e
  refine ⟨g, 0, rfl, by simpa [World.setCell] using hb, fun i x hx j v hv => ?_⟩
  rw [World.cell?_setCell_other w p _ u (fun e => hp (by rw [e]))]
  exact hc i x hx j v hv
theorem Rd.congr {α : Type} {enc : α → List Value} {k : Nat} {w : World} {A : Option Addr} {n : Nat} {l m : List α} (h : Rd enc k w A n l) (hm : m.map enc = l.map enc) : Rd enc k w A n m := by
  refine ⟨by have := congrArg List.length hm; simp at this; rw [this]; exact h.1, fun h0 => ?_⟩
  obtain ⟨b, o, e, hb, hc⟩ := h.2 h0
  refine ⟨b, o, e, hb, fun i x hx j v hv => ?_⟩
  have h1 : (m.map enc)[i]? = some (enc x) := by rw [List.getElem?_map, hx]; rfl
  rw [hm, List.getElem?_map, Option.map_eq_some_iff] at h1
  obtain ⟨y, hy, hxy⟩ := h1
  exact hc i y hy j v (hxy ▸ hv)
/-- the valley whose first way goes twice by one parcel -/
theorem odd_rd {a b c p q : Nat} {w : World} (h : RdV w (some ⟨p, 0, none⟩) 4 (some ⟨q, 0, none⟩) 3 (glenV a b c)) : RdV (w.setCell ⟨a, 2, none⟩ (.int .i64 2)) (some ⟨p, 0, none⟩) 4 (some ⟨q, 0, none⟩) 3 (oddV a b c) := by
  have ha := (h.way 0 _ rfl).1; have hb := (h.way 1 _ rfl).1; have hc := (h.way 2 _ rfl).1
  obtain ⟨b1, o1, e1, hl1, hk1⟩ := ha.2 (by simp)
  cases e1
  obtain ⟨b2, o2, e2, hl2, hk2⟩ := hb.2 (by simp)
  cases e2
  obtain ⟨b3, o3, e3, hl3, hk3⟩ := hc.2 (by simp)
  cases e3
  obtain ⟨b4, o4, e4, hl4, hk4⟩ := h.pars.2 (by simp)
  cases e4
  obtain ⟨b5, o5, e5, hl5, hk5⟩ := h.sls.2 (by simp)
  cases e5
  have x0 := hk1 0 _ rfl 0 _ rfl
  have hab : a ≠ b := by rintro rfl; have := hk2 0 _ rfl 0 _ rfl; rw [x0] at this; simp at this
  have hac : a ≠ c := by rintro rfl; have := hk3 0 _ rfl 0 _ rfl; rw [x0] at this; simp at this
  have hap : a ≠ p := by rintro rfl; have := hk4 0 _ rfl 0 _ rfl; rw [x0] at this; simp at this
  have haq : a ≠ q := by rintro rfl; have := hk5 0 _ rfl 0 _ rfl; rw [x0] at this; simp at this
  refine ⟨h.pars.away hap _, ?_, fun i s hs => ?_⟩
  · exact (h.sls.away haq _).congr rfl
  · match i with
    | 0 =>
      simp [oddV] at hs; subst hs
      refine ⟨⟨rfl, fun _ => ⟨a, 0, rfl, by simpa [World.setCell] using hl1, fun i x hx j v hv => ?_⟩⟩, mlZ (by simp), Nat.le_refl _⟩
      match i with
      | 0 => simp at hx; subst hx; rw [World.cell?_setCell_other _ _ _ _ (by have := (List.getElem?_eq_some_iff.1 hv).1; simp [enc1] at this; subst this; simp)]; exact hk1 0 _ rfl j v hv
      | 1 => simp at hx; subst hx; rw [World.cell?_setCell_other _ _ _ _ (by have := (List.getElem?_eq_some_iff.1 hv).1; simp [enc1] at this; subst this; simp)]; exact hk1 1 _ rfl j v hv
      | 2 =>
        simp at hx; subst hx
        have hj : j = 0 := by have := (List.getElem?_eq_some_iff.1 hv).1; simp [enc1] at this; exact this
        subst hj
        simp [enc1] at hv; subst hv
        exact World.cell?_setCell_same _ _ _ (hk1 2 _ rfl 0 _ rfl)
      | i + 3 => simp at hx
    | 1 =>
      simp [oddV] at hs; subst hs
      exact ⟨hb.away hab _, mlZ (by simp), Nat.le_refl _⟩
    | 2 =>
      simp [oddV] at hs; subst hs
      exact ⟨hc.away hac _, mlZ (by simp), Nat.le_refl _⟩
    | i + 3 => simp [oddV] at hs
set_option linter.unusedSimpArgs false in
set_option maxRecDepth 100000 in
set_option maxHeartbeats 1000000 in
theorem glen2_c (w : World) : Calls Try.prog 51 #[] w fun e w' => ∃ p q a b c, e = .returned (.agg #[.slice (some ⟨p, 0, none⟩) 4 4, .slice (some ⟨q, 0, none⟩) 3 3, .int .i64 10, .int .i64 50, .int .i64 200]) ∧ RdV w' (some ⟨p, 0, none⟩) 4 (some ⟨q, 0, none⟩) 3 (glenV a b c) ∧ (w.heap.size ≤ a ∧ w'.frozen? ⟨a, 2, none⟩ = false) ∧ Below w.heap.size w w' := by
  go_enter Try.func51, Try.ntmps51
  go_wp2_with fail
  refine (span_c 1 2 _).mono ?_
  rintro e w1 ⟨rfl, hb1⟩
  have x0 := ((Blk.new w 36 #[.slice none 0 0, .slice none 0 0, .int .i64 0, .int .i64 0, .int .i64 0]).alloc (.cells #[.int .i64 100, .int .i64 80, .int .i64 5, .bool true, .int .i64 200, .int .i64 150, .int .i64 10, .bool true, .int .i64 150, .int .i64 100, .int .i64 4, .bool false, .int .i64 300, .int .i64 400, .int .i64 20, .bool true] 111)).alloc (.cells #[.int .i64 2, .int .i64 1, .int .i64 3] 3)
  have xP := (Blk.new (w.alloc (.cells #[.slice none 0 0, .slice none 0 0, .int .i64 0, .int .i64 0, .int .i64 0] 36)) 111 #[.int .i64 100, .int .i64 80, .int .i64 5, .bool true, .int .i64 200, .int .i64 150, .int .i64 10, .bool true, .int .i64 150, .int .i64 100, .int .i64 4, .bool false, .int .i64 300, .int .i64 400, .int .i64 20, .bool true]).alloc (.cells #[.int .i64 2, .int .i64 1, .int .i64 3] 3)
  have xa := Blk.new ((w.alloc (.cells #[.slice none 0 0, .slice none 0 0, .int .i64 0, .int .i64 0, .int .i64 0] 36)).alloc (.cells #[.int .i64 100, .int .i64 80, .int .i64 5, .bool true, .int .i64 200, .int .i64 150, .int .i64 10, .bool true, .int .i64 150, .int .i64 100, .int .i64 4, .bool false, .int .i64 300, .int .i64 400, .int .i64 20, .bool true] 111)) 3 #[.int .i64 2, .int .i64 1, .int .i64 3]
  simp only [World.size_alloc] at xP xa
  have y0 := x0.below hb1 x0.lt; have yP := xP.below hb1 xP.lt; have ya := xa.below hb1 xa.lt
  have hB1 : Below w.heap.size w w1 := ((((Below.refl _ w).alloc (Nat.le_refl _) _).alloc (by simp) _).alloc (by simp; omega) _).trans (hb1.mono (by simp; omega))
  have Y0 := Lib.hid y0; have YP := Lib.hid yP; have YA := Lib.hid ya; have HB1 := Lib.hid hB1
  have hw1 : w.heap.size + 3 ≤ w1.heap.size := by have := hb1.size; simp at this; omega
  clear x0 xP xa y0 yP ya hb1 hB1
  go_wp2_with fail
  refine (span_c 0 2 _).mono ?_
  rintro e w2 ⟨rfl, hb2⟩
  have xb := Blk.new w1 3 #[.int .i64 0, .int .i64 1]
  have Z0 := Lib.hid ((Y0.out.alloc _).below hb2 (Y0.out.alloc _).lt); have ZP := Lib.hid ((YP.out.alloc _).below hb2 (YP.out.alloc _).lt); have ZA := Lib.hid ((YA.out.alloc _).below hb2 (YA.out.alloc _).lt); have ZB := Lib.hid (xb.below hb2 xb.lt)
  have HB2 := Lib.hid ((HB1.out.alloc HB1.out.size _).trans (hb2.mono (by have := HB1.out.size; simp; omega)))
  have hw2 : w1.heap.size + 1 ≤ w2.heap.size := by have := hb2.size; simp at this; omega
  clear xb hb2 Y0 YP YA
  go_wp2_with fail
  refine (span_c 0 1 _).mono ?_
  rintro e w3 ⟨rfl, hb3⟩
  have xc := Blk.new w2 3 #[.int .i64 3]
  have U0 := Lib.hid ((Z0.out.alloc _).below hb3 (Z0.out.alloc _).lt); have UP := Lib.hid ((ZP.out.alloc _).below hb3 (ZP.out.alloc _).lt); have UA := Lib.hid ((ZA.out.alloc _).below hb3 (ZA.out.alloc _).lt); have UB := Lib.hid ((ZB.out.alloc _).below hb3 (ZB.out.alloc _).lt); have UC := Lib.hid (xc.below hb3 xc.lt)
  have HB3 := Lib.hid ((HB2.out.alloc HB2.out.size _).trans (hb3.mono (by have := HB2.out.size; simp; omega)))
  clear xc hb3 Z0 ZP ZA ZB
  have hlt0 := U0.out.lt
  have g0 := U0.out.cell 0; have g1 := U0.out.cell 1; have g2 := U0.out.cell 2; have g3 := U0.out.cell 3; have g4 := U0.out.cell 4
  have f0 := U0.out.frozen 0; have f1 := U0.out.frozen 1; have f2 := U0.out.frozen 2; have f3 := U0.out.frozen 3; have f4 := U0.out.frozen 4
  simp at g0 g1 g2 g3 g4
  have hne : ¬ w.heap.size = w3.heap.size := by omega
  go_wp2_with fail
  obtain ⟨W5, hW5⟩ : ∃ W5 : World, W5 = ((((w3.setCell ⟨w.heap.size, 0, none⟩ (.slice (some ⟨w.heap.size + 1, 0, none⟩) 4 4)).setCell ⟨w.heap.size, 1, none⟩ (.slice (some ⟨w3.heap.size, 0, none⟩) 3 3)).setCell ⟨w.heap.size, 2, none⟩ (.int .i64 10)).setCell ⟨w.heap.size, 3, none⟩ (.int .i64 50)).setCell ⟨w.heap.size, 4, none⟩ (.int .i64 200) := ⟨_, rfl⟩
  have F5 : Fr (fun b => b = w.heap.size) w3 W5 := by
    rw [hW5]
    have q0 := Fr.refl (fun b => b = w.heap.size) w3
    have q1 := q0.setAt (p := ⟨w.heap.size, 0, none⟩) (.inl rfl) (.slice (some ⟨w.heap.size + 1, 0, none⟩) 4 4)
    have q2 := q1.setAt (p := ⟨w.heap.size, 1, none⟩) (.inl rfl) (.slice (some ⟨w3.heap.size, 0, none⟩) 3 3)
    have q3 := q2.setAt (p := ⟨w.heap.size, 2, none⟩) (.inl rfl) (.int .i64 10)
    have q4 := q3.setAt (p := ⟨w.heap.size, 3, none⟩) (.inl rfl) (.int .i64 50)
    exact q4.setAt (p := ⟨w.heap.size, 4, none⟩) (.inl rfl) (.int .i64 200)
  have x5 := (((((U0.out.set_ 0 (.slice (some ⟨w.heap.size + 1, 0, none⟩) 4 4)).set_ 1 (.slice (some ⟨w3.heap.size, 0, none⟩) 3 3)).set_ 2 (.int .i64 10)).set_ 3 (.int .i64 50)).set_ 4 (.int .i64 200))
  rw [← hW5] at x5 ⊢
  have hs5 : W5.heap.size = w3.heap.size := by rw [hW5]; simp
  have hB5 : Below w.heap.size w W5 := HB3.out.trans (F5.below (Nat.le_of_lt hlt0) (fun b hb => by omega))
  clear hW5
  obtain ⟨SC, hSC⟩ : ∃ SC : Array Value, SC = #[.slice (some ⟨w.heap.size + 1 + 1, 0, none⟩) 3 3, .int .i64 30, .int .i64 1, .int .i64 2, .slice (some ⟨w1.heap.size, 0, none⟩) 2 2, .int .i64 25, .int .i64 0, .int .i64 2, .slice (some ⟨w2.heap.size, 0, none⟩) 1 1, .int .i64 200, .int .i64 0, .int .i64 1] := ⟨_, rfl⟩
  rw [← hSC]
  have hal : Below W5.heap.size W5 (W5.alloc (.cells SC 103)) := (Below.refl _ _).alloc (Nat.le_refl _) _
  have y5 := x5.below hal x5.lt
  have c0 := y5.cell 0; have c1 := y5.cell 1; have c2 := y5.cell 2; have c3 := y5.cell 3; have c4 := y5.cell 4
  simp at c0 c1 c2 c3 c4
  have hs2 : w1.heap.size + 1 ≤ w2.heap.size := hw2
  have hP := (F5.blk UP.out (by omega)).below hal (by have := UP.out.lt; omega)
  have hA := (F5.blk UA.out (by omega)).below hal (by have := UA.out.lt; omega)
  have hlb := UB.out.lt; have hlc := UC.out.lt
  have hBb := (F5.blk UB.out (by omega)).below hal (by omega)
  have hC := (F5.blk UC.out (by omega)).below hal (by omega)
  have hS := Blk.new W5 103 SC
  rw [hs5] at hS
  refine bodyPost_ret (v := .agg #[.slice (some ⟨w.heap.size + 1, 0, none⟩) 4 4, .slice (some ⟨w3.heap.size, 0, none⟩) 3 3, .int .i64 10, .int .i64 50, .int .i64 200]) ?_ rfl ⟨w.heap.size + 1, w3.heap.size, w.heap.size + 1 + 1, w1.heap.size, w2.heap.size, rfl, ⟨?_, ?_, ?_⟩, ⟨by omega, hA.frozen 2⟩, ?_⟩
  · simp [results, Try.f51, go_sem, c0, c1, c2, c3, c4]
  · exact Rd.of_blkE encP_len hP (by simp [glenV, glenP, encP]) rfl
  · exact Rd.of_blkE encS_len hS (by rw [hSC]; simp [glenV, encS]) rfl
  · intro i s hs
    have hi : i = 0 ∨ i = 1 ∨ i = 2 := by have := (List.getElem?_eq_some_iff.1 hs).1; simp [glenV] at this; omega
    rcases hi with rfl | rfl | rfl
    · simp [glenV] at hs; subst hs
      exact ⟨Rd.of_blkE enc1_len hA (by simp [enc1]) rfl, by unfold maxLen; simp, by simp⟩
    · simp [glenV] at hs; subst hs
      exact ⟨Rd.of_blkE enc1_len hBb (by simp [enc1]) rfl, by unfold maxLen; simp, by simp⟩
    · simp [glenV] at hs; subst hs
      exact ⟨Rd.of_blkE enc1_len hC (by simp [enc1]) rfl, by unfold maxLen; simp, by simp⟩
  · exact hB5.alloc hB5.size _
theorem infoE9 : (Try.prog.info? 101).map (fun i => (i.zero, i.size, i.bytes)) = some (some (.agg #[.int .i64 0, .int .i64 0, .int .i64 0]), 3, 24) := by kernel_rfl
theorem infoS9 : (Try.prog.info? 103).map (fun i => (i.zero, i.size, i.bytes)) = some (some (.agg #[.slice none 0 0, .int .i64 0, .int .i64 0, .int .i64 0]), 4, 48) := by kernel_rfl
theorem mk_e9 (W : World) : (Instr.makeSlice 89 (.int .i64 21) (.int .i64 21)).run Try.prog W = .ok (.slice (some ⟨W.heap.size, 0, none⟩) 21 21) (W.alloc (.cells (madeCells #[.int .i64 0, .int .i64 0, .int .i64 0] (21 * 3)) 101)) := by
  obtain ⟨i, h0, hz0, hz1, hz2⟩ := info_parts infoE9
  have := run_make (P := Try.prog) W 89 101 i _ Try.underlying89 h0 hz0 .i64 .i64 21 21 (by decide) (by decide) (by rw [hz2]; decide) (by decide)
  rw [hz1] at this
  simpa [go_sem] using this
theorem mk_s9 (W : World) : (Instr.makeSlice 34 (.int .i64 11) (.int .i64 11)).run Try.prog W = .ok (.slice (some ⟨W.heap.size, 0, none⟩) 11 11) (W.alloc (.cells (madeCells #[.slice none 0 0, .int .i64 0, .int .i64 0, .int .i64 0] (11 * 4)) 103)) := by
  obtain ⟨i, h0, hz0, hz1, hz2⟩ := info_parts infoS9
  have := run_make (P := Try.prog) W 34 103 i _ Try.underlying34 h0 hz0 .i64 .i64 11 11 (by decide) (by decide) (by rw [hz2]; decide) (by decide)
  rw [hz1] at this
  simpa [go_sem] using this
set_option linter.unusedSimpArgs false in
set_option maxRecDepth 100000 in
set_option maxHeartbeats 8000000 in
theorem ZoneNames_w (w : World) : Calls Try.prog 16 #[] w fun e w' => e = .returned (.bool true) ∧ Below w.heap.size w w' := by
  have HB := Lib.hid (Below.refl w.heap.size w)
  go_enter Try.func16, Try.ntmps16
  go_wp2_with fail
  go_at_call 51
  refine (glen_c _).mono ?_
  rintro e w1 ⟨p1, q1, a1, b1, c1, rfl, hv, hb9⟩
  have t0 := below_tr HB.out hb9
  clear HB
  have HB := Lib.hid t0
  clear t0
  have HV := Lib.hid hv
  clear hb9 hv
  go_wp2_with fail
  have hal := (Below.refl w1.heap.size w1).alloc (Nat.le_refl _) (.cells #[.int .i64 2, .int .i64 1, .int .i64 0] 3)
  have hn2 := Blk.new w1 3 #[.int .i64 2, .int .i64 1, .int .i64 0]
  have t0 := below_tr HB.out hal; have t1 := HV.out.below hal
  clear HB HV
  have HB := Lib.hid t0; have HV := Lib.hid t1
  clear t0 t1
  clear hal
  go_at_call 41
  refine (znD_c HV.out (Rd.of_blkE enc1_len hn2 rfl rfl)).mono ?_
  rintro e w1 ⟨A1, d1, A2, d2, rfl, hr1, hr2, hb9⟩
  have t0 := below_tr HB.out hb9; have t1 := HV.out.below hb9
  clear HB HV
  have HB := Lib.hid t0; have HV := Lib.hid t1
  clear t0 t1
  have HR1 := Lib.hid hr1
  have HR2 := Lib.hid hr2
  clear hb9 hr1 hr2
  clear hn2
  clear HV
  go_wp2_with fail
  go_at_call 51
  refine (glen_c _).mono ?_
  rintro e w1 ⟨p1, q1, a1, b1, c1, rfl, hv, hb9⟩
  have t0 := below_tr HB.out hb9; have t1 := HR1.out.below hb9; have t2 := HR2.out.below hb9
  clear HB HR1 HR2
  have HB := Lib.hid t0; have HR1 := Lib.hid t1; have HR2 := Lib.hid t2
  clear t0 t1 t2
  have HV := Lib.hid hv
  clear hb9 hv
  go_wp2_with fail
  go_at_call 52
  refine (span_c 2 3 _).mono ?_
  rintro e w1 ⟨rfl, hb9⟩
  have t0 := below_tr HB.out hb9; have t1 := HR1.out.below hb9; have t2 := HR2.out.below hb9; have t3 := HV.out.below hb9
  clear HB HR1 HR2 HV
  have HB := Lib.hid t0; have HR1 := Lib.hid t1; have HR2 := Lib.hid t2; have HV := Lib.hid t3
  clear t0 t1 t2 t3
  clear hb9 
  go_wp2_with fail
  go_at_call 52
  refine (span_c 1 5 _).mono ?_
  rintro e w1 ⟨rfl, hb9⟩
  have t0 := below_tr HB.out hb9; have t1 := HR1.out.below hb9; have t2 := HR2.out.below hb9; have t3 := HV.out.below hb9
  clear HB HR1 HR2 HV
  have HB := Lib.hid t0; have HR1 := Lib.hid t1; have HR2 := Lib.hid t2; have HV := Lib.hid t3
  clear t0 t1 t2 t3
  clear hb9 
  go_wp2_with fail
  have hal := (Below.refl w1.heap.size w1).alloc (Nat.le_refl _) (.cells #[.int .i64 0, .int .i64 2, .int .i64 3, .int .i64 1, .int .i64 1, .int .i64 5] 101)
  have hn2 := Blk.new w1 101 #[.int .i64 0, .int .i64 2, .int .i64 3, .int .i64 1, .int .i64 1, .int .i64 5]
  have t0 := below_tr HB.out hal; have t1 := HR1.out.below hal; have t2 := HR2.out.below hal; have t3 := HV.out.below hal
  clear HB HR1 HR2 HV
  have HB := Lib.hid t0; have HR1 := Lib.hid t1; have HR2 := Lib.hid t2; have HV := Lib.hid t3
  clear t0 t1 t2 t3
  clear hal
  go_at_call 46
  refine (znH_c HV.out (Rd.of_blkE encE_len hn2 rfl rfl)).mono ?_
  rintro e w1 ⟨A3, d3, rfl, hr3, hb9⟩
  have t0 := below_tr HB.out hb9; have t1 := HR1.out.below hb9; have t2 := HR2.out.below hb9; have t3 := HV.out.below hb9
  clear HB HR1 HR2 HV
  have HB := Lib.hid t0; have HR1 := Lib.hid t1; have HR2 := Lib.hid t2; have HV := Lib.hid t3
  clear t0 t1 t2 t3
  have HR3 := Lib.hid hr3
  clear hb9 hr3
  clear hn2
  clear HV
  go_wp2_with fail
  go_at_call 51
  refine (glen_c _).mono ?_
  rintro e w1 ⟨p1, q1, a1, b1, c1, rfl, hv, hb9⟩
  have t0 := below_tr HB.out hb9; have t1 := HR1.out.below hb9; have t2 := HR2.out.below hb9; have t3 := HR3.out.below hb9
  clear HB HR1 HR2 HR3
  have HB := Lib.hid t0; have HR1 := Lib.hid t1; have HR2 := Lib.hid t2; have HR3 := Lib.hid t3
  clear t0 t1 t2 t3
  have HV := Lib.hid hv
  clear hb9 hv
  go_wp2_with fail
  go_at_call 25
  refine (znP_c HV.out).mono ?_
  rintro e w1 ⟨A4, d4, rfl, hr4, hb9⟩
  have t0 := below_tr HB.out hb9; have t1 := HR1.out.below hb9; have t2 := HR2.out.below hb9; have t3 := HR3.out.below hb9; have t4 := HV.out.below hb9
  clear HB HR1 HR2 HR3 HV
  have HB := Lib.hid t0; have HR1 := Lib.hid t1; have HR2 := Lib.hid t2; have HR3 := Lib.hid t3; have HV := Lib.hid t4
  clear t0 t1 t2 t3 t4
  have HR4 := Lib.hid hr4
  clear hb9 hr4
  clear HV
  go_wp2_with fail
  go_at_call 51
  refine (glen_c _).mono ?_
  rintro e w1 ⟨p1, q1, a1, b1, c1, rfl, hv, hb9⟩
  have t0 := below_tr HB.out hb9; have t1 := HR1.out.below hb9; have t2 := HR2.out.below hb9; have t3 := HR3.out.below hb9; have t4 := HR4.out.below hb9
  clear HB HR1 HR2 HR3 HR4
  have HB := Lib.hid t0; have HR1 := Lib.hid t1; have HR2 := Lib.hid t2; have HR3 := Lib.hid t3; have HR4 := Lib.hid t4
  clear t0 t1 t2 t3 t4
  have HV := Lib.hid hv
  clear hb9 hv
  go_wp2_with fail
  go_at_call 44
  refine (znY_c HV.out rfl (zn_p5)).mono ?_
  rintro e w1 ⟨A5, d5, rfl, hr5, hb9⟩
  have t0 := below_tr HB.out hb9; have t1 := HR1.out.below hb9; have t2 := HR2.out.below hb9; have t3 := HR3.out.below hb9; have t4 := HR4.out.below hb9; have t5 := HV.out.below hb9
  clear HB HR1 HR2 HR3 HR4 HV
  have HB := Lib.hid t0; have HR1 := Lib.hid t1; have HR2 := Lib.hid t2; have HR3 := Lib.hid t3; have HR4 := Lib.hid t4; have HV := Lib.hid t5
  clear t0 t1 t2 t3 t4 t5
  have HR5 := Lib.hid hr5
  clear hb9 hr5
  clear HV
  go_wp2_with fail
  go_at_call 51
  refine (glen_c _).mono ?_
  rintro e w1 ⟨p1, q1, a1, b1, c1, rfl, hv, hb9⟩
  have t0 := below_tr HB.out hb9; have t1 := HR1.out.below hb9; have t2 := HR2.out.below hb9; have t3 := HR3.out.below hb9; have t4 := HR4.out.below hb9; have t5 := HR5.out.below hb9
  clear HB HR1 HR2 HR3 HR4 HR5
  have HB := Lib.hid t0; have HR1 := Lib.hid t1; have HR2 := Lib.hid t2; have HR3 := Lib.hid t3; have HR4 := Lib.hid t4; have HR5 := Lib.hid t5
  clear t0 t1 t2 t3 t4 t5
  have HV := Lib.hid hv
  clear hb9 hv
  go_wp2_with fail
  go_at_call 44
  refine (znY_c HV.out rfl (zn_p4)).mono ?_
  rintro e w1 ⟨A6, d6, rfl, hr6, hb9⟩
  have t0 := below_tr HB.out hb9; have t1 := HR1.out.below hb9; have t2 := HR2.out.below hb9; have t3 := HR3.out.below hb9; have t4 := HR4.out.below hb9; have t5 := HR5.out.below hb9; have t6 := HV.out.below hb9
  clear HB HR1 HR2 HR3 HR4 HR5 HV
  have HB := Lib.hid t0; have HR1 := Lib.hid t1; have HR2 := Lib.hid t2; have HR3 := Lib.hid t3; have HR4 := Lib.hid t4; have HR5 := Lib.hid t5; have HV := Lib.hid t6
  clear t0 t1 t2 t3 t4 t5 t6
  have HR6 := Lib.hid hr6
  clear hb9 hr6
  clear HV
  go_wp2_with fail
  go_at_call 51
  refine (glen_c _).mono ?_
  rintro e w1 ⟨p1, q1, a1, b1, c1, rfl, hv, hb9⟩
  have t0 := below_tr HB.out hb9; have t1 := HR1.out.below hb9; have t2 := HR2.out.below hb9; have t3 := HR3.out.below hb9; have t4 := HR4.out.below hb9; have t5 := HR5.out.below hb9; have t6 := HR6.out.below hb9
  clear HB HR1 HR2 HR3 HR4 HR5 HR6
  have HB := Lib.hid t0; have HR1 := Lib.hid t1; have HR2 := Lib.hid t2; have HR3 := Lib.hid t3; have HR4 := Lib.hid t4; have HR5 := Lib.hid t5; have HR6 := Lib.hid t6
  clear t0 t1 t2 t3 t4 t5 t6
  have HV := Lib.hid hv
  clear hb9 hv
  go_wp2_with fail
  go_at_call 33
  refine (znB_c HV.out).mono ?_
  rintro e w1 ⟨A7, d7, rfl, hr7, hb9⟩
  have t0 := below_tr HB.out hb9; have t1 := HR1.out.below hb9; have t2 := HR2.out.below hb9; have t3 := HR3.out.below hb9; have t4 := HR4.out.below hb9; have t5 := HR5.out.below hb9; have t6 := HR6.out.below hb9; have t7 := HV.out.below hb9
  clear HB HR1 HR2 HR3 HR4 HR5 HR6 HV
  have HB := Lib.hid t0; have HR1 := Lib.hid t1; have HR2 := Lib.hid t2; have HR3 := Lib.hid t3; have HR4 := Lib.hid t4; have HR5 := Lib.hid t5; have HR6 := Lib.hid t6; have HV := Lib.hid t7
  clear t0 t1 t2 t3 t4 t5 t6 t7
  have HR7 := Lib.hid hr7
  clear hb9 hr7
  clear HV
  go_wp2_with fail
  have hal := (Below.refl w1.heap.size w1).alloc (Nat.le_refl _) (.cells #[.int .i64 25, .int .i64 30, .int .i64 30, .int .i64 0] 3)
  have hn2 := Blk.new w1 3 #[.int .i64 25, .int .i64 30, .int .i64 30, .int .i64 0]
  have t0 := below_tr HB.out hal; have t1 := HR1.out.below hal; have t2 := HR2.out.below hal; have t3 := HR3.out.below hal; have t4 := HR4.out.below hal; have t5 := HR5.out.below hal; have t6 := HR6.out.below hal; have t7 := HR7.out.below hal
  clear HB HR1 HR2 HR3 HR4 HR5 HR6 HR7
  have HB := Lib.hid t0; have HR1 := Lib.hid t1; have HR2 := Lib.hid t2; have HR3 := Lib.hid t3; have HR4 := Lib.hid t4; have HR5 := Lib.hid t5; have HR6 := Lib.hid t6; have HR7 := Lib.hid t7
  clear t0 t1 t2 t3 t4 t5 t6 t7
  clear hal
  go_at_call 29
  refine (ints_c (l := [25, 30, 30, 0]) (l' := [25, 30, 30, 0]) HR1.out (Rd.of_blkE enc1_len hn2 rfl rfl) (by omega)).mono ?_
  rintro e w1 ⟨rfl, hb9⟩
  have t0 := below_tr HB.out hb9; have t1 := HR1.out.below hb9; have t2 := HR2.out.below hb9; have t3 := HR3.out.below hb9; have t4 := HR4.out.below hb9; have t5 := HR5.out.below hb9; have t6 := HR6.out.below hb9; have t7 := HR7.out.below hb9
  clear HB HR1 HR2 HR3 HR4 HR5 HR6 HR7
  have HB := Lib.hid t0; have HR1 := Lib.hid t1; have HR2 := Lib.hid t2; have HR3 := Lib.hid t3; have HR4 := Lib.hid t4; have HR5 := Lib.hid t5; have HR6 := Lib.hid t6; have HR7 := Lib.hid t7
  clear t0 t1 t2 t3 t4 t5 t6 t7
  clear hb9 
  clear hn2
  clear HR1
  go_wp2_with fail
  have hal := (Below.refl w1.heap.size w1).alloc (Nat.le_refl _) (.cells #[.int .i64 1, .int .i64 1, .int .i64 1, .int .i64 0] 3)
  have hn2 := Blk.new w1 3 #[.int .i64 1, .int .i64 1, .int .i64 1, .int .i64 0]
  have t0 := below_tr HB.out hal; have t1 := HR2.out.below hal; have t2 := HR3.out.below hal; have t3 := HR4.out.below hal; have t4 := HR5.out.below hal; have t5 := HR6.out.below hal; have t6 := HR7.out.below hal
  clear HB HR2 HR3 HR4 HR5 HR6 HR7
  have HB := Lib.hid t0; have HR2 := Lib.hid t1; have HR3 := Lib.hid t2; have HR4 := Lib.hid t3; have HR5 := Lib.hid t4; have HR6 := Lib.hid t5; have HR7 := Lib.hid t6
  clear t0 t1 t2 t3 t4 t5 t6
  clear hal
  go_at_call 29
  refine (ints_c (l := [1, 1, 1, 0]) (l' := [1, 1, 1, 0]) HR2.out (Rd.of_blkE enc1_len hn2 rfl rfl) (by omega)).mono ?_
  rintro e w1 ⟨rfl, hb9⟩
  have t0 := below_tr HB.out hb9; have t1 := HR2.out.below hb9; have t2 := HR3.out.below hb9; have t3 := HR4.out.below hb9; have t4 := HR5.out.below hb9; have t5 := HR6.out.below hb9; have t6 := HR7.out.below hb9
  clear HB HR2 HR3 HR4 HR5 HR6 HR7
  have HB := Lib.hid t0; have HR2 := Lib.hid t1; have HR3 := Lib.hid t2; have HR4 := Lib.hid t3; have HR5 := Lib.hid t4; have HR6 := Lib.hid t5; have HR7 := Lib.hid t6
  clear t0 t1 t2 t3 t4 t5 t6
  clear hb9 
  clear hn2
  clear HR2
  go_wp2_with fail
  have hal := ((Below.refl w1.heap.size w1).alloc (Nat.le_refl _) (.cells #[.int .i64 2, .int .i64 1, .int .i64 0] 3)).alloc (by simp) (.cells #[.int .i64 2, .int .i64 2, .int .i64 1] 3)
  have hn2 := (Blk.new w1 3 #[.int .i64 2, .int .i64 1, .int .i64 0]).alloc (.cells #[.int .i64 2, .int .i64 2, .int .i64 1] 3)
  have hn3 := Blk.new (w1.alloc (.cells #[.int .i64 2, .int .i64 1, .int .i64 0] 3)) 3 #[.int .i64 2, .int .i64 2, .int .i64 1]
  simp only [World.size_alloc] at hn3
  have t0 := below_tr HB.out hal; have t1 := HR3.out.below hal; have t2 := HR4.out.below hal; have t3 := HR5.out.below hal; have t4 := HR6.out.below hal; have t5 := HR7.out.below hal
  clear HB HR3 HR4 HR5 HR6 HR7
  have HB := Lib.hid t0; have HR3 := Lib.hid t1; have HR4 := Lib.hid t2; have HR5 := Lib.hid t3; have HR6 := Lib.hid t4; have HR7 := Lib.hid t5
  clear t0 t1 t2 t3 t4 t5
  clear hal
  go_at_call 24
  refine (rangesL_c (l := [(2, 2), (1, 2), (0, 1)]) (lo := [2, 1, 0]) (hi := [2, 2, 1]) HR3.out (Rd.of_blkE enc1_len hn2 rfl rfl) (Rd.of_blkE enc1_len hn3 rfl rfl) (by omega)).mono ?_
  rintro e w1 ⟨rfl, hb9⟩
  have t0 := below_tr HB.out hb9; have t1 := HR3.out.below hb9; have t2 := HR4.out.below hb9; have t3 := HR5.out.below hb9; have t4 := HR6.out.below hb9; have t5 := HR7.out.below hb9
  clear HB HR3 HR4 HR5 HR6 HR7
  have HB := Lib.hid t0; have HR3 := Lib.hid t1; have HR4 := Lib.hid t2; have HR5 := Lib.hid t3; have HR6 := Lib.hid t4; have HR7 := Lib.hid t5
  clear t0 t1 t2 t3 t4 t5
  clear hb9 
  clear hn2 hn3
  clear HR3
  go_wp2_with fail
  have hal := (Below.refl w1.heap.size w1).alloc (Nat.le_refl _) (.cells #[.int .i64 3, .int .i64 15, .int .i64 0, .int .i64 82] 3)
  have hn2 := Blk.new w1 3 #[.int .i64 3, .int .i64 15, .int .i64 0, .int .i64 82]
  have t0 := below_tr HB.out hal; have t1 := HR4.out.below hal; have t2 := HR5.out.below hal; have t3 := HR6.out.below hal; have t4 := HR7.out.below hal
  clear HB HR4 HR5 HR6 HR7
  have HB := Lib.hid t0; have HR4 := Lib.hid t1; have HR5 := Lib.hid t2; have HR6 := Lib.hid t3; have HR7 := Lib.hid t4
  clear t0 t1 t2 t3 t4
  clear hal
  go_at_call 29
  refine (ints_c (l := [3, 15, 0, 82]) (l' := [3, 15, 0, 82]) HR4.out (Rd.of_blkE enc1_len hn2 rfl rfl) (by omega)).mono ?_
  rintro e w1 ⟨rfl, hb9⟩
  have t0 := below_tr HB.out hb9; have t1 := HR4.out.below hb9; have t2 := HR5.out.below hb9; have t3 := HR6.out.below hb9; have t4 := HR7.out.below hb9
  clear HB HR4 HR5 HR6 HR7
  have HB := Lib.hid t0; have HR4 := Lib.hid t1; have HR5 := Lib.hid t2; have HR6 := Lib.hid t3; have HR7 := Lib.hid t4
  clear t0 t1 t2 t3 t4
  clear hb9 
  clear hn2
  clear HR4
  go_wp2_with fail
  have hal := (Below.refl w1.heap.size w1).alloc (Nat.le_refl _) (.cells #[.int .i64 0, .int .i64 200, .int .i64 0, .int .i64 300] 3)
  have hn2 := Blk.new w1 3 #[.int .i64 0, .int .i64 200, .int .i64 0, .int .i64 300]
  have t0 := below_tr HB.out hal; have t1 := HR5.out.below hal; have t2 := HR6.out.below hal; have t3 := HR7.out.below hal
  clear HB HR5 HR6 HR7
  have HB := Lib.hid t0; have HR5 := Lib.hid t1; have HR6 := Lib.hid t2; have HR7 := Lib.hid t3
  clear t0 t1 t2 t3
  clear hal
  go_at_call 29
  refine (ints_c (l := [0, 200, 0, 300]) (l' := [0, 200, 0, 300]) HR5.out (Rd.of_blkE enc1_len hn2 rfl rfl) (by omega)).mono ?_
  rintro e w1 ⟨rfl, hb9⟩
  have t0 := below_tr HB.out hb9; have t1 := HR5.out.below hb9; have t2 := HR6.out.below hb9; have t3 := HR7.out.below hb9
  clear HB HR5 HR6 HR7
  have HB := Lib.hid t0; have HR5 := Lib.hid t1; have HR6 := Lib.hid t2; have HR7 := Lib.hid t3
  clear t0 t1 t2 t3
  clear hb9 
  clear hn2
  clear HR5
  go_wp2_with fail
  have hal := (Below.refl w1.heap.size w1).alloc (Nat.le_refl _) (.cells #[.int .i64 0, .int .i64 160, .int .i64 0, .int .i64 240] 3)
  have hn2 := Blk.new w1 3 #[.int .i64 0, .int .i64 160, .int .i64 0, .int .i64 240]
  have t0 := below_tr HB.out hal; have t1 := HR6.out.below hal; have t2 := HR7.out.below hal
  clear HB HR6 HR7
  have HB := Lib.hid t0; have HR6 := Lib.hid t1; have HR7 := Lib.hid t2
  clear t0 t1 t2
  clear hal
  go_at_call 29
  refine (ints_c (l := [0, 160, 0, 240]) (l' := [0, 160, 0, 240]) HR6.out (Rd.of_blkE enc1_len hn2 rfl rfl) (by omega)).mono ?_
  rintro e w1 ⟨rfl, hb9⟩
  have t0 := below_tr HB.out hb9; have t1 := HR6.out.below hb9; have t2 := HR7.out.below hb9
  clear HB HR6 HR7
  have HB := Lib.hid t0; have HR6 := Lib.hid t1; have HR7 := Lib.hid t2
  clear t0 t1 t2
  clear hb9 
  clear hn2
  clear HR6
  go_wp2_with fail
  have hal := (Below.refl w1.heap.size w1).alloc (Nat.le_refl _) (.cells #[.int .i64 0, .int .i64 1] 3)
  have hn2 := Blk.new w1 3 #[.int .i64 0, .int .i64 1]
  have t0 := below_tr HB.out hal; have t1 := HR7.out.below hal
  clear HB HR7
  have HB := Lib.hid t0; have HR7 := Lib.hid t1
  clear t0 t1
  clear hal
  go_at_call 29
  refine (ints_c (l := [0, 1]) (l' := [0, 1]) HR7.out (Rd.of_blkE enc1_len hn2 rfl rfl) (by omega)).mono ?_
  rintro e w1 ⟨rfl, hb9⟩
  have t0 := below_tr HB.out hb9; have t1 := HR7.out.below hb9
  clear HB HR7
  have HB := Lib.hid t0; have HR7 := Lib.hid t1
  clear t0 t1
  clear hb9 
  clear hn2
  clear HR7
  go_wp2_with fail
  go_at_call 51
  refine (glen_c _).mono ?_
  rintro e w1 ⟨p1, q1, a1, b1, c1, rfl, hv, hb9⟩
  have t0 := below_tr HB.out hb9
  clear HB
  have HB := Lib.hid t0
  clear t0
  have HV := Lib.hid hv
  clear hb9 hv
  go_wp2_with fail
  go_at_call 35
  refine (znR_c (t := 5000) HV.out).mono ?_
  rintro e w1 ⟨rfl, hb9⟩
  have t0 := below_tr HB.out hb9; have t1 := HV.out.below hb9
  clear HB HV
  have HB := Lib.hid t0; have HV := Lib.hid t1
  clear t0 t1
  clear hb9 
  clear HV
  go_wp2_with fail
  go_at_call 51
  refine (glen_c _).mono ?_
  rintro e w1 ⟨p1, q1, a1, b1, c1, rfl, hv, hb9⟩
  have t0 := below_tr HB.out hb9
  clear HB
  have HB := Lib.hid t0
  clear t0
  have HV := Lib.hid hv
  clear hb9 hv
  go_wp2_with fail
  go_at_call 35
  refine (znR_c (t := 4999) HV.out).mono ?_
  rintro e w1 ⟨rfl, hb9⟩
  have t0 := below_tr HB.out hb9; have t1 := HV.out.below hb9
  clear HB HV
  have HB := Lib.hid t0; have HV := Lib.hid t1
  clear t0 t1
  clear hb9 
  clear HV
  go_wp2_with fail
  go_at_call 51
  refine (glen_c _).mono ?_
  rintro e w1 ⟨p1, q1, a1, b1, c1, rfl, hv, hb9⟩
  have t0 := below_tr HB.out hb9
  clear HB
  have HB := Lib.hid t0
  clear t0
  have HV := Lib.hid hv
  clear hb9 hv
  go_wp2_with fail
  have hal := (Below.refl w1.heap.size w1).alloc (Nat.le_refl _) (.cells #[.int .i64 0, .int .i64 0, .int .i64 0] 3)
  have hn2 := Blk.new w1 3 #[.int .i64 0, .int .i64 0, .int .i64 0]
  have t0 := below_tr HB.out hal; have t1 := HV.out.below hal
  clear HB HV
  have HB := Lib.hid t0; have HV := Lib.hid t1
  clear t0 t1
  clear hal
  go_at_call 41
  refine (znN_c HV.out (Rd.of_blkE enc1_len hn2 rfl rfl)).mono ?_
  rintro e w1 ⟨rfl, hb9⟩
  have t0 := below_tr HB.out hb9; have t1 := HV.out.below hb9
  clear HB HV
  have HB := Lib.hid t0; have HV := Lib.hid t1
  clear t0 t1
  clear hb9 
  clear hn2
  clear HV
  go_wp2_with fail
  go_at_call 51
  refine (glen_c _).mono ?_
  rintro e w1 ⟨p1, q1, a1, b1, c1, rfl, hv, hb9⟩
  have t0 := below_tr HB.out hb9
  clear HB
  have HB := Lib.hid t0
  clear t0
  have HV := Lib.hid hv
  clear hb9 hv
  go_wp2_with fail
  go_at_call 52
  refine (span_c 2 2 _).mono ?_
  rintro e w1 ⟨rfl, hb9⟩
  have t0 := below_tr HB.out hb9; have t1 := HV.out.below hb9
  clear HB HV
  have HB := Lib.hid t0; have HV := Lib.hid t1
  clear t0 t1
  clear hb9 
  go_wp2_with fail
  have hal := (Below.refl w1.heap.size w1).alloc (Nat.le_refl _) (.cells #[.int .i64 2, .int .i64 2, .int .i64 2] 101)
  have hn2 := Blk.new w1 101 #[.int .i64 2, .int .i64 2, .int .i64 2]
  have t0 := below_tr HB.out hal; have t1 := HV.out.below hal
  clear HB HV
  have HB := Lib.hid t0; have HV := Lib.hid t1
  clear t0 t1
  clear hal
  go_at_call 46
  refine (znHe_c (n := 1) HV.out (Rd.of_blkE (l := [⟨2, 2, 2⟩]) encE_len hn2 rfl rfl) (by omega) (zn_h2 _ _ _) (by decide)).mono ?_
  rintro e w1 ⟨rfl, hb9⟩
  have t0 := below_tr HB.out hb9; have t1 := HV.out.below hb9
  clear HB HV
  have HB := Lib.hid t0; have HV := Lib.hid t1
  clear t0 t1
  clear hb9 
  clear hn2
  clear HV
  go_wp2_with fail
  go_at_call 51
  refine (glen_c _).mono ?_
  rintro e w1 ⟨p1, q1, a1, b1, c1, rfl, hv, hb9⟩
  have t0 := below_tr HB.out hb9
  clear HB
  have HB := Lib.hid t0
  clear t0
  have HV := Lib.hid hv
  clear hb9 hv
  go_wp2_with fail
  have hal := (Below.refl w1.heap.size w1).alloc (Nat.le_refl _) (.cells #[.int .i64 3, .int .i64 0, .int .i64 0] 101)
  have hn2 := Blk.new w1 101 #[.int .i64 3, .int .i64 0, .int .i64 0]
  have t0 := below_tr HB.out hal; have t1 := HV.out.below hal
  clear HB HV
  have HB := Lib.hid t0; have HV := Lib.hid t1
  clear t0 t1
  clear hal
  go_at_call 46
  refine (znHe_c (n := 1) HV.out (Rd.of_blkE (l := [⟨3, 0, 0⟩]) encE_len hn2 rfl rfl) (by omega) (zn_h3 _ _ _) (by decide)).mono ?_
  rintro e w1 ⟨rfl, hb9⟩
  have t0 := below_tr HB.out hb9; have t1 := HV.out.below hb9
  clear HB HV
  have HB := Lib.hid t0; have HV := Lib.hid t1
  clear t0 t1
  clear hb9 
  clear hn2
  clear HV
  have mk21 := mk_e9
  go_upto_region 12 with fail
  refine wp_region_till [] (fun _ => True) (by kernel_rfl) (by (try trivial)) (fun hHeld => ?_)
  have hb9 := (Below.refl w1.heap.size w1).drew
  have t0 := below_tr HB.out hb9
  clear HB
  have HB := Lib.hid t0
  clear t0
  clear hb9
  revert hHeld HB
  generalize w1.drew = w0
  intro hHeld HB
  refine wpAnyL_ready (rs := [0, 1]) (by kernel_rfl) (by simp) ?_
  refine AllReadyL.cons (o := ?o0x1) ?hi0x1 (fun K hK => ?_) (AllReadyL.cons (o := ?o1x1) ?hi1x1 (fun K hK => ?_) AllReadyL.nil)
  (case hi0x1 => (simp only [List.getElem?_toArray, List.getElem?_cons_succ, List.getElem?_cons_zero]; exact rfl))
  (case hi1x1 => (simp only [List.getElem?_toArray, List.getElem?_cons_succ, List.getElem?_cons_zero]; exact rfl))
  · skip
    go_simp
    go_at_call 51
    refine (glen_c _).mono ?_
    rintro e w1 ⟨p1, q1, a1, b1, c1, rfl, hv, hb9⟩
    have t0 := below_tr HB.out hb9
    clear HB
    have HB := Lib.hid t0
    clear t0
    have HV := Lib.hid hv
    clear hb9 hv
    (try go_wp2_with fail)
    (try clear hHeld)
    refine hK.out _ _ (by (try dsimp only); (try trivial)) (fun hHeld => ?_)
    clear hK K
    (try simp only [Act.put, List.setIfInBounds_toArray, List.set_cons_zero, List.set_cons_succ])
    refine wpAnyL_ready (rs := [1]) (by kernel_rfl) (by simp) ?_
    refine AllReadyL.cons (o := ?o1x2) ?hi1x2 (fun K hK => ?_) AllReadyL.nil
    (case hi1x2 => (simp only [List.getElem?_toArray, List.getElem?_cons_succ, List.getElem?_cons_zero]; exact rfl))
    go_simp
    have hal := (Below.refl w1.heap.size w1).alloc (Nat.le_refl _) (.cells (madeCells #[.int .i64 0, .int .i64 0, .int .i64 0] (21 * 3)) 101)
    have hn := Blk.new w1 101 (madeCells #[.int .i64 0, .int .i64 0, .int .i64 0] (21 * 3))
    have t0 := below_tr HB.out hal; have t1 := HV.out.below hal
    clear HB HV
    have HB := Lib.hid t0; have HV := Lib.hid t1
    clear t0 t1
    have HM21 := Lib.hid hn
    clear hal hn
    (try clear hHeld)
    refine hK.out _ _ (by (try dsimp only); (try trivial)) (fun hHeld => ?_)
    clear hK K
    (try simp only [Act.put, List.setIfInBounds_toArray, List.set_cons_zero, List.set_cons_succ])
    revert hHeld HB HV HM21
    generalize hgM : w1.heap.size = gM
    generalize (World.alloc w1 (.cells (madeCells #[.int .i64 0, .int .i64 0, .int .i64 0] (21 * 3)) 101)) = w0
    intro HB HV HM21 hHeld
    clear hgM
    refine wpAnyL_ready (rs := [2]) (by kernel_rfl) (by simp) ?_
    refine AllReadyL.cons (o := ?o2x3) ?hi2x3 (fun K hK => ?_) AllReadyL.nil
    (case hi2x3 => (simp only [List.getElem?_toArray, List.getElem?_cons_succ, List.getElem?_cons_zero]; exact rfl))
    go_simp
    go_at_call 46
    refine (znHe_c HV.out (rd_made (k := 3) (⟨0, 0, 0⟩ : Evd) rfl (by decide) rfl HM21.out) (by omega) (zn_h4 _ _ _) (by decide)).mono ?_
    rintro e w1 ⟨rfl, hb9⟩
    have t0 := below_tr HB.out hb9; have t1 := HV.out.below hb9; have t2 := HM21.out.below hb9 HM21.out.lt
    clear HB HV HM21
    have HB := Lib.hid t0; have HV := Lib.hid t1; have HM21 := Lib.hid t2
    clear t0 t1 t2
    clear hb9 
    clear HM21 HV
    (try go_wp2_with fail)
    (try clear hHeld)
    refine hK.out _ _ (by (try dsimp only); (try trivial)) (fun hHeld => ?_)
    clear hK K
    (try simp only [Act.put, List.setIfInBounds_toArray, List.set_cons_zero, List.set_cons_succ])
    (refine wpAnyL_take (n := 0) (i := 3) (oi := ?ox4) (v := ?vx4) ?hix4 ?k1x4 ?k2x4 ?k3x4 ?k4x4 ?k5x4 ?k6x4 ?hQx4 ?hYx4 ?hSx4 ?restx4; (case hix4 => (simp only [List.getElem?_toArray, List.getElem?_cons_succ, List.getElem?_cons_zero]; exact rfl)); (case k1x4 => kernel_rfl); (case k2x4 => kernel_rfl); (case k3x4 => kernel_rfl); (case k4x4 => kernel_rfl); (case k5x4 => kernel_rfl); (case k6x4 => kernel_rfl); (case hSx4 => assumption); (case hYx4 => (refine Or.inl ⟨rfl, ?hyx4⟩; intro w hSw; (try dsimp only at hSw); go_simp; (try with_reducible rfl))); (case hQx4 => exact (fun _ _ _ h => h)); (try simp only [Act.put, List.setIfInBounds_toArray, List.set_cons_zero, List.set_cons_succ]))
    (refine wpAnyL_take (n := 0) (i := 4) (oi := ?ox5) (v := ?vx5) ?hix5 ?k1x5 ?k2x5 ?k3x5 ?k4x5 ?k5x5 ?k6x5 ?hQx5 ?hYx5 ?hSx5 ?restx5; (case hix5 => (simp only [List.getElem?_toArray, List.getElem?_cons_succ, List.getElem?_cons_zero]; exact rfl)); (case k1x5 => kernel_rfl); (case k2x5 => kernel_rfl); (case k3x5 => kernel_rfl); (case k4x5 => kernel_rfl); (case k5x5 => kernel_rfl); (case k6x5 => kernel_rfl); (case hSx5 => assumption); (case hYx5 => (refine Or.inl ⟨rfl, ?hyx5⟩; intro w hSw; (try dsimp only at hSw); go_simp; (try with_reducible rfl))); (case hQx5 => exact (fun _ _ _ h => h)); (try simp only [Act.put, List.setIfInBounds_toArray, List.set_cons_zero, List.set_cons_succ]))
    (refine wpAnyL_take (n := 0) (i := 5) (oi := ?ox6) (v := ?vx6) ?hix6 ?k1x6 ?k2x6 ?k3x6 ?k4x6 ?k5x6 ?k6x6 ?hQx6 ?hYx6 ?hSx6 ?restx6; (case hix6 => (simp only [List.getElem?_toArray, List.getElem?_cons_succ, List.getElem?_cons_zero]; exact rfl)); (case k1x6 => kernel_rfl); (case k2x6 => kernel_rfl); (case k3x6 => kernel_rfl); (case k4x6 => kernel_rfl); (case k5x6 => kernel_rfl); (case k6x6 => kernel_rfl); (case hSx6 => assumption); (case hYx6 => (refine Or.inl ⟨rfl, ?hyx6⟩; intro w hSw; (try dsimp only at hSw); go_simp; (try with_reducible rfl))); (case hQx6 => exact (fun _ _ _ h => h)); (try simp only [Act.put, List.setIfInBounds_toArray, List.set_cons_zero, List.set_cons_succ]))
    (refine wpAnyL_take (n := 0) (i := 6) (oi := ?ox7) (v := ?vx7) ?hix7 ?k1x7 ?k2x7 ?k3x7 ?k4x7 ?k5x7 ?k6x7 ?hQx7 ?hYx7 ?hSx7 ?restx7; (case hix7 => (simp only [List.getElem?_toArray, List.getElem?_cons_succ, List.getElem?_cons_zero]; exact rfl)); (case k1x7 => kernel_rfl); (case k2x7 => kernel_rfl); (case k3x7 => kernel_rfl); (case k4x7 => kernel_rfl); (case k5x7 => kernel_rfl); (case k6x7 => kernel_rfl); (case hSx7 => assumption); (case hYx7 => (refine Or.inl ⟨rfl, ?hyx7⟩; intro w hSw; (try dsimp only at hSw); go_simp; (try with_reducible rfl))); (case hQx7 => exact (fun _ _ _ h => h)); (try simp only [Act.put, List.setIfInBounds_toArray, List.set_cons_zero, List.set_cons_succ]))
    (refine wpAnyL_done (by kernel_rfl) ?_ _)
    clear hHeld mk21
    go_wp2_with fail
    go_at_call 51
    refine (glen_c _).mono ?_
    rintro e w1 ⟨p1, q1, a1, b1, c1, rfl, hv, hb9⟩
    have t0 := below_tr HB.out hb9
    clear HB
    have HB := Lib.hid t0
    clear t0
    have HV := Lib.hid hv
    clear hb9 hv
    go_wp2_with fail
    go_at_call 44
    refine (znYa_c HV.out).mono ?_
    rintro e w1 ⟨rfl, hb9⟩
    have t0 := below_tr HB.out hb9; have t1 := HV.out.below hb9
    clear HB HV
    have HB := Lib.hid t0; have HV := Lib.hid t1
    clear t0 t1
    clear hb9 
    clear HV
    go_wp2_with fail
    go_at_call 51
    refine (glen_c _).mono ?_
    rintro e w1 ⟨p1, q1, a1, b1, c1, rfl, hv, hb9⟩
    have t0 := below_tr HB.out hb9
    clear HB
    have HB := Lib.hid t0
    clear t0
    have HV := Lib.hid hv
    clear hb9 hv
    go_wp2_with fail
    go_at_call 33
    refine (znBf_c HV.out).mono ?_
    rintro e w1 ⟨rfl, hb9⟩
    have t0 := below_tr HB.out hb9; have t1 := HV.out.below hb9
    clear HB HV
    have HB := Lib.hid t0; have HV := Lib.hid t1
    clear t0 t1
    clear hb9 
    clear HV
    go_wp2_with fail
    go_at_call 51
    refine (glen_c _).mono ?_
    rintro e w1 ⟨p1, q1, a1, b1, c1, rfl, hv, hb9⟩
    have t0 := below_tr HB.out hb9
    clear HB
    have HB := Lib.hid t0
    clear t0
    have HV := Lib.hid hv
    clear hb9 hv
    go_wp2_with fail
    have hal := (Below.refl w1.heap.size w1).alloc (Nat.le_refl _) (.cells #[.slice (some ⟨p1, 0, none⟩) 4 4, .slice none 0 0, .int .i64 10, .int .i64 50, .int .i64 200] 36)
    have t0 := below_tr HB.out hal; have t1 := HV.out.below hal
    clear HB HV
    have HB := Lib.hid t0; have HV := Lib.hid t1
    clear t0 t1
    clear hal
    go_at_call 25
    refine (znPn_c HV.out.pars).mono ?_
    rintro e w1 ⟨rfl, hb9⟩
    have t0 := below_tr HB.out hb9; have t1 := HV.out.below hb9
    clear HB HV
    have HB := Lib.hid t0; have HV := Lib.hid t1
    clear t0 t1
    clear hb9 
    clear HV
    go_wp2_with fail
    go_at_call 51
    refine (glen_c _).mono ?_
    rintro e w1 ⟨p1, q1, a1, b1, c1, rfl, hv, hb9⟩
    have t0 := below_tr HB.out hb9
    clear HB
    have HB := Lib.hid t0
    clear t0
    have HV := Lib.hid hv
    clear hb9 hv
    go_wp2_with fail
    go_at_call 25
    refine (znPf_c HV.out).mono ?_
    rintro e w1 ⟨rfl, hb9⟩
    have t0 := below_tr HB.out hb9; have t1 := HV.out.below hb9
    clear HB HV
    have HB := Lib.hid t0; have HV := Lib.hid t1
    clear t0 t1
    clear hb9 
    clear HV
    go_wp2_with fail
    go_at_call 51
    refine (glen2_c _).mono ?_
    rintro e w1 ⟨p1, q1, a1, b1, c1, rfl, hv, ⟨hv1, hv2⟩, hb9⟩
    have hba := Nat.le_trans HB.out.size hv1; clear hv1; have hv0 := hv
    have t0 := below_tr HB.out hb9
    clear HB
    have HB := Lib.hid t0
    clear t0
    have HV := Lib.hid hv
    clear hb9 hv
    go_upto_region 20 with fail
    have hal := (Below.refl w1.heap.size w1).alloc (Nat.le_refl _) (.cells #[.slice (some ⟨p1, 0, none⟩) 4 4, .slice (some ⟨q1, 0, none⟩) 3 3, .int .i64 10, .int .i64 50, .int .i64 200] 36)
    have hn := Blk.new w1 36 #[.slice (some ⟨p1, 0, none⟩) 4 4, .slice (some ⟨q1, 0, none⟩) 3 3, .int .i64 10, .int .i64 50, .int .i64 200]
    have t0 := below_tr HB.out hal; have t1 := HV.out.below hal
    clear HB HV
    have HB := Lib.hid t0; have HV := Lib.hid t1
    clear t0 t1
    clear hal
    have HX := Lib.hid hn
    have hfz : (World.alloc w1 (.cells #[.slice (some ⟨p1, 0, none⟩) 4 4, .slice (some ⟨q1, 0, none⟩) 3 3, .int .i64 10, .int .i64 50, .int .i64 200] 36)).frozen? ⟨a1, 2, none⟩ = false := by rw [World.frozen?_alloc_past _ _ _ (by obtain ⟨ba, oa, ea, hla, _⟩ := (hv0.way 0 _ rfl).1.2 (by simp); cases ea; exact hla)]; exact hv2
    clear hv2 hv0
    clear hn
    revert hfz HB HV HX
    generalize hg2 : w1.heap.size = gX
    generalize (World.alloc w1 (.cells #[.slice (some ⟨p1, 0, none⟩) 4 4, .slice (some ⟨q1, 0, none⟩) 3 3, .int .i64 10, .int .i64 50, .int .i64 200] 36)) = w1
    intro HB HV HX hfz
    clear hg2
    obtain ⟨bq, oq, eq, hlq, hkq⟩ := HV.out.sls.2 (by simp)
    cases eq
    have y0 := hkq 0 _ rfl 0 _ rfl
    obtain ⟨ba, oa, ea, hla, hka⟩ := (HV.out.way 0 _ rfl).1.2 (by simp)
    cases ea
    have z2 := hka 2 _ rfl 0 _ rfl
    have z0 := hka 0 _ rfl 0 _ rfl
    have x0 := HX.out.cell 0; have x1 := HX.out.cell 1; have x2 := HX.out.cell 2; have x3 := HX.out.cell 3; have x4 := HX.out.cell 4
    simp at x0 x1 x2 x3 x4 y0 z2 z0
    have hga : gX ≠ a1 := by rintro rfl; rw [x0] at z0; simp at z0
    clear hkq hka z0 hlq x0 x2 x3 x4
    go_upto_region 21 with fail
    have hb9 := HB.out.setCell (p := ⟨a1, 2, none⟩) hba (.int .i64 2)
    have hv9 := odd_rd HV.out
    have hx9 := HX.out.far (p := ⟨a1, 2, none⟩) hga (.int .i64 2)
    clear HB HV HX y0 x1 z2 hfz hba hga hla
    have HB := Lib.hid hb9; have HV := Lib.hid hv9; have HX := Lib.hid hx9
    clear hb9 hv9 hx9
    revert HB HV HX
    generalize (World.setCell w1 ⟨a1, 2, none⟩ (.int .i64 2)) = w1
    intro HB HV HX
    have x0 := HX.out.cell 0; have x1 := HX.out.cell 1; have x2 := HX.out.cell 2; have x3 := HX.out.cell 3; have x4 := HX.out.cell 4
    simp at x0 x1 x2 x3 x4
    have mk11 := mk_s9
    go_wp2_with fail
    go_at_call 40
    refine (znO_c HV.out).mono ?_
    rintro e w1 ⟨rfl, hb9⟩
    have t0 := below_tr HB.out hb9; have t1 := HV.out.below hb9; have t2 := HX.out.below hb9 HX.out.lt
    clear HB HV HX
    have HB := Lib.hid t0; have HV := Lib.hid t1; have HX := Lib.hid t2
    clear t0 t1 t2
    clear hb9 
    clear HV HX
    clear x0 x1 x2 x3 x4
    go_wp2_with fail
    go_at_call 40
    refine (znE_c _).mono ?_
    rintro e w1 ⟨rfl, hb9⟩
    have t0 := below_tr HB.out hb9
    clear HB
    have HB := Lib.hid t0
    clear t0
    clear hb9 
    go_wp2_with fail
    have hal := (Below.refl w1.heap.size w1).alloc (Nat.le_refl _) (.cells (madeCells #[.slice none 0 0, .int .i64 0, .int .i64 0, .int .i64 0] (11 * 4)) 103)
    have hn := Blk.new w1 103 (madeCells #[.slice none 0 0, .int .i64 0, .int .i64 0, .int .i64 0] (11 * 4))
    have t0 := below_tr HB.out hal
    clear HB
    have HB := Lib.hid t0
    clear t0
    clear hal
    go_at_call 40
    refine (znL_c (rd_made (k := 4) sli0 rfl (by decide) rfl hn)).mono ?_
    rintro e w1 ⟨rfl, hb9⟩
    have t0 := below_tr HB.out hb9
    clear HB
    have HB := Lib.hid t0
    clear t0
    clear hb9 
    clear hn mk11
    go_wp2_with fail
    go_at_call 18
    refine (wakes_ok _).mono ?_
    rintro e w1 ⟨rfl, hb9⟩
    have t0 := below_tr HB.out hb9
    clear HB
    have HB := Lib.hid t0
    clear t0
    clear hb9 
    go_wp2_with fail
    go_ret
    exact ⟨rfl, HB.out⟩
  · skip
    go_simp
    have hal := (Below.refl w0.heap.size w0).alloc (Nat.le_refl _) (.cells (madeCells #[.int .i64 0, .int .i64 0, .int .i64 0] (21 * 3)) 101)
    have hn := Blk.new w0 101 (madeCells #[.int .i64 0, .int .i64 0, .int .i64 0] (21 * 3))
    have t0 := below_tr HB.out hal
    clear HB
    have HB := Lib.hid t0
    clear t0
    have HM21 := Lib.hid hn
    clear hal hn
    (try clear hHeld)
    refine hK.out _ _ (by (try dsimp only); (try trivial)) (fun hHeld => ?_)
    clear hK K
    (try simp only [Act.put, List.setIfInBounds_toArray, List.set_cons_zero, List.set_cons_succ])
    revert hHeld HB HM21
    generalize hgM : w0.heap.size = gM
    generalize (World.alloc w0 (.cells (madeCells #[.int .i64 0, .int .i64 0, .int .i64 0] (21 * 3)) 101)) = w0
    intro HB HM21 hHeld
    clear hgM
    refine wpAnyL_ready (rs := [0]) (by kernel_rfl) (by simp) ?_
    refine AllReadyL.cons (o := ?o0x8) ?hi0x8 (fun K hK => ?_) AllReadyL.nil
    (case hi0x8 => (simp only [List.getElem?_toArray, List.getElem?_cons_succ, List.getElem?_cons_zero]; exact rfl))
    go_simp
    go_at_call 51
    refine (glen_c _).mono ?_
    rintro e w1 ⟨p1, q1, a1, b1, c1, rfl, hv, hb9⟩
    have t0 := below_tr HB.out hb9; have t1 := HM21.out.below hb9 HM21.out.lt
    clear HB HM21
    have HB := Lib.hid t0; have HM21 := Lib.hid t1
    clear t0 t1
    have HV := Lib.hid hv
    clear hb9 hv
    (try go_wp2_with fail)
    (try clear hHeld)
    refine hK.out _ _ (by (try dsimp only); (try trivial)) (fun hHeld => ?_)
    clear hK K
    (try simp only [Act.put, List.setIfInBounds_toArray, List.set_cons_zero, List.set_cons_succ])
    refine wpAnyL_ready (rs := [2]) (by kernel_rfl) (by simp) ?_
    refine AllReadyL.cons (o := ?o2x9) ?hi2x9 (fun K hK => ?_) AllReadyL.nil
    (case hi2x9 => (simp only [List.getElem?_toArray, List.getElem?_cons_succ, List.getElem?_cons_zero]; exact rfl))
    go_simp
    go_at_call 46
    refine (znHe_c HV.out (rd_made (k := 3) (⟨0, 0, 0⟩ : Evd) rfl (by decide) rfl HM21.out) (by omega) (zn_h4 _ _ _) (by decide)).mono ?_
    rintro e w1 ⟨rfl, hb9⟩
    have t0 := below_tr HB.out hb9; have t1 := HM21.out.below hb9 HM21.out.lt; have t2 := HV.out.below hb9
    clear HB HM21 HV
    have HB := Lib.hid t0; have HM21 := Lib.hid t1; have HV := Lib.hid t2
    clear t0 t1 t2
    clear hb9 
    clear HM21 HV
    (try go_wp2_with fail)
    (try clear hHeld)
    refine hK.out _ _ (by (try dsimp only); (try trivial)) (fun hHeld => ?_)
    clear hK K
    (try simp only [Act.put, List.setIfInBounds_toArray, List.set_cons_zero, List.set_cons_succ])
    (refine wpAnyL_take (n := 0) (i := 3) (oi := ?ox10) (v := ?vx10) ?hix10 ?k1x10 ?k2x10 ?k3x10 ?k4x10 ?k5x10 ?k6x10 ?hQx10 ?hYx10 ?hSx10 ?restx10; (case hix10 => (simp only [List.getElem?_toArray, List.getElem?_cons_succ, List.getElem?_cons_zero]; exact rfl)); (case k1x10 => kernel_rfl); (case k2x10 => kernel_rfl); (case k3x10 => kernel_rfl); (case k4x10 => kernel_rfl); (case k5x10 => kernel_rfl); (case k6x10 => kernel_rfl); (case hSx10 => assumption); (case hYx10 => (refine Or.inl ⟨rfl, ?hyx10⟩; intro w hSw; (try dsimp only at hSw); go_simp; (try with_reducible rfl))); (case hQx10 => exact (fun _ _ _ h => h)); (try simp only [Act.put, List.setIfInBounds_toArray, List.set_cons_zero, List.set_cons_succ]))
    (refine wpAnyL_take (n := 0) (i := 4) (oi := ?ox11) (v := ?vx11) ?hix11 ?k1x11 ?k2x11 ?k3x11 ?k4x11 ?k5x11 ?k6x11 ?hQx11 ?hYx11 ?hSx11 ?restx11; (case hix11 => (simp only [List.getElem?_toArray, List.getElem?_cons_succ, List.getElem?_cons_zero]; exact rfl)); (case k1x11 => kernel_rfl); (case k2x11 => kernel_rfl); (case k3x11 => kernel_rfl); (case k4x11 => kernel_rfl); (case k5x11 => kernel_rfl); (case k6x11 => kernel_rfl); (case hSx11 => assumption); (case hYx11 => (refine Or.inl ⟨rfl, ?hyx11⟩; intro w hSw; (try dsimp only at hSw); go_simp; (try with_reducible rfl))); (case hQx11 => exact (fun _ _ _ h => h)); (try simp only [Act.put, List.setIfInBounds_toArray, List.set_cons_zero, List.set_cons_succ]))
    (refine wpAnyL_take (n := 0) (i := 5) (oi := ?ox12) (v := ?vx12) ?hix12 ?k1x12 ?k2x12 ?k3x12 ?k4x12 ?k5x12 ?k6x12 ?hQx12 ?hYx12 ?hSx12 ?restx12; (case hix12 => (simp only [List.getElem?_toArray, List.getElem?_cons_succ, List.getElem?_cons_zero]; exact rfl)); (case k1x12 => kernel_rfl); (case k2x12 => kernel_rfl); (case k3x12 => kernel_rfl); (case k4x12 => kernel_rfl); (case k5x12 => kernel_rfl); (case k6x12 => kernel_rfl); (case hSx12 => assumption); (case hYx12 => (refine Or.inl ⟨rfl, ?hyx12⟩; intro w hSw; (try dsimp only at hSw); go_simp; (try with_reducible rfl))); (case hQx12 => exact (fun _ _ _ h => h)); (try simp only [Act.put, List.setIfInBounds_toArray, List.set_cons_zero, List.set_cons_succ]))
    (refine wpAnyL_take (n := 0) (i := 6) (oi := ?ox13) (v := ?vx13) ?hix13 ?k1x13 ?k2x13 ?k3x13 ?k4x13 ?k5x13 ?k6x13 ?hQx13 ?hYx13 ?hSx13 ?restx13; (case hix13 => (simp only [List.getElem?_toArray, List.getElem?_cons_succ, List.getElem?_cons_zero]; exact rfl)); (case k1x13 => kernel_rfl); (case k2x13 => kernel_rfl); (case k3x13 => kernel_rfl); (case k4x13 => kernel_rfl); (case k5x13 => kernel_rfl); (case k6x13 => kernel_rfl); (case hSx13 => assumption); (case hYx13 => (refine Or.inl ⟨rfl, ?hyx13⟩; intro w hSw; (try dsimp only at hSw); go_simp; (try with_reducible rfl))); (case hQx13 => exact (fun _ _ _ h => h)); (try simp only [Act.put, List.setIfInBounds_toArray, List.set_cons_zero, List.set_cons_succ]))
    (refine wpAnyL_done (by kernel_rfl) ?_ _)
    clear hHeld mk21
    go_wp2_with fail
    go_at_call 51
    refine (glen_c _).mono ?_
    rintro e w1 ⟨p1, q1, a1, b1, c1, rfl, hv, hb9⟩
    have t0 := below_tr HB.out hb9
    clear HB
    have HB := Lib.hid t0
    clear t0
    have HV := Lib.hid hv
    clear hb9 hv
    go_wp2_with fail
    go_at_call 44
    refine (znYa_c HV.out).mono ?_
    rintro e w1 ⟨rfl, hb9⟩
    have t0 := below_tr HB.out hb9; have t1 := HV.out.below hb9
    clear HB HV
    have HB := Lib.hid t0; have HV := Lib.hid t1
    clear t0 t1
    clear hb9 
    clear HV
    go_wp2_with fail
    go_at_call 51
    refine (glen_c _).mono ?_
    rintro e w1 ⟨p1, q1, a1, b1, c1, rfl, hv, hb9⟩
    have t0 := below_tr HB.out hb9
    clear HB
    have HB := Lib.hid t0
    clear t0
    have HV := Lib.hid hv
    clear hb9 hv
    go_wp2_with fail
    go_at_call 33
    refine (znBf_c HV.out).mono ?_
    rintro e w1 ⟨rfl, hb9⟩
    have t0 := below_tr HB.out hb9; have t1 := HV.out.below hb9
    clear HB HV
    have HB := Lib.hid t0; have HV := Lib.hid t1
    clear t0 t1
    clear hb9 
    clear HV
    go_wp2_with fail
    go_at_call 51
    refine (glen_c _).mono ?_
    rintro e w1 ⟨p1, q1, a1, b1, c1, rfl, hv, hb9⟩
    have t0 := below_tr HB.out hb9
    clear HB
    have HB := Lib.hid t0
    clear t0
    have HV := Lib.hid hv
    clear hb9 hv
    go_wp2_with fail
    have hal := (Below.refl w1.heap.size w1).alloc (Nat.le_refl _) (.cells #[.slice (some ⟨p1, 0, none⟩) 4 4, .slice none 0 0, .int .i64 10, .int .i64 50, .int .i64 200] 36)
    have t0 := below_tr HB.out hal; have t1 := HV.out.below hal
    clear HB HV
    have HB := Lib.hid t0; have HV := Lib.hid t1
    clear t0 t1
    clear hal
    go_at_call 25
    refine (znPn_c HV.out.pars).mono ?_
    rintro e w1 ⟨rfl, hb9⟩
    have t0 := below_tr HB.out hb9; have t1 := HV.out.below hb9
    clear HB HV
    have HB := Lib.hid t0; have HV := Lib.hid t1
    clear t0 t1
    clear hb9 
    clear HV
    go_wp2_with fail
    go_at_call 51
    refine (glen_c _).mono ?_
    rintro e w1 ⟨p1, q1, a1, b1, c1, rfl, hv, hb9⟩
    have t0 := below_tr HB.out hb9
    clear HB
    have HB := Lib.hid t0
    clear t0
    have HV := Lib.hid hv
    clear hb9 hv
    go_wp2_with fail
    go_at_call 25
    refine (znPf_c HV.out).mono ?_
    rintro e w1 ⟨rfl, hb9⟩
    have t0 := below_tr HB.out hb9; have t1 := HV.out.below hb9
    clear HB HV
    have HB := Lib.hid t0; have HV := Lib.hid t1
    clear t0 t1
    clear hb9 
    clear HV
    go_wp2_with fail
    go_at_call 51
    refine (glen2_c _).mono ?_
    rintro e w1 ⟨p1, q1, a1, b1, c1, rfl, hv, ⟨hv1, hv2⟩, hb9⟩
    have hba := Nat.le_trans HB.out.size hv1; clear hv1; have hv0 := hv
    have t0 := below_tr HB.out hb9
    clear HB
    have HB := Lib.hid t0
    clear t0
    have HV := Lib.hid hv
    clear hb9 hv
    go_upto_region 20 with fail
    have hal := (Below.refl w1.heap.size w1).alloc (Nat.le_refl _) (.cells #[.slice (some ⟨p1, 0, none⟩) 4 4, .slice (some ⟨q1, 0, none⟩) 3 3, .int .i64 10, .int .i64 50, .int .i64 200] 36)
    have hn := Blk.new w1 36 #[.slice (some ⟨p1, 0, none⟩) 4 4, .slice (some ⟨q1, 0, none⟩) 3 3, .int .i64 10, .int .i64 50, .int .i64 200]
    have t0 := below_tr HB.out hal; have t1 := HV.out.below hal
    clear HB HV
    have HB := Lib.hid t0; have HV := Lib.hid t1
    clear t0 t1
    clear hal
    have HX := Lib.hid hn
    have hfz : (World.alloc w1 (.cells #[.slice (some ⟨p1, 0, none⟩) 4 4, .slice (some ⟨q1, 0, none⟩) 3 3, .int .i64 10, .int .i64 50, .int .i64 200] 36)).frozen? ⟨a1, 2, none⟩ = false := by rw [World.frozen?_alloc_past _ _ _ (by obtain ⟨ba, oa, ea, hla, _⟩ := (hv0.way 0 _ rfl).1.2 (by simp); cases ea; exact hla)]; exact hv2
    clear hv2 hv0
    clear hn
    revert hfz HB HV HX
    generalize hg2 : w1.heap.size = gX
    generalize (World.alloc w1 (.cells #[.slice (some ⟨p1, 0, none⟩) 4 4, .slice (some ⟨q1, 0, none⟩) 3 3, .int .i64 10, .int .i64 50, .int .i64 200] 36)) = w1
    intro HB HV HX hfz
    clear hg2
    obtain ⟨bq, oq, eq, hlq, hkq⟩ := HV.out.sls.2 (by simp)
    cases eq
    have y0 := hkq 0 _ rfl 0 _ rfl
    obtain ⟨ba, oa, ea, hla, hka⟩ := (HV.out.way 0 _ rfl).1.2 (by simp)
    cases ea
    have z2 := hka 2 _ rfl 0 _ rfl
    have z0 := hka 0 _ rfl 0 _ rfl
    have x0 := HX.out.cell 0; have x1 := HX.out.cell 1; have x2 := HX.out.cell 2; have x3 := HX.out.cell 3; have x4 := HX.out.cell 4
    simp at x0 x1 x2 x3 x4 y0 z2 z0
    have hga : gX ≠ a1 := by rintro rfl; rw [x0] at z0; simp at z0
    clear hkq hka z0 hlq x0 x2 x3 x4
    go_upto_region 21 with fail
    have hb9 := HB.out.setCell (p := ⟨a1, 2, none⟩) hba (.int .i64 2)
    have hv9 := odd_rd HV.out
    have hx9 := HX.out.far (p := ⟨a1, 2, none⟩) hga (.int .i64 2)
    clear HB HV HX y0 x1 z2 hfz hba hga hla
    have HB := Lib.hid hb9; have HV := Lib.hid hv9; have HX := Lib.hid hx9
    clear hb9 hv9 hx9
    revert HB HV HX
    generalize (World.setCell w1 ⟨a1, 2, none⟩ (.int .i64 2)) = w1
    intro HB HV HX
    have x0 := HX.out.cell 0; have x1 := HX.out.cell 1; have x2 := HX.out.cell 2; have x3 := HX.out.cell 3; have x4 := HX.out.cell 4
    simp at x0 x1 x2 x3 x4
    have mk11 := mk_s9
    go_wp2_with fail
    go_at_call 40
    refine (znO_c HV.out).mono ?_
    rintro e w1 ⟨rfl, hb9⟩
    have t0 := below_tr HB.out hb9; have t1 := HV.out.below hb9; have t2 := HX.out.below hb9 HX.out.lt
    clear HB HV HX
    have HB := Lib.hid t0; have HV := Lib.hid t1; have HX := Lib.hid t2
    clear t0 t1 t2
    clear hb9 
    clear HV HX
    clear x0 x1 x2 x3 x4
    go_wp2_with fail
    go_at_call 40
    refine (znE_c _).mono ?_
    rintro e w1 ⟨rfl, hb9⟩
    have t0 := below_tr HB.out hb9
    clear HB
    have HB := Lib.hid t0
    clear t0
    clear hb9 
    go_wp2_with fail
    have hal := (Below.refl w1.heap.size w1).alloc (Nat.le_refl _) (.cells (madeCells #[.slice none 0 0, .int .i64 0, .int .i64 0, .int .i64 0] (11 * 4)) 103)
    have hn := Blk.new w1 103 (madeCells #[.slice none 0 0, .int .i64 0, .int .i64 0, .int .i64 0] (11 * 4))
    have t0 := below_tr HB.out hal
    clear HB
    have HB := Lib.hid t0
    clear t0
    clear hal
    go_at_call 40
    refine (znL_c (rd_made (k := 4) sli0 rfl (by decide) rfl hn)).mono ?_
    rintro e w1 ⟨rfl, hb9⟩
    have t0 := below_tr HB.out hb9
    clear HB
    have HB := Lib.hid t0
    clear t0
    clear hb9 
    clear hn mk11
    go_wp2_with fail
    go_at_call 18
    refine (wakes_ok _).mono ?_
    rintro e w1 ⟨rfl, hb9⟩
    have t0 := below_tr HB.out hb9
    clear HB
    have HB := Lib.hid t0
    clear t0
    clear hb9 
    go_wp2_with fail
    go_ret
    exact ⟨rfl, HB.out⟩
end Go.Proofs.Ytphdndiikikecaa
