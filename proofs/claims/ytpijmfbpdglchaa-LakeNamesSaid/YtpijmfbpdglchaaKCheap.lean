/- THE CONTRACT of Cheapest. -/
import Derived.Test.YtpijmfbpdglchaaKChoices
import Derived.Test.YtpijmfbpdglchaaKKeys
import Derived.Test.YtpijmfbpdglchaaKFirst
import Derived.Test.YtpijmfbpdglchaaKWorked
import Derived.Test.YtpijmfbpdglchaaKPlain
set_option linter.unusedVariables false
set_option linter.unusedSimpArgs false
namespace Go.Proofs.Ytpijmfbpdglchaa
open Go.RowKit Go.Proofs
attribute [local go_sem ↓] Go.wp_at_zero Go.wp_at_succ

/-- what each hour's works take together, in the first k hours -/
def keyTo (ws : List Wrk) (c : List Int) (k : Nat) : List Int := (List.range 60).map fun (i : Nat) => if i < k then outAt ws c (i : Int) else 0
theorem keyTo_get {ws : List Wrk} {c : List Int} {k i : Nat} (hi : i < 60) : (keyTo ws c k)[i]? = some (if i < k then outAt ws c (i : Int) else 0) := by simp [keyTo, List.getElem?_range hi]
theorem keyTo_len (ws : List Wrk) (c : List Int) (k : Nat) : (keyTo ws c k).length = 60 := by simp [keyTo]
theorem keyTo_ok {ws : List Wrk} (hw : WOk ws) {c : List Int} (hc : choB ws.length c = true) (k : Nat) : OkK (keyTo ws c k) := by
  refine ⟨keyTo_len _ _ _, fun x hx => ?_⟩
  simp only [keyTo, List.mem_map, List.mem_range] at hx
  obtain ⟨i, _, rfl⟩ := hx
  have := outAt_bd hw hc (i : Int)
  split <;> omega
theorem keyTo_set (ws : List Wrk) (c : List Int) {k : Nat} (hk : k < 60) : (keyC (keyTo ws c k)).setIfInBounds k (.int .i64 (outAt ws c (k : Int))) = keyC (keyTo ws c (k + 1)) := by
  apply Array.ext_getElem?
  intro i
  simp only [Array.getElem?_setIfInBounds, keyC_size, keyTo_len]
  simp only [keyC, List.getElem?_toArray, List.getElem?_map]
  by_cases h : k = i
  · subst h
    rw [if_pos rfl, if_pos hk, keyTo_get hk, if_pos (by omega)]; rfl
  · rw [if_neg h]
    rcases Nat.lt_or_ge i 60 with h2 | h2
    · rw [keyTo_get h2, keyTo_get h2]
      by_cases h3 : i < k
      · rw [if_pos h3, if_pos (by omega)]
      · rw [if_neg h3, if_neg (by omega)]
    · rw [List.getElem?_eq_none (by rw [keyTo_len]; omega), List.getElem?_eq_none (by rw [keyTo_len]; omega)]
theorem keyTo_same {l : Lak} {ws : List Wrk} {c d : List Int} (hl : l.inflow.length ≤ 60) (h : keyTo ws c l.inflow.length = keyTo ws d l.inflow.length) : enB l ws c = enB l ws d := by
  refine enB_congr (netL_congr fun k hk => ?_)
  have h1 : (keyTo ws c l.inflow.length)[k]? = (keyTo ws d l.inflow.length)[k]? := by rw [h]
  rw [keyTo_get (by omega), keyTo_get (by omega), if_pos hk, if_pos hk] at h1
  exact Option.some.inj h1
theorem keyTo_zero (ws : List Wrk) (c : List Int) : keyC (keyTo ws c 0) = #[.int .i64 0, .int .i64 0, .int .i64 0, .int .i64 0, .int .i64 0, .int .i64 0, .int .i64 0, .int .i64 0, .int .i64 0, .int .i64 0, .int .i64 0, .int .i64 0, .int .i64 0, .int .i64 0, .int .i64 0, .int .i64 0, .int .i64 0, .int .i64 0, .int .i64 0, .int .i64 0, .int .i64 0, .int .i64 0, .int .i64 0, .int .i64 0, .int .i64 0, .int .i64 0, .int .i64 0, .int .i64 0, .int .i64 0, .int .i64 0, .int .i64 0, .int .i64 0, .int .i64 0, .int .i64 0, .int .i64 0, .int .i64 0, .int .i64 0, .int .i64 0, .int .i64 0, .int .i64 0, .int .i64 0, .int .i64 0, .int .i64 0, .int .i64 0, .int .i64 0, .int .i64 0, .int .i64 0, .int .i64 0, .int .i64 0, .int .i64 0, .int .i64 0, .int .i64 0, .int .i64 0, .int .i64 0, .int .i64 0, .int .i64 0, .int .i64 0, .int .i64 0, .int .i64 0, .int .i64 0] := by
  have h : keyTo ws c 0 = List.replicate 60 0 := by
    apply List.ext_getElem?
    intro i
    rcases Nat.lt_or_ge i 60 with h2 | h2
    · rw [keyTo_get h2, if_neg (by omega), List.getElem?_replicate, if_pos h2]
    · rw [List.getElem?_eq_none (by rw [keyTo_len]; omega), List.getElem?_eq_none (by simp; omega)]
  rw [h]; rfl
theorem cell_map {w : World} {M o : Nat} {es : Array MapEntry} {c : Nat} (h : w.heap[M]? = some (.map es c)) : w.cell? ⟨M, o, none⟩ = none := by simp [World.cell?, h]
theorem MapK.map {w : World} {M n : Nat} {T : List Int → Bool} (h : MapK w M n T) : ∃ es c, w.heap[M]? = some (.map es c) := by
  obtain ⟨D, ⟨es, cl, h1, _⟩, _⟩ := h; exact ⟨es, cl, h1⟩
theorem Rd.frMap {α : Type} {enc : α → List Value} {q : Nat} {w w' : World} {A : Option Addr} {n M : Nat} {l : List α} (h : Rd enc q w A n l) (he : ∀ x, 0 < (enc x).length) (hm : ∃ es c, w.heap[M]? = some (.map es c)) (hf : Fr (fun g => g = M) w w') : Rd enc q w' A n l :=
  ⟨h.1, fun hn => by
    obtain ⟨b, o, e, hlt, hc⟩ := h.2 hn
    have hb : b ≠ M := by
      rintro rfl
      obtain ⟨es, c, hm⟩ := hm
      have hx := List.getElem?_eq_getElem (show 0 < l.length by have := h.1; omega)
      have hv := List.getElem?_eq_getElem (he (l[0]'(by have := h.1; omega)))
      have := hc 0 _ hx 0 _ hv
      rw [cell_map hm] at this; cases this
    refine ⟨b, o, e, Nat.lt_of_lt_of_le hlt hf.size, fun i x hx j v hv => ?_⟩
    rw [World.cell?_of_block (w := w) (a := ⟨b, _, none⟩) (hf.block b hlt hb)]
    exact hc i x hx j v hv⟩
theorem MapK.fr {w w' : World} {M n : Nat} {T : List Int → Bool} {P : Nat → Prop} (h : MapK w M n T) (hf : Fr P w w') (hM : ¬ P M) : MapK w' M n T := by
  obtain ⟨D, ⟨es, cl, h1, h3⟩, h2⟩ := h
  exact ⟨D, ⟨es, cl, hf.kept h1 hM, h3⟩, h2⟩
theorem rangeK {w : World} {g : Nat} {F : List Int} (h : Blk w g 128 (keyC F)) : w.rangeAt g 0 (F.map fun n => Value.int .i64 n) := fun i v hv => by
  have := h.cell i
  simp only [Nat.zero_add]
  rw [this]; simpa [keyC] using hv
/-- the answer of Cheapest for a valid lake -/
def CheP (w : World) (l : Lak) (ws : List Wrk) (e : Ending) (w' : World) : Prop :=
  ((∃ A n c b, e = .returned (.tuple #[.slice A n c, .int .i64 (priceC ws b), .int .i64 0]) ∧ n ≤ 10 ∧ Rd enc1 1 w' A n b ∧ Best l ws b) ∨ ((∀ c, choB ws.length c = true → enB l ws c = false) ∧ e = .returned (.tuple #[.slice none 0 0, .int .i64 0, .int .i64 9]))) ∧ Below w.heap.size w w'
section
variable {VA IA WA CA : Option Addr} {nV nI nW nC cV cI cW cC : Nat} {l : Lak} {ws : List Wrk} {c : List Int} {w : World}
set_option maxRecDepth 100000 in
set_option maxHeartbeats 4000000 in
theorem Cheapest_c (hL : RdL w VA nV IA nI l) (hW : Rd encW 3 w WA nW ws) (hcV : nV ≤ cV) (hcI : nI ≤ cI) (hok : LOk l) (hwk : WOk ws) :
    Calls Try.prog 19 #[.agg (lA VA nV cV IA nI cI l), .slice WA nW cW] w (CheP w l ws) := by
  have hvl := hL.vols.len; have hil := hL.infl.len; have hwl := hW.len
  have h30 := hok.n; have h60 := hok.h; have h10 := hwk.n
  have hP : RdP w VA nV IA nI l WA nW ws none 0 [] := ⟨hL, hW, Rd.nil _ _ _ _⟩
  have hb := (Below.refl w.heap.size w).alloc (Nat.le_refl _) (.cells (lA VA nV cV IA nI cI l) 38)
  have HC := Lib.hid (worked_c (cV := cV) (cI := cI) (cW := cW) (cC := 0) (hP.below hb) hcV hcI (by unfold maxLen; omega) (by unfold maxLen; omega) (by unfold maxLen; omega) (by unfold maxLen; omega))
  rw [show errA l ws [] = 0 from errA_zero.2 ⟨hok, hwk, rfl⟩] at HC
  have HX := Lib.hid (Blk.new w 38 (lA VA nV cV IA nI cI l))
  have HB := Lib.hid hb; have HL := Lib.hid hL; have HW := Lib.hid hW; have HOK := Lib.hid hok; have HWK := Lib.hid hwk
  have HCH := Lib.hid (fun (U : World) (hU : Below w.heap.size w U) => choices_c (cW := cW) (hW.below hU) hwk)
  clear hb hP hL hW hok hwk
  go_enter Try.func19, Try.ntmps19
  go_wp2_with fail
  refine HC.out.mono ?_
  rintro e w1 ⟨rfl, hb1⟩
  have HX1 := Lib.hid (HX.out.below hb1 (by simp))
  have HB1 := Lib.hid (below_tr HB.out hb1)
  have hs1 := HB1.out.size
  have hs1x := HX1.out.lt
  obtain ⟨W2, hW2⟩ : ∃ W2, W2 = w1.alloc (.map #[] 0) := ⟨_, rfl⟩
  have hm2 := MapK.made w1
  have HX2 := Lib.hid (HX1.out.alloc (.map #[] 0))
  have hb2 := HB1.out.alloc hs1 (.map #[] 0)
  rw [← hW2] at hm2 hb2
  have HM2 := Lib.hid hm2; have HB2 := Lib.hid hb2; have HW2 := Lib.hid hW2
  rw [← hW2] at HX2
  have hmm := @run_makeMap Try.prog
  clear hb1 hm2 hb2 hW2
  go_wp2_with fail
  rw [← HW2.out]
  refine (HCH.out _ HB2.out).mono ?_
  intro e w3 hch
  obtain ⟨A, N, cN, s, rfl, hN, hrd, hel, hpw, hpm, hb3⟩ := hch
  have HRD := Lib.hid hrd; have HEL := Lib.hid hel; have HPW := Lib.hid hpw; have HPM := Lib.hid hpm
  have HX3 := Lib.hid (HX2.out.below hb3 HX2.out.lt); have HM3 := Lib.hid (HM2.out.below hb3); have HB3 := Lib.hid (below_tr HB2.out hb3)
  have hNI : (N : Int) ≤ 1024 := by omega
  clear hrd hel hpw hpm hb3 HC HX HX1 HX2 HM2 HB HB1
  go_wp2_with fail
  go_loopw [24] (fun i wr => ∃ (k m : Nat) (T : List Int → Bool), k ≤ N ∧ m ≤ k ∧ i = .int .i64 k ∧ MapK wr w1.heap.size m T ∧ Blk wr w.heap.size 38 (lA VA nV cV IA nI cI l) ∧ Fr (fun g => g = w1.heap.size) w3 wr ∧ (∀ F, T F = true → ∃ (j : Nat) (x : Chc), j < k ∧ s[j]? = some x ∧ F = keyTo ws x.l nI) ∧ (∀ (j : Nat) (x : Chc), j < k → s[j]? = some x → enB l ws x.l = false)) (fun i _ => N - (intOf i).toNat)
  case atStart => exact ⟨0, 0, (fun _ => false), Nat.zero_le _, Nat.le_refl _, rfl, HM3.out, HX3.out, Fr.refl _ _, fun _ h => absurd h (by simp), fun j x hj => absurd hj (by omega)⟩
  case round =>
    obtain ⟨k, m, T, hk, hmk, rfl, hmp, hxb, hfr, hT, hall⟩ := hrel
    obtain ⟨WQ, hWQ⟩ : ∃ WQ, WQ = wr := ⟨_, rfl⟩
    subst hWQ
    have HMP := Lib.hid hmp; have HXB := Lib.hid hxb; have HFR := Lib.hid hfr; have HT := Lib.hid hT; have HALL := Lib.hid hall
    clear hmp hT hall
    by_cases hlt : k < N
    · have hbN : w3.heap.size ≤ WQ.heap.size := HFR.out.size
      have HMM := Lib.hid HM3.out.map
      have hrd2 := HRD.out.frMap (fun x => by rw [encC_len]; omega) HMM.out HFR.out
      obtain ⟨b, o, x, hA, hbl, hx, hc⟩ := hrd2.at_ hlt
      subst hA
      have e0 := hc 0 _ rfl; have e1 := hc 1 _ rfl
      have hxm := HEL.out x (List.mem_of_getElem? hx)
      have hxr := hxm.1.frMap (fun x => by rw [enc1_len]; omega) HMM.out HFR.out
      have hxc : choB nW x.l = true := by
        rw [← treeC_mem]
        exact HPM.out.mem_iff.1 (List.mem_map_of_mem (List.mem_of_getElem? hx))
      have hxcw : choB ws.length x.l = true := by rw [hwl]; exact hxc
      have hkn : (k : Int) < (N : Int) := by omega
      have hk0 : (0 : Int) ≤ (k : Int) := by omega
      rw [Nat.add_zero] at e0
      have pc : ∀ i, WQ.cell? ⟨w.heap.size, i, none⟩ = (lA VA nV cV IA nI cI l)[i]? := fun i => hxb.cell i
      have p0 := pc 0; have p1 := pc 1; have p2 := pc 2; have p3 := pc 3; have p4 := pc 4; have p5 := pc 5; have p6 := pc 6; have p7 := pc 7; have p8 := pc 8; have p9 := pc 9
      simp at p0 p1 p2 p3 p4 p5 p6 p7 p8 p9
      have hxl := hxb.lt
      obtain ⟨W5, hW5⟩ : ∃ W5, W5 = ((WQ.alloc (.cells #[.slice x.A x.n x.c, .int .i64 x.p] 124)).alloc (.cells (pA VA nV cV IA nI cI l WA nW cW x.A x.n x.c) 126)).alloc (.cells (keyC (keyTo ws x.l 0)) 128) := ⟨_, rfl⟩
      have hb5 : Below WQ.heap.size WQ W5 := by rw [hW5]; exact (((Below.refl _ WQ).alloc (Nat.le_refl _) _).alloc (by simp) _).alloc (by simp; omega) _
      have hc5 := ((Blk.new WQ 124 #[.slice x.A x.n x.c, .int .i64 x.p]).alloc (.cells (pA VA nV cV IA nI cI l WA nW cW x.A x.n x.c) 126)).alloc (.cells (keyC (keyTo ws x.l 0)) 128)
      have hp5 := (Blk.new (WQ.alloc (.cells #[.slice x.A x.n x.c, .int .i64 x.p] 124)) 126 (pA VA nV cV IA nI cI l WA nW cW x.A x.n x.c)).alloc (.cells (keyC (keyTo ws x.l 0)) 128)
      have hk5 := Blk.new ((WQ.alloc (.cells #[.slice x.A x.n x.c, .int .i64 x.p] 124)).alloc (.cells (pA VA nV cV IA nI cI l WA nW cW x.A x.n x.c) 126)) 128 (keyC (keyTo ws x.l 0))
      simp only [World.size_alloc] at hp5 hk5
      rw [← hW5] at hc5 hp5 hk5
      rw [keyTo_zero] at hW5
      have hx5 := hxb.below hb5 hxl
      have HX5 := Lib.hid hx5; have HC5 := Lib.hid hc5; have HP5 := Lib.hid hp5; have HK5 := Lib.hid hk5; have HB5 := Lib.hid hb5; have HW5 := Lib.hid hW5
      have HM5 := Lib.hid (HMP.out.below hb5)
      have hbw3 : w.heap.size ≤ w3.heap.size := HB3.out.size
      have hM3 := HM3.out.lt
      have HBW := Lib.hid (show Below w.heap.size w WQ from HB3.out.trans (HFR.out.below hbw3 (fun g hg => by omega)))
      have HXR := Lib.hid (hxr.below hb5); have HXC := Lib.hid hxcw; have HXX := Lib.hid hx
      have HXN := Lib.hid hxm
      have HPP := Lib.hid (fun (U : World) (hU : Below WQ.heap.size WQ U) => show RdP U VA nV IA nI l WA nW ws x.A x.n x.l from ⟨HL.out.below (HBW.out.trans (hU.mono HBW.out.size)), HW.out.below (HBW.out.trans (hU.mono HBW.out.size)), hxr.below hU⟩)
      clear pc hxb hc hW5 hb5 hc5 hp5 hk5 hx5 hxm hxr hxc hxcw hrd2 hx hfr
      go_upto_region 10 with fail
      rw [← HW5.out]
      have l9 := HX5.out.cell 9
      simp at l9
      have hl5 := HX5.out.lt
      clear p0 p1 p2 p3 p4 p5 p6 p7 p8 p9 e0 e1
      go_wp2_with fail
      go_loopw [36] (fun i wi => ∃ h : Nat, h ≤ nI ∧ i = .int .i64 h ∧ Blk wi (WQ.heap.size + 1 + 1) 128 (keyC (keyTo ws x.l h)) ∧ Fr (fun g => g = WQ.heap.size + 1 + 1) W5 wi) (fun i _ => nI - (intOf i).toNat)
      case atStart => exact ⟨0, Nat.zero_le _, rfl, HK5.out, Fr.refl _ _⟩
      case round =>
        obtain ⟨h, hh, rfl, hkb, hfi⟩ := hrel
        have HKB := Lib.hid hkb; have HFI := Lib.hid hfi
        have hp6 := hfi.blk HP5.out (fun e => by omega)
        have HP6 := Lib.hid hp6
        have hs5 := HB5.out.size
        have hbi := HB5.out.trans (hfi.below hs5 (fun g hg => by omega))
        have HBI := Lib.hid hbi
        clear l9 hkb hfi
        by_cases hlt2 : h < nI
        · have HOUT := Lib.hid (out_c (cV := cV) (cI := cI) (cW := cW) (cC := x.c) (HPP.out _ hbi) HWK.out HXC.out (h : Int))
          have hset := keyTo_set ws x.l (show h < 60 by omega)
          obtain ⟨O, hO⟩ : ∃ O, O = outAt ws x.l (h : Int) := ⟨_, rfl⟩
          rw [← hO] at HOUT hset
          have HSET := Lib.hid hset
          have pc : ∀ i, wr.cell? ⟨WQ.heap.size + 1, i, none⟩ = (pA VA nV cV IA nI cI l WA nW cW x.A x.n x.c)[i]? := fun i => hp6.cell i
          have p0 := pc 0; have p1 := pc 1; have p2 := pc 2; have p3 := pc 3; have p4 := pc 4; have p5 := pc 5; have p6 := pc 6; have p7 := pc 7; have p8 := pc 8; have p9 := pc 9; have p10 := pc 10; have p11 := pc 11
          simp at p0 p1 p2 p3 p4 p5 p6 p7 p8 p9 p10 p11
          have hh0 : (0 : Int) ≤ (h : Int) := by omega
          have hhn : (h : Int) < (nI : Int) := by omega
          have hh60 : (h : Int) < 60 := by omega
          clear hp6 pc hbi hset hO
          go_wp2_with fail
          refine HOUT.out.mono ?_
          rintro e w6 ⟨rfl, hb6⟩
          have hk6 := HKB.out.below hb6 HKB.out.lt
          have c6 : w6.cell? ⟨WQ.heap.size + 1 + 1, h, none⟩ = some (.int .i64 0) := by
            rw [hk6.cell h]
            simp only [keyC, List.getElem?_toArray, List.getElem?_map]
            rw [keyTo_get (by omega), if_neg (by omega)]; rfl
          have f6 := hk6.frozen h
          have HK6 := Lib.hid hk6; have HB6 := Lib.hid hb6
          clear hk6 hb6 p0 p1 p2 p3 p4 p5 p6 p7 p8 p9 p10 p11
          go_wp2_with fail
          go_roundw
          case rel => exact ⟨h + 1, by omega, by go_num, HSET.out ▸ HK6.out.set_ h (.int .i64 O), (HFI.out.comp (Fr.of_below HB6.out (fun _ => False)) (fun _ h => h.elim)).comp ((Fr.refl (fun g => g = WQ.heap.size + 1 + 1) w6).setAt (p := ⟨WQ.heap.size + 1 + 1, h, none⟩) (.inl rfl) (.int .i64 O)) (fun g hg => .inl hg)⟩
          case measure => simp [intOf] <;> omega
        · have ehn : nI = h := by omega
          subst ehn
          obtain ⟨W6, hW6⟩ : ∃ W6, W6 = wr := ⟨_, rfl⟩
          subst hW6
          have hcs := rangeK HKB.out
          have hF60 : ((keyTo ws x.l nI).map fun n => Value.int .i64 n).length = 60 := by rw [List.length_map, keyTo_len]
          have hinf : (Try.prog.info? 128).map (·.size) = some 60 := by kernel_rfl
          have hfo := keyTo_ok HWK.out HXC.out nI
          have HM6 := Lib.hid (HM5.out.fr HFI.out (fun e => by have := HMP.out.lt; omega))
          have hlk := HM6.out.look hfo
          have hkc : keyC (keyTo ws x.l nI) = ((keyTo ws x.l nI).map fun n => Value.int .i64 n).toArray := rfl
          obtain ⟨F, hF⟩ : ∃ F, F = keyTo ws x.l nI := ⟨_, rfl⟩
          rw [← hF] at hcs hF60 hfo hlk hkc
          obtain ⟨cs, hcs0⟩ : ∃ cs, cs = F.map fun n => Value.int .i64 n := ⟨_, rfl⟩
          rw [← hcs0] at hcs hF60 hkc
          rw [hkc] at hlk
          have HCS := Lib.hid hcs; have HF := Lib.hid hF; have HFO := Lib.hid hfo; have HKC := Lib.hid hkc
          have HIN := Lib.hid (show (Try.prog.info? 128).map (·.size) = some cs.length by rw [hF60]; exact hinf)
          have HC6 := Lib.hid (HFI.out.blk HC5.out (fun e => by omega))
          have HX6 := Lib.hid (HFI.out.blk HX5.out (fun e => by omega))
          clear hp6 hbi hF60 hinf hfo hF hcs0 hcs hkc
          have hfrA : Fr (fun g => g = w1.heap.size) w3 W6 := (HFR.out.comp (Fr.of_below HB5.out (fun _ => False)) (fun _ h => h.elim)).comp HFI.out (fun g hg => .inr (by omega))
          have HFA := Lib.hid hfrA
          clear hfrA
          cases hT : T F
          · rw [hT] at hlk
            go_upto_region 16 with (refine wpList_load_mid rfl 128 (.tmp 12) rfl (WQ.heap.size + 1 + 1) 0 rfl cs _ HCS.out Try.underlying128 rfl HIN.out ?_)
            have hen : decide (brkF (aftL l (netL l ws x.l)) < 0) = enB l ws x.l := by
              cases h : enB l ws x.l
              · have := enB_not.1 h
                rw [decide_eq_false_iff_not]; omega
              · have := enB_iff.1 h
                rw [decide_eq_true_eq]; omega
            have HEN0 := Lib.hid (fun (U : World) (h1 : Below w.heap.size w U) (h2 : Rd enc1 1 U x.A x.n x.l) => enough_c (cV := cV) (cI := cI) (cW := cW) (cC := x.c) (show RdP U VA nV IA nI l WA nW ws x.A x.n x.l from ⟨HL.out.below h1, HW.out.below h1, h2⟩) HOK.out HWK.out HXC.out)
            rw [hen] at HEN0
            have HX6R := Lib.hid (HPP.out W6 HBI.out).c
            clear hen hlk
            go_upto_region 17 with (first | (refine wpList_load_mid rfl 128 (.tmp 12) rfl (WQ.heap.size + 1 + 1) 0 rfl cs _ HCS.out Try.underlying128 rfl HIN.out ?_) | (at_mapUpdate; go_must (refine wpList_mapK rfl _ _ _ rfl w1.heap.size m T rfl HM6.out F (by rw [HKC.out]; rfl) HFO.out (by omega) rfl ?_; intro w7 hm7 hg7)))
            have F67 : Fr (fun g => g = w1.heap.size) W6 w7 := Fr.of_grown hg7 (fun g e _ => by injection e with e; exact e.symm)
            have HF7 := Lib.hid (HFA.out.trans F67)
            have hb7 := HB3.out.trans (HF7.out.below hbw3 (fun g hg => by have : g = w1.heap.size := hg; omega))
            have hx7 := HX6R.out.frMap (fun x => by rw [enc1_len]; omega) HM6.out.map F67
            have HEN := Lib.hid (HEN0.out w7 hb7 hx7)
            have hw1lt := HMP.out.lt
            have hp7 := F67.blk HP6.out (fun e => by omega)
            have HC7 := Lib.hid (F67.blk HC6.out (fun e => by omega))
            have HX7 := Lib.hid (F67.blk HX6.out (fun e => by omega))
            have HM7 := Lib.hid hm7; have HB7 := Lib.hid hb7; have HXR7 := Lib.hid hx7
            have pc : ∀ i, w7.cell? ⟨WQ.heap.size + 1, i, none⟩ = (pA VA nV cV IA nI cI l WA nW cW x.A x.n x.c)[i]? := fun i => hp7.cell i
            have p0 := pc 0; have p1 := pc 1; have p2 := pc 2; have p3 := pc 3; have p4 := pc 4; have p5 := pc 5; have p6 := pc 6; have p7 := pc 7; have p8 := pc 8; have p9 := pc 9; have p10 := pc 10; have p11 := pc 11
            simp at p0 p1 p2 p3 p4 p5 p6 p7 p8 p9 p10 p11
            clear F67 hb7 hx7 hp7 hm7 hg7 pc
            go_wp2_with fail
            refine HEN.out.mono ?_
            rintro e w8 ⟨rfl, hb8⟩
            have HC8 := Lib.hid (HC7.out.below hb8 HC7.out.lt); have HX8 := Lib.hid (HX7.out.below hb8 HX7.out.lt); have HM8 := Lib.hid (HM7.out.below hb8); have HB8 := Lib.hid (HB7.out.trans (hb8.mono HB7.out.size)); have HXR8 := Lib.hid (HXR7.out.below hb8)
            have HF8 := Lib.hid (HF7.out.comp (Fr.of_below hb8 (fun _ => False)) (fun _ h => h.elim))
            clear hb8 p0 p1 p2 p3 p4 p5 p6 p7 p8 p9 p10 p11
            cases hee : enB l ws x.l
            · go_wp2_with fail
              go_roundw
              case rel => exact ⟨k + 1, m + 1, _, by omega, by omega, by go_num, HM8.out, HX8.out, HF8.out, fun G hG => (by
                simp only [Bool.or_eq_true, decide_eq_true_eq] at hG
                rcases hG with hG | hG
                · exact ⟨k, x, by omega, HXX.out, by rw [hG, HF.out]⟩
                · obtain ⟨j, y, hj, hy, he⟩ := HT.out G hG
                  exact ⟨j, y, by omega, hy, he⟩), fun j y hj hy => (by
                rcases Nat.lt_or_ge j k with hjk | hjk
                · exact HALL.out j y hjk hy
                · obtain rfl : j = k := by omega
                  rw [HXX.out] at hy; cases hy
                  exact hee)⟩
              case measure => simp [intOf] <;> omega
            · have hbest : Best l ws x.l := ⟨HXC.out, hee, fun c hc he => by
                rw [hwl, ← treeC_mem, ← HPM.out.mem_iff, List.mem_map] at hc
                obtain ⟨y, hy, rfl⟩ := hc
                obtain ⟨j, hj⟩ := List.getElem?_of_mem hy
                rcases Nat.lt_trichotomy j k with h1 | h1 | h1
                · rw [HALL.out j y h1 hj] at he; cases he
                · subst h1
                  rw [HXX.out] at hj; cases hj
                  exact ltC_irrefl _ _
                · have hpw := List.pairwise_iff_getElem.1 HPW.out k j (lt_of_get HXX.out) (lt_of_get hj) h1
                  rw [(List.getElem?_eq_some_iff.1 HXX.out).2, (List.getElem?_eq_some_iff.1 hj).2] at hpw
                  exact hpw⟩
              have HBEST := Lib.hid hbest
              have c0 := HC8.out.cell 0; have c1 := HC8.out.cell 1
              simp at c0 c1
              clear hbest hee
              go_wp2_with fail
              go_region
              all_goals
                go_wp2_with fail
                go_ret3
                first | exact ⟨.inl ⟨x.A, x.n, x.c, x.l, by rw [HXN.out.2.2]; rfl, HXN.out.2.1, HXR8.out, HBEST.out⟩, HB8.out.drew⟩ | exact ⟨.inl ⟨x.A, x.n, x.c, x.l, by rw [HXN.out.2.2]; rfl, HXN.out.2.1, HXR8.out, HBEST.out⟩, HB8.out⟩
          · rw [hT] at hlk
            go_wp2_with (refine wpList_load_mid rfl 128 (.tmp 12) rfl (WQ.heap.size + 1 + 1) 0 rfl cs _ HCS.out Try.underlying128 rfl HIN.out ?_)
            go_roundw
            case rel => exact ⟨k + 1, m, T, by omega, by omega, by go_num, HM6.out, HX6.out, HFA.out, fun G hG => (by
              obtain ⟨j, y, hj, hy, he⟩ := HT.out G hG
              exact ⟨j, y, by omega, hy, he⟩), fun j y hj hy => (by
              rcases Nat.lt_or_ge j k with hjk | hjk
              · exact HALL.out j y hjk hy
              · obtain rfl : j = k := by omega
                rw [HXX.out] at hy; cases hy
                obtain ⟨j0, z, hj0, hz, he⟩ := HT.out F hT
                rw [HF.out] at he
                have e := keyTo_same (l := l) (ws := ws) (c := x.l) (d := z.l) h60 (by rw [hil]; exact he)
                rw [e]
                exact HALL.out j0 z hj0 hz)⟩
            case measure => simp [intOf] <;> omega
    · obtain rfl : k = N := by omega
      have HBE := Lib.hid (show Below w.heap.size w WQ from HB3.out.trans (HFR.out.below HB3.out.size (fun g hg => by omega)))
      have HNO := Lib.hid (show ∀ c, choB ws.length c = true → enB l ws c = false from fun c hc => by
        rw [hwl, ← treeC_mem, ← HPM.out.mem_iff, List.mem_map] at hc
        obtain ⟨y, hy, rfl⟩ := hc
        obtain ⟨j, hj⟩ := List.getElem?_of_mem hy
        exact HALL.out j y (by have := lt_of_get hj; have := HRD.out.len; omega) hj)
      clear hfr hxb
      go_wp2_with fail
      go_ret3
      exact ⟨.inr ⟨HNO.out, rfl⟩, HBE.out⟩
end
end Go.Proofs.Ytpijmfbpdglchaa
