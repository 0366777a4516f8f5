/- THE VALUES of the document's examples of zones, and the errors: the contracts that ZoneNames asks. -/
import Derived.Test.YtphdndiikikecaaZFits
import Derived.Test.YtphdndiikikecaaZDanger
import Derived.Test.YtphdndiikikecaaZLawHears
import Derived.Test.YtphdndiikikecaaZLawPays
import Derived.Test.YtphdndiikikecaaZProve
set_option linter.unusedVariables false
set_option linter.unusedSimpArgs false
namespace Go.Proofs.Ytphdndiikikecaa
open Go.RowKit Go.Proofs

theorem mlZ {n : Nat} (h : n ≤ 100) : n ≤ maxLen := by unfold maxLen; omega
theorem VAlike.rfl' (v : Vly) : VAlike v v := ⟨rfl, rfl, rfl, rfl, rfl⟩
/-- the examples' valley with no slides; with a way that goes twice by one parcel; the empty one with eleven slides -/
def noneV : Vly := ⟨glenP, [], 10, 50, 200⟩
def oddV (a b c : Nat) : Vly := ⟨glenP, [⟨some ⟨a, 0, none⟩, 3, 3, [2, 1, 2], 30, 1, 2⟩, ⟨some ⟨b, 0, none⟩, 2, 2, [0, 1], 25, 0, 2⟩, ⟨some ⟨c, 0, none⟩, 1, 1, [3], 200, 0, 1⟩], 10, 50, 200⟩
def sli0 : Sli := ⟨none, 0, 0, [], 0, 0, 0⟩
def elevV : Vly := ⟨[], List.replicate 11 sli0, 0, 0, 0⟩
def emptV : Vly := ⟨[], [], 0, 0, 0⟩
set_option maxRecDepth 100000 in
theorem zn_odd (a b c : Nat) : errV (oddV a b c) = 1 := by kernel_rfl
set_option maxRecDepth 100000 in
theorem zn_elev : errV elevV = 3 := by kernel_rfl
set_option maxRecDepth 100000 in
theorem zn_empt : errV emptV = 1 := by kernel_rfl
set_option maxRecDepth 100000 in
theorem zn_none : errV noneV = 0 := by kernel_rfl
set_option maxRecDepth 100000 in
theorem zn_nw : sumL (wtsL noneV) = 0 := by kernel_rfl
set_option maxRecDepth 100000 in
theorem zn_fits (a b c : Nat) : Fits (glenV a b c) [2, 1, 0] := by
  refine ⟨rfl, fun k s m hs hm => ?_⟩
  match k with
  | 0 => simp [glenV] at hs hm; subst hs hm; simp
  | 1 => simp [glenV] at hs hm; subst hs hm; simp
  | 2 => simp [glenV] at hs hm; subst hs hm; simp
  | k + 3 => simp at hm
set_option maxRecDepth 100000 in
theorem zn_not (a b c : Nat) : ¬ Fits (glenV a b c) [0, 0, 0] := by
  intro h
  have := (h.2 0 _ 0 rfl rfl).1
  simp at this
set_option maxRecDepth 100000 in
theorem zn_d (a b c : Nat) : dangs (glenV a b c) [2, 1, 0] = [25, 30, 30, 0] := by kernel_rfl
set_option maxRecDepth 100000 in
theorem zn_z (a b c : Nat) : [25, 30, 30, 0].map (zoneOf (glenV a b c)) = [1, 1, 1, 0] := by kernel_rfl
set_option maxRecDepth 100000 in
theorem zn_h1 (a b c : Nat) : hearE (glenV a b c) [⟨0, 2, 3⟩, ⟨1, 1, 5⟩] = 0 := by kernel_rfl
set_option maxRecDepth 100000 in
theorem zn_l1 (a b c : Nat) : leftsL (glenV a b c) [⟨0, 2, 3⟩, ⟨1, 1, 5⟩] = [(2, 2), (1, 2), (0, 1)] := by kernel_rfl
set_option maxRecDepth 100000 in
theorem zn_h2 (a b c : Nat) : hearE (glenV a b c) [⟨2, 2, 2⟩] = 9 := by kernel_rfl
set_option maxRecDepth 100000 in
theorem zn_h3 (a b c : Nat) : hearE (glenV a b c) [⟨3, 0, 0⟩] = 2 := by kernel_rfl
set_option maxRecDepth 100000 in
theorem zn_h4 (a b c : Nat) : hearE (glenV a b c) (List.replicate 21 ⟨0, 0, 0⟩) = 3 := by kernel_rfl
set_option maxRecDepth 100000 in
theorem zn_sh : shareL 100 [2500, 11000, 0, 60000] = [3, 15, 0, 82] := by kernel_rfl
set_option maxRecDepth 100000 in
theorem zn_p5 : paidL 500 (dueL glenP ([2, 1, 3].take 3)) = [0, 200, 0, 300] := by kernel_rfl
set_option maxRecDepth 100000 in
theorem zn_p4 : paidL 400 (dueL glenP ([2, 1, 3].take 3)) = [0, 160, 0, 240] := by kernel_rfl
set_option maxRecDepth 100000 in
theorem zn_b : (bestB [125, 550, 120, 4000] [80, 150, 100, 400] 250).gain = 675 ∧ (bestB [125, 550, 120, 4000] [80, 150, 100, 400] 250).set = [0, 1] := ⟨by kernel_rfl, by kernel_rfl⟩
set_option maxRecDepth 100000 in
theorem zn_bo : boundL [125, 550, 120, 4000] [80, 150, 100, 400] 4 500 10000 = 5000 := by kernel_rfl
section
variable {a b c p q : Nat} {w : World}
set_option maxRecDepth 100000 in
theorem znD_c {T : Option Addr} (h : RdV w (some ⟨p, 0, none⟩) 4 (some ⟨q, 0, none⟩) 3 (glenV a b c)) (hT : Rd enc1 1 w T 3 [2, 1, 0]) :
    Calls Try.prog 41 #[.agg #[.slice (some ⟨p, 0, none⟩) 4 4, .slice (some ⟨q, 0, none⟩) 3 3, .int .i64 10, .int .i64 50, .int .i64 200], .slice T 3 3] w
      fun e w' => ∃ A1 c1 A2 c2, e = .returned (.tuple #[.slice A1 4 c1, .slice A2 4 c2, .int .i64 0]) ∧ Rd enc1 1 w' A1 4 [25, 30, 30, 0] ∧ Rd enc1 1 w' A2 4 [1, 1, 1, 0] ∧ Below w.heap.size w w' := by
  have := DangerZ_c (pc := 4) (sc := 3) (tc := 3) h (glen_ok a b c) hT (zn_fits a b c)
  rwa [zn_d, zn_z] at this
set_option maxRecDepth 100000 in
theorem znN_c {T : Option Addr} (h : RdV w (some ⟨p, 0, none⟩) 4 (some ⟨q, 0, none⟩) 3 (glenV a b c)) (hT : Rd enc1 1 w T 3 [0, 0, 0]) :
    Calls Try.prog 41 #[.agg #[.slice (some ⟨p, 0, none⟩) 4 4, .slice (some ⟨q, 0, none⟩) 3 3, .int .i64 10, .int .i64 50, .int .i64 200], .slice T 3 3] w
      fun e w' => e = .returned (.tuple #[.slice none 0 0, .slice none 0 0, .int .i64 2]) ∧ Below w.heap.size w w' :=
  Danger_not (v := glenV a b c) (pc := 4) (sc := 3) (tc := 3) h (glen_ok a b c) hT (mlZ (by omega)) (zn_not a b c)
set_option maxRecDepth 100000 in
theorem znH_c {L : Option Addr} (h : RdV w (some ⟨p, 0, none⟩) 4 (some ⟨q, 0, none⟩) 3 (glenV a b c)) (hL : Rd encE 3 w L 2 [⟨0, 2, 3⟩, ⟨1, 1, 5⟩]) :
    Calls Try.prog 46 #[.agg #[.slice (some ⟨p, 0, none⟩) 4 4, .slice (some ⟨q, 0, none⟩) 3 3, .int .i64 10, .int .i64 50, .int .i64 200], .slice L 2 2] w
      fun e w' => ∃ A c, e = .returned (.tuple #[.slice A 3 c, .int .i64 0]) ∧ Rd enc2 2 w' A 3 [(2, 2), (1, 2), (0, 1)] ∧ Below w.heap.size w w' := by
  have := Hear_o (pc := 4) (sc := 3) (lc := 2) (glen_ok a b c) (VAlike.rfl' _) h hL (zn_h1 a b c)
  rwa [zn_l1] at this
set_option maxRecDepth 100000 in
theorem znHe_c {L : Option Addr} {n : Nat} {l : List Evd} {E : Int} (h : RdV w (some ⟨p, 0, none⟩) 4 (some ⟨q, 0, none⟩) 3 (glenV a b c)) (hL : Rd encE 3 w L n l) (hn : n ≤ 100) (hE : hearE (glenV a b c) l = E) (h0 : E ≠ 0) :
    Calls Try.prog 46 #[.agg #[.slice (some ⟨p, 0, none⟩) 4 4, .slice (some ⟨q, 0, none⟩) 3 3, .int .i64 10, .int .i64 50, .int .i64 200], .slice L n n] w
      fun e w' => e = .returned (.tuple #[.slice none 0 0, .int .i64 E]) ∧ Below w.heap.size w w' := by
  have := Hear_e (pc := 4) (sc := 3) (lc := n) (glen_ok a b c) (VAlike.rfl' _) h hL (mlZ hn) (by rw [hE]; exact h0)
  rwa [hE] at this
set_option maxRecDepth 100000 in
theorem znP_c (h : RdV w (some ⟨p, 0, none⟩) 4 (some ⟨q, 0, none⟩) 3 (glenV a b c)) :
    Calls Try.prog 25 #[.agg #[.slice (some ⟨p, 0, none⟩) 4 4, .slice (some ⟨q, 0, none⟩) 3 3, .int .i64 10, .int .i64 50, .int .i64 200], .int .i64 100] w
      fun e w' => ∃ A1 c1, e = .returned (.tuple #[.slice A1 4 c1, .int .i64 0]) ∧ Rd enc1 1 w' A1 4 [3, 15, 0, 82] ∧ Below w.heap.size w w' := by
  refine (Premiums_ok (pc := 4) (sc := 3) (coins := 100) h (glen_ok a b c) rfl).mono ?_
  rintro e w' ⟨hp, hb⟩
  unfold PremP at hp
  rw [glen_w, if_neg glen_s0, zn_sh] at hp
  obtain ⟨u, rfl, hown⟩ := hp
  obtain ⟨A, c, rfl, _, hr⟩ := Rd.of_own2 hown rfl
  exact ⟨A, c, rfl, hr, hb⟩
set_option maxRecDepth 100000 in
theorem znPf_c (h : RdV w (some ⟨p, 0, none⟩) 4 (some ⟨q, 0, none⟩) 3 (glenV a b c)) :
    Calls Try.prog 25 #[.agg #[.slice (some ⟨p, 0, none⟩) 4 4, .slice (some ⟨q, 0, none⟩) 3 3, .int .i64 10, .int .i64 50, .int .i64 200], .int .i64 100000001] w
      fun e w' => e = .returned (.tuple #[.slice none 0 0, .int .i64 2]) ∧ Below w.heap.size w w' :=
  Premiums_fund (v := glenV a b c) (pc := 4) (sc := 3) (coins := 100000001) h (glen_ok a b c) rfl
set_option maxRecDepth 100000 in
theorem znPn_c (h : Rd encP 4 w (some ⟨p, 0, none⟩) 4 glenP) :
    Calls Try.prog 25 #[.agg #[.slice (some ⟨p, 0, none⟩) 4 4, .slice none 0 0, .int .i64 10, .int .i64 50, .int .i64 200], .int .i64 5] w
      fun e w' => e = .returned (.tuple #[.slice none 0 0, .int .i64 7]) ∧ Below w.heap.size w w' := by
  have hv : RdV w (some ⟨p, 0, none⟩) 4 none 0 noneV := ⟨h, Rd.nil _ _ _ none, fun i s hs => by simp [noneV] at hs⟩
  refine (Premiums_ok (pc := 4) (sc := 0) (coins := 5) hv (errV_zero.1 zn_none) rfl).mono ?_
  rintro e w' ⟨hp, hb⟩
  unfold PremP at hp
  rw [if_pos zn_nw] at hp
  exact ⟨hp, hb⟩
set_option maxRecDepth 100000 in
theorem znY_c {C : Int} {l : List Int} (h : RdV w (some ⟨p, 0, none⟩) 4 (some ⟨q, 0, none⟩) 3 (glenV a b c)) (hC : inB C 0 100000000 = true) (hl : paidL C (dueL glenP ([2, 1, 3].take 3)) = l) :
    Calls Try.prog 44 #[.agg #[.slice (some ⟨p, 0, none⟩) 4 4, .slice (some ⟨q, 0, none⟩) 3 3, .int .i64 10, .int .i64 50, .int .i64 200], .int .i64 0, .int .i64 3, .int .i64 C] w
      fun e w' => ∃ A d, e = .returned (.tuple #[.slice A 4 d, .int .i64 0]) ∧ Rd enc1 1 w' A 4 l ∧ Below w.heap.size w w' := by
  have := Pay_ok (pc := 4) (sc := 3) (k := 0) (M := 3) (c := C) h (glen_ok a b c) (s := ⟨some ⟨a, 0, none⟩, 3, 3, [2, 1, 3], 30, 1, 2⟩) rfl (Nat.le_refl 3) hC
  rw [show (glenV a b c).pars = glenP from rfl, hl] at this
  exact this
set_option maxRecDepth 100000 in
theorem znYa_c (h : RdV w (some ⟨p, 0, none⟩) 4 (some ⟨q, 0, none⟩) 3 (glenV a b c)) :
    Calls Try.prog 44 #[.agg #[.slice (some ⟨p, 0, none⟩) 4 4, .slice (some ⟨q, 0, none⟩) 3 3, .int .i64 10, .int .i64 50, .int .i64 200], .int .i64 0, .int .i64 4, .int .i64 0] w
      fun e w' => e = .returned (.tuple #[.slice none 0 0, .int .i64 2]) ∧ Below w.heap.size w w' :=
  Pay_arg (v := glenV a b c) (pc := 4) (sc := 3) (k := 0) (m := 4) (c := 0) h (glen_ok a b c) (.inr ⟨0, _, rfl, rfl, .inl rfl⟩)
set_option maxRecDepth 100000 in
theorem znB_c (h : RdV w (some ⟨p, 0, none⟩) 4 (some ⟨q, 0, none⟩) 3 (glenV a b c)) :
    Calls Try.prog 33 #[.agg #[.slice (some ⟨p, 0, none⟩) 4 4, .slice (some ⟨q, 0, none⟩) 3 3, .int .i64 10, .int .i64 50, .int .i64 200], .int .i64 250] w
      fun e w' => ∃ A1 c1, e = .returned (.tuple #[.slice A1 2 c1, .int .i64 675, .int .i64 0]) ∧ Rd enc1 1 w' A1 2 [0, 1] ∧ Below w.heap.size w w' := by
  refine (Buy_ok (pc := 4) (sc := 3) (B := 250) h (glen_ok a b c) rfl).mono ?_
  rintro e w' ⟨A, n, c', rfl, _, hr, hb⟩
  rw [glen_g, glen_p, zn_b.1, zn_b.2] at *
  have hn := hr.len
  simp at hn
  subst hn
  exact ⟨A, c', rfl, hr, hb⟩
set_option maxRecDepth 100000 in
theorem znBf_c (h : RdV w (some ⟨p, 0, none⟩) 4 (some ⟨q, 0, none⟩) 3 (glenV a b c)) :
    Calls Try.prog 33 #[.agg #[.slice (some ⟨p, 0, none⟩) 4 4, .slice (some ⟨q, 0, none⟩) 3 3, .int .i64 10, .int .i64 50, .int .i64 200], .int .i64 (-1)] w
      fun e w' => e = .returned (.tuple #[.slice none 0 0, .int .i64 0, .int .i64 2]) ∧ Below w.heap.size w w' :=
  Buy_fund (v := glenV a b c) (pc := 4) (sc := 3) (B := -1) h (glen_ok a b c) rfl
set_option maxRecDepth 100000 in
theorem znR_c {t : Int} (h : RdV w (some ⟨p, 0, none⟩) 4 (some ⟨q, 0, none⟩) 3 (glenV a b c)) :
    Calls Try.prog 35 #[.agg #[.slice (some ⟨p, 0, none⟩) 4 4, .slice (some ⟨q, 0, none⟩) 3 3, .int .i64 10, .int .i64 50, .int .i64 200], .int .i64 500, .int .i64 10000, .int .i64 t] w
      fun e w' => e = .returned (.bool (decide (t = 5000))) ∧ Below w.heap.size w w' := by
  have := Prove_c (pc := 4) (sc := 3) (t := t) (B := 500) (r := 10000) (glen_ok a b c) h rfl rfl
  rwa [glen_g, glen_p, zn_bo] at this
set_option maxRecDepth 100000 in
theorem znO_c (h : RdV w (some ⟨p, 0, none⟩) 4 (some ⟨q, 0, none⟩) 3 (oddV a b c)) :
    Calls Try.prog 40 #[.agg #[.slice (some ⟨p, 0, none⟩) 4 4, .slice (some ⟨q, 0, none⟩) 3 3, .int .i64 10, .int .i64 50, .int .i64 200]] w fun e w' => e = .returned (.int .i64 1) ∧ Below w.heap.size w w' := by
  have := checkV_c (pc := 4) (sc := 3) h (mlZ (by omega)) (mlZ (by omega))
  rwa [zn_odd] at this
set_option maxRecDepth 100000 in
theorem znE_c (w : World) : Calls Try.prog 40 #[.agg #[.slice none 0 0, .slice none 0 0, .int .i64 0, .int .i64 0, .int .i64 0]] w fun e w' => e = .returned (.int .i64 1) ∧ Below w.heap.size w w' := by
  have hv : RdV w none 0 none 0 emptV := ⟨Rd.nil _ _ _ none, Rd.nil _ _ _ none, fun i s hs => by simp [emptV] at hs⟩
  have := checkV_c (pc := 0) (sc := 0) hv (mlZ (by omega)) (mlZ (by omega))
  rwa [zn_empt] at this
set_option maxRecDepth 100000 in
theorem znL_c {S : Option Addr} (h : Rd encS 4 w S 11 (List.replicate 11 sli0)) :
    Calls Try.prog 40 #[.agg #[.slice none 0 0, .slice S 11 11, .int .i64 0, .int .i64 0, .int .i64 0]] w fun e w' => e = .returned (.int .i64 3) ∧ Below w.heap.size w w' := by
  have hv : RdV w none 0 S 11 elevV := ⟨Rd.nil _ _ _ none, h, fun i s hs => by
    obtain rfl : s = sli0 := by
      rw [show elevV.sls = List.replicate 11 sli0 from rfl, List.getElem?_replicate] at hs
      split at hs <;> simp_all
    exact ⟨Rd.nil _ _ _ none, by unfold maxLen; decide, Nat.le_refl 0⟩⟩
  have := checkV_c (pc := 0) (sc := 11) hv (mlZ (by omega)) (mlZ (by omega))
  rwa [zn_elev] at this
end
end Go.Proofs.Ytphdndiikikecaa
