/- CONTRACTS of Rise, Break, Fill and ProveWorks at what is valid. -/
import Derived.Test.YtpijmfbpdglchaaKRiseC
import Derived.Test.YtpijmfbpdglchaaKFill
import Derived.Test.YtpijmfbpdglchaaKPlain
set_option linter.unusedVariables false
set_option linter.unusedSimpArgs false
namespace Go.Proofs.Ytpijmfbpdglchaa
open Go.RowKit Go.Proofs
def RiseV (w : World) (n : Nat) (L : List Stt) (e : Ending) (w' : World) : Prop := ∃ A cp, e = .returned (.tuple #[.slice A n cp, .int .i64 0]) ∧ n ≤ cp ∧ Rd encT 4 w' A n L ∧ Below w.heap.size w w'
def FillV (w : World) (n : Nat) (FB : Int) (FV : List Int) (e : Ending) (w' : World) : Prop := ∃ A cp, e = .returned (.tuple #[.slice A n cp, .int .i64 FB, .int .i64 0]) ∧ n ≤ cp ∧ Rd enc1 1 w' A n FV ∧ Below w.heap.size w w'
def sttL (l : Lak) (ws : List Wrk) (c : List Int) : List Stt := (aftL l (netL l ws c)).map (sttOf l.vols)
theorem sttL_len (l : Lak) (ws : List Wrk) (c : List Int) : (sttL l ws c).length = l.inflow.length := by simp [sttL, aftL_len, netL_len]
theorem fillV_len (l : Lak) (ws : List Wrk) (c : List Int) (x : Rel) : (fillV l ws c x).length = fillN l ws c x := volsTo_len _ _ _ _
section
variable {VA IA WA CA FA SA : Option Addr} {nV nI nW nC nF nS cV cI cW cC cF cS : Nat} {l : Lak} {ws : List Wrk} {c : List Int} {x : Rel} {w : World}
theorem Rise_v (hL : RdL w VA nV IA nI l) (hW : Rd encW 3 w WA nW ws) (hC : Rd enc1 1 w CA nC c) (hcV : nV ≤ cV) (hcI : nI ≤ cI) (hok : LOk l) (hwk : WOk ws) (hcho : choB ws.length c = true) :
    Calls Try.prog 32 #[.agg (lA VA nV cV IA nI cI l), .slice WA nW cW, .slice CA nC cC] w (RiseV w nI (sttL l ws c)) := by
  have h1 := hL.vols.len; have h2 := hL.infl.len; have h3 := hW.len; have h4 := hC.len
  have h5 := hok.n; have h6 := hok.h; have h7 := hwk.n; have h8 := cho_len hcho
  have he : errA l ws c = 0 := errA_zero.2 ⟨hok, hwk, hcho⟩
  refine (Rise_c ⟨hL, hW, hC⟩ hcV hcI (by unfold maxLen; omega) (by unfold maxLen; omega) (by unfold maxLen; omega) (by unfold maxLen; omega)).mono ?_
  rintro e w' ⟨A, n, cp, rfl, hn, _, hr, hb⟩
  rw [he]
  have hr := hr he
  have hl := hr.len
  have h9 : ((aftL l (netL l ws c)).map (sttOf l.vols)).length = l.inflow.length := sttL_len l ws c
  obtain rfl : n = nI := by omega
  exact ⟨A, cp, rfl, hn, hr, hb⟩
theorem Fill_v (hL : RdL w VA nV IA nI l) (hW : Rd encW 3 w WA nW ws) (hC : Rd enc1 1 w CA nC c) (hX : RdX w FA nF SA nS x) (hcV : nV ≤ cV) (hcI : nI ≤ cI) (hok : LOk l) (hwk : WOk ws) (hcho : choB ws.length c = true) (hf : Fits l x) :
    Calls Try.prog 39 #[.agg (lA VA nV cV IA nI cI l), .slice WA nW cW, .slice CA nC cC, .agg (xA FA nF cF SA nS cS x)] w (FillV w (fillN l ws c x) (fillB l ws c x) (fillV l ws c x)) := by
  have h1 := hL.vols.len; have h2 := hL.infl.len; have h3 := hW.len; have h4 := hC.len
  have h5 := hok.n; have h6 := hok.h; have h7 := hwk.n; have h8 := cho_len hcho
  have h9 := hX.infl.len; have h10 := hX.seep.len; have h11 := hf.n; have h12 := hf.m
  have he : errA l ws c = 0 := errA_zero.2 ⟨hok, hwk, hcho⟩
  have he2 : fillE l ws c x = 0 := by rw [fillE_f he, fitsB_iff.2 hf]; rfl
  refine (Fill_c ⟨hL, hW, hC⟩ hcV hcI (by unfold maxLen; omega) (by unfold maxLen; omega) (by unfold maxLen; omega) (by unfold maxLen; omega) hX (by unfold maxLen; omega) (by unfold maxLen; omega)).mono ?_
  rintro e w' ⟨A, n, cp, rfl, hn, _, hr, hb⟩
  rw [he2, if_pos rfl]
  have hr := hr he2
  have hl := hr.len
  rw [fillV_len] at hl
  subst hl
  exact ⟨A, cp, rfl, hn, hr, hb⟩
theorem Break_v (hL : RdL w VA nV IA nI l) (hW : Rd encW 3 w WA nW ws) (hC : Rd enc1 1 w CA nC c) (hcV : nV ≤ cV) (hcI : nI ≤ cI) (hok : LOk l) (hwk : WOk ws) (hcho : choB ws.length c = true) :
    Calls Try.prog 33 #[.agg (lA VA nV cV IA nI cI l), .slice WA nW cW, .slice CA nC cC] w fun e w' =>
      e = .returned (.tuple #[.int .i64 (brkRes l ws c).1, .int .i64 (brkRes l ws c).2.1, .int .i64 (brkRes l ws c).2.2]) ∧ Below w.heap.size w w' := by
  have h1 := hL.vols.len; have h2 := hL.infl.len; have h3 := hW.len; have h4 := hC.len
  have h5 := hok.n; have h6 := hok.h; have h7 := hwk.n; have h8 := cho_len hcho
  exact Break_c ⟨hL, hW, hC⟩ hcV hcI (by unfold maxLen; omega) (by unfold maxLen; omega) (by unfold maxLen; omega) (by unfold maxLen; omega)
theorem brkRes_v (hok : LOk l) (hwk : WOk ws) (hcho : choB ws.length c = true) :
    (brkF (aftL l (netL l ws c)) < 0 ∧ brkRes l ws c = (0, 0, 7)) ∨ (0 ≤ brkF (aftL l (netL l ws c)) ∧ brkRes l ws c = (brkF (aftL l (netL l ws c)), brkE (aftL l (netL l ws c)), 0)) := by
  have he : errA l ws c = 0 := errA_zero.2 ⟨hok, hwk, hcho⟩
  unfold brkRes
  rw [if_neg (by simp [he])]
  by_cases h : brkF (aftL l (netL l ws c)) < 0
  · exact .inl ⟨h, if_pos h⟩
  · exact .inr ⟨by omega, if_neg h⟩
theorem Prove_v (hL : RdL w VA nV IA nI l) (hW : Rd encW 3 w WA nW ws) (hC : Rd enc1 1 w CA nC c) (hcV : nV ≤ cV) (hcI : nI ≤ cI) (hok : LOk l) (hwk : WOk ws) (hcho : choB ws.length c = true) :
    Calls Try.prog 26 #[.agg (lA VA nV cV IA nI cI l), .slice WA nW cW, .slice CA nC cC] w fun e w' => e = .returned (.bool (enB l ws c)) ∧ Below w.heap.size w w' := by
  have h1 := hL.vols.len; have h2 := hL.infl.len; have h3 := hW.len; have h4 := hC.len
  have h5 := hok.n; have h6 := hok.h; have h7 := hwk.n; have h8 := cho_len hcho
  refine (prove_c ⟨hL, hW, hC⟩ hcV hcI (by unfold maxLen; omega) (by unfold maxLen; omega) (by unfold maxLen; omega) (by unfold maxLen; omega)).mono ?_
  rintro e w' ⟨rfl, hb⟩
  refine ⟨?_, hb⟩
  have he : errA l ws c = 0 := errA_zero.2 ⟨hok, hwk, hcho⟩
  unfold proveB
  rw [he]
  cases hen : enB l ws c
  · have := enB_not.1 hen
    simp; omega
  · have := enB_iff.1 hen
    simp; omega
theorem Break_3 {F1 F2 F3 : Int} (hF : brkRes l ws c = (F1, F2, F3)) (hL : RdL w VA nV IA nI l) (hW : Rd encW 3 w WA nW ws) (hC : Rd enc1 1 w CA nC c) (hcV : nV ≤ cV) (hcI : nI ≤ cI) (hok : LOk l) (hwk : WOk ws) (hcho : choB ws.length c = true) :
    Calls Try.prog 33 #[.agg (lA VA nV cV IA nI cI l), .slice WA nW cW, .slice CA nC cC] w fun e w' => e = .returned (.tuple #[.int .i64 F1, .int .i64 F2, .int .i64 F3]) ∧ Below w.heap.size w w' := by
  have := Break_v (cW := cW) (cC := cC) hL hW hC hcV hcI hok hwk hcho
  rw [hF] at this
  exact this
theorem Prove_3 {E : Bool} (hE : enB l ws c = E) (hL : RdL w VA nV IA nI l) (hW : Rd encW 3 w WA nW ws) (hC : Rd enc1 1 w CA nC c) (hcV : nV ≤ cV) (hcI : nI ≤ cI) (hok : LOk l) (hwk : WOk ws) (hcho : choB ws.length c = true) :
    Calls Try.prog 26 #[.agg (lA VA nV cV IA nI cI l), .slice WA nW cW, .slice CA nC cC] w fun e w' => e = .returned (.bool E) ∧ Below w.heap.size w w' := by
  have := Prove_v (cW := cW) (cC := cC) hL hW hC hcV hcI hok hwk hcho
  rw [hE] at this
  exact this
/-- Fill's answer, by names -/
def FillW (w : World) (l : Lak) (ws : List Wrk) (c : List Int) (x : Rel) (e : Ending) (w' : World) : Prop := ∃ A cp N B FV, e = .returned (.tuple #[.slice A N cp, .int .i64 B, .int .i64 0]) ∧ N ≤ cp ∧ Rd enc1 1 w' A N FV ∧ (fillN l ws c x = N ∧ fillB l ws c x = B ∧ fillV l ws c x = FV) ∧ Below w.heap.size w w'
theorem Fill_3 (hL : RdL w VA nV IA nI l) (hW : Rd encW 3 w WA nW ws) (hC : Rd enc1 1 w CA nC c) (hX : RdX w FA nF SA nS x) (hcV : nV ≤ cV) (hcI : nI ≤ cI) (hok : LOk l) (hwk : WOk ws) (hcho : choB ws.length c = true) (hf : Fits l x) :
    Calls Try.prog 39 #[.agg (lA VA nV cV IA nI cI l), .slice WA nW cW, .slice CA nC cC, .agg (xA FA nF cF SA nS cS x)] w (FillW w l ws c x) := by
  refine (Fill_v hL hW hC hX hcV hcI hok hwk hcho hf).mono ?_
  rintro e w' ⟨A, cp, rfl, h1, h2, h3⟩
  exact ⟨A, cp, _, _, _, rfl, h1, h2, ⟨rfl, rfl, rfl⟩, h3⟩
end
end Go.Proofs.Ytpijmfbpdglchaa
