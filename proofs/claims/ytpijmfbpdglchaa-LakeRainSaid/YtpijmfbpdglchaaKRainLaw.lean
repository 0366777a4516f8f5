/- PLAIN LAW of LakeRain: the first hours alone. No program in sight. -/
import Derived.Test.YtpijmfbpdglchaaKMoreLaw
namespace Go.Proofs.Ytpijmfbpdglchaa
def sttLA (l : Lak) (ws : List Wrk) (c : List Int) : List Stt := (aftL l (netL l ws c)).map (sttOf l.vols)
theorem rain_stt (l : Lak) (ws : List Wrk) (c : List Int) (n : Nat) : sttLA (withI l (l.inflow.take n)) ws c = (sttLA l ws c).take n := by
  unfold sttLA
  rw [rain_aft, List.map_take]
  rfl
def cutX (x : Rel) (n : Nat) : Rel := ⟨x.inflow.take n, x.seep.take n, x.start, x.soft⟩
def cutL (l : Lak) (n : Nat) : Lak := withI l (l.inflow.take n)
section
variable {l : Lak} {ws : List Wrk} {c : List Int} {x : Rel} {n : Nat}
theorem cutL_len (hn : n ≤ l.inflow.length) : (cutL l n).inflow.length = n := by simp [cutL, withI]; omega
theorem cutL_ok (hok : LOk l) (hn : n ≤ l.inflow.length) : LOk (cutL l n) := withI_ok hok (by have := hok.h; simp; omega) fun i r hr => by
  rw [List.getElem?_take] at hr
  split at hr
  · exact hok.inflow i r hr
  · cases hr
theorem cut_fits (hn : n ≤ l.inflow.length) (hf : Fits l x) : Fits (cutL l n) (cutX x n) := by
  have h1 := hf.n; have h2 := hf.m
  refine ⟨?_, ?_, fun h s hs => ?_, fun h r i hr hi => ?_, hf.start, hf.soft⟩
  · simp [cutL, cutX, withI]; omega
  · simp [cutL, cutX, withI]; omega
  · simp only [cutX, List.getElem?_take] at hs
    split at hs
    · exact hf.seep h s hs
    · cases hs
  · simp only [cutL, withI, cutX, List.getElem?_take] at hr hi
    split at hr
    · rw [if_pos ‹_›] at hi
      exact hf.inflow h r i hr hi
    · cases hr
theorem atI_take {I : List Int} {h : Nat} (hh : h < n) : atI (I.take n) (h : Int) = atI I (h : Int) := by
  unfold atI
  rw [Int.toNat_natCast, List.getElem?_take, if_pos hh]
theorem cut_vAt : ∀ h, h ≤ n → vAt ws c (cutX x n) h = vAt ws c x h
  | 0, _ => rfl
  | h + 1, hh => by
    simp only [vAt, cut_vAt h (by omega)]
    simp only [cutX, atI_take (show h < n by omega)]
theorem cut_brk {h : Nat} (hh : h < n) : brkB (cutL l n) ws c (cutX x n) h = brkB l ws c x h := by
  unfold brkB
  rw [cut_vAt (h + 1) (by omega)]
  rfl
theorem rain_B (hn : n ≤ l.inflow.length) : (fillB (cutL l n) ws c (cutX x n) = -1 ∧ (fillB l ws c x = -1 ∨ (n : Int) ≤ fillB l ws c x)) ∨ (0 ≤ fillB (cutL l n) ws c (cutX x n) ∧ fillB (cutL l n) ws c (cutX x n) = fillB l ws c x) := by
  have e : fillB (cutL l n) ws c (cutX x n) = firstN (brkB l ws c x) n := by
    unfold fillB
    rw [cutL_len hn]
    exact firstN_congr fun j hj => cut_brk hj
  rw [e]
  exact firstN_take _ hn
theorem rain_N (hn : n ≤ l.inflow.length) : fillN (cutL l n) ws c (cutX x n) ≤ fillN l ws c x ∧ fillN (cutL l n) ws c (cutX x n) ≤ n := by
  have hb := rain_B (ws := ws) (c := c) (x := x) hn
  have hl : fillB (cutL l n) ws c (cutX x n) < ((cutL l n).inflow.length : Int) := (firstN_lt _ _).2
  rw [cutL_len hn] at hl
  unfold fillN
  rw [cutL_len hn]
  rcases hb with ⟨h1, h2⟩ | ⟨h1, h2⟩
  · rw [h1, if_neg (by omega)]
    split <;> omega
  · rw [if_pos h1, h2, if_pos (by omega)]
    omega
theorem rain_V (hn : n ≤ l.inflow.length) : fillV (cutL l n) ws c (cutX x n) = (fillV l ws c x).take (fillN (cutL l n) ws c (cutX x n)) := by
  have h := rain_N (ws := ws) (c := c) (x := x) hn
  unfold fillV volsTo
  rw [← List.map_take, List.take_range, Nat.min_eq_left h.1]
  refine List.map_congr_left fun k hk => ?_
  rw [List.mem_range] at hk
  exact cut_vAt (k + 1) (by omega)
theorem rain_F (hn : n ≤ l.inflow.length) : (brkF (aftL (cutL l n) (netL (cutL l n) ws c)) = -1 ∧ (brkF (aftL l (netL l ws c)) = -1 ∨ (n : Int) ≤ brkF (aftL l (netL l ws c)))) ∨ (0 ≤ brkF (aftL (cutL l n) (netL (cutL l n) ws c)) ∧ brkF (aftL (cutL l n) (netL (cutL l n) ws c)) = brkF (aftL l (netL l ws c))) := by
  unfold cutL
  rw [rain_aft]
  exact firstL_take _ _ (by rw [aftL_len, netL_len]; exact hn)
end
end Go.Proofs.Ytpijmfbpdglchaa
