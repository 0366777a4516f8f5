/- THE CONTRACT of the reference's Twice. -/
import Derived.Test.YtkgoojilmnkgiaaBefore
import Derived.Test.YtkgoojilmnkgiaaTimes
import Derived.Deep.RegionHeld3
namespace Go.Proofs.Ytkgoojilmnkgiaa
open Go.RowKit Go.Proofs

instance (l : List Rdg) : Decidable (Names l) := by unfold Names; infer_instance
/-- are two readings of a list of one name? -/
def twiceB (l : List Rdg) : Bool := !decide (Names l)
theorem twiceB_yes {l : List Rdg} {i k : Nat} {x y : Rdg} (hik : i < k) (hx : l[i]? = some x) (hy : l[k]? = some y) (h : nameB y x = true) : twiceB l = true := by
  have : ¬ Names l := fun hn => by
    have := names_iff.1 hn i k x y hik hx hy
    rw [nameB_not] at this; rw [nameB_iff] at h; omega
  simp [twiceB, this]
theorem twiceB_no {l : List Rdg} (h : ∀ (i k : Nat) (x y : Rdg), i < k → k < l.length → l[i]? = some x → l[k]? = some y → nameB y x = false) : twiceB l = false := by
  have : Names l := names_iff.2 fun i k x y hik hx hy => by
    have := h i k x y hik (lt_of_get hy) hx hy
    rw [nameB_not] at *; omega
  simp [twiceB, this]
/-- a reading's four cells -/
theorem rd4 {l : List Rdg} {A : Option Addr} {n : Nat} {w : World} (h : Rd encR 4 w A n l) {i : Nat} (hi : i < n) :
    ∃ b o x, A = some ⟨b, o, none⟩ ∧ b < w.heap.size ∧ l[i]? = some x ∧ ∀ W : World, Below w.heap.size w W → W.cell? ⟨b, o + i * 4, none⟩ = some (.int .i64 x.ins) ∧ W.cell? ⟨b, o + i * 4 + 1, none⟩ = some (.int .i64 x.num) ∧
      W.cell? ⟨b, o + i * 4 + 2, none⟩ = some (.int .i64 x.tim) ∧ W.cell? ⟨b, o + i * 4 + 3, none⟩ = some (.int .i64 x.val) := by
  obtain ⟨b, o, x, hA, hb, hx, h0, h1, h2, h3⟩ := h.at4 hi
  exact ⟨b, o, x, hA, hb, hx, fun W hW => ⟨(hW.cell (p := ⟨b, _, none⟩) hb).trans h0, (hW.cell (p := ⟨b, _, none⟩) hb).trans h1, (hW.cell (p := ⟨b, _, none⟩) hb).trans h2, (hW.cell (p := ⟨b, _, none⟩) hb).trans h3⟩⟩

set_option maxRecDepth 100000 in
set_option maxHeartbeats 1000000 in
theorem Twice_c {l : List Rdg} {A : Option Addr} {n c : Nat} {w : World} (h : Rd encR 4 w A n l) (hn : n ≤ 1000000) :
    Calls Try.prog 44 #[.slice A n c] w fun e w' => e = .returned (.bool (twiceB l)) ∧ Below w.heap.size w w' := by
  have HL := Lib.hid h.len
  go_enter Try.func44, Try.ntmps44
  go_wp2_with fail
  go_loopw [3] (fun i wr => ∃ k : Nat, k ≤ n ∧ i = .int .i64 k ∧ Below w.heap.size w wr ∧ ∀ (a b : Nat) (x y : Rdg), a < b → b < k → l[a]? = some x → l[b]? = some y → nameB y x = false) (fun i _ => n - (intOf i).toNat)
  case atStart => exact ⟨0, Nat.zero_le _, rfl, Below.refl _ _, fun a b x y _ hb => absurd hb (by omega)⟩
  case round =>
    obtain ⟨k, hk, rfl, hb, hall⟩ := hrel
    have HA := Lib.hid hall; have HB := Lib.hid hb
    clear hall
    by_cases hlt : k < n
    · have hkn : (k : Int) < (n : Int) := by omega
      have hk0 : (0 : Int) ≤ (k : Int) := by omega
      obtain ⟨b, o, x, hA, hbl, hx, hcx⟩ := rd4 (h.below hb) hlt
      have HX := Lib.hid hx; have HCX := Lib.hid hcx
      subst hA
      clear hx hcx hb
      obtain ⟨wo, rfl⟩ : ∃ wo : World, wo = wr := ⟨_, rfl⟩
      go_wp2_with fail
      go_loopw [4] (fun j w2 => ∃ q : Nat, q ≤ k ∧ j = .int .i64 q ∧ Below wo.heap.size wo w2 ∧ ∀ (a : Nat) (y : Rdg), a < q → l[a]? = some y → nameB x y = false) (fun j _ => k - (intOf j).toNat)
      case atStart => exact ⟨0, Nat.zero_le _, rfl, Below.refl _ _, fun a y ha => absurd ha (by omega)⟩
      case round =>
        obtain ⟨q, hq, rfl, hb2, hall2⟩ := hrel
        have HA2 := Lib.hid hall2; have HB2 := Lib.hid hb2
        clear hall2
        by_cases hlq : q < k
        · obtain ⟨b', o', y, hA, _, hy, hcy⟩ := rd4 (h.below HB.out) (i := q) (by omega)
          cases hA
          have HY := Lib.hid hy; have HCY := Lib.hid hcy
          clear hy hcy hb2
          have hqk : (q : Int) < (k : Int) := by omega
          have hqn : (q : Int) < (n : Int) := by omega
          have hq0 : (0 : Int) ≤ (q : Int) := by omega
          obtain ⟨x0, x1, x2, x3⟩ := HCX.out _ HB2.out
          obtain ⟨y0, y1, y2, y3⟩ := HCY.out _ HB2.out
          obtain ⟨v, hv⟩ : ∃ v, v = nameB x y := ⟨_, rfl⟩
          have HS := Lib.hid (fun W => Same_c x y W)
          rw [← hv] at HS
          have HV := Lib.hid hv
          clear hv
          go_wp2_with fail
          go_region_held3 (fun w' => (w'.cell? ⟨b, o + k * 4, none⟩ = some (.int .i64 x.ins) ∧ w'.cell? ⟨b, o + k * 4 + 1, none⟩ = some (.int .i64 x.num) ∧ w'.cell? ⟨b, o + k * 4 + 2, none⟩ = some (.int .i64 x.tim) ∧ w'.cell? ⟨b, o + k * 4 + 3, none⟩ = some (.int .i64 x.val)) ∧
              w'.cell? ⟨b, o + q * 4, none⟩ = some (.int .i64 y.ins) ∧ w'.cell? ⟨b, o + q * 4 + 1, none⟩ = some (.int .i64 y.num) ∧ w'.cell? ⟨b, o + q * 4 + 2, none⟩ = some (.int .i64 y.tim) ∧ w'.cell? ⟨b, o + q * 4 + 3, none⟩ = some (.int .i64 y.val))
            (first | exact ⟨HCX.out _ HB2.out.drew, HCY.out _ HB2.out.drew⟩ | exact ⟨HCX.out _ HB2.out, HCY.out _ HB2.out⟩ | exact ⟨HCX.out _ (by assumption), HCY.out _ (by assumption)⟩ | assumption)
            ((go_at_call 75; refine (HS.out _).mono ?_; rintro e w3 ⟨rfl, hb3⟩; have hbb : Below wo.heap.size wo w3 := below_tr HB2.out.drew hb3))
          have HB3 := Lib.hid hbb
          clear hbb hb3
          cases v
          · go_wp2_with fail
            go_roundw
            case rel => exact ⟨q + 1, by omega, by go_num, HB3.out, fun a z ha hz => by
              rcases Nat.lt_or_ge a q with h' | h'
              · exact HA2.out a z h' hz
              · obtain rfl : a = q := by omega
                rw [HY.out] at hz; cases hz; exact HV.out.symm⟩
            case measure => simp [intOf] <;> omega
          · have HT := Lib.hid (twiceB_yes hlq HY.out HX.out HV.out.symm)
            go_wp2_with fail
            go_ret
            exact ⟨ret_bool HT.out.symm, below_tr HB.out HB3.out⟩
        · obtain rfl : q = k := by omega
          have HB3 := Lib.hid (below_tr HB.out HB2.out)
          clear hb2
          go_wp2_with fail
          go_roundw
          case rel => exact ⟨q + 1, by omega, by go_num, HB3.out, fun a d u v ha hd hu hv => by
            rcases Nat.lt_or_ge d q with h' | h'
            · exact HA.out a d u v ha h' hu hv
            · obtain rfl : d = q := by omega
              rw [HX.out] at hv; cases hv; exact HA2.out a u ha hu⟩
          case measure => simp [intOf] <;> omega
    · obtain rfl : k = n := by omega
      have HT := Lib.hid (twiceB_no fun i d x y hi hd hx hy => HA.out i d x y hi (by rw [← HL.out]; exact hd) hx hy)
      go_wp2_with fail
      go_ret
      exact ⟨ret_bool HT.out.symm, HB.out⟩
end Go.Proofs.Ytkgoojilmnkgiaa
