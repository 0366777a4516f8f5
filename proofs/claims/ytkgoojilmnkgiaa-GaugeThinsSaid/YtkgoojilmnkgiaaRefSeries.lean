/- THE CONTRACTS of the reference's SeriesFault and Stands, and of the law's asked. -/
import Derived.Test.YtkgoojilmnkgiaaOutlLaw
import Derived.BigQuiet
import Derived.Deep.QuietTactic
namespace Go.Proofs.Ytkgoojilmnkgiaa
open Go.RowKit Go.Proofs

set_option maxRecDepth 100000 in
set_option maxHeartbeats 1000000 in
theorem SeriesFault_c {l : List (Int × Int)} {A : Option Addr} {n c : Nat} {w : World} (h : Rd enc2 2 w A n l) :
    Calls Try.prog 36 #[.slice A n c] w fun e w' => e = .returned (.int .i64 (serE l)) ∧ Below w.heap.size w w' := by
  have hl := h.len
  have HL := Lib.hid hl; clear hl
  by_cases h60 : n ≤ 60
  · go_enter Try.func36, Try.ntmps36
    go_wp2_with fail
    go_loopw [3] (fun i wr => ∃ k : Nat, k ≤ n ∧ i = .int .i64 k ∧ Below w.heap.size w wr ∧ (∀ (i : Nat) (x : Int × Int), i < k → l[i]? = some x → ptB x = true) ∧ SerUp l (k - 1)) (fun i _ => n - (intOf i).toNat)
    case atStart => exact ⟨0, by omega, rfl, Below.refl _ _, fun i x hi => absurd hi (by omega), fun i x y hi => absurd hi (by omega)⟩
    case round =>
      obtain ⟨k, hk, rfl, hb, hall, hup⟩ := hrel
      have HA := Lib.hid hall; clear hall
      have HR := Lib.hid hup; clear hup
      by_cases hlt : k < n
      · obtain ⟨b, o, x, hA, hbl, hx, hx1, hx2⟩ := (h.below hb).at2 (i := k) hlt
        subst hA
        have HX := Lib.hid hx; clear hx
        have hkn' : (k : Int) < (n : Int) := by omega
        have hno : ptB x = false → ¬ SerOk l := fun hm hok => by rw [hok.pt HX.out] at hm; cases hm
        have HNO := Lib.hid hno; clear hno
        have hfin : ∀ m : Nat, Below w.heap.size w (wr.drewN m) := fun m => below_drewN hb m
        have HF := Lib.hid hfin; clear hfin
        have hbad : ¬ SerOk l → serE l = 1 := fun hn => serE_bad (by rw [HL.out]; exact h60) hn
        have HBAD := Lib.hid hbad; clear hbad
        cases hi1 : inB x.1 0 1000000000
        · go_wp2_with fail
          go_quiet ((go_at_call 29; (first | exact quiet_left (In_c _ _ _ _) | exact quiet_add_left (In_c _ _ _ _))))
          go_wp2
          go_ret
          exact ⟨ret_int (HBAD.out (HNO.out (by simp [ptB, hi1]))).symm, HF.out _⟩
        · cases hi2 : inB x.2 (-1000000000) 1000000000
          · go_wp2_with fail
            go_quiet ((go_at_call 29; (first | exact quiet_left (In_c _ _ _ _) | exact quiet_add_left (In_c _ _ _ _))))
            go_wp2
            go_ret
            exact ⟨ret_int (HBAD.out (HNO.out (by simp [ptB, hi2]))).symm, HF.out _⟩
          · have hmx : ptB x = true := by simp [ptB, hi1, hi2]
            have HMX := Lib.hid hmx; clear hmx
            have hall' : ∀ (i : Nat) (u : Int × Int), i < k + 1 → l[i]? = some u → ptB u = true := fun i u hi hu => by
              rcases Nat.lt_or_ge i k with h' | h'
              · exact HA.out i u h' hu
              · obtain rfl : i = k := by omega
                rw [HX.out] at hu; cases hu; exact HMX.out
            have HA' := Lib.hid hall'; clear hall'
            by_cases hk0 : k = 0
            · subst hk0
              simp only [Nat.zero_mul, Nat.add_zero] at hx1 hx2
              go_wp2_with fail
              go_quiet ((go_at_call 29; (first | exact quiet_left (In_c _ _ _ _) | exact quiet_add_left (In_c _ _ _ _))))
              go_wp2
              go_roundw
              case rel => exact ⟨1, by omega, rfl, HF.out _, HA'.out, fun i x y hi => absurd hi (by omega)⟩
              case measure => simp [intOf] <;> omega
            · obtain ⟨k', rfl⟩ : ∃ k', k = k' + 1 := ⟨k - 1, by omega⟩
              obtain ⟨b', o', p, hA, _, hp, hp1, hp2⟩ := (h.below hb).at2 (i := k') (by omega)
              cases hA
              have HP := Lib.hid hp; clear hp
              have hsub : IntKind.i64.wrap ((k' : Int) + 1 - 1) = (k' : Int) := by rw [IntWalk.i64_in _ (by omega)]; omega
              have hsub2 : IntKind.i64.wrap (k' : Int) = (k' : Int) := wi (by omega)
              have hkk : (k' : Int) < (n : Int) := by omega
              have hb1 : (0 : Int) ≤ (k' : Int) + 1 := by omega
              have hb2 : (k' : Int) + 1 < (n : Int) := by omega
              have ht1 : ((k' : Int) + 1).toNat = k' + 1 := by omega
              have hk0' : decide ((0 : Int) < (k' : Int) + 1) = true := decide_eq_true (by omega)
              by_cases hd1 : x.1 ≤ p.1
              · go_wp2_with fail
                go_quiet ((go_at_call 29; (first | exact quiet_left (In_c _ _ _ _) | exact quiet_add_left (In_c _ _ _ _))))
                go_wp2
                go_ret
                exact ⟨ret_int (HBAD.out (fun hok => by have := hok.step HP.out HX.out; omega)).symm, HF.out _⟩
              · have hd1' : p.1 < x.1 := by omega
                clear hd1
                go_wp2_with fail
                go_quiet ((go_at_call 29; (first | exact quiet_left (In_c _ _ _ _) | exact quiet_add_left (In_c _ _ _ _))))
                go_wp2
                go_roundw
                case rel => exact ⟨k' + 1 + 1, by omega, by go_num, HF.out _, HA'.out, fun i u v hi hu hv => by
                  rcases Nat.lt_or_ge i k' with h' | h'
                  · exact HR.out i u v (by omega) hu hv
                  · obtain rfl : i = k' := by omega
                    rw [HP.out] at hu; rw [HX.out] at hv; cases hu; cases hv; exact hd1'⟩
                case measure => simp [intOf] <;> omega
      · obtain rfl : k = n := by omega
        have hfin : serE l = 0 := serE_ok ⟨by rw [HL.out]; exact h60, allB_iff.2 fun i x hx => HA.out i x (by have := lt_of_get hx; rw [HL.out] at this; exact this) hx, by rw [HL.out]; exact HR.out⟩
        have HFin := Lib.hid hfin; clear hfin
        go_wp2_with fail
        go_ret
        exact ⟨ret_int HFin.out.symm, hb⟩
  · have HE := Lib.hid (serE_long (l := l) (by rw [HL.out]; omega))
    go_enter Try.func36, Try.ntmps36
    go_wp2_with fail
    go_ret
    exact ⟨ret_int HE.out.symm, Below.refl _ _⟩

set_option maxHeartbeats 400000 in
theorem asked2_c {l : List (Int × Int)} {A : Option Addr} {n c : Nat} {s : Int} {w : World} (h : Rd enc2 2 w A n l) :
    Calls Try.prog 34 #[.slice A n c, .int .i64 s] w fun e w' => e = .returned (.int .i64 (askedE l s)) ∧ Below w.heap.size w w' := by
  by_cases he : serE l = 0
  · cases hin : inB s 0 1000000000
    · have ha : askedE l s = 2 := by simp [askedE, he, hin]
      have HA := Lib.hid ha; clear ha
      have hsc := SeriesFault_c (c := c) h
      rw [he] at hsc
      have HS := Lib.hid hsc; clear hsc
      have HE := Lib.hid he; clear he
      go_enter Try.func34, Try.ntmps34
      go_wp2_with (first | (go_at_call 36; refine HS.out.mono ?_; rintro e w1 ⟨rfl, hb⟩) | (go_at_call 29; refine (In_c _ _ _ _).mono ?_; rintro e w' ⟨rfl, rfl⟩))
      go_ret
      exact ⟨ret_int HA.out.symm, hb⟩
    · have ha : askedE l s = 0 := by simp [askedE, he, hin]
      have HA := Lib.hid ha; clear ha
      have hsc := SeriesFault_c (c := c) h
      rw [he] at hsc
      have HS := Lib.hid hsc; clear hsc
      have HE := Lib.hid he; clear he
      go_enter Try.func34, Try.ntmps34
      go_wp2_with (first | (go_at_call 36; refine HS.out.mono ?_; rintro e w1 ⟨rfl, hb⟩) | (go_at_call 29; refine (In_c _ _ _ _).mono ?_; rintro e w' ⟨rfl, rfl⟩))
      go_ret
      exact ⟨ret_int HA.out.symm, hb⟩
  · have ha : askedE l s = serE l := by simp [askedE, he]
    have HA := Lib.hid ha; clear ha
    have hsc := SeriesFault_c (c := c) h
    generalize serE l = q at *
    have HS := Lib.hid hsc; clear hsc
    have hb0 : (q == 0) = false := by simpa using he
    clear he
    go_enter Try.func34, Try.ntmps34
    go_wp2_with (first | (go_at_call 36; refine HS.out.mono ?_; rintro e w1 ⟨rfl, hb⟩) | (go_at_call 29; refine (In_c _ _ _ _).mono ?_; rintro e w' ⟨rfl, rfl⟩))
    go_ret
    exact ⟨ret_int HA.out.symm, hb⟩

set_option maxRecDepth 100000 in
set_option maxHeartbeats 1000000 in
theorem Stands_c {l : List (Int × Int)} {A : Option Addr} {n c i : Nat} {far : Int} {w : World} (h : Rd enc2 2 w A n l) (hok : SerOk l) (hf : 0 ≤ far ∧ far ≤ 1000000000) (hi : i < n) :
    Calls Try.prog 35 #[.slice A n c, .int .i64 i, .int .i64 far] w fun e w' => e = .returned (.bool (stAt l far i)) ∧ Below w.heap.size w w' := by
  have hl := h.len
  have h60 := hok.len
  have HL := Lib.hid hl; clear hl
  rw [HL.out] at h60
  rcases i with _ | k
  · have HS := Lib.hid (stAt_zero l far)
    go_enter Try.func35, Try.ntmps35
    go_wp2_with fail
    go_ret
    exact ⟨ret_bool HS.out.symm, Below.refl _ _⟩
  · have hk0 : ¬ ((k : Int) + 1 ≤ 0) := by omega
    by_cases hlt : k + 1 + 1 < n
    · obtain ⟨b, o, y, hA, _, hy, y0, y1⟩ := h.at2 (i := k + 1) (by omega)
      subst hA
      obtain ⟨b', o', x, hA, _, hx, x0, x1⟩ := h.at2 (i := k) (by omega)
      cases hA
      obtain ⟨b', o', z, hA, _, hz, z0, z1⟩ := h.at2 (i := k + 1 + 1) (by omega)
      cases hA
      have hst := stAt_of (far := far) hx hy hz
      have py := ptB_iff.1 (hok.pt hy); have px := ptB_iff.1 (hok.pt hx); have pz := ptB_iff.1 (hok.pt hz)
      have HST := Lib.hid hst
      clear hst hx hy hz hok
      have hge : ¬ ((n : Int) - 1 ≤ (k : Int) + 1) := by omega
      have s1 : IntKind.i64.wrap ((k : Int) + 1 - 1) = (k : Int) := by rw [wi (by omega)]; omega
      have s1' : IntKind.i64.wrap (k : Int) = (k : Int) := wi (by omega)
      have s2 : IntKind.i64.wrap ((k : Int) + 1 + 1) = (k : Int) + 1 + 1 := wi (by omega)
      have t1 : ((k : Int) + 1).toNat = k + 1 := by omega
      have t2 : ((k : Int) + 1 + 1).toNat = k + 1 + 1 := by omega
      have b0 : (0 : Int) ≤ (k : Int) := by omega
      have b1 : (0 : Int) ≤ (k : Int) + 1 := by omega
      have b2 : (0 : Int) ≤ (k : Int) + 1 + 1 := by omega
      have c0 : (k : Int) < (n : Int) := by omega
      have c1 : (k : Int) + 1 < (n : Int) := by omega
      have c2 : (k : Int) + 1 + 1 < (n : Int) := by omega
      by_cases h1 : x.2 + far < y.2
      · have h3 : ¬ (y.2 < x.2 - far) := by omega
        by_cases h2 : z.2 + far < y.2
        · skip
          by_cases h5 : x.2 - z.2 ≤ far
          · have HR := Lib.hid (show stAt l far (k + 1) = decide (z.2 - x.2 ≤ far) from by rw [HST.out, Bool.eq_iff_iff, stB_iff]; simp; omega)
            go_enter Try.func35, Try.ntmps35
            go_wp2_with fail
            go_quiet (fail)
            go_wp2
            go_ret
            exact ⟨ret_bool HR.out.symm, below_drewN (Below.refl _ _) _⟩
          · have HR := Lib.hid (show stAt l far (k + 1) = false from by rw [HST.out, Bool.eq_iff_iff, stB_iff]; simp; omega)
            go_enter Try.func35, Try.ntmps35
            go_wp2_with fail
            go_quiet (fail)
            go_wp2
            go_ret
            exact ⟨ret_bool HR.out.symm, below_drewN (Below.refl _ _) _⟩
        · have HR := Lib.hid (show stAt l far (k + 1) = false from by rw [HST.out, Bool.eq_iff_iff, stB_iff]; simp; omega)
          go_enter Try.func35, Try.ntmps35
          go_wp2_with fail
          go_quiet (fail)
          go_wp2
          go_ret
          exact ⟨ret_bool HR.out.symm, below_drewN (Below.refl _ _) _⟩
      · by_cases h3 : y.2 < x.2 - far
        · by_cases h4 : y.2 < z.2 - far
          · skip
            by_cases h5 : x.2 - z.2 ≤ far
            · have HR := Lib.hid (show stAt l far (k + 1) = decide (z.2 - x.2 ≤ far) from by rw [HST.out, Bool.eq_iff_iff, stB_iff]; simp; omega)
              go_enter Try.func35, Try.ntmps35
              go_wp2_with fail
              go_quiet (fail)
              go_wp2
              go_ret
              exact ⟨ret_bool HR.out.symm, below_drewN (Below.refl _ _) _⟩
            · have HR := Lib.hid (show stAt l far (k + 1) = false from by rw [HST.out, Bool.eq_iff_iff, stB_iff]; simp; omega)
              go_enter Try.func35, Try.ntmps35
              go_wp2_with fail
              go_quiet (fail)
              go_wp2
              go_ret
              exact ⟨ret_bool HR.out.symm, below_drewN (Below.refl _ _) _⟩
          · have HR := Lib.hid (show stAt l far (k + 1) = false from by rw [HST.out, Bool.eq_iff_iff, stB_iff]; simp; omega)
            go_enter Try.func35, Try.ntmps35
            go_wp2_with fail
            go_quiet (fail)
            go_wp2
            go_ret
            exact ⟨ret_bool HR.out.symm, below_drewN (Below.refl _ _) _⟩
        · have HR := Lib.hid (show stAt l far (k + 1) = false from by rw [HST.out, Bool.eq_iff_iff, stB_iff]; simp; omega)
          go_enter Try.func35, Try.ntmps35
          go_wp2_with fail
          go_quiet (fail)
          go_wp2
          go_ret
          exact ⟨ret_bool HR.out.symm, below_drewN (Below.refl _ _) _⟩
    · have hge : (n : Int) - 1 ≤ (k : Int) + 1 := by omega
      have HS := Lib.hid (stAt_end (far := far) (i := k + 1) (show l.length ≤ k + 1 + 1 by rw [HL.out]; omega))
      go_enter Try.func35, Try.ntmps35
      go_wp2_with fail
      go_ret
      exact ⟨ret_bool HS.out.symm, Below.refl _ _⟩
end Go.Proofs.Ytkgoojilmnkgiaa
