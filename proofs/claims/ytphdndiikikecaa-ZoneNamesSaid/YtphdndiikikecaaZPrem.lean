/- THE CONTRACTS of Valley.gains and of zone.Premiums. -/
import Derived.Test.YtphdndiikikecaaZShare
import Derived.Test.YtphdndiikikecaaZZonesAll
set_option linter.unusedVariables false
set_option linter.unusedSimpArgs false
namespace Go.Proofs.Ytphdndiikikecaa
open Go.RowKit Go.Proofs
attribute [local go_sem ↓] Go.wp_at_zero Go.wp_at_succ

theorem blk_drew {w : World} {g : Nat} {t : TypeId} {cs : Array Value} (h : Blk w g t cs) : Blk w.drew g t cs := h
/-- a row whose first elements have been replaced -/
def half (a b : List Int) (k : Nat) : List Int := a.take k ++ b.drop k
theorem half_len {a b : List Int} {k : Nat} (h : a.length = b.length) : (half a b k).length = b.length := by
  unfold half
  rw [List.length_append, List.length_take, List.length_drop]; omega
theorem half_get {a b : List Int} {k : Nat} (h : a.length = b.length) (hk : k < b.length) : (half a b k)[k]? = b[k]? := by
  unfold half
  rw [List.getElem?_append_right (by rw [List.length_take]; omega), List.length_take, List.getElem?_drop]
  congr 1; omega
theorem half_set {a b : List Int} {k : Nat} {x : Int} (h : a.length = b.length) (hx : a[k]? = some x) : (half a b k).set k x = half a b (k + 1) := by
  have hk : k < a.length := lt_of_get hx
  refine List.ext_getElem? fun i => ?_
  by_cases hi : i < b.length
  · rw [List.getElem?_set, half_len h]
    unfold half
    by_cases hki : k = i
    · subst hki
      simp only [if_true, hi]
      rw [List.getElem?_append_left (by rw [List.length_take]; omega), List.getElem?_take, if_pos (by omega), hx]
    · rw [if_neg hki]
      rcases Nat.lt_or_ge i k with h1 | h1
      · rw [List.getElem?_append_left (by rw [List.length_take]; omega), List.getElem?_append_left (by rw [List.length_take]; omega), List.getElem?_take, List.getElem?_take, if_pos h1, if_pos (by omega)]
      · rw [List.getElem?_append_right (by rw [List.length_take]; omega), List.getElem?_append_right (by rw [List.length_take]; omega), List.length_take, List.length_take, List.getElem?_drop, List.getElem?_drop]
        congr 1; omega
  · rw [List.getElem?_eq_none (by rw [List.length_set, half_len h]; omega), List.getElem?_eq_none (by rw [half_len h]; omega)]
theorem half_zero {a b : List Int} : half a b 0 = b := by simp [half]
theorem half_all {a b : List Int} {k : Nat} (h : a.length = b.length) (hk : b.length = k) : half a b k = a := by
  unfold half
  rw [List.take_of_length_le (by omega), List.drop_of_length_le (by omega), List.append_nil]
/-- what each parcel gains by leaving; its weight for premiums -/
def gainsL (v : Vly) : List Int := (v.pars.zip (dangs v (endsT v true))).map fun x => x.2 * x.1.people
def wtsL (v : Vly) : List Int := (v.pars.zip (dangs v (endsT v true))).map fun x => if x.1.ins then x.2 * x.1.worth else 0
theorem gainsL_len {v : Vly} : (gainsL v).length = v.pars.length := by simp [gainsL, dangs_len]
theorem wtsL_len {v : Vly} : (wtsL v).length = v.pars.length := by simp [wtsL, dangs_len]
theorem gainsL_get {v : Vly} {i : Nat} {p : Par} {d : Int} (hp : v.pars[i]? = some p) (hd : (dangs v (endsT v true))[i]? = some d) : (gainsL v)[i]? = some (d * p.people) := by
  simp [gainsL, List.getElem?_zip_eq_some.2 (show _ = some (p, d).1 ∧ _ = some (p, d).2 from ⟨hp, hd⟩)]
theorem wtsL_get {v : Vly} {i : Nat} {p : Par} {d : Int} (hp : v.pars[i]? = some p) (hd : (dangs v (endsT v true))[i]? = some d) : (wtsL v)[i]? = some (if p.ins then d * p.worth else 0) := by
  simp [wtsL, List.getElem?_zip_eq_some.2 (show _ = some (p, d).1 ∧ _ = some (p, d).2 from ⟨hp, hd⟩)]
theorem wtsL_bd {v : Vly} (hok : VOk v) : ∀ x ∈ wtsL v, 0 ≤ x ∧ x ≤ 1000000000 := by
  intro x hx
  obtain ⟨i, hi⟩ := List.getElem?_of_mem hx
  have hil := lt_of_get hi
  rw [wtsL_len] at hil
  have hp := List.getElem?_eq_getElem hil
  have hd := List.getElem?_eq_getElem (show i < (dangs v (endsT v true)).length by rw [dangs_len]; exact hil)
  rw [wtsL_get hp hd] at hi
  have h1 := hok.parcel hp
  have h2 := dangs_bd hok hd
  cases hi
  split
  · constructor
    · exact Int.mul_nonneg h2.1 h1.1.1
    · calc _ ≤ 10000 * v.pars[i].worth := Int.mul_le_mul_of_nonneg_right h2.2 h1.1.1
        _ ≤ 10000 * 100000 := Int.mul_le_mul_of_nonneg_left h1.1.2 (by omega)
  · omega
theorem gainsL_bd {v : Vly} (hok : VOk v) : ∀ x ∈ gainsL v, 0 ≤ x ∧ x ≤ 10000000 := by
  intro x hx
  obtain ⟨i, hi⟩ := List.getElem?_of_mem hx
  have hil := lt_of_get hi
  rw [gainsL_len] at hil
  have hp := List.getElem?_eq_getElem hil
  have hd := List.getElem?_eq_getElem (show i < (dangs v (endsT v true)).length by rw [dangs_len]; exact hil)
  rw [gainsL_get hp hd] at hi
  have h1 := hok.parcel hp
  have h2 := dangs_bd hok hd
  cases hi
  constructor
  · exact Int.mul_nonneg h2.1 h1.2.2.1
  · calc _ ≤ 10000 * v.pars[i].people := Int.mul_le_mul_of_nonneg_right h2.2 h1.2.2.1
      _ ≤ 10000 * 1000 := Int.mul_le_mul_of_nonneg_left h1.2.2.2 (by omega)

set_option maxRecDepth 100000 in
set_option maxHeartbeats 1000000 in
theorem gains_c {v : Vly} {PA SA : Option Addr} {pn pc sn sc : Nat} {w : World} (h : RdV w PA pn SA sn v) (hok : VOk v) :
    Calls Try.prog 64 #[.agg #[.slice PA pn pc, .slice SA sn sc, .int .i64 v.s0, .int .i64 v.s1, .int .i64 v.s2]] w
      fun e w' => ∃ g, e = .returned (.slice (some ⟨g, 0, none⟩) pn pn) ∧ w.heap.size ≤ g ∧ Blk w' g 3 (intsA (gainsL v)) ∧ Below w.heap.size w w' := by
  have hlp := h.pars.len; have hls := h.sls.len
  have hpn := hok.pn; have hsn := hok.sn
  have hb0 : Below w.heap.size w (w.alloc (.cells (vA PA pn pc SA sn sc v) 36)) := (Below.refl _ w).alloc (Nat.le_refl _) _
  have HB := Lib.hid hb0
  have HX := Lib.hid (Blk.new w 36 (vA PA pn pc SA sn sc v))
  have HV := Lib.hid h
  have HOK := Lib.hid hok
  have HE := Lib.hid (end_high_c (pc := pc) (sc := sc) (h.below hb0) (by omega))
  clear h hb0 hok
  obtain ⟨D, hD⟩ : ∃ D, D = dangs v (endsT v true) := ⟨_, rfl⟩
  obtain ⟨G, hG⟩ : ∃ G, G = gainsL v := ⟨_, rfl⟩
  have hDl : D.length = pn := by rw [hD, dangs_len, hlp]
  have hGl : G.length = D.length := by rw [hG, gainsL_len, hlp, hDl]
  have HDG := Lib.hid (fun (i : Nat) (p : Par) (d : Int) (hp : v.pars[i]? = some p) (hd : D[i]? = some d) => show G[i]? = some (d * p.people) from by rw [hG]; exact gainsL_get hp (by rw [← hD]; exact hd))
  have HDB := Lib.hid (fun (i : Nat) (d : Int) (hd : D[i]? = some d) => dangs_bd HOK.out (tr := endsT v true) (by rw [← hD]; exact hd))
  have HDE := Lib.hid hD
  rw [← hG]
  clear hD hG
  go_enter Try.func64, Try.ntmps64
  go_wp2_with fail
  refine HE.out.mono ?_
  rintro e w2 ⟨TA, tc, rfl, htc, hT, hb⟩
  have HB2 := Lib.hid (below_tr HB.out hb)
  have HX2 := Lib.hid (HX.out.below hb (by simp))
  have HD := Lib.hid (dangers_c (pc := pc) (sc := sc) (tc := tc) HOK.out (endsT_fits HOK.out true) (HV.out.below HB2.out) hT)
  clear hb hT HX HB HE
  go_wp2_with fail
  refine HD.out.mono ?_
  rintro e w3 ⟨g, rfl, hg, hblk, hb⟩
  have HB3 := Lib.hid (below_tr HB2.out hb)
  have HX3 := Lib.hid (HX2.out.below hb (by have := HX2.out.lt; omega))
  have HG := Lib.hid hblk
  rw [← HDE.out] at HG
  have hgw : w.heap.size < g := by have := HB2.out.size; have := HX2.out.lt; omega
  have c0 := HX3.out.cell 0
  simp at c0
  clear hb hblk HD HX2 HB2
  go_wp2_with fail
  go_loopw [12] (fun i wr => ∃ k : Nat, k ≤ pn ∧ i = .int .i64 k ∧ Blk wr g 3 (intsA (half G D k)) ∧ Below w.heap.size w wr) (fun i _ => pn - (intOf i).toNat)
  case atStart => exact ⟨0, Nat.zero_le _, rfl, by rw [half_zero]; exact HG.out, HB3.out⟩
  case round =>
    obtain ⟨k, hk, rfl, hblk, hb⟩ := hrel
    have HK := Lib.hid hblk; have HB4 := Lib.hid hb
    by_cases hlt : k < pn
    · obtain ⟨b, o, p, hA, _, hp, p0, p1, p2, p3⟩ := ((HV.out.below hb).pars).atP hlt
      subst hA
      have hd : D[k]? = some (D[k]'(by omega)) := List.getElem?_eq_getElem (by omega)
      obtain ⟨d, hdd⟩ : ∃ d, d = D[k]'(by omega) := ⟨_, rfl⟩
      rw [← hdd] at hd
      have hcell : wr.cell? ⟨g, k, none⟩ = some (.int .i64 d) := by
        rw [hblk.cell k, intsA_get, half_get hGl (by omega), hd]; rfl
      have hfz := hblk.frozen k
      have hgx := HDG.out k p d hp hd
      have hset := half_set hGl hgx
      have hdb := HDB.out k d hd
      have hpb := HOK.out.parcel hp
      have hmul : 0 ≤ d * p.people ∧ d * p.people ≤ 10000000 := by
        constructor
        · exact Int.mul_nonneg hdb.1 hpb.2.2.1
        · calc d * p.people ≤ 10000 * p.people := Int.mul_le_mul_of_nonneg_right hdb.2 hpb.2.2.1
            _ ≤ 10000 * 1000 := Int.mul_le_mul_of_nonneg_left hpb.2.2.2 (by omega)
      have hw1 : IntKind.i64.wrap (d * p.people) = d * p.people := wi (by omega)
      have HSET := Lib.hid hset
      have hglt := hblk.lt
      clear hblk hb hset hgx hp hd hdd
      have hB5 := HK.out.set_ k (.int .i64 (d * p.people))
      rw [intsA_set, HSET.out] at hB5
      have hbb := HB4.out.setCell (p := ⟨g, k, none⟩) (Nat.le_of_lt hgw) (.int .i64 (d * p.people))
      have H5 := Lib.hid (blk_drew (hB5.alloc (.cells #[.int .i64 p.worth, .int .i64 p.price, .int .i64 p.people, .bool p.ins] 111)))
      have H6 := Lib.hid ((hbb.alloc hbb.size (.cells #[.int .i64 p.worth, .int .i64 p.price, .int .i64 p.people, .bool p.ins] 111)).drew)
      have hk0 : (0 : Int) ≤ (k : Int) := by omega
      have hkn : (k : Int) < (pn : Int) := by omega
      clear hB5 hbb
      go_wp2_with fail
      go_region
      all_goals
        go_wp2_with fail
        go_roundw
        case rel => exact ⟨k + 1, by omega, by go_num, H5.out, H6.out⟩
        case measure => simp [intOf] <;> omega
    · obtain rfl : k = pn := by omega
      rw [half_all hGl hDl] at HK
      clear hblk hb
      go_wp2_with fail
      go_ret
      exact ⟨g, rfl, Nat.le_of_lt hgw, HK.out, HB4.out⟩
end Go.Proofs.Ytphdndiikikecaa
