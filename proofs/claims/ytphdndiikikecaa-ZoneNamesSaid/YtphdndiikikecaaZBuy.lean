/- THE CONTRACT of zone.Buy. -/
import Derived.Test.YtphdndiikikecaaZTry
set_option linter.unusedVariables false
set_option linter.unusedSimpArgs false
namespace Go.Proofs.Ytphdndiikikecaa
open Go.RowKit Go.Proofs
attribute [local go_sem ↓] Go.wp_at_zero Go.wp_at_succ

theorem rd_drew {α : Type} {enc : α → List Value} {k : Nat} {w : World} {A : Option Addr} {n : Nat} {l : List α} (h : Rd enc k w A n l) : Rd enc k w.drew A n l := h
def pricesL (v : Vly) : List Int := v.pars.map (·.price)
set_option maxRecDepth 100000 in
set_option maxHeartbeats 1000000 in
theorem Buy_bad {v : Vly} {PA SA : Option Addr} {pn pc sn sc : Nat} {B : Int} {w : World} (h : RdV w PA pn SA sn v) (hpn : pn ≤ maxLen) (hsn : sn ≤ maxLen) (hbad : errV v ≠ 0) :
    Calls Try.prog 33 #[.agg #[.slice PA pn pc, .slice SA sn sc, .int .i64 v.s0, .int .i64 v.s1, .int .i64 v.s2], .int .i64 B] w
      fun e w' => e = .returned (.tuple #[.slice none 0 0, .int .i64 0, .int .i64 (errV v)]) ∧ Below w.heap.size w w' := by
  have hne : (errV v == 0) = false := by simpa using hbad
  obtain ⟨W, hW⟩ : ∃ W, W = ((w.alloc (.cells (vA PA pn pc SA sn sc v) 36)).alloc (.cells #[.int .i64 B] 3)).alloc (.cells #[.slice none 0 0] 39) := ⟨_, rfl⟩
  have hb0 : Below w.heap.size w W := by rw [hW]; exact (((Below.refl _ w).alloc (Nat.le_refl _) _).alloc (by simp) _).alloc (by simp; omega) _
  have hx := Blk.new ((w.alloc (.cells (vA PA pn pc SA sn sc v) 36)).alloc (.cells #[.int .i64 B] 3)) 39 #[.slice none 0 0]
  simp only [World.size_alloc] at hx
  rw [← hW] at hx
  have HC := Lib.hid (checkV_c (pc := pc) (sc := sc) (h.below hb0) hpn hsn)
  rw [hW] at HC
  obtain ⟨E, hE⟩ : ∃ E, E = errV v := ⟨_, rfl⟩
  rw [← hE] at HC hne hbad ⊢
  have HB := Lib.hid hb0; have HX := Lib.hid hx; have HW := Lib.hid hW
  clear h hE hb0 hx hW
  go_enter Try.func33, Try.ntmps33
  go_wp2_with fail
  refine HC.out.mono ?_
  rintro e w2 ⟨rfl, hb⟩
  rw [← HW.out] at hb
  have HB2 := Lib.hid (below_tr HB.out hb)
  have hx2 := HX.out.below hb HX.out.lt
  have c0 := hx2.cell 0
  have f0 := hx2.frozen 0
  simp at c0
  have HX2 := Lib.hid hx2
  clear hb hx2
  go_wp2_with fail
  have hx3 := HX2.out.set_ 0 (.slice none 0 0)
  have c3 := hx3.cell 0
  simp at c3
  refine bodyPost_ret (v := .tuple #[.slice none 0 0, .int .i64 0, .int .i64 E]) ?_ rfl ⟨rfl, HB2.out.setCell (by simp; omega) _⟩
  simp [results, Try.f33, go_sem, c3]

set_option maxRecDepth 100000 in
set_option maxHeartbeats 1000000 in
theorem Buy_fund {v : Vly} {PA SA : Option Addr} {pn pc sn sc : Nat} {B : Int} {w : World} (h : RdV w PA pn SA sn v) (hok : VOk v) (hf : inB B 0 100000000 = false) :
    Calls Try.prog 33 #[.agg #[.slice PA pn pc, .slice SA sn sc, .int .i64 v.s0, .int .i64 v.s1, .int .i64 v.s2], .int .i64 B] w
      fun e w' => e = .returned (.tuple #[.slice none 0 0, .int .i64 0, .int .i64 2]) ∧ Below w.heap.size w w' := by
  have hlp := h.pars.len; have hls := h.sls.len
  have hpn := hok.pn; have hsn := hok.sn
  obtain ⟨W, hW⟩ : ∃ W, W = ((w.alloc (.cells (vA PA pn pc SA sn sc v) 36)).alloc (.cells #[.int .i64 B] 3)).alloc (.cells #[.slice none 0 0] 39) := ⟨_, rfl⟩
  have hb0 : Below w.heap.size w W := by rw [hW]; exact (((Below.refl _ w).alloc (Nat.le_refl _) _).alloc (by simp) _).alloc (by simp; omega) _
  have hx := Blk.new ((w.alloc (.cells (vA PA pn pc SA sn sc v) 36)).alloc (.cells #[.int .i64 B] 3)) 39 #[.slice none 0 0]
  have hy := (Blk.new (w.alloc (.cells (vA PA pn pc SA sn sc v) 36)) 3 #[.int .i64 B]).alloc (.cells #[.slice none 0 0] 39)
  simp only [World.size_alloc] at hx hy
  rw [← hW] at hx hy
  have HC := Lib.hid (checkV_c (pc := pc) (sc := sc) (h.below hb0) (by unfold maxLen; omega) (by unfold maxLen; omega))
  rw [errV_zero.2 hok, hW] at HC
  have HF := Lib.hid (fun W => fund_c B W)
  rw [hf] at HF
  have HB := Lib.hid hb0; have HX := Lib.hid hx; have HW := Lib.hid hW; have HY := Lib.hid hy
  clear h hb0 hx hW hy hok hf
  go_enter Try.func33, Try.ntmps33
  go_wp2_with fail
  refine HC.out.mono ?_
  rintro e w2 ⟨rfl, hb⟩
  rw [← HW.out] at hb
  have HB2 := Lib.hid (below_tr HB.out hb)
  have hx2 := HX.out.below hb HX.out.lt
  have hy2 := HY.out.below hb HY.out.lt
  have c0 := hx2.cell 0
  have f0 := hx2.frozen 0
  have d0 := hy2.cell 0
  simp at c0 d0
  have HX2 := Lib.hid hx2
  clear hb hx2 hy2
  go_wp2_with fail
  refine (HF.out _).mono ?_
  rintro e w3 ⟨rfl, rfl⟩
  go_wp2_with fail
  have hx3 := HX2.out.set_ 0 (.slice none 0 0)
  have c3 := hx3.cell 0
  simp at c3
  refine bodyPost_ret (v := .tuple #[.slice none 0 0, .int .i64 0, .int .i64 2]) ?_ rfl ⟨rfl, HB2.out.setCell (by simp; omega) _⟩
  simp [results, Try.f33, go_sem, c3]

set_option maxRecDepth 100000 in
set_option maxHeartbeats 1000000 in
theorem Buy_ok {v : Vly} {PA SA : Option Addr} {pn pc sn sc : Nat} {B : Int} {w : World} (h : RdV w PA pn SA sn v) (hok : VOk v) (hf : inB B 0 100000000 = true) :
    Calls Try.prog 33 #[.agg #[.slice PA pn pc, .slice SA sn sc, .int .i64 v.s0, .int .i64 v.s1, .int .i64 v.s2], .int .i64 B] w
      fun e w' => ∃ A n c, e = .returned (.tuple #[.slice A n c, .int .i64 (bestB (gainsL v) (pricesL v) B).gain, .int .i64 0]) ∧ n ≤ 12 ∧ Rd enc1 1 w' A n (bestB (gainsL v) (pricesL v) B).set ∧ Below w.heap.size w w' := by
  have hlp := h.pars.len; have hls := h.sls.len
  have hpn := hok.pn; have hsn := hok.sn
  obtain ⟨W, hW⟩ : ∃ W, W = ((w.alloc (.cells (vA PA pn pc SA sn sc v) 36)).alloc (.cells #[.int .i64 B] 3)).alloc (.cells #[.slice none 0 0] 39) := ⟨_, rfl⟩
  have hb0 : Below w.heap.size w W := by rw [hW]; exact (((Below.refl _ w).alloc (Nat.le_refl _) _).alloc (by simp) _).alloc (by simp; omega) _
  have hx := Blk.new ((w.alloc (.cells (vA PA pn pc SA sn sc v) 36)).alloc (.cells #[.int .i64 B] 3)) 39 #[.slice none 0 0]
  have hy := (Blk.new (w.alloc (.cells (vA PA pn pc SA sn sc v) 36)) 3 #[.int .i64 B]).alloc (.cells #[.slice none 0 0] 39)
  have hz := ((Blk.new w 36 (vA PA pn pc SA sn sc v)).alloc (.cells #[.int .i64 B] 3)).alloc (.cells #[.slice none 0 0] 39)
  simp only [World.size_alloc] at hx hy
  rw [← hW] at hx hy hz
  have HC := Lib.hid (checkV_c (pc := pc) (sc := sc) (h.below hb0) (by unfold maxLen; omega) (by unfold maxLen; omega))
  rw [errV_zero.2 hok, hW] at HC
  have HF := Lib.hid (fun W => fund_c B W)
  rw [hf] at HF
  have hsW : W.heap.size = w.heap.size + 1 + 1 + 1 := by rw [hW]; simp
  have HV := Lib.hid h; have HOK := Lib.hid hok
  have HB := Lib.hid hb0; have HX := Lib.hid hx; have HW := Lib.hid hW; have HY := Lib.hid hy; have HZ := Lib.hid hz
  have hGl : (gainsL v).length = pn := by rw [gainsL_len, hlp]
  have hGb := gainsL_bd hok
  obtain ⟨G, hG⟩ : ∃ G, G = gainsL v := ⟨_, rfl⟩
  have HG := Lib.hid hG
  have HRS := Lib.hid (show bestB G (pricesL v) B = tryB G (v.pars.map (·.price)) B pn 0 0 0 [] ⟨0, 0, []⟩ by unfold bestB; rw [hG, hGl]; rfl)
  rw [← hG] at hGl hGb ⊢
  obtain ⟨RS, hRS⟩ : ∃ RS, RS = bestB G (pricesL v) B := ⟨_, rfl⟩
  rw [← hRS] at HRS ⊢
  clear h hb0 hx hW hy hz hok hf hG hRS
  go_enter Try.func33, Try.ntmps33
  go_wp2_with fail
  refine HC.out.mono ?_
  rintro e w2 ⟨rfl, hb⟩
  rw [← HW.out] at hb
  have HB2 := Lib.hid (below_tr HB.out hb)
  have HX2 := Lib.hid (HX.out.below hb HX.out.lt)
  have HY2 := Lib.hid (HY.out.below hb HY.out.lt)
  have HZ2 := Lib.hid (HZ.out.below hb HZ.out.lt)
  have hs2 := hb.size
  have c0 := HX2.out.cell 0
  have d0 := HY2.out.cell 0
  simp at c0 d0
  obtain ⟨q0, q1, q2, q3, q4⟩ := (show SV w2 w.heap.size (vA PA pn pc SA sn sc v) w2 from ⟨Below.refl _ _, HZ2.out⟩).cells
  have HGN := Lib.hid (gains_c (pc := pc) (sc := sc) (HV.out.below HB2.out) HOK.out)
  rw [← HG.out] at HGN
  clear hb HX HY HZ HC
  go_wp2_with fail
  refine (HF.out _).mono ?_
  rintro e w2' ⟨rfl, rfl⟩
  go_wp2_with fail
  refine HGN.out.mono ?_
  rintro e w3 ⟨gg, rfl, hgg, hgr, hb⟩
  have HB3 := Lib.hid (below_tr HB2.out hb)
  have HX3 := Lib.hid (HX2.out.below hb HX2.out.lt)
  have HY3 := Lib.hid (HY2.out.below hb HY2.out.lt)
  have HZ3 := Lib.hid (HZ2.out.below hb HZ2.out.lt)
  have HGR := Lib.hid hgr
  have hs3 := hb.size
  have hgl := hgr.lt
  clear hb hgr HX2 HY2 HZ2 HGN HF c0 d0 q0 q1 q2 q3 q4
  go_wp2_with fail
  obtain ⟨E, hE⟩ : ∃ E : Env, E = { Bb := w.heap.size + 1, Bt := w3.heap.size + 1, Bs := w.heap.size + 1 + 1, Bg := w3.heap.size, Bf := w3.heap.size + 1 + 1, Bv := w.heap.size, gg := gg, base := w3.heap.size + 1 + 1 + 1, PA := PA, pn := pn, pc := pc, SA := SA, sn := sn, sc := sc, v := v, B := B, G := G } := ⟨_, rfl⟩
  obtain ⟨W4, hW4⟩ : ∃ W4 : World, W4 = ((w3.alloc (.cells #[.slice (some ⟨gg, 0, none⟩) pn pn] 39)).alloc (.cells #[.int .i64 0, .int .i64 0] 117)).alloc (.cells #[.func (.func 65) #[] E.cap] 118) := ⟨_, rfl⟩
  have hb4 : Below w3.heap.size w3 W4 := by rw [hW4]; exact (((Below.refl _ w3).alloc (Nat.le_refl _) _).alloc (by simp) _).alloc (by simp; omega) _
  have k1 := ((Blk.new w3 39 #[.slice (some ⟨gg, 0, none⟩) pn pn]).alloc (.cells #[.int .i64 0, .int .i64 0] 117)).alloc (.cells #[.func (.func 65) #[] E.cap] 118)
  have k2 := (Blk.new (w3.alloc (.cells #[.slice (some ⟨gg, 0, none⟩) pn pn] 39)) 117 #[.int .i64 0, .int .i64 0]).alloc (.cells #[.func (.func 65) #[] E.cap] 118)
  have k3 := Blk.new ((w3.alloc (.cells #[.slice (some ⟨gg, 0, none⟩) pn pn] 39)).alloc (.cells #[.int .i64 0, .int .i64 0] 117)) 118 #[.func (.func 65) #[] E.cap]
  simp only [World.size_alloc] at k2 k3
  rw [← hW4] at k1 k2 k3
  have hs4 : W4.heap.size = w3.heap.size + 1 + 1 + 1 := by rw [hW4]; simp
  have hEok : E.Ok w := by
    subst hE
    refine ⟨?_, ?_, ?_, ?_, HOK.out, hGl, hGb, HV.out⟩
    all_goals (simp only; omega)
  have hfix : TFix E w W4 := by
    subst hE
    exact ⟨HY3.out.below hb4 HY3.out.lt, k1, HGR.out.below hb4 hgl, k3, HZ3.out.below hb4 HZ3.out.lt, HB3.out.trans (hb4.mono HB3.out.size), by simp only; omega⟩
  have hst : TSt E W4 ⟨0, 0, []⟩ none 0 0 := by
    subst hE
    exact ⟨k2, HX3.out.below hb4 HX3.out.lt, Rd.nil _ _ _ _, ⟨by simp, by simp, by simp⟩, by omega, fun a ha => by cases ha⟩
  have hcall := try_c hEok pn W4 0 0 0 [] (.slice none 0 0) 0 ⟨0, 0, []⟩ none 0 0 (by subst hE; simp) rfl (Nat.le_refl _) (by simp) (by simp) hfix hst (World.ownsRow_nil _ _ _ _) (fun a ha => by cases ha)
  have hEv : E.v = v ∧ E.G = G ∧ E.B = B := by subst hE; exact ⟨rfl, rfl, rfl⟩
  rw [hEv.1, hEv.2.1, hEv.2.2, ← HRS.out] at hcall
  have hbase : E.base = w3.heap.size + 1 + 1 + 1 ∧ E.Bt = w3.heap.size + 1 ∧ E.Bs = w.heap.size + 1 + 1 := by subst hE; exact ⟨rfl, rfl, rfl⟩
  rw [hW4] at hcall
  have hcap : E.cap = #[.pointer (some ⟨w.heap.size + 1, 0, none⟩), .pointer (some ⟨w3.heap.size + 1, 0, none⟩), .pointer (some ⟨w.heap.size + 1 + 1, 0, none⟩), .pointer (some ⟨w3.heap.size, 0, none⟩), .pointer (some ⟨w3.heap.size + 1 + 1, 0, none⟩), .pointer (some ⟨w.heap.size, 0, none⟩)] := by subst hE; rfl
  rw [hcap] at hcall
  have HH := Lib.hid (And.intro hEok (And.intro hbase (And.intro hW4 (And.intro hb4 hcap))))
  clear hEok hfix hst hEv hbase hb4 k1 k2 k3 hW4 hE hcap
  refine hcall.mono ?_
  intro e w5 hTP
  obtain ⟨rfl, A5, n5, c5, ht5, hf5, _, _, hfr5⟩ := tryP_out hTP
  have hbest := ht5.best; have hset := ht5.set
  rw [HH.out.2.1.2.1] at hbest
  rw [HH.out.2.1.2.2] at hset
  have c0 := hbest.cell 0
  have d0 := hset.cell 0
  have f0 := hset.frozen 0
  simp at c0 d0
  have HST := Lib.hid hset
  have HT5 := Lib.hid ht5
  have HB5 := Lib.hid hf5.below
  have hbs := HH.out.2.1.1
  clear hbest hset ht5 hf5 hfr5 hTP hcall HH
  have hne : ¬ w.heap.size + 1 + 1 = w3.heap.size + 1 := by have := HB3.out.size; omega
  go_wp2_with fail
  go_region
  all_goals
    go_wp2_with fail
    have hx3 := HST.out.set_ 0 (.slice A5 n5 c5)
    have c3 := hx3.cell 0
    simp at c3
    refine bodyPost_ret (v := .tuple #[.slice A5 n5 c5, .int .i64 RS.gain, .int .i64 0]) ?_ rfl ⟨A5, n5, c5, rfl, HT5.out.le, ?_, ?_⟩
    · simp [results, Try.f33, go_sem, c3]
    · refine rd_drew (((Fr.refl (fun b => b = w.heap.size + 1 + 1) w5).setAt (p := ⟨w.heap.size + 1 + 1, 0, none⟩) (.inl rfl) (.slice A5 n5 c5)).rd HT5.out.rd fun a ha hh => ?_)
      have := (HT5.out.far a ha).1
      have := HB3.out.size
      omega
    · exact (HB5.out.setCell (by simp; omega) _).drew
end Go.Proofs.Ytphdndiikikecaa
