/- THE WALK of ZoneMoney. -/
import Derived.Test.YtphdndiikikecaaZLawBuys
import Derived.Test.YtphdndiikikecaaZMoneyLaw
import Derived.Test.YtphdndiikikecaaZCopy
import Derived.Test.YtphdndiikikecaaZMono
namespace Go.Proofs.Ytphdndiikikecaa
open Go.RowKit Go.Proofs
attribute [local go_sem ↓] Go.wp_at_zero Go.wp_at_succ

theorem infoRPar : (Try.prog.info? 57).map (fun i => (i.zero, i.size, i.bytes)) = some (some (.agg #[.int .i64 0, .int .i64 0, .int .i64 0, .bool false]), 4, 32) := by kernel_rfl
theorem infoRSli : (Try.prog.info? 62).map (fun i => (i.zero, i.size, i.bytes)) = some (some (.agg #[.slice none 0 0, .int .i64 0, .int .i64 0, .int .i64 0]), 4, 48) := by kernel_rfl
/-- two copies of a box have been made -/
def Cop (w : World) (VC : Array Value) (w1 : World) (a b : Value) (W : World) : Prop := ∃ bx bz, a = .pointer (some ⟨bx, 0, none⟩) ∧ b = .pointer (some ⟨bz, 0, none⟩) ∧ MS w w.heap.size bx bz VC VC VC W ∧ Below w1.heap.size w1 W
theorem Cop.one {w w1 : World} {VC : Array Value} (h : SW w w.heap.size VC w1) : Cop w VC w1 (.pointer (some ⟨w1.heap.size, 0, none⟩)) (.pointer (some ⟨w1.heap.size + 1, 0, none⟩)) (((w1.alloc (.cells VC 26)).alloc (.cells VC 26)).drew) := by
  have hl := h.2.lt
  have hb : Below w1.heap.size w1 ((w1.alloc (.cells VC 26)).alloc (.cells VC 26)) := ((Below.refl _ w1).alloc (Nat.le_refl _) _).alloc (by simp) _
  have h2 := Blk.new (w1.alloc (.cells VC 26)) 26 VC
  rw [World.size_alloc] at h2
  have hwl := h.bel.size
  exact ⟨_, _, rfl, rfl, (show MS w w.heap.size w1.heap.size (w1.heap.size + 1) VC VC VC _ from ⟨below_tr h.bel hb, h.2.below hb hl, (Blk.new w1 _ VC).alloc _, h2, by omega, by omega, by omega, by omega, by omega⟩).drew, hb.drew⟩
theorem Cop.two {w w1 : World} {VC : Array Value} (h : SW w w.heap.size VC w1) : Cop w VC w1 (.pointer (some ⟨w1.heap.size + 1, 0, none⟩)) (.pointer (some ⟨w1.heap.size, 0, none⟩)) (((w1.alloc (.cells VC 26)).alloc (.cells VC 26)).drew) := by
  have hl := h.2.lt
  have hb : Below w1.heap.size w1 ((w1.alloc (.cells VC 26)).alloc (.cells VC 26)) := ((Below.refl _ w1).alloc (Nat.le_refl _) _).alloc (by simp) _
  have h2 := Blk.new (w1.alloc (.cells VC 26)) 26 VC
  rw [World.size_alloc] at h2
  have hwl := h.bel.size
  exact ⟨_, _, rfl, rfl, (show MS w w.heap.size (w1.heap.size + 1) w1.heap.size VC VC VC _ from ⟨below_tr h.bel hb, h.2.below hb hl, h2, (Blk.new w1 _ VC).alloc _, by omega, by omega, by omega, by omega, by omega⟩).drew, hb.drew⟩

theorem vA_set0 (PA : Option Addr) (pn pc : Nat) (SA : Option Addr) (sn sc : Nat) (v : Vly) (A : Option Addr) (n c : Nat) : (vA PA pn pc SA sn sc v).setIfInBounds 0 (.slice A n c) = vA A n c SA sn sc v := rfl
theorem vA_set1 (PA : Option Addr) (pn pc : Nat) (SA : Option Addr) (sn sc : Nat) (v : Vly) (A : Option Addr) (n c : Nat) : (vA PA pn pc SA sn sc v).setIfInBounds 1 (.slice A n c) = vA PA pn pc A n c v := rfl
theorem own_low {w : World} {b b' : Nat} {e : TypeId} {k n : Nat} {v : Value} {xs : List Value} (h : w.ownsRow b e k v n xs) (hb : b' ≤ b) : w.ownsRow b' e k v n xs := by
  refine ⟨h.1, ?_⟩
  rcases h.2 with h0 | ⟨g, cap, cur, hv, hbg, r⟩
  · exact .inl h0
  · exact .inr ⟨g, cap, cur, hv, Nat.le_trans hb hbg, r⟩
theorem lit_news {W w11 : World} {x : Int} (hb : Below (W.alloc (.cells #[.int .i64 x] 3)).drew.heap.size (W.alloc (.cells #[.int .i64 x] 3)).drew w11) : ∀ (j : Nat) (u : Value), [Value.int .i64 x][j]? = some u → w11.cell? ((⟨W.heap.size, 0, none⟩ : Addr).add j) = some u := by
  intro j u hj
  have h0 : j = 0 := by have := (List.getElem?_eq_some_iff.1 hj).1; simp at this; exact this
  subst h0
  simp at hj
  subst hj
  have h1 := (Blk.new W 3 #[.int .i64 x]).drewN 1
  have h2 : Blk (W.alloc (.cells #[.int .i64 x] 3)).drew W.heap.size 3 #[.int .i64 x] := h1
  have h3 := (h2.below hb h2.lt).cell 0
  simpa [Addr.add] using h3
theorem own_cap {w : World} {b : Nat} {e : TypeId} {k n c : Nat} {A : Option Addr} {xs : List Value} (h : w.ownsRow b e k (.slice A n c) n xs) : n ≤ c := by
  obtain ⟨A', c', e, hc⟩ := own_form h
  cases e; exact hc
theorem drew_le (W : World) : W.heap.size ≤ W.drew.heap.size := Nat.le_refl _
theorem alloc_le (W : World) (o : Obj) : W.heap.size ≤ (W.alloc o).drew.heap.size := ((Below.refl W.heap.size W).alloc (Nat.le_refl _) o).drew.size
/-- the world behind the copies: x with a lesser price, y with one parcel more -/
def YFin (w : World) (v : Vly) (q : Par) (PX : List Par) (PA : Option Addr) (pn pc : Nat) (SA : Option Addr) (sn sc gx cx gy cy bx bz : Nat) (W : World) : Prop :=
  ∃ (A : Option Addr) (c : Nat) (L : List Sli), MS w w.heap.size bx bz (vA PA pn pc SA sn sc v) (vA (some ⟨gx, 0, none⟩) pn cx SA sn sc v) (vA (some ⟨gy, 0, none⟩) (pn + 1) cy A sn c v) W ∧
    RdV W (some ⟨gy, 0, none⟩) (pn + 1) A sn ⟨v.pars ++ [q], L, v.s0, v.s1, v.s2⟩ ∧ MoreOf v ⟨v.pars ++ [q], L, v.s0, v.s1, v.s2⟩ q ∧ (∀ s ∈ L, s.way.length ≤ 1000) ∧ Rd encP 4 W (some ⟨gx, 0, none⟩) pn PX
theorem more_same (v : Vly) (q : Par) : MoreOf v ⟨v.pars ++ [q], v.sls, v.s0, v.s1, v.s2⟩ q :=
  ⟨rfl, rfl, fun k s s' h h' => by rw [h] at h'; cases h'; exact ⟨rfl, rfl, rfl, .inl rfl⟩, rfl, rfl, rfl⟩

set_option maxRecDepth 100000 in
set_option maxHeartbeats 4000000 in
theorem ZoneMoney_w {v : Vly} {c m a8 : Int} {PA SA : Option Addr} {pn pc sn sc : Nat} {w : World} (h : RdV w PA pn SA sn v) (hpn : pn ≤ maxLen) (hsn : sn ≤ maxLen) (hc : 0 ≤ c ∧ c ≤ 4294967295) (hm : 0 ≤ m ∧ m ≤ 65535) (ha : 0 ≤ a8 ∧ a8 ≤ 255) :
    Calls Try.prog 6 #[.agg #[.slice PA pn pc, .slice SA sn sc, .int .i64 v.s0, .int .i64 v.s1, .int .i64 v.s2], .int .u32 c, .int .u16 m, .int .u8 a8] w fun e w' => e = .returned (.bool true) ∧ Below w.heap.size w w' := by
  obtain ⟨i0, hi0, hz0, hz1, hz2⟩ := info_parts infoRPar
  have HI := Lib.hid hi0; have HZ0 := Lib.hid hz0; have HZ1 := Lib.hid hz1; have HZ2 := Lib.hid hz2
  clear hi0 hz0 hz1 hz2
  obtain ⟨j0, hi0, hz0, hz1, hz2⟩ := info_parts infoRSli
  have JI := Lib.hid hi0; have JZ0 := Lib.hid hz0; have JZ1 := Lib.hid hz1; have JZ2 := Lib.hid hz2
  clear hi0 hz0 hz1 hz2
  obtain ⟨k0, hi0, hz0, hz1, hz2⟩ := info_parts infoZ
  have KI := Lib.hid hi0; have KZ0 := Lib.hid hz0; have KZ1 := Lib.hid hz1; have KZ2 := Lib.hid hz2
  clear hi0 hz0 hz1 hz2
  have hlp := h.pars.len; have hls := h.sls.len
  have HS0 := Lib.hid (SW.new w (vA PA pn pc SA sn sc v))
  have HRY := Lib.hid (ready_c (pc := pc) (sc := sc) (h.below HS0.out.bel) hpn hsn)
  have HV := Lib.hid h
  by_cases hearly : readyB v = false ∨ 11 < pn
  · have hcases : readyB v = false ∨ (readyB v = true ∧ 11 < pn) := by
      cases hrd : readyB v
      · exact .inl rfl
      · exact .inr ⟨rfl, hearly.resolve_left (by rw [hrd]; simp)⟩
    clear hearly h
    rcases hcases with hrd | ⟨hrd, hgt⟩
    · rw [hrd] at HRY
      clear hrd
      go_enter Try.func6, Try.ntmps6
      go_wp2_with fail
      refine HRY.out.mono ?_
      rintro e w1 ⟨rfl, hb⟩
      have HB1 := Lib.hid (below_tr HS0.out.bel hb)
      clear hb
      go_wp2_with (go_at_call 18; refine (wakes_ok _).mono ?_; rintro e w2 ⟨rfl, hb2⟩)
      go_ret
      exact ⟨rfl, below_tr HB1.out hb2⟩
    · rw [hrd] at HRY
      have hg : (11 : Int) < (pn : Int) := by omega
      clear hrd
      go_enter Try.func6, Try.ntmps6
      go_wp2_with fail
      refine HRY.out.mono ?_
      rintro e w1 ⟨rfl, hb⟩
      have HS1 := Lib.hid (HS0.out.below hb)
      obtain ⟨c0, c1, c2, c3, c4⟩ := HS1.out.cells
      clear hb
      go_wp2_with (go_at_call 18; refine (wakes_ok _).mono ?_; rintro e w2 ⟨rfl, hb2⟩)
      go_ret
      exact ⟨rfl, below_tr HS1.out.bel hb2⟩
  · have hrd : readyB v = true := by
      cases hrd : readyB v
      · exact absurd (.inl hrd) hearly
      · rfl
    have hp11 : pn ≤ 11 := by omega
    have hg : ¬ (11 : Int) < (pn : Int) := by omega
    have hgd : decide ((11 : Int) < (pn : Int)) = false := decide_eq_false hg
    rw [hrd] at HRY
    obtain ⟨hth, hok⟩ := readyB_iff.1 hrd
    have htt := thinB_iff.1 hth
    have hsn10 : sn ≤ 10 := by have := hok.sn; omega
    have hp1 : 1 ≤ pn := by have := hok.pn; omega
    have HWY := Lib.hid (fun (s : Sli) (hs : s ∈ v.sls) => show s.way.length ≤ 15 from htt.1 s hs)
    have HOK := Lib.hid hok
    have hF0 := modc hc
    obtain ⟨F, hF⟩ : ∃ F, F = c.tmod 100000001 := ⟨_, rfl⟩
    rw [← hF] at hF0
    have hwc : IntKind.i64.wrap c = c := wi (by omega)
    have hwF : IntKind.i64.wrap F = F := wi (by omega)
    have hFm : c.tmod 100000001 = F := hF.symm
    have hwm : IntKind.i64.wrap m = m := wi (by omega)
    obtain ⟨X, rfl⟩ : ∃ X : Nat, a8 = (X : Int) := ⟨a8.toNat, by omega⟩
    have hwX : IntKind.i64.wrap (X : Int) = (X : Int) := wi (by omega)
    have hQm := tmodn X pn (pn : Int) rfl
    have hQl := Nat.mod_lt X (show 0 < pn by omega)
    obtain ⟨Q, hQ⟩ : ∃ Q, Q = X % pn := ⟨_, rfl⟩
    rw [← hQ] at hQm hQl
    have hwQ : IntKind.i64.wrap (Q : Int) = (Q : Int) := wi (by omega)
    have hQn : (Q : Int) < (pn : Int) := by omega
    have hQ0 : (0 : Int) ≤ (Q : Int) := by omega
    have hpz1 : ¬ (pn : Int) = 0 := by omega
    have hpz2 : ((pn : Int) == 0) = false := by rw [beq_eq_false_iff_ne]; exact hpz1
    have HLP := Lib.hid hlp; have HLS := Lib.hid hls
    clear h hrd hok hth htt hF hQ hearly hlp hls hg
    go_enter Try.func6, Try.ntmps6
    go_wp2_with fail
    refine HRY.out.mono ?_
    rintro e w1 ⟨rfl, hb⟩
    have HS1 := Lib.hid (HS0.out.below hb)
    obtain ⟨c0, c1, c2, c3, c4⟩ := HS1.out.cells
    clear hb HRY HS0
    go_upto_region 4 with fail
    go_cut [10, 11] (fun x y wx => Cop w (vA PA pn pc SA sn sc v) w1 x y wx)
    case first =>
      have hnl := HS1.out.2.lt
      go_region
      all_goals
        go_wp2_with fail
        go_meet
        first | exact Cop.one HS1.out | exact Cop.two HS1.out
    case rest =>
      obtain ⟨bx, bz, rfl, rfl, hms, hb⟩ := hcut
      obtain ⟨W2, hW2⟩ : ∃ W2, W2 = wc := ⟨_, rfl⟩
      rw [← hW2] at hms hb ⊢
      have HMS := Lib.hid hms
      obtain ⟨e1, e2, e3, e4, e5⟩ := hms.ne
      have hwl := hms.vs.lt
      have c0 := hms.vs.cell 0
      simp at c0
      have HP2 := Lib.hid (HV.out.pars.below hms.bel)
      clear hW2 hms hb HS1 c1 c2 c3 c4
      go_wp2_with (at_builtin; go_must (refine wpList_append_rd rfl _ _ 22 rfl W2.heap.size 57 i0 _ 4 32 Try.underlying22 HI.out HZ0.out HZ1.out HZ2.out rfl (by decide) _ 0 [] rfl (own_empty W2 _ 4) encP_len oneP PA pn pc v.pars rfl (HP2.out.below ((Below.refl _ W2).alloc (Nat.le_refl _) _)) (by unfold maxLen; omega) (by omega) (by simp) ?_; intro v' w3 hown' hgrow; rw [Nat.zero_add, List.nil_append] at hown'; obtain ⟨gx, cx, rfl, hgx, hgl, hgf⟩ := own_some hown' (by omega); have hb3 := copy_below rfl hgrow; have HM3 := Lib.hid (HMS.out.below hb3); have x0 := HM3.out.xs.cell 0; have xf := HM3.out.xs.frozen 0; simp at x0))
      have HRX := Lib.hid (Rd.of_own encP_len hown' HLP.out)
      have HM4 := Lib.hid (HM3.out.setX 0 (.slice (some ⟨gx, 0, none⟩) pn cx))
      have HRX4 := Lib.hid (HRX.out.far (p := ⟨bx, 0, none⟩) (fun a ha => by cases ha; have := HMS.out.xs.lt; show gx ≠ bx; omega) (.slice (some ⟨gx, 0, none⟩) pn cx))
      have hgf4 : ∀ j, (w3.setCell ⟨bx, 0, none⟩ (.slice (some ⟨gx, 0, none⟩) pn cx)).frozen? ⟨gx, j, none⟩ = false := fun j => by rw [World.frozen?_setCell]; exact hgf j
      have HGF := Lib.hid hgf4
      have hgl4 : gx < (w3.setCell ⟨bx, 0, none⟩ (.slice (some ⟨gx, 0, none⟩) pn cx)).heap.size := by simpa [World.setCell] using hgl
      obtain ⟨W4, hW4⟩ : ∃ W4, W4 = w3.setCell ⟨bx, 0, none⟩ (.slice (some ⟨gx, 0, none⟩) pn cx) := ⟨_, rfl⟩
      rw [← hW4] at HM4 HRX4 HGF hgl4 ⊢
      have hne4 : gx ≠ w.heap.size ∧ gx ≠ bx ∧ gx ≠ bz := by have h1 := HMS.out.xs.lt; have h2 := HMS.out.zs.lt; have h3 := HMS.out.vs.lt; omega
      clear hown' hgrow hb3 c0 HMS hgf hgf4 x0 xf hW4 HRX HM3 hgl
      go_upto_region 6 with fail
      obtain ⟨b7, o7, p, hA7, hbl7, hp, p0, p1, p2, p3⟩ := HRX4.out.atP hQl
      cases hA7
      rw [Nat.zero_add] at p1
      have x4 := HM4.out.xs.cell 0
      simp at x4
      have hpb := (HOK.out.parcel hp).2.1
      have hwp : IntKind.i64.wrap (p.price - m) = p.price - m := wi (by omega)
      have pf := HGF.out (Q * 4 + 1)
      have HP := Lib.hid hp
      obtain ⟨np, hnp⟩ : ∃ np, np = max 0 (p.price - m) := ⟨_, rfl⟩
      have HNP := Lib.hid hnp
      have HRX5 := Lib.hid (fun n => (show Rd encP 4 (W4.drewN n) (some ⟨gx, 0, none⟩) pn v.pars from HRX4.out).set1 (x' := ⟨p.worth, np, p.people, p.ins⟩) (u := .int .i64 np) encP_len HP.out (show 1 < 4 by omega) rfl (fun j hj h1 => by
        match j, h1 with
        | 0, _ => rfl
        | 2, _ => rfl
        | 3, _ => rfl
        | j + 4, _ => rfl))
      have HM5 := Lib.hid (fun n => (HM4.out.drewN n).setO (p := ⟨gx, 0 + Q * 4 + 1, none⟩) ⟨by have := HM4.out.bel.size; have := HM4.out.ne; have := HM4.out.vs.lt; show w.heap.size ≤ gx; omega, Ne.symm hne4.1, Ne.symm hne4.2.1, Ne.symm hne4.2.2⟩ (.int .i64 np))
      simp only [Nat.zero_add] at HRX5 HM5
      clear hp hnp p0 p2 p3
      go_quiet (fail)
      go_upto_region 8 with fail
      obtain ⟨W5, hW5⟩ : ∃ W5, W5 = (W4.drewN nq).setCell ⟨gx, Q * 4 + 1, none⟩ (.int .i64 (max 0 (p.price - m))) := ⟨_, rfl⟩
      have HRX6 := Lib.hid (HRX5.out nq)
      have HM6 := Lib.hid (HM5.out nq)
      rw [HNP.out, ← hW5] at HRX6 HM6
      rw [← hW5]
      have hgl5 : gx < W5.heap.size := by rw [hW5]; simpa [World.setCell] using hgl4
      have HP5 := Lib.hid (HV.out.pars.below HM6.out.bel)
      have c0 := HM6.out.vs.cell 0
      have z0 := HM6.out.zs.cell 0
      simp at c0 z0
      have hwl5 := HM6.out.vs.lt
      have hzl5 := HM6.out.zs.lt
      clear hW5 HRX5 HM5 HM4 HRX4 x4 pf p1 hgl4 HGF hbl7
      go_upto_region 9 with (first
        | (at_builtin; (refine wpList_append_rd rfl (.tmp 65) (.tmp 67) 22 rfl W5.heap.size 57 i0 _ 4 32 Try.underlying22 HI.out HZ0.out HZ1.out HZ2.out rfl (by decide) _ 0 [] rfl (own_empty W5 _ 4) encP_len oneP PA pn pc v.pars rfl (HP5.out.below ((Below.refl _ W5).alloc (Nat.le_refl _) _)) (by unfold maxLen; omega) (by omega) (by simp) ?_; intro v6 w6 hown6 hgrow6; rw [Nat.zero_add, List.nil_append] at hown6; obtain ⟨gy1, cy1, rfl, hgy1, hgl1, _⟩ := own_some hown6 (by omega); have HB6 := Lib.hid (copy_below rfl hgrow6)))
        | (at_builtin; go_must (refine wpList_append_own_at _ rfl (.tmp 68) (.tmp 72) 22 rfl W5.heap.size 57 i0 _ 4 32 Try.underlying22 HI.out HZ0.out HZ1.out HZ2.out rfl (by decide) _ _ _ rfl (hown6.alloc _) ⟨w6.heap.size, 0, none⟩ 1 1 [.int .i64 0, .int .i64 m, .int .i64 3, .bool false] rfl rfl (fun j u hj => World.news_of_block (cs := #[.int .i64 0, .int .i64 m, .int .i64 3, .bool false]) (t := 57) (fr := (0, 0)) (heap_alloc_new w6 _) j u hj) (by simp [Value.oneCell']) (by unfold maxLen; omega) (by omega) (by simp; have := HB6.out.size; omega) ?_; intro v7 w7 hown7 hgrow7 _ _; obtain ⟨gy, cy, rfl, hgy, hgyl, hgyf⟩ := own_some hown7 (by omega); have HB7 := Lib.hid ((HB6.out.alloc HB6.out.size (.cells #[.int .i64 0, .int .i64 m, .int .i64 3, .bool false] 57)).grown hgrow7 (by simp; have := HB6.out.size; omega) (fun b hb => by cases hb; exact hgy1)); have HM7 := Lib.hid (HM6.out.below HB7.out); have z7 := HM7.out.zs.cell 0; have zf7 := HM7.out.zs.frozen 0; simp at z7)))
      obtain ⟨q, hq⟩ : ∃ q : Par, q = ⟨0, m, 3, false⟩ := ⟨_, rfl⟩
      have HQ := Lib.hid hq
      have hrow : w7.ownsRow W5.heap.size 57 4 (.slice (some ⟨gy, 0, none⟩) (pn + 1) cy) (pn + 1) ((v.pars ++ [q]).flatMap encP) := by
        rw [List.flatMap_append, hq]
        exact hown7
      have hry := Rd.of_own encP_len hrow (by rw [List.length_append, HLP.out]; rfl)
      have hzb := HM6.out.zs.lt
      have HRY8 := Lib.hid (hry.far (p := ⟨bz, 0, none⟩) (fun a ha => by cases ha; show gy ≠ bz; omega) (.slice (some ⟨gy, 0, none⟩) (pn + 1) cy))
      have HRX8 := Lib.hid ((HRX6.out.below HB7.out).far (p := ⟨bz, 0, none⟩) (fun a ha => by cases ha; exact hne4.2.2) (.slice (some ⟨gy, 0, none⟩) (pn + 1) cy))
      have HM8 := Lib.hid (HM7.out.setZ 0 (.slice (some ⟨gy, 0, none⟩) (pn + 1) cy))
      obtain ⟨W8, hW8⟩ : ∃ W8, W8 = w7.setCell ⟨bz, 0, none⟩ (.slice (some ⟨gy, 0, none⟩) (pn + 1) cy) := ⟨_, rfl⟩
      rw [← hW8] at HRY8 HRX8 HM8 ⊢
      have hgy8 : gx < W8.heap.size ∧ gy < W8.heap.size := by rw [hW8]; have := HB7.out.size; simp only [World.setCell, Array.size_modify]; omega
      have hgyn : gy ≠ gx ∧ gy ≠ bx ∧ gy ≠ bz ∧ gy ≠ w.heap.size := by have := HM6.out.xs.lt; have := HM6.out.vs.lt; omega
      have HP8 := Lib.hid (HV.out.below HM8.out.bel)
      have c1 := HM8.out.vs.cell 1
      have z1 := HM8.out.zs.cell 1
      simp at c1 z1
      have hwl8 := HM8.out.vs.lt
      have hzl8 := HM8.out.zs.lt
      have hxl8 := HM8.out.xs.lt
      clear hq hrow hry hown6 hown7 hgrow6 hgrow7 hW8 HM7 HB7 HB6 HM6 z7 zf7 z0 c0 HRX6 hgyf hwl5 hzl5
      go_upto_if 83 with (at_builtin; go_must (refine wpList_append_rd rfl _ _ 23 rfl W8.heap.size 62 j0 _ 4 48 Try.underlying23 JI.out JZ0.out JZ1.out JZ2.out rfl (by decide) _ 0 [] rfl (own_empty W8 _ 4) encS_len oneS4 SA sn sc v.sls rfl (HP8.out.sls.below ((Below.refl _ W8).alloc (Nat.le_refl _) _)) (by unfold maxLen; omega) (by omega) (by simp) ?_; intro v9 w9 hown9 hgrow9; rw [Nat.zero_add, List.nil_append] at hown9; obtain ⟨A9, c9, rfl, hc9⟩ := own_form hown9; have HB9 := Lib.hid (copy_below rfl hgrow9); have HM9 := Lib.hid (HM8.out.below HB9.out); have z9 := HM9.out.zs.cell 1; have zf9 := HM9.out.zs.frozen 1; simp at z9))
      have hfar : ∀ a, A9 = some a → a.block ≠ bz := fun a ha => by
        subst ha
        have h1 := (hown9.lt a.block rfl).1
        omega
      have hrs9 := Rd.of_own encS_len hown9 HLS.out
      obtain ⟨u, hu⟩ : ∃ u : Value, u = .slice A9 sn c9 := ⟨_, rfl⟩
      have HRS := Lib.hid (hrs9.far (p := ⟨bz, 1, none⟩) hfar (.slice A9 sn c9))
      have HRP := Lib.hid ((HRY8.out.below HB9.out).far (p := ⟨bz, 1, none⟩) (fun a ha => by cases ha; exact hgyn.2.2.1) (.slice A9 sn c9))
      have HRX := Lib.hid ((HRX8.out.below HB9.out).far (p := ⟨bz, 1, none⟩) (fun a ha => by cases ha; exact hne4.2.2) (.slice A9 sn c9))
      have HM10 := Lib.hid (HM9.out.setZ 1 (.slice A9 sn c9))
      rw [vA_set0, vA_set0, vA_set1] at HM10
      obtain ⟨W10, hW10⟩ : ∃ W10, W10 = w9.setCell ⟨bz, 1, none⟩ (.slice A9 sn c9) := ⟨_, rfl⟩
      rw [← hW10] at HRS HRP HRX HM10 ⊢
      have hown10 : W10.ownsRow W8.heap.size 62 4 (.slice A9 sn c9) sn (v.sls.flatMap encS) := by
        rw [hW10]
        exact ownsRow_setCell_other hown9 (a := ⟨bz, 1, none⟩) (fun e => by
          obtain ⟨a, ha, hb⟩ : ∃ a, A9 = some a ∧ a.block = bz := by
            cases A9 with
            | none => simp [Value.ownBlock] at e
            | some a => exact ⟨a, rfl, by simpa [Value.ownBlock] using e⟩
          exact hfar a ha hb) _
      have hsz10 : W8.heap.size ≤ W10.heap.size := by rw [hW10]; have := HB9.out.size; simpa [World.setCell] using this
      have HO10 := Lib.hid hown10
      have HWT := Lib.hid (fun W (hW : Below w.heap.size w W) => (HV.out.below hW).way)
      have HQW := Lib.hid hQn
      clear hown9 hgrow9 hfar hrs9 HB9 HM9 z9 zf9 hW10 hown10 HRY8 HRX8 HM8 c1 z1 hu
      go_cut [] (fun wx => YFin w v q (v.pars.set Q ⟨p.worth, max 0 (p.price - m), p.people, p.ins⟩) PA pn pc SA sn sc gx cx gy cy bx bz wx)
      case first =>
        by_cases hs0 : sn = 0
        · subst hs0
          have hL0 : v.sls = [] := List.eq_nil_of_length_eq_zero HLS.out
          go_wp2_with fail
          go_meet
          exact ⟨A9, c9, v.sls, HM10.out, ⟨HRP.out, HRS.out, (fun i s hs => by rw [hL0] at hs; simp at hs)⟩, more_same v q, (fun s hs => by rw [hL0] at hs; cases hs), HRX.out⟩
        · obtain ⟨s, hs⟩ : ∃ s, v.sls[0]? = some s := ⟨_, List.getElem?_eq_getElem (by have := HLS.out; omega)⟩
          have hwy := (HWT.out _ HM10.out.bel) 0 s hs
          have hsl := HOK.out.slide hs
          have hwl := wayTo_len hsl.1
          have hwn := hwy.1.len
          have hn1 : 1 ≤ s.n ∧ s.n ≤ 11 := by have := HLP.out; omega
          obtain ⟨gs, cs9, hA9, hgs, hgsl, hgsf⟩ := own_some HO10.out (show 0 < sn by omega)
          obtain ⟨rfl, rfl⟩ : A9 = some ⟨gs, 0, none⟩ ∧ c9 = cs9 := by
            simp only [Value.slice.injEq, true_and] at hA9; exact hA9
          obtain ⟨b, o, x, hA, hblt, hx, h0, h1, h2, h3⟩ := (HV.out.sls.below HM10.out.bel).atS (show 0 < sn by omega)
          rw [hs] at hx; cases hx
          subst hA
          rw [Nat.zero_mul, Nat.add_zero] at h0
          obtain ⟨b9, o9, x, hA9, hblt9, hx, g0, g1, g2, g3⟩ := HRS.out.atS (show 0 < sn by omega)
          rw [hs] at hx; cases hx
          cases hA9
          rw [Nat.zero_mul, Nat.add_zero] at g0
          have c0 := HM10.out.vs.cell 0
          have c1 := HM10.out.vs.cell 1
          have z1 := HM10.out.zs.cell 1
          simp at c0 c1 z1
          have hvl := HM10.out.vs.lt
          have hzl := HM10.out.zs.lt
          have HSS := Lib.hid (fun W (hW : Below W10.heap.size W10 W) => show W.cell? ⟨w.heap.size, 0, none⟩ = some (.slice PA pn pc) ∧ W.cell? ⟨w.heap.size, 1, none⟩ = some (.slice (some ⟨b, o, none⟩) sn sc) ∧ W.cell? ⟨bz, 1, none⟩ = some (.slice (some ⟨gs, 0, none⟩) sn c9) ∧ W.cell? ⟨b, o, none⟩ = some (.slice s.A s.n s.c) ∧ W.cell? ⟨gs, 0, none⟩ = some (.slice s.A s.n s.c) from
            ⟨(hW.cell (p := ⟨w.heap.size, 0, none⟩) hvl).trans c0, (hW.cell (p := ⟨w.heap.size, 1, none⟩) hvl).trans c1, (hW.cell (p := ⟨bz, 1, none⟩) hzl).trans z1, (hW.cell (p := ⟨b, o, none⟩) hblt).trans h0, (hW.cell (p := ⟨gs, 0, none⟩) hgsl).trans g0⟩)
          have HLI := Lib.hid (fun W (hW : Below W10.heap.size W10 W) => list_c (c := s.c) (hwy.1.below hW) (by omega))
          have HSL := Lib.hid hs
          have HGF := Lib.hid (fun W (hW : Below W10.heap.size W10 W) => (hW.frozen (p := ⟨gs, 0, none⟩) hgsl).trans (hgsf 0))
          have hbgs : b ≠ gs := by
            obtain ⟨b2, o2, x2, hA2, hbl2, _⟩ := HV.out.sls.atS (show 0 < sn by omega)
            cases hA2
            omega
          have hgbs : gs ≠ b := Ne.symm hbgs
          have hgsn : gs ≠ w.heap.size ∧ gs ≠ bx ∧ gs ≠ bz ∧ gs ≠ gx ∧ gs ≠ gy := by omega
          have hsn1 : (0 : Int) < (sn : Int) := by omega
          have HST := Lib.hid (fun W (hW : Below W10.heap.size W10 W) => show W.cell? ⟨w.heap.size, 0, none⟩ = some (.slice PA pn pc) ∧ W.cell? ⟨w.heap.size, 1, none⟩ = some (.slice (some ⟨b, o, none⟩) sn sc) ∧ W.cell? ⟨bz, 1, none⟩ = some (.slice (some ⟨gs, 0, none⟩) sn c9) ∧ W.cell? ⟨b, o, none⟩ = some (.slice s.A s.n s.c) from ⟨(HSS.out W hW).1, (HSS.out W hW).2.1, (HSS.out W hW).2.2.1, (HSS.out W hW).2.2.2.1⟩)
          clear hwy hsl hwl hs h1 h2 h3 g1 g2 g3 hgsf
          go_wp2_with fail
          go_region_held3 (fun w' => w'.cell? ⟨w.heap.size, 0, none⟩ = some (.slice PA pn pc) ∧ w'.cell? ⟨w.heap.size, 1, none⟩ = some (.slice (some ⟨b, o, none⟩) sn sc) ∧ w'.cell? ⟨bz, 1, none⟩ = some (.slice (some ⟨gs, 0, none⟩) sn c9) ∧ w'.cell? ⟨b, o, none⟩ = some (.slice s.A s.n s.c))
            (first | exact HST.out _ (Below.refl _ _).drew | exact HST.out _ (Below.refl _ _) | exact HST.out _ hb12 | exact HST.out _ hb10 | exact HST.out _ (hb10.alloc hb10.size _) | exact HST.out _ ((Below.refl _ _).alloc (Nat.le_refl _) _) | exact HST.out _ ((Below.refl _ _).alloc (Nat.le_refl _) _).drew | assumption | go_keep)
            (first
              | (go_at_call 32; ((with_reducible refine (HLI.out _ (by first | exact (Below.refl _ W10).drew | exact ((Below.refl _ W10).alloc (Nat.le_refl _) _).drew)).mono ?_); rintro e w11 ⟨vl, rfl, hown11, hb11⟩; obtain ⟨gl, cl, rfl, hgl1, hgl2, hgl3⟩ := own_some hown11 hn1.1; (have hb10 : Below W10.heap.size W10 w11 := by first | exact below_tr (Below.refl _ W10).drew hb11 | exact below_tr ((Below.refl _ W10).alloc (Nat.le_refl _) _).drew hb11); replace hown11 := own_low (b' := W10.heap.size) hown11 (by first | with_reducible exact Nat.le_refl _ | with_reducible exact drew_le W10 | with_reducible exact alloc_le W10 _)))
              | ((with_reducible show ite _ (Oper.wp _ _ _ (World.alloc w11 _) _ _) _); refine step_append_lies _ (by rfl) (.tmp 91) (.tmp 95) 39 (by rfl) W10.heap.size 3 k0 _ 1 8 Try.underlying39 KI.out KZ0.out KZ1.out KZ2.out rfl (by decide) _ s.n (s.way.flatMap enc1) (by rfl) (hown11.alloc _) ⟨w11.heap.size, 0, none⟩ 1 1 [.int .i64 (pn : Int)] (by rfl) (by rfl) (World.news_of_block (cs := #[.int .i64 (pn : Int)]) (t := 3) (fr := (0, 0)) (heap_alloc_new w11 _)) (by simp [Value.oneCell']) (by decide) (by unfold maxLen; omega) (by omega) (Nat.le_trans hb10.size (by simp)) (w11.heap.size + 1) (by simp) ?_; intro gg cap w12 hown12 hgrow hat hlt12; have hb12 : Below W10.heap.size W10 w12 := (hb10.alloc hb10.size _).grown hgrow (Nat.le_trans hb10.size (by simp)) (fun g hg => (hown11.lt g hg).1); have zf := HGF.out _ hb12; have zc := (HSS.out _ hb12).2.2.2.2)
              | ((with_reducible show ite _ (Oper.wp _ _ _ w11 _ _) _); refine step_append_lies _ (by rfl) (.tmp 91) (.tmp 95) 39 (by rfl) W10.heap.size 3 k0 _ 1 8 Try.underlying39 KI.out KZ0.out KZ1.out KZ2.out rfl (by decide) _ s.n (s.way.flatMap enc1) (by rfl) hown11 ⟨W10.heap.size, 0, none⟩ 1 1 [.int .i64 (pn : Int)] (by rfl) (by rfl) (lit_news hb11) (by simp [Value.oneCell']) (by decide) (by unfold maxLen; omega) (by omega) hb10.size w11.heap.size rfl ?_; intro gg cap w12 hown12 hgrow hat hlt12; have hb12 : Below W10.heap.size W10 w12 := hb10.grown hgrow hb10.size (fun g hg => (hown11.lt g hg).1); have zf := HGF.out _ hb12; have zc := (HSS.out _ hb12).2.2.2.2))
          all_goals
            go_wp2_with fail
            go_meet
            have hM := (HM10.out.below hb12).setO (p := ⟨gs, 0, none⟩) ⟨by show w.heap.size ≤ gs; omega, Ne.symm hgsn.1, Ne.symm hgsn.2.1, Ne.symm hgsn.2.2.1⟩ (.slice (some ⟨gg, 0, none⟩) (s.n + 1) cap)
            obtain ⟨s2, hs2⟩ : ∃ s2 : Sli, s2 = ⟨some ⟨gg, 0, none⟩, s.n + 1, cap, s.way ++ [(pn : Int)], s.rate, s.lo, s.hi⟩ := ⟨_, rfl⟩
            have hgg : gg ≠ gs := by
              rcases hat with h | h
              · have h1 := Option.some.inj h
                have h2 : gl = gg := h1
                have h3 : W10.heap.size ≤ gl := (hown11.lt gl rfl).1
                omega
              · have := hb10.size; omega
            have hway : Rd enc1 1 (w12.setCell ⟨gs, 0, none⟩ (.slice (some ⟨gg, 0, none⟩) (s.n + 1) cap)) (some ⟨gg, 0, none⟩) (s.n + 1) (s.way ++ [(pn : Int)]) := by
              have hrow : w12.ownsRow W10.heap.size 3 1 (.slice (some ⟨gg, 0, none⟩) (s.n + 1) cap) (s.n + 1) ((s.way ++ [(pn : Int)]).flatMap enc1) := by
                rw [List.flatMap_append]
                exact hown12
              exact Rd.far (Rd.of_own enc1_len hrow (by rw [List.length_append, hwn]; rfl)) (fun a ha => by cases ha; exact hgg) _
            have hset := ((HRS.out.below hb12)).set1 (i := 0) (r := 0) (x := s) (x' := s2) (u := .slice (some ⟨gg, 0, none⟩) (s.n + 1) cap) encS_len HSL.out (by omega) (by rw [hs2]; rfl) (fun j hj h1 => by
              rw [hs2]
              match j, h1 with
              | 1, _ => rfl
              | 2, _ => rfl
              | 3, _ => rfl
              | j + 4, _ => rfl)
            refine ⟨some ⟨gs, 0, none⟩, c9, v.sls.set 0 s2, hM, ⟨(HRP.out.below hb12).far (fun a ha => by cases ha; exact Ne.symm hgsn.2.2.2.2) _, ?_, ?_⟩, ?_, ?_, (HRX.out.below hb12).far (fun a ha => by cases ha; exact Ne.symm hgsn.2.2.2.1) _⟩
            · exact hset
            · intro i s' hs'
              rw [List.getElem?_set] at hs'
              by_cases hi : 0 = i
              · rw [if_pos hi, if_pos (lt_of_get HSL.out)] at hs'
                cases hs'
                rw [hs2]
                exact ⟨hway, by unfold maxLen; simp; omega, own_cap hown12⟩
              · rw [if_neg hi] at hs'
                have hw := HV.out.way i s' hs'
                refine ⟨((hw.1.below HM10.out.bel).below hb12).far (fun a ha => ?_) _, hw.2⟩
                have hn : 0 < s'.n := by
                  have := (HOK.out.slide hs').1
                  have h2 := (HOK.out.slide hs').2.1
                  have := hw.1.len; omega
                obtain ⟨b3, o3, e3, hlt3, _⟩ := hw.1.2 hn
                rw [e3] at ha; cases ha
                show b3 ≠ gs
                omega
            · refine ⟨rfl, by simp, fun i s0 s' h0 h' => ?_, rfl, rfl, rfl⟩
              rw [List.getElem?_set] at h'
              by_cases hi : 0 = i
              · subst hi
                rw [if_pos rfl, if_pos (lt_of_get HSL.out)] at h'
                cases h'
                rw [HSL.out] at h0; cases h0
                rw [hs2]
                exact ⟨rfl, rfl, rfl, .inr ⟨rfl, by rw [HLP.out]⟩⟩
              · rw [if_neg hi] at h'
                rw [h0] at h'; cases h'
                exact ⟨rfl, rfl, rfl, .inl rfl⟩
            · intro s' hs'
              rcases List.mem_or_eq_of_mem_set hs' with h1 | rfl
              · have := HWY.out s' h1; omega
              · rw [hs2]; simp; omega
      case rest =>
        obtain ⟨YA, yc, L, hM, hY, hmore, hyw, hX⟩ := hcut
        obtain ⟨WA, hWA⟩ : ∃ WA, WA = wc := ⟨_, rfl⟩
        rw [← hWA] at hM hY hX ⊢
        have hpp := HOK.out.parcel HP.out
        obtain ⟨yv, hyv⟩ : ∃ yv : Vly, yv = ⟨v.pars ++ [q], L, v.s0, v.s1, v.s2⟩ := ⟨_, rfl⟩
        obtain ⟨xv, hxv⟩ : ∃ xv : Vly, xv = ⟨v.pars.set Q ⟨p.worth, max 0 (p.price - m), p.people, p.ins⟩, v.sls, v.s0, v.s1, v.s2⟩ := ⟨_, rfl⟩
        have hqok : parOk q = true := by rw [HQ.out]; simp [parOk, inB_iff]; omega
        have hyok : VOk yv := by rw [hyv]; exact hmore.ok HOK.out (by rw [HLP.out]; exact hp11) hqok
        have hxok : VOk xv := by
          rw [hxv]
          refine ⟨HOK.out.sn, by simp only [List.length_set]; exact HOK.out.pn, allB_iff.2 fun i y hy => ?_, by simp only [List.length_set]; exact HOK.out.sli, HOK.out.steps⟩
          simp only at hy
          rw [List.getElem?_set] at hy
          by_cases hi : Q = i
          · rw [if_pos hi, if_pos (by rw [HLP.out]; omega)] at hy
            cases hy
            simp [parOk, inB_iff]; omega
          · rw [if_neg hi] at hy
            exact allB_iff.1 HOK.out.par i y hy
        have hxr : RdV WA (some ⟨gx, 0, none⟩) pn SA sn xv := by
          rw [hxv]
          exact ⟨hX, (HV.out.below hM.bel).sls, (HV.out.below hM.bel).way⟩
        have hxd : ∀ tr, dangs xv tr = dangs v tr := fun tr => by rw [hxv]; unfold dangs; simp only [List.length_set]
        have hxe : ∀ b, endsT xv b = endsT v b := fun b => by rw [hxv]; rfl
        have hxg : gainsL xv = gainsL v := by
          refine List.ext_getElem? fun i => ?_
          by_cases hi : i < v.pars.length
          · have hd := dangs_get (v := v) (tr := endsT v true) hi
            have hpi := List.getElem?_eq_getElem hi
            rw [gainsL_get hpi hd]
            by_cases hQi : Q = i
            · subst hQi
              rw [HP.out] at hpi
              have e := Option.some.inj hpi
              rw [← e]
              refine gainsL_get (p := ⟨p.worth, max 0 (p.price - m), p.people, p.ins⟩) ?_ (by rw [hxe, hxd]; exact hd)
              rw [hxv]; simp only
              rw [List.getElem?_set, if_pos rfl, if_pos hi]
            · refine gainsL_get ?_ (by rw [hxe, hxd]; exact hd)
              rw [hxv]; simp only
              rw [List.getElem?_set, if_neg hQi, hpi]
          · rw [List.getElem?_eq_none (by rw [gainsL_len, hxv]; simp only [List.length_set]; omega), List.getElem?_eq_none (by rw [gainsL_len]; omega)]
        have hxp : ∀ i, gAt (pricesL xv) i ≤ gAt (pricesL v) i := fun i => by
          unfold gAt pricesL
          rw [List.getD_eq_getElem?_getD, List.getD_eq_getElem?_getD, List.getElem?_map, List.getElem?_map, hxv]
          simp only
          rw [List.getElem?_set]
          by_cases hQi : Q = i
          · subst hQi
            rw [if_pos rfl, if_pos (by rw [HLP.out]; exact hQl), HP.out]
            simp; omega
          · rw [if_neg hQi]; exact Int.le_refl _
        have hpos : ∀ u : Vly, VOk u → ∀ i, 0 ≤ gAt (pricesL u) i := fun u hu i => (gAt_bd (by omega) (pricesL_bd hu) i).1
        have hsp : ∀ (u : Vly), VOk u → ∀ B : Int, 0 ≤ B → BestOf (gainsL u) (pricesL u) u.pars.length B (bestB (gainsL u) (pricesL u) B) := fun u hu B hB => by
          have := bestB_spec (gs := gainsL u) (ps := pricesL u) (hpos u hu) hB
          rw [gainsL_len] at this; exact this
        obtain ⟨F2, hF2⟩ : ∃ F2, F2 = min 100000000 (F + m) := ⟨_, rfl⟩
        have hF2b : F ≤ F2 ∧ F2 ≤ 100000000 := by omega
        obtain ⟨gn, hgn⟩ : ∃ g, g = (bestB (gainsL v) (pricesL v) F).gain := ⟨_, rfl⟩
        obtain ⟨ga, hga⟩ : ∃ g, g = (bestB (gainsL v) (pricesL v) F2).gain := ⟨_, rfl⟩
        obtain ⟨gb, hgb⟩ : ∃ g, g = (bestB (gainsL xv) (pricesL xv) F).gain := ⟨_, rfl⟩
        obtain ⟨gc, hgc⟩ : ∃ g, g = (bestB (gainsL yv) (pricesL yv) F).gain := ⟨_, rfl⟩
        have k1 : gn ≤ ga := by rw [hgn, hga]; exact best_budget (hsp v HOK.out F hF0.1) (hsp v HOK.out F2 (by omega)) hF2b.1
        have k2 : gn ≤ gb := by
          have h1 := hsp xv hxok F hF0.1
          rw [show xv.pars.length = v.pars.length by rw [hxv]; simp only [List.length_set], hxg] at h1
          rw [hgn, hgb, hxg]; exact best_price (hsp v HOK.out F hF0.1) h1 hxp
        have k3 : gn ≤ gc := by
          obtain ⟨g0, hg0⟩ := hmore.gains HOK.out
          have hgy : gainsL yv = gainsL v ++ [g0] := by rw [hyv]; exact hg0
          have hpy : pricesL yv = pricesL v ++ [q.price] := by rw [hyv]; simp [pricesL]
          have h1 := hsp yv hyok F hF0.1
          have h2 := hsp v HOK.out F hF0.1
          rw [show yv.pars.length = (gainsL v).length + 1 by rw [hyv, gainsL_len]; simp, hgy, hpy] at h1
          rw [show v.pars.length = (gainsL v).length by rw [gainsL_len]] at h2
          rw [hgn, hgc, hgy, hpy]
          exact best_more (by rw [gainsL_len]; simp [pricesL]) h2 h1
        have d1 : decide (gn ≤ ga) = true := decide_eq_true k1
        have d2 : decide (gn ≤ gb) = true := decide_eq_true k2
        have d3 : decide (gn ≤ gc) = true := decide_eq_true k3
        have hfu : inB F 0 100000000 = true := inB_iff.2 hF0
        have hfu2 : inB F2 0 100000000 = true := inB_iff.2 (by omega)
        have HB1 := Lib.hid (fun (v' : Vly) (A3 A4 : Option Addr) (p1 p2 : Nat) (W : World) (hal : VAlike v v') (hv : RdV W A3 pn A4 sn v') => Buy_okA (pc := p1) (sc := p2) HOK.out hal hv hfu)
        have HB2 := Lib.hid (fun (v' : Vly) (A3 A4 : Option Addr) (p1 p2 : Nat) (W : World) (hal : VAlike v v') (hv : RdV W A3 pn A4 sn v') => Buy_okA (pc := p1) (sc := p2) HOK.out hal hv hfu2)
        have HB3 := Lib.hid (fun (v' : Vly) (A3 A4 : Option Addr) (p1 p2 : Nat) (W : World) (hal : VAlike xv v') (hv : RdV W A3 pn A4 sn v') => Buy_okA (pc := p1) (sc := p2) hxok hal hv hfu)
        have HB4 := Lib.hid (fun (v' : Vly) (A3 A4 : Option Addr) (p1 p2 : Nat) (W : World) (hal : VAlike yv v') (hv : RdV W A3 (pn + 1) A4 sn v') => Buy_okA (pc := p1) (sc := p2) hyok hal hv hfu)
        simp only [← hgn] at HB1
        simp only [← hga] at HB2
        simp only [← hgb] at HB3
        simp only [← hgc] at HB4
        have HVV := Lib.hid (fun W (hW : Below w.heap.size w W) => Valley_c (pc := pc) (sc := sc) (HV.out.below hW) (by omega) (by omega) (fun s hs => by have := HWY.out s hs; omega))
        have HVX := Lib.hid (fun W (hW : Below WA.heap.size WA W) => Valley_c (pc := cx) (sc := sc) (hxr.below hW) (by omega) (by omega) (fun s hs => by rw [hxv] at hs; have := HWY.out s hs; omega))
        have hyr : RdV WA (some ⟨gy, 0, none⟩) (pn + 1) YA sn yv := by rw [hyv]; exact hY
        have HVY := Lib.hid (fun W (hW : Below WA.heap.size WA W) => Valley_c (pc := cy) (sc := yc) (hyr.below hW) (by omega) (by omega) (fun s hs => by rw [hyv] at hs; exact hyw s hs))
        have hx012 : xv.s0 = v.s0 ∧ xv.s1 = v.s1 ∧ xv.s2 = v.s2 := by rw [hxv]; exact ⟨rfl, rfl, rfl⟩
        have hy012 : yv.s0 = v.s0 ∧ yv.s1 = v.s1 ∧ yv.s2 = v.s2 := by rw [hyv]; exact ⟨rfl, rfl, rfl⟩
        rw [hx012.1, hx012.2.1, hx012.2.2] at HVX
        rw [hy012.1, hy012.2.1, hy012.2.2] at HVY
        have HMA := Lib.hid hM
        have hwf2 : IntKind.i64.wrap (F + m) = F + m := wi (by omega)
        have hF2e : min 100000000 (F + m) = F2 := hF2.symm
        clear hM hY hX hmore hyw hpp hyv hxv hqok hyok hxok hxr hyr hxd hxe hxg hxp hpos hsp hgn hga hgb hgc hfu hfu2 hx012 hy012 hWA hF2 k1 k2 k3
        clear HRS HRP HRX HM10 HO10 HWT hsz10
        obtain ⟨c0, c1, c2, c3, c4⟩ := (SW.refl HMA.out.vs).cells
        have HVL := Lib.hid (HVV.out _ HMA.out.bel)
        go_wp2_with fail
        refine HVL.out.mono ?_
        rintro e wb ⟨A1, p1, A2, p2, v1, rfl, hv1, hal1, hb⟩
        have HM1 := Lib.hid (HMA.out.below hb)
        have HWb := Lib.hid hb
        have HBB := Lib.hid (HB1.out v1 A1 A2 p1 p2 wb hal1 hv1)
        clear hv1 hal1 hb HVL c0 c1 c2 c3 c4
        go_wp2_with fail
        refine HBB.out.mono ?_
        rintro e wd ⟨B1, n1, e1', rfl, _, _, hb⟩
        have HM2 := Lib.hid (HM1.out.below hb)
        have HWd := Lib.hid (below_tr HWb.out hb)
        have HVL := Lib.hid (HVV.out _ HM2.out.bel)
        obtain ⟨c0, c1, c2, c3, c4⟩ := (SW.refl HM2.out.vs).cells
        clear hb HBB HM1 HWb
        go_wp2_with fail
        refine HVL.out.mono ?_
        rintro e wb ⟨A1, p1, A2, p2, v1, rfl, hv1, hal1, hb⟩
        have HM1 := Lib.hid (HM2.out.below hb)
        have HWb := Lib.hid (below_tr HWd.out hb)
        have HBB := Lib.hid (HB2.out v1 A1 A2 p1 p2 wb hal1 hv1)
        clear hv1 hal1 hb HVL c0 c1 c2 c3 c4 HM2 HWd
        go_wp2_with fail
        refine HBB.out.mono ?_
        rintro e wd ⟨B2, n2, e2', rfl, _, _, hb⟩
        have HM2 := Lib.hid (HM1.out.below hb)
        have HWd := Lib.hid (below_tr HWb.out hb)
        have HVL := Lib.hid (HVX.out _ HWd.out)
        obtain ⟨c0, c1, c2, c3, c4⟩ := (SW.refl HM2.out.xs).cells
        clear hb HBB HM1 HWb
        go_wp2_with fail
        refine HVL.out.mono ?_
        rintro e wb ⟨A1, p1, A2, p2, v1, rfl, hv1, hal1, hb⟩
        have HM1 := Lib.hid (HM2.out.below hb)
        have HWb := Lib.hid (below_tr HWd.out hb)
        have HBB := Lib.hid (HB3.out v1 A1 A2 p1 p2 wb hal1 hv1)
        clear hv1 hal1 hb HVL c0 c1 c2 c3 c4 HM2 HWd
        go_wp2_with fail
        refine HBB.out.mono ?_
        rintro e wd ⟨B3, n3, e3', rfl, _, _, hb⟩
        have HM2 := Lib.hid (HM1.out.below hb)
        have HWd := Lib.hid (below_tr HWb.out hb)
        have HVL := Lib.hid (HVY.out _ HWd.out)
        obtain ⟨c0, c1, c2, c3, c4⟩ := (SW.refl HM2.out.zs).cells
        clear hb HBB HM1 HWb
        go_wp2_with fail
        refine HVL.out.mono ?_
        rintro e wb ⟨A1, p1, A2, p2, v1, rfl, hv1, hal1, hb⟩
        have HM1 := Lib.hid (HM2.out.below hb)
        have HBB := Lib.hid (HB4.out v1 A1 A2 p1 p2 wb hal1 hv1)
        clear hv1 hal1 hb HVL c0 c1 c2 c3 c4 HM2 HWd
        go_wp2_with fail
        refine HBB.out.mono ?_
        rintro e wd ⟨B4, n4, e4', rfl, _, _, hb⟩
        have HBE := Lib.hid (below_tr HM1.out.bel hb)
        clear hb HBB HM1
        go_wp2_with (go_at_call 18; refine (wakes_ok _).mono ?_; rintro e wz ⟨rfl, hbz⟩)
        go_ret
        exact ⟨rfl, below_tr HBE.out hbz⟩
#print axioms ZoneMoney_w
end Go.Proofs.Ytphdndiikikecaa
