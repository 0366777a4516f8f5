/- THE CONTRACT of gauge.Gaps. -/
import Derived.Test.YtkgoojilmnkgiaaSortC
import Derived.Test.YtkgoojilmnkgiaaTwice
import Derived.Test.YtkgoojilmnkgiaaWrite
import Derived.BigQuiet
import Derived.Deep.QuietTactic
import Derived.Deep.DeepCutAuto
import Derived.Deep.RegionHeld3
import Derived.Laws.OwnMore
namespace Go.Proofs.Ytkgoojilmnkgiaa
open Go.RowKit Go.Proofs

/-- are two readings that stand side by side of one name? -/
def adjB (s : List Rdg) (i : Nat) : Bool := match s[i]?, s[i + 1]? with
  | some x, some y => nameB x y
  | _, _ => false
def twTo (s : List Rdg) (p : Nat) : Bool := (List.range p).any (adjB s)
theorem twTo_succ (s : List Rdg) (p : Nat) : twTo s (p + 1) = (twTo s p || adjB s p) := by simp [twTo, List.range_succ]
theorem adjB_of {s : List Rdg} {i : Nat} {x y : Rdg} (hx : s[i]? = some x) (hy : s[i + 1]? = some y) : adjB s i = nameB x y := by simp [adjB, hx, hy]
theorem twTo_end {s : List Rdg} (h : Ord s) : twTo s (s.length - 1) = twiceB s := by
  cases ht : twTo s (s.length - 1)
  · have hn : Names s := names_adj h fun i x y hx hy => by
      have hi := lt_of_get hy
      have h1 : adjB s i = false := by
        have := List.any_eq_false.1 ht i (by simp; omega)
        simpa using this
      rw [adjB_of hx hy] at h1; exact h1
    simp [twiceB, hn]
  · obtain ⟨i, _, h1⟩ := List.any_eq_true.1 ht
    have h2 := h1
    unfold adjB at h2
    split at h2
    · rename_i x y hx hy
      have := twiceB_yes (show i < i + 1 by omega) hx hy (by rw [nameB_iff] at *; omega)
      exact this.symm
    · cases h2
theorem twiceB_perm {s l : List Rdg} (h : s.Perm l) : twiceB s = twiceB l := by
  unfold twiceB
  rw [decide_eq_decide.2 ⟨fun h1 => h1.perm h, fun h1 => h1.perm h.symm⟩]
/-- the error of Gaps -/
def errG (l : List Rdg) : Int := if errR l = 0 then (if twiceB l = true then 6 else 0) else errR l
theorem infoGG : (Try.prog.info? 88).map (fun i => (i.zero, i.size, i.bytes)) = some (some (.agg #[.int .i64 0, .int .i64 0, .int .i64 0]), 3, 24) := by kernel_rfl

theorem run_eql_name (a b c d : Int) (W : World) : (binOp .eql 133 (.agg #[.int .i64 a, .int .i64 b]) (.agg #[.int .i64 c, .int .i64 d])).run Try.prog W = .ok (.bool (decide (a = c ∧ b = d))) W := by
  rw [run_eql_struct]
  have : (Op.equalIn 10000 133 (.agg #[.int .i64 a, .int .i64 b]) (.agg #[.int .i64 c, .int .i64 d])).run Try.prog W = .ok (decide (a = c ∧ b = d)) W := by
    simp [go_sem, Try.underlying133]
    by_cases h1 : a = c <;> by_cases h2 : b = d <;> simp [h1, h2]
  rw [this]; rfl

theorem blk2g (w : World) (X Y : Array Value) (a b : TypeId) : Blk ((w.alloc (.cells X a)).alloc (.cells Y b)).drew (w.heap.size + 1) b Y ∧
    Blk ((w.alloc (.cells X a)).alloc (.cells Y b)).drew w.heap.size a X ∧ Below w.heap.size w ((w.alloc (.cells X a)).alloc (.cells Y b)).drew := by
  refine ⟨?_, ?_, ?_⟩
  · have := Blk.new (w.alloc (.cells X a)) b Y
    simp only [World.size_alloc] at this
    exact this
  · exact ((Blk.new w a X).alloc _).drewN 1
  · exact (((Below.refl _ _).alloc (Nat.le_refl _) _).alloc (by simp) _).drew

set_option maxRecDepth 100000 in
set_option maxHeartbeats 2000000 in
theorem Gaps_c {l : List Rdg} {A : Option Addr} {n c : Nat} {w : World} (h : Rd encR 4 w A n l) (hn : n ≤ 100000) (hc : n ≤ c) :
    Calls Try.prog 43 #[.slice A n c] w fun e w' => (∃ A' n' c', e = .returned (.tuple #[.slice A' n' c', .int .i64 (errG l)]) ∧ n' ≤ c' ∧ n' ≤ n ∧ (errG l ≠ 0 → n' = 0) ∧
      (errG l = 0 → ∃ s, Ord s ∧ s.Perm l ∧ Rd encG 3 w' A' n' (gapsTo s (s.length - 1)))) ∧ Below w.heap.size w w' := by
  have hl := h.len
  have hll : RdLL (w.alloc (.cells #[.slice A n c] 28)) (some ⟨w.heap.size, 0, none⟩) 1 [⟨A, n, c, l⟩] := by
    refine ⟨Rd.of_blk' encL_len (heap_alloc_new w _) (fun (j : Nat) (v : Value) hv => by simpa [encL] using hv) rfl, fun i x hx => ?_⟩
    have hxe : x = ⟨A, n, c, l⟩ := by have := List.mem_of_getElem? hx; simpa using this
    subst hxe
    exact ⟨h.below ((Below.refl _ w).alloc (Nat.le_refl _) _), (show n ≤ maxLen by unfold maxLen; omega), hc⟩
  have hck := check_c (c := 1) hll (by unfold maxLen; omega)
  rw [errL_one hl] at hck
  obtain ⟨E, hE⟩ : ∃ E, E = errR l := ⟨_, rfl⟩
  rw [← hE] at hck
  have HE := Lib.hid hE
  have HCK := Lib.hid hck
  have HL := Lib.hid hl
  clear hck hll hE hl
  by_cases he : E = 0
  · subst he
    have hv := (errR_zero.1 HE.out.symm).2
    have HV : Hid (∀ x ∈ l, validB x = true) := Lib.hid (fun x hx => by obtain ⟨i, hi⟩ := List.getElem?_of_mem hx; exact allB_iff.1 hv i x hi)
    have HG : Hid (errG l = if twiceB l = true then 6 else 0) := by
      show _ = _
      unfold errG; rw [if_pos HE.out.symm]
    obtain ⟨i0, hi0, hz0, hz1, hz2⟩ := info_parts infoGG
    have HI := Lib.hid hi0; have HZ0 := Lib.hid hz0; have HZ1 := Lib.hid hz1; have HZ2 := Lib.hid hz2
    clear hi0 hz0 hz1 hz2 hv
    go_enter Try.func43, Try.ntmps43
    go_wp2_with fail
    refine HCK.out.mono ?_
    rintro e w1 ⟨rfl, hb1⟩
    have HB1 := Lib.hid (below_tr ((Below.refl _ w).alloc (Nat.le_refl _) (.cells #[.slice A n c] 28)) hb1)
    clear hb1 HCK
    go_wp2_with fail
    refine (clone_c (h.below HB1.out) hn).mono ?_
    rintro e w2 ⟨v, rfl, hown, hb2⟩
    have HO2 := Lib.hid hown; have HB2 := Lib.hid (below_tr HB1.out hb2)
    clear hown hb2
    go_wp2_with fail
    refine (sortFunc_c HO2.out HL.out hn HV.out).mono ?_
    rintro e w3 ⟨rfl, s, hord, hperm, hown, hgrow⟩
    have HB3 : Hid (Below w.heap.size w w3) := HB2.out.grown hgrow HB2.out.size (fun g hg => by have := (HO2.out.lt g hg).1; have := HB1.out.size; omega)
    have hls : s.length = n := by rw [hperm.length_eq]; exact HL.out
    have HLS := Lib.hid hls; have HOrd := Lib.hid hord; have HPerm := Lib.hid hperm
    have HVS : Hid (∀ (i : Nat) (x : Rdg), s[i]? = some x → validB x = true) := Lib.hid (fun i x hx => HV.out x (hperm.subset (List.mem_of_getElem? hx)))
    obtain ⟨As, cs, rfl, hcs⟩ := own_form hown
    have HRS := Lib.hid (Rd.of_own encR_len hown hls)
    clear hown hgrow hls hord hperm HO2 HB2 HB1
    go_wp2_with fail
    go_loopw [5, 6, 7] (fun v tw i wr => ∃ p : Nat, (p + 1 ≤ n ∨ p = 0) ∧ i = .int .i64 ((p : Int) + 1) ∧ tw = .bool (twTo s p) ∧ wr.ownsRow w3.heap.size 88 3 v (gapsTo s p).length ((gapsTo s p).flatMap encG) ∧ Below w3.heap.size w3 wr) (fun _ _ i _ => n + 1 - (intOf i).toNat)
    case atStart => exact ⟨0, .inr rfl, rfl, rfl, World.ownsRow_nil _ _ _ _, Below.refl _ _⟩
    case round =>
      obtain ⟨p, hp, rfl, rfl, hown, hb⟩ := hrel
      have HO := Lib.hid hown; have HB := Lib.hid hb
      have hsz := hb.size
      have hgl := gapsTo_len s p
      by_cases hlt : p + 1 < n
      · obtain ⟨b, o, x, hA, hbl, hx, hcx⟩ := rd4 (HRS.out.below hb) (i := p) (by omega)
        subst hA
        obtain ⟨b', o', y, hA, _, hy, hcy⟩ := rd4 (HRS.out.below hb) (i := p + 1) hlt
        cases hA
        clear hown hb
        have hvx := validB_iff.1 (HVS.out p x hx); have hvy := validB_iff.1 (HVS.out (p + 1) y hy)
        have HG1 : Hid (gapsTo s (p + 1) = gapsTo s p ++ gapStep x y) := by
          show _ = _
          rw [gapsTo_succ, gapAt_of hx hy]
        have HT1 : Hid (twTo s (p + 1) = (twTo s p || nameB x y)) := by
          show _ = _
          rw [twTo_succ, adjB_of hx hy]
        clear hx hy
        obtain ⟨x0, x1, x2, x3⟩ := hcx _ (Below.refl _ _)
        obtain ⟨y0, y1, y2, y3⟩ := hcy _ (Below.refl _ _)
        have hi1 : (p : Int) + 1 < (n : Int) := by omega
        have hi0 : (0 : Int) ≤ (p : Int) + 1 := by omega
        have hi2 : (0 : Int) ≤ (p : Int) := by omega
        have hi3 : (p : Int) < (n : Int) := by omega
        have ht : ((p : Int) + 1).toNat = p + 1 := by omega
        have hw1 : IntKind.i64.wrap ((p : Int) + 1 - 1) = (p : Int) := by rw [wi (by omega)]; omega
        have hw2 : IntKind.i64.wrap (p : Int) = (p : Int) := wi (by omega)
        have hw4 : IntKind.i64.wrap (x.num + 1) = x.num + 1 := wi (by omega)
        have hw5 : IntKind.i64.wrap (y.num - 1) = y.num - 1 := wi (by omega)
        obtain ⟨G, hG⟩ : ∃ G, G = gapsTo s p := ⟨_, rfl⟩
        obtain ⟨T, hT⟩ : ∃ T, T = twTo s p := ⟨_, rfl⟩
        rw [← hG] at HO HG1 hgl
        rw [← hT] at HT1 ⊢
        clear hG hT hcx hcy
        go_upto_region 11 with fail
        go_cut [8, 9] (fun s8 s9 wx => ∃ g8 g9, s8 = .pointer (some ⟨g8, 0, none⟩) ∧ s9 = .pointer (some ⟨g9, 0, none⟩) ∧ Blk wx g8 53 #[.int .i64 x.ins, .int .i64 x.num, .int .i64 x.tim, .int .i64 x.val] ∧ Blk wx g9 53 #[.int .i64 y.ins, .int .i64 y.num, .int .i64 y.tim, .int .i64 y.val] ∧ Below wr.heap.size wr wx)
        case first =>
          go_region
          all_goals
            go_wp2_with fail
            go_meet
            first
              | exact ⟨_, _, rfl, rfl, (blk2g _ _ _ _ _).2.1, (blk2g _ _ _ _ _).1, (blk2g _ _ _ _ _).2.2⟩
              | exact ⟨_, _, rfl, rfl, (blk2g _ _ _ _ _).1, (blk2g _ _ _ _ _).2.1, (blk2g _ _ _ _ _).2.2⟩
        case rest =>
        obtain ⟨g8, g9, rfl, rfl, hX, hY, hbc⟩ := hcut
        have HKX : Hid (∀ W : World, Below wc.heap.size wc W → W.cell? ⟨g8, 0, none⟩ = some (.int .i64 x.ins) ∧ W.cell? ⟨g8, 1, none⟩ = some (.int .i64 x.num) ∧ W.cell? ⟨g8, 2, none⟩ = some (.int .i64 x.tim) ∧ W.cell? ⟨g8, 3, none⟩ = some (.int .i64 x.val)) := Lib.hid (fun W hW => by
          have hk := hX.below hW hX.lt
          exact ⟨hk.cell 0, hk.cell 1, hk.cell 2, hk.cell 3⟩)
        have HKY : Hid (∀ W : World, Below wc.heap.size wc W → W.cell? ⟨g9, 0, none⟩ = some (.int .i64 y.ins) ∧ W.cell? ⟨g9, 1, none⟩ = some (.int .i64 y.num) ∧ W.cell? ⟨g9, 2, none⟩ = some (.int .i64 y.tim) ∧ W.cell? ⟨g9, 3, none⟩ = some (.int .i64 y.val)) := Lib.hid (fun W hW => by
          have hk := hY.below hW hY.lt
          exact ⟨hk.cell 0, hk.cell 1, hk.cell 2, hk.cell 3⟩)
        have HBC := Lib.hid hbc
        have hszc := hbc.size
        clear hX hY hbc x0 x1 x2 x3 y0 y1 y2 y3
        obtain ⟨wd, rfl⟩ : ∃ wd : World, wd = wc := ⟨_, rfl⟩
        go_upto_region 12 with fail
        go_cut [6] (fun tw wx => tw = .bool (T || nameB x y) ∧ Below wd.heap.size wd wx)
        case first =>
          obtain ⟨x0, x1, x2, x3⟩ := HKX.out _ (Below.refl _ _)
          obtain ⟨y0, y1, y2, y3⟩ := HKY.out _ (Below.refl _ _)
          obtain ⟨v, hv⟩ : ∃ v, v = nameB x y := ⟨_, rfl⟩
          have heq := fun W => run_eql_name x.ins x.num y.ins y.num W
          rw [show decide (x.ins = y.ins ∧ x.num = y.num) = v from hv.symm] at heq
          have HNX := Lib.hid (fun W => name_c x W)
          have HNY := Lib.hid (fun W => name_c y W)
          have HV := Lib.hid hv
          clear hv
          cases T
          · go_wp2_with fail
            go_region_held3 (fun w' => (w'.cell? ⟨g8, 0, none⟩ = some (.int .i64 x.ins) ∧ w'.cell? ⟨g8, 1, none⟩ = some (.int .i64 x.num) ∧ w'.cell? ⟨g8, 2, none⟩ = some (.int .i64 x.tim) ∧ w'.cell? ⟨g8, 3, none⟩ = some (.int .i64 x.val)) ∧
                w'.cell? ⟨g9, 0, none⟩ = some (.int .i64 y.ins) ∧ w'.cell? ⟨g9, 1, none⟩ = some (.int .i64 y.num) ∧ w'.cell? ⟨g9, 2, none⟩ = some (.int .i64 y.tim) ∧ w'.cell? ⟨g9, 3, none⟩ = some (.int .i64 y.val))
              (first | exact ⟨HKX.out _ (Below.refl _ _).drew, HKY.out _ (Below.refl _ _).drew⟩ | exact ⟨HKX.out _ (by assumption), HKY.out _ (by assumption)⟩ | assumption)
              ((go_at_call 74; (first | (with_reducible refine (HNX.out _).mono ?_) | (with_reducible refine (HNY.out _).mono ?_)); rintro e w6 ⟨rfl, hb6⟩; have hbb : Below wd.heap.size wd w6 := below_tr (by first | exact (Below.refl _ _).drew | exact (Below.refl _ _) | assumption) hb6))
            all_goals
              go_wp2_with fail
              go_meet
              exact ⟨by rw [HV.out]; simp, by assumption⟩
          · go_wp2_with fail
            go_quiet (fail)
            go_wp2_with fail
            go_meet
            exact ⟨by simp, below_drewN (Below.refl _ _) _⟩
        case rest =>
        obtain ⟨rfl, hbd⟩ := hcut
        obtain ⟨x0, x1, x2, x3⟩ := HKX.out _ hbd
        obtain ⟨y0, y1, y2, y3⟩ := HKY.out _ hbd
        have hbe : Below wr.heap.size wr wc := below_tr HBC.out hbd
        have HO2 := Lib.hid (own_mono HO.out hbe)
        have HB2 := Lib.hid (HB.out.trans (hbe.mono hsz))
        have hsz2 := HB2.out.size
        clear hbd hbe HBC HKX HKY HO HB
        rw [← HT1.out]
        by_cases hins : x.ins = y.ins
        · have e1 : (x.ins == y.ins) = true := by simpa using hins
          by_cases hnum : x.num + 1 < y.num
          · rw [gapStep, if_pos ⟨hins, hnum⟩] at HG1
            clear hins
            go_wp2_with (at_builtin; go_must (refine wpList_append_own_at _ rfl _ _ 81 rfl w3.heap.size 88 i0 _ 3 24 Try.underlying81 HI.out HZ0.out HZ1.out HZ2.out rfl (by decide) _ _ _ rfl (HO2.out.alloc _) ⟨wc.heap.size, 0, none⟩ 1 1 (encG (x.ins, x.num + 1, y.num - 1)) rfl rfl (fun j u hj => World.news_of_block (cs := #[.int .i64 x.ins, .int .i64 (x.num + 1), .int .i64 (y.num - 1)]) (t := 88) (fr := (0, 0)) (heap_alloc_new wc _) j u hj) (by simp [Value.oneCell', encG]) (by unfold maxLen; omega) (by omega) (by simp; omega) ?_; intro v2 w7 hown2 hgrow2 _ _))
            have HB4 : Hid (Below w3.heap.size w3 w7) := (HB2.out.alloc HB2.out.size _).grown hgrow2 (by simp; omega) (fun g hg => (HO2.out.lt g hg).1)
            have HO4 : Hid (w7.ownsRow w3.heap.size 88 3 v2 (gapsTo s (p + 1)).length ((gapsTo s (p + 1)).flatMap encG)) := by
              show World.ownsRow _ _ _ _ _ _ _
              rw [HG1.out, List.flatMap_append, List.length_append]; simpa using hown2
            clear hown2 hgrow2
            go_wp2_with fail
            go_roundw
            case rel => exact ⟨p + 1, by omega, by go_num, rfl, HO4.out, HB4.out⟩
            case measure => simp [intOf] <;> omega
          · rw [gapStep, if_neg (fun h => hnum h.2), List.append_nil] at HG1
            clear hins
            go_wp2_with fail
            go_roundw
            case rel => exact ⟨p + 1, by omega, by go_num, rfl, by rw [HG1.out]; exact HO2.out, HB2.out⟩
            case measure => simp [intOf] <;> omega
        · have e1 : (x.ins == y.ins) = false := by simpa using hins
          rw [gapStep, if_neg (fun h => hins h.1), List.append_nil] at HG1
          go_wp2_with fail
          go_roundw
          case rel => exact ⟨p + 1, by omega, by go_num, rfl, by rw [HG1.out]; exact HO2.out, HB2.out⟩
          case measure => simp [intOf] <;> omega
      · have hlt' : ¬ (p : Int) + 1 < (n : Int) := by omega
        have hpm : s.length - 1 = p := by have := HLS.out; omega
        have HTW : Hid (twTo s p = twiceB l) := by
          show _ = _
          rw [← hpm, twTo_end HOrd.out, twiceB_perm HPerm.out]
        obtain ⟨A', c', rfl, hc'⟩ := own_form HO.out
        have HBF := Lib.hid (below_tr HB3.out HB.out)
        clear hown hb
        rw [HTW.out]
        cases htw : twiceB l
        · rw [htw] at HG
          go_wp2_with fail
          go_ret2
          refine ⟨⟨A', _, c', by rw [HG.out]; rfl, hc', by omega, fun h => absurd (by rw [HG.out]; rfl) h, fun _ => ⟨s, HOrd.out, HPerm.out, ?_⟩⟩, HBF.out⟩
          rw [hpm]
          exact Rd.of_own encG_len HO.out rfl
        · rw [htw] at HG
          have hE6 : Hid (errG l = 6) := HG
          go_wp2_with fail
          go_ret2
          exact ⟨⟨none, 0, 0, by rw [hE6.out]; rfl, Nat.le_refl _, Nat.zero_le _, fun _ => rfl, fun h => by rw [hE6.out] at h; cases h⟩, HBF.out⟩
  · have HG : Hid (errG l = E) := by
      show _ = _
      unfold errG; rw [if_neg (by rw [← HE.out]; exact he), HE.out]
    have e1 : (E == 0) = false := by rw [beq_eq_false_iff_ne]; exact he
    have e2 : (E != 0) = true := by rw [bne_iff_ne]; exact he
    have HNE := Lib.hid he
    clear he
    go_enter Try.func43, Try.ntmps43
    go_wp2_with fail
    refine HCK.out.mono ?_
    rintro e w1 ⟨rfl, hb1⟩
    have HB1 := Lib.hid (below_tr ((Below.refl _ w).alloc (Nat.le_refl _) (.cells #[.slice A n c] 28)) hb1)
    clear hb1 HCK
    go_wp2_with fail
    go_ret2
    exact ⟨⟨none, 0, 0, by rw [HG.out]; rfl, Nat.le_refl _, Nat.zero_le _, fun _ => rfl, fun h => absurd (HG.out.symm.trans h) HNE.out⟩, HB1.out⟩
end Go.Proofs.Ytkgoojilmnkgiaa
