/- THE CONTRACT of gauge.Merge. -/
import Derived.Test.YtjpobkmlcjbpiaaGreatNameMap
import Derived.Test.YtjpobkmlcjbpiaaGreatCompact
import Derived.Test.YtjpobkmlcjbpiaaGreatConcat
set_option linter.unusedVariables false
set_option linter.unusedSimpArgs false
namespace Go.Proofs.YtjpobkmlcjbpiaaGreat.Ga
open Go.RowKit Go.Proofs

/-- A row stays where another block grows. -/
theorem own_kept {w w' : World} {base : Nat} {e : TypeId} {k n : Nat} {v : Value} {xs : List Value} {row : Option Nat} (h : w.ownsRow base e k v n xs) (hg : w.grownBy w' row) (hne : ∀ g, v.ownBlock = some g → row ≠ some g) : w'.ownsRow base e k v n xs := by
  refine ⟨h.1, ?_⟩
  rcases h.2 with h0 | ⟨g, cap, cur, rfl, hbase, hgg, hrest⟩
  · exact .inl h0
  · have hlt : g < w.heap.size := by
      rcases Nat.lt_or_ge g w.heap.size with hlt | hge
      · exact hlt
      · rw [Array.getElem?_eq_none hge] at hgg; cases hgg
    exact .inr ⟨g, cap, cur, rfl, hbase, (hg.block g hlt (fun e => hne g (by simp [Value.ownBlock]) e.symm)).trans hgg, hrest⟩
/-- two rows of the call's own, of readings, in two blocks -/
def R2 (ty : TypeId) (base : Nat) (v1 v2 : Value) (l1 l2 : List Rdg) (w : World) : Prop :=
  w.ownsRow base ty 4 v1 l1.length (l1.flatMap encR) ∧ w.ownsRow base ty 4 v2 l2.length (l2.flatMap encR) ∧ ∀ g, v1.ownBlock = some g → v2.ownBlock ≠ some g
theorem R2.below {ty : TypeId} {base : Nat} {v1 v2 : Value} {l1 l2 : List Rdg} {w w' : World} (h : R2 ty base v1 v2 l1 l2 w) (hb : Below w.heap.size w w') : R2 ty base v1 v2 l1 l2 w' := ⟨own_mono h.1 hb, own_mono h.2.1 hb, h.2.2⟩
theorem R2.swap {ty : TypeId} {base : Nat} {v1 v2 : Value} {l1 l2 : List Rdg} {w : World} (h : R2 ty base v1 v2 l1 l2 w) : R2 ty base v2 v1 l2 l1 w := ⟨h.2.1, h.1, fun g h2 h1 => h.2.2 g h1 h2⟩
theorem R2.app {ty : TypeId} {base : Nat} {v1 v2 v' : Value} {l1 l2 : List Rdg} {w w' : World} {r : Rdg} (h : R2 ty base v1 v2 l1 l2 w) (hown : w'.ownsRow base ty 4 v' (l1.length + 1) (l1.flatMap encR ++ encR r)) (hg : w.grownBy w' v1.ownBlock) (hloc : v'.ownBlock = v1.ownBlock ∨ v'.ownBlock = some w.heap.size) : R2 ty base v' v2 (l1 ++ [r]) l2 w' := by
  refine ⟨by rw [List.length_append, List.flatMap_append]; simpa using hown, own_kept h.2.1 hg fun g h2 h1 => h.2.2 g h1 h2, fun g h1 h2 => ?_⟩
  rcases hloc with e | e
  · exact h.2.2 g (by rw [← e]; exact h1) h2
  · rw [e] at h1
    have := (h.2.1.lt g h2).2
    cases h1; omega

theorem snoc_dist {ps : List ((Int × Int) × Int)} {x : Int × Int} {u : Int} (h : Dist ps) (hno : ∀ p ∈ ps, p.1 ≠ x) {i j : Nat} {k : Int × Int} {c d : Int} (h1 : (ps ++ [(x, u)])[i]? = some (k, c)) (h2 : (ps ++ [(x, u)])[j]? = some (k, d)) : i = j := by
  have hget : ∀ (i : Nat) (k : Int × Int) (d : Int), (ps ++ [(x, u)])[i]? = some (k, d) → (i = ps.length ∧ k = x) ∨ ps[i]? = some (k, d) := by
    intro i k d hi
    rcases Nat.lt_or_ge i ps.length with hl | hl
    · rw [List.getElem?_append_left hl] at hi; exact .inr hi
    · rw [List.getElem?_append_right hl] at hi
      have h0 := (List.getElem?_eq_some_iff.1 hi).1
      have e : i = ps.length := by simp at h0; omega
      subst e
      simp at hi
      exact .inl ⟨rfl, hi.1.symm⟩
  rcases hget i k c h1 with ⟨rfl, rfl⟩ | g1
  · rcases hget j _ d h2 with ⟨rfl, _⟩ | g2
    · rfl
    · exact absurd rfl (hno _ (List.mem_of_getElem? g2))
  · rcases hget j _ d h2 with ⟨rfl, rfl⟩ | g2
    · exact absurd rfl (hno _ (List.mem_of_getElem? g1))
    · exact h _ _ _ _ _ g1 g2

set_option maxRecDepth 100000 in
set_option maxHeartbeats 4000000 in
theorem Merge_c {ls : List Lst} {A : Option Addr} {n c : Nat} {w : World} (h : RdLL w A n ls) (hn : n ≤ maxLen) :
    Calls Tryz.prog 15 #[.slice A n c] w fun e w' => (∃ A1 n1 c1 A2 n2 c2, e = .returned (.tuple #[.slice A1 n1 c1, .slice A2 n2 c2, .int .i64 (errL ls)]) ∧ n1 ≤ c1 ∧ n2 ≤ c2 ∧ n1 ≤ 10000 ∧ n2 ≤ 10000 ∧ (errL ls ≠ 0 → n1 = 0 ∧ n2 = 0) ∧
      (errL ls = 0 → Rd encR 4 w' A1 n1 (mergedOf (sortedR (catL ls))) ∧ Rd encR 4 w' A2 n2 (contraOf (sortedR (catL ls))))) ∧ Below w.heap.size w w' := by
  have hck := check_c (c := c) h hn
  obtain ⟨E, hE⟩ : ∃ E, E = errL ls := ⟨_, rfl⟩
  rw [← hE] at hck
  have HE := Lib.hid hE
  have HCK := Lib.hid hck
  have HL := Lib.hid h.1.len
  have HH := Lib.hid h
  clear hck hE h
  by_cases he : E = 0
  · subst he
    have hlen : ls.length ≤ 6 ∧ allB shortB ls = true ∧ allB valB ls = true := by
      have h0 := HE.out
      unfold errL at h0
      split at h0
      · cases h0
      · rename_i h1
        split at h0
        · cases h0
        · rename_i h2
          simp only [not_or, Nat.not_lt, Bool.not_eq_false] at h1
          exact ⟨h1.1, h1.2, by simpa using h2⟩
    have hn6 : n ≤ 6 := by have := HL.out; omega
    have HS : Hid (∀ x ∈ ls, x.n ≤ 200) := Lib.hid (fun x hx => by
      obtain ⟨i, hi⟩ := List.getElem?_of_mem hx
      have := allB_iff.1 hlen.2.1 i x hi
      simpa [shortB] using this)
    have HV : Hid (∀ r ∈ catL ls, validB r = true) := Lib.hid (fun r hr => by
      obtain ⟨x, hx, hr⟩ := List.mem_flatMap.1 hr
      obtain ⟨i, hi⟩ := List.getElem?_of_mem hx
      have h1 := allB_iff.1 hlen.2.2 i x hi
      obtain ⟨j, hj⟩ := List.getElem?_of_mem hr
      exact allB_iff.1 h1 j r hj)
    have HCL : Hid ((catL ls).length ≤ 1200) := Lib.hid (by
      have := catL_len (ls := ls) (N := 200) (fun x hx => by
        obtain ⟨i, hi⟩ := List.getElem?_of_mem hx
        rw [(HH.out.2 i x hi).1.len]; exact HS.out x hx) ls.length
      rw [List.take_length] at this
      omega)
    obtain ⟨i0, hi0, hz0, hz1, hz2⟩ := info_parts infoRdg
    have HI := Lib.hid hi0; have HZ0 := Lib.hid hz0; have HZ1 := Lib.hid hz1; have HZ2 := Lib.hid hz2
    have hmm := @run_makeMap Tryz.prog
    clear hi0 hz0 hz1 hz2 hlen
    go_enter Tryz.func15, Tryz.ntmps15
    go_wp2_with fail
    refine HCK.out.mono ?_
    rintro e w1 ⟨rfl, hb1⟩
    have HB1 := Lib.hid hb1
    have HCC := Lib.hid (concat_c (c := c) (HH.out.below hb1) (by omega) (fun x hx => by have := HS.out x hx; omega))
    clear hb1 HCK
    go_wp2_with fail
    refine HCC.out.mono ?_
    rintro e w2 ⟨v, rfl, hown, hb2⟩
    have HO2 := Lib.hid hown; have HB2 := Lib.hid (below_tr HB1.out hb2)
    have hsz1 := HB1.out.size
    clear hown hb2 HCC
    go_wp2_with fail
    refine (sortFunc_c HO2.out rfl (by have := HCL.out; omega) HV.out).mono ?_
    rintro e w3 ⟨rfl, s, hord, hperm, hown, hgrow⟩
    have HB3 : Hid (Below w.heap.size w w3) := HB2.out.grown hgrow HB2.out.size (fun g hg => by have := (HO2.out.lt g hg).1; omega)
    have HLS : Hid (s.length = (catL ls).length) := Lib.hid hperm.length_eq
    have HDS := Lib.hid (dd_sortedR hord hperm)
    have HO3 := Lib.hid hown
    clear hown hgrow hord hperm HB2
    go_wp2_with fail
    refine (compact_c HO3.out HLS.out (by have := HCL.out; omega)).mono ?_
    rintro e w4 ⟨A4, m, c4, rfl, hc4, hm4, hr4, hgrow⟩
    have HB4 : Hid (Below w.heap.size w w4) := HB3.out.grown hgrow HB3.out.size (fun g hg => by have := (HO3.out.lt g hg).1; omega)
    rw [HDS.out] at hr4
    obtain ⟨S, hS⟩ : ∃ S, S = sortedR (catL ls) := ⟨_, rfl⟩
    rw [← hS] at hr4
    have HSeq := Lib.hid hS
    have HVS : Hid (∀ r ∈ S, validB r = true) := Lib.hid (fun r hr => by rw [hS] at hr; exact HV.out r ((sortedR_ok _).2 r |>.1 hr))
    have HR4 := Lib.hid hr4
    have HLM := Lib.hid hr4.len
    have hm1200 : m ≤ 1200 := by have := HCL.out; omega
    clear hr4 hgrow hS HO3 HB3 HDS HLS HO2
    have hM0 : IsM (w4.alloc (.map #[] 0)) w4.heap.size [] := heap_alloc_new w4 _
    have HM0 := Lib.hid hM0
    clear hM0
    go_wp2_with fail
    go_loopw [26] (fun i wr => ∃ (k : Nat) (ps : List ((Int × Int) × Int)), k ≤ m ∧ i = .int .i64 k ∧ IsM wr w4.heap.size ps ∧ CntOk ps (S.take k) ∧ Below w4.heap.size w4 wr) (fun i _ => m - (intOf i).toNat)
    case atStart => exact ⟨0, [], Nat.zero_le _, rfl, HM0.out, CntOk.nil, (Below.refl _ _).alloc (Nat.le_refl _) _⟩
    case round =>
      obtain ⟨k, ps, hk, rfl, hM, hC, hb⟩ := hrel
      have HM := Lib.hid hM; have HC := Lib.hid hC; have HB := Lib.hid hb
      have hszr := hb.size
      clear hM hC
      by_cases hlt : k < m
      · obtain ⟨b, o, r, hA, hbl, hr, hcr⟩ := rd4 (HR4.out.below hb) hlt
        subst hA
        obtain ⟨r0, r1, r2, r3⟩ := hcr _ (Below.refl _ _)
        have hvr := validB_iff.1 (HVS.out r (List.mem_of_getElem? hr))
        have hok : okN (nmR r) := ⟨⟨by simp [nmR]; omega, by simp [nmR]; omega⟩, by simp [nmR]; omega, by simp [nmR]; omega⟩
        have HT : Hid (S.take (k + 1) = S.take k ++ [r]) := by
          show _ = _
          rw [List.take_add_one, hr]; rfl
        have HOK := Lib.hid hok
        have hi1 : (k : Int) < (m : Int) := by omega
        have hi0 : (0 : Int) ≤ (k : Int) := by omega
        clear hr hcr hvr hok hb
        have HN := Lib.hid (fun W => name_c r W)
        rcases HC.out.case (nmR r) with ⟨j, c0, hj⟩ | hno
        · have HJ := Lib.hid hj
          have hc0 := HC.out.val j _ c0 hj
          have hcl : cntN (S.take k) (nmR r) ≤ k := by
            have := List.countP_le_length (p := fun x => decide (nmR x = nmR r)) (l := S.take k)
            rw [List.length_take] at this
            unfold cntN; omega
          have hw1 : IntKind.i64.wrap (c0 + 1) = c0 + 1 := wi (by omega)
          clear hj hc0 hcl
          go_wp2_with fail
          first | (go_region_with ((go_at_call 36; refine (HN.out _).mono ?_; rintro e w2 ⟨rfl, hb2⟩; have hbb : Below wr.heap.size wr w2 := below_tr ((Below.refl _ wr).alloc (Nat.le_refl _) _).drew hb2; have M2 := HM.out.below hbb; have L0 : (Instr.lookup 108 (.map (some w4.heap.size)) (.agg #[.int .i64 r.ins, .int .i64 r.num]) false).run Tryz.prog w2 = .ok (.int .i64 c0) w2 := lookup_yes M2 HC.out.keys HC.out.dist HOK.out HJ.out; have E0 : (Instr.mapEntry 108 (.map (some w4.heap.size)) (.agg #[.int .i64 r.ins, .int .i64 r.num])).run Tryz.prog w2 = .ok (.tuple #[.int .i64 c0, .int .i64 (j : Int)]) (putM w2 w4.heap.size ps) := entry_yes M2 HC.out.keys HC.out.dist HOK.out HJ.out; have L1 : (Instr.lookup 108 (.map (some w4.heap.size)) (.agg #[.int .i64 r.ins, .int .i64 r.num]) false).run Tryz.prog (putM w2 w4.heap.size ps) = .ok (.int .i64 c0) (putM w2 w4.heap.size ps) := lookup_yes (M2.put ps) HC.out.keys HC.out.dist HOK.out HJ.out; have S1 := store_n (M2.put ps) HJ.out (c0 + 1)))) | fail
          all_goals
            have hb5 := HB.out.trans (hbb.mono hszr)
            have hb6 := (hb5.grown (putM_grown w2 w4.heap.size (ps)) hb5.size (fun g hg => by cases hg; exact Nat.le_refl _))
            have hb7 := (hb6.grown (putM_grown (putM w2 w4.heap.size (ps)) w4.heap.size (ps.set j (nmR r, c0 + 1))) hb6.size (fun g hg => by cases hg; exact Nat.le_refl _))
            have HB7 := Lib.hid hb7
            have HM7 := Lib.hid ((M2.put (ps)).put (ps.set j (nmR r, c0 + 1)))
            clear hb5 hb6 hb7
            go_wp2_with fail
            go_roundw
            case rel => exact ⟨k + 1, ps.set j (nmR r, c0 + 1), by omega, by go_num, HM7.out, by rw [HT.out]; exact HC.out.yes HJ.out, HB7.out⟩
            case measure => simp [intOf] <;> omega
        · have HNO := Lib.hid hno
          have hK0 : KeysOk (ps ++ [(nmR r, (0 : Int))]) ∧ Dist (ps ++ [(nmR r, (0 : Int))]) ∧ (ps ++ [(nmR r, (0 : Int))])[ps.length]? = some (nmR r, 0) := by
            refine ⟨fun p hp => ?_, fun i i' q d d' h1 h2 => ?_, by rw [List.getElem?_append_right (Nat.le_refl _)]; simp⟩
            · rcases List.mem_append.1 hp with hp | hp
              · exact HC.out.keys p hp
              · simp at hp; subst hp; exact HOK.out
            · exact snoc_dist HC.out.dist hno h1 h2
          have HK0 := Lib.hid hK0
          have hw1 : IntKind.i64.wrap 1 = 1 := wi (by omega)
          clear hno hK0
          go_wp2_with fail
          first | (go_region_with ((go_at_call 36; refine (HN.out _).mono ?_; rintro e w2 ⟨rfl, hb2⟩; have hbb : Below wr.heap.size wr w2 := below_tr ((Below.refl _ wr).alloc (Nat.le_refl _) _).drew hb2; have M2 := HM.out.below hbb; have L0 : (Instr.lookup 108 (.map (some w4.heap.size)) (.agg #[.int .i64 r.ins, .int .i64 r.num]) false).run Tryz.prog w2 = .ok (.int .i64 0) w2 := lookup_no M2 HC.out.keys HOK.out HNO.out; have E0 : (Instr.mapEntry 108 (.map (some w4.heap.size)) (.agg #[.int .i64 r.ins, .int .i64 r.num])).run Tryz.prog w2 = .ok (.tuple #[.int .i64 0, .int .i64 (ps.length : Int)]) (putM w2 w4.heap.size (ps ++ [(nmR r, 0)])) := entry_no M2 HC.out.keys HOK.out HNO.out; have L1 : (Instr.lookup 108 (.map (some w4.heap.size)) (.agg #[.int .i64 r.ins, .int .i64 r.num]) false).run Tryz.prog (putM w2 w4.heap.size (ps ++ [(nmR r, 0)])) = .ok (.int .i64 0) (putM w2 w4.heap.size (ps ++ [(nmR r, 0)])) := lookup_yes (M2.put _) HK0.out.1 HK0.out.2.1 HOK.out HK0.out.2.2; have S1 := store_n (M2.put (ps ++ [(nmR r, 0)])) HK0.out.2.2 1))) | fail
          all_goals
            have hb5 := HB.out.trans (hbb.mono hszr)
            have hb6 := (hb5.grown (putM_grown w2 w4.heap.size (ps ++ [(nmR r, 0)])) hb5.size (fun g hg => by cases hg; exact Nat.le_refl _))
            have hb7 := (hb6.grown (putM_grown (putM w2 w4.heap.size (ps ++ [(nmR r, 0)])) w4.heap.size ((ps ++ [(nmR r, 0)]).set ps.length (nmR r, 1))) hb6.size (fun g hg => by cases hg; exact Nat.le_refl _))
            have hset : (ps ++ [(nmR r, (0 : Int))]).set ps.length (nmR r, 1) = ps ++ [(nmR r, 1)] := by simp
            have hm7 := (M2.put (ps ++ [(nmR r, 0)])).put (ps ++ [(nmR r, 1)])
            rw [hset] at hb7
            have HB7 := Lib.hid hb7
            have HM7 := Lib.hid hm7
            clear hset hm7
            clear hb5 hb6 hb7
            go_wp2_with fail
            go_roundw
            case rel => exact ⟨k + 1, ps ++ [(nmR r, 1)], by omega, by go_num, HM7.out, by rw [HT.out]; exact HC.out.no HOK.out HNO.out, HB7.out⟩
            case measure => simp [intOf] <;> omega
      · obtain rfl : k = m := by omega
        rw [List.take_of_length_le (by rw [HLM.out]; exact Nat.le_refl _)] at HC
        clear hb
        obtain ⟨wo, rfl⟩ : ∃ wo : World, wo = wr := ⟨_, rfl⟩
        go_wp2_with fail
        go_loopw [2, 3, 40] (fun v1 v2 i wr => ∃ q : Nat, q ≤ k ∧ i = .int .i64 q ∧ R2 55 wo.heap.size v1 v2 ((S.take q).filter (loneB S)) ((S.take q).filter fun r => !loneB S r) wr ∧ Below wo.heap.size wo wr) (fun _ _ i _ => k - (intOf i).toNat)
        case atStart => exact ⟨0, Nat.zero_le _, rfl, ⟨World.ownsRow_nil _ _ _ _, World.ownsRow_nil _ _ _ _, fun g h => by simp [Value.ownBlock] at h⟩, Below.refl _ _⟩
        case round =>
          obtain ⟨q, hq, rfl, hR, hb⟩ := hrel
          have HRR := Lib.hid hR; have HB2 := Lib.hid hb
          have hsz2 := hb.size
          have hl1 : ((S.take q).filter (loneB S)).length ≤ q := by
            have := List.length_filter_le (loneB S) (S.take q)
            rw [List.length_take] at this; omega
          have hl2 : ((S.take q).filter fun r => !loneB S r).length ≤ q := by
            have := List.length_filter_le (fun r => !loneB S r) (S.take q)
            rw [List.length_take] at this; omega
          clear hR
          by_cases hlt2 : q < k
          · obtain ⟨b, o, r, hA, hbl, hr, hcr⟩ := rd4 ((HR4.out.below HB.out).below hb) hlt2
            subst hA
            obtain ⟨r0, r1, r2, r3⟩ := hcr _ (Below.refl _ _)
            have hrS := List.mem_of_getElem? hr
            have hvr := validB_iff.1 (HVS.out r hrS)
            have hok : okN (nmR r) := ⟨⟨by simp [nmR]; omega, by simp [nmR]; omega⟩, by simp [nmR]; omega, by simp [nmR]; omega⟩
            obtain ⟨j, c0, hj⟩ := HC.out.mem r hrS
            have hc0 := HC.out.val j _ c0 hj
            have HF1 := Lib.hid (filter_succ hr (loneB S)); have HF2 := Lib.hid (filter_succ hr fun r => !loneB S r)
            have hi1 : (q : Int) < (k : Int) := by omega
            have hi0 : (0 : Int) ≤ (q : Int) := by omega
            have HN := Lib.hid (fun W => name_c r W)
            have HMr := Lib.hid (HM.out.below hb)
            obtain ⟨F1, hF1⟩ : ∃ F1, F1 = (S.take q).filter (loneB S) := ⟨_, rfl⟩
            obtain ⟨F2, hF2⟩ : ∃ F2, F2 = (S.take q).filter fun r => !loneB S r := ⟨_, rfl⟩
            rw [← hF1] at HRR HF1 hl1
            rw [← hF2] at HRR HF2 hl2
            have HJ := Lib.hid hj; have HOK := Lib.hid hok
            clear hr hcr hrS hvr hok hb hj hF1 hF2
            go_wp2_with fail
            refine (HN.out _).mono ?_
            rintro e w6 ⟨rfl, hb6⟩
            have hbb : Below wr.heap.size wr w6 := below_tr ((Below.refl _ wr).alloc (Nat.le_refl _) _) hb6
            have L0 : (Instr.lookup 108 (.map (some w4.heap.size)) (.agg #[.int .i64 r.ins, .int .i64 r.num]) false).run Tryz.prog w6 = .ok (.int .i64 c0) w6 := lookup_yes (HMr.out.below hbb) HC.out.keys HC.out.dist HOK.out HJ.out
            have hk6 := (Blk.new wr 55 #[.int .i64 r.ins, .int .i64 r.num, .int .i64 r.tim, .int .i64 r.val]).below hb6 (by simp)
            have y0 := hk6.cell 0; have y1 := hk6.cell 1; have y2 := hk6.cell 2; have y3 := hk6.cell 3
            simp at y0 y1 y2 y3
            have HR2 := Lib.hid (HRR.out.below hbb)
            have HB6 := Lib.hid (HB2.out.trans (hbb.mono hsz2))
            have hsz6 := HB6.out.size
            clear hb6 hbb hk6
            by_cases hone : c0 = 1
            · have e1 : (c0 == 1) = true := by simpa using hone
              have hlone : loneB S r = true := by simp [loneB]; omega
              rw [hlone] at HF1 HF2
              clear hone hc0 hlone
              go_wp2_with (at_builtin; go_must (refine wpList_append_own_at _ rfl _ _ 52 rfl wo.heap.size 55 i0 _ 4 32 Tryz.underlying52 HI.out HZ0.out HZ1.out HZ2.out rfl (by decide) _ _ _ rfl (HR2.out.1.alloc _) ⟨w6.heap.size, 0, none⟩ 1 1 (encR r) rfl rfl (fun j u hj => World.news_of_block (cs := #[.int .i64 r.ins, .int .i64 r.num, .int .i64 r.tim, .int .i64 r.val]) (t := 55) (fr := (0, 0)) (heap_alloc_new w6 _) j u hj) (by simp [Value.oneCell', encR]) (by unfold maxLen; omega) (by omega) (by simp; omega) ?_; intro v' w7 hown' hgrow _ hloc))
              have HR7 : Hid (R2 55 wo.heap.size v' u3 ((S.take (q + 1)).filter (loneB S)) ((S.take (q + 1)).filter fun r => !loneB S r) w7) := by
                show R2 _ _ _ _ _ _ _
                rw [HF1.out, HF2.out]
                have := R2.app (r := r) (HR2.out.below ((Below.refl _ w6).alloc (Nat.le_refl _) _)) hown' hgrow hloc
                simpa using this
              have HB7 : Hid (Below wo.heap.size wo w7) := (HB6.out.alloc hsz6 _).grown hgrow (by simp; omega) (fun g hg => (HR2.out.1.lt g hg).1)
              clear hown' hgrow hloc
              go_wp2_with fail
              go_roundw
              case rel => exact ⟨q + 1, by omega, by go_num, HR7.out, HB7.out⟩
              case measure => simp [intOf] <;> omega
            · have e1 : (c0 == 1) = false := by simpa using hone
              have hlone : loneB S r = false := by simp [loneB]; omega
              rw [hlone] at HF1 HF2
              clear hone hc0 hlone
              go_wp2_with (at_builtin; go_must (refine wpList_append_own_at _ rfl _ _ 52 rfl wo.heap.size 55 i0 _ 4 32 Tryz.underlying52 HI.out HZ0.out HZ1.out HZ2.out rfl (by decide) _ _ _ rfl (HR2.out.2.1.alloc _) ⟨w6.heap.size, 0, none⟩ 1 1 (encR r) rfl rfl (fun j u hj => World.news_of_block (cs := #[.int .i64 r.ins, .int .i64 r.num, .int .i64 r.tim, .int .i64 r.val]) (t := 55) (fr := (0, 0)) (heap_alloc_new w6 _) j u hj) (by simp [Value.oneCell', encR]) (by unfold maxLen; omega) (by omega) (by simp; omega) ?_; intro v' w7 hown' hgrow _ hloc))
              have HR7 : Hid (R2 55 wo.heap.size u2 v' ((S.take (q + 1)).filter (loneB S)) ((S.take (q + 1)).filter fun r => !loneB S r) w7) := by
                show R2 _ _ _ _ _ _ _
                rw [HF1.out, HF2.out]
                have := (R2.app (r := r) (HR2.out.below ((Below.refl _ w6).alloc (Nat.le_refl _) _)).swap hown' hgrow hloc).swap
                simpa using this
              have HB7 : Hid (Below wo.heap.size wo w7) := (HB6.out.alloc hsz6 _).grown hgrow (by simp; omega) (fun g hg => (HR2.out.2.1.lt g hg).1)
              clear hown' hgrow hloc
              go_wp2_with fail
              go_roundw
              case rel => exact ⟨q + 1, by omega, by go_num, HR7.out, HB7.out⟩
              case measure => simp [intOf] <;> omega
          · obtain rfl : q = k := by omega
            rw [List.take_of_length_le (by rw [HLM.out]; exact Nat.le_refl _)] at HRR hl1 hl2
            obtain ⟨A5, c5, rfl, hc5⟩ := own_form HRR.out.1
            obtain ⟨A6, c6, rfl, hc6⟩ := own_form HRR.out.2.1
            have HBF := Lib.hid (below_tr HB4.out (below_tr HB.out HB2.out))
            clear hb
            go_wp2_with fail
            go_ret3
            refine ⟨⟨A5, _, c5, A6, _, c6, by rw [← HE.out]; rfl, hc5, hc6, by omega, by omega, fun h => absurd HE.out.symm h, fun _ => ?_⟩, HBF.out⟩
            rw [← HSeq.out]
            exact ⟨Rd.of_own encR_len HRR.out.1 rfl, Rd.of_own encR_len HRR.out.2.1 rfl⟩
  · have e1 : (E == 0) = false := by rw [beq_eq_false_iff_ne]; exact he
    have e2 : (E != 0) = true := by rw [bne_iff_ne]; exact he
    have HNE := Lib.hid he
    clear he
    go_enter Tryz.func15, Tryz.ntmps15
    go_wp2_with fail
    refine HCK.out.mono ?_
    rintro e w1 ⟨rfl, hb1⟩
    have HB1 := Lib.hid hb1
    clear hb1 HCK
    go_wp2_with fail
    go_ret3
    exact ⟨⟨none, 0, 0, none, 0, 0, by rw [← HE.out]; rfl, Nat.le_refl _, Nat.le_refl _, by omega, by omega, fun _ => ⟨rfl, rfl⟩, fun h => absurd (HE.out.trans h) HNE.out⟩, HB1.out⟩
end Go.Proofs.YtjpobkmlcjbpiaaGreat.Ga
