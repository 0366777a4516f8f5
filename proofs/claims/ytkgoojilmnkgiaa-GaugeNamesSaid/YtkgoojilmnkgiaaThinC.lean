/- THE WALK of Thin. -/
import Derived.Test.YtkgoojilmnkgiaaThinSt
namespace Go.Proofs.Ytkgoojilmnkgiaa
open Go.RowKit Go.Proofs Go.Maps

theorem blk2 (w : World) (X Y : Array Value) (a b : TypeId) :
    Blk ((w.alloc (.cells X a)).alloc (.cells Y b)) w.heap.size a X ∧ Blk ((w.alloc (.cells X a)).alloc (.cells Y b)) (w.heap.size + 1) b Y := by
  refine ⟨(Blk.new w a X).alloc _, ?_⟩
  have := Blk.new (w.alloc (.cells X a)) b Y
  simpa only [World.size_alloc] using this

theorem infoInt : (Try.prog.info? 3).map (fun i => (i.zero, i.size, i.bytes)) = some (some (.int .i64 0), 1, 8) := by kernel_rfl

set_option maxRecDepth 100000 in
set_option maxHeartbeats 1000000 in
theorem Thin_c {l : List (Int × Int)} {A : Option Addr} {n c : Nat} {s : Int} {w : World} (h : Rd enc2 2 w A n l) (hc : n ≤ c) :
    Calls Try.prog 37 #[.slice A n c, .int .i64 s] w fun e w' => ∃ (B : Option Addr) (m d : Nat) (out : List Int), e = .returned (.tuple #[.slice B m d, .int .i64 (askedE l s)]) ∧ m ≤ d ∧ Rd enc1 1 w' B m out ∧ Below w.heap.size w w' ∧
      (askedE l s ≠ 0 → out = []) ∧ (askedE l s = 0 → l = [] → out = []) ∧ (askedE l s = 0 → l ≠ [] → ∃ r : List Nat, Greedy l s (l.length - 1) 0 r ∧ out = (0 :: r).map Int.ofNat) := by
  have hl := h.len
  obtain ⟨W, hW⟩ : ∃ W : World, W = (w.alloc (.cells #[.slice A n c] 65)).alloc (.cells #[.int .i64 s] 3) := ⟨_, rfl⟩
  have hbW : Below w.heap.size w W := by
    rw [hW]; exact ((Below.refl _ _).alloc (Nat.le_refl _) _).alloc (by simp) _
  have hrdW : Rd enc2 2 W A n l := h.mono hbW
  have hask := asked_c (c := c) (s := s) hrdW
  obtain ⟨k1, k2⟩ := blk2 w #[.slice A n c] #[.int .i64 s] 65 3
  rw [← hW] at k1 k2
  have c1 : ∀ V : World, Below W.heap.size W V → V.cell? ⟨w.heap.size, 0, none⟩ = some (.slice A n c) := fun V hV => (hV.cell (p := ⟨_, 0, none⟩) (by rw [hW]; simp; omega)).trans (by rw [k1.cell]; rfl)
  have c2 : ∀ V : World, Below W.heap.size W V → V.cell? ⟨w.heap.size + 1, 0, none⟩ = some (.int .i64 s) := fun V hV => (hV.cell (p := ⟨_, 0, none⟩) (by rw [hW]; simp)).trans (by rw [k2.cell]; rfl)
  have C1 := Lib.hid c1; have C2 := Lib.hid c2
  clear c1 c2 k1 k2
  have HA := Lib.hid hask; have HW := Lib.hid hW; have HBW := Lib.hid hbW; have HRW := Lib.hid hrdW; have HL := Lib.hid hl
  have H0 := Lib.hid h
  clear hask hbW hrdW hl h
  subst hW
  have hmf : ∀ (fn : Fn) (first cap : Array Value) (w : World), (Instr.makeFunc fn first cap).run Try.prog w = .ok (.func fn first cap) w := fun _ _ _ _ => rfl
  have hmm := @run_makeMap Try.prog
  by_cases he : askedE l s = 0
  · rw [he] at HA
    by_cases hn0 : n = 0
    · subst hn0
      go_enter Try.func37, Try.ntmps37
      go_wp2_with fail
      refine HA.out.mono ?_
      rintro e w' ⟨rfl, hb⟩
      have c1 := C1.out w' hb
      have c2 := C2.out w' hb
      have HB := Lib.hid hb; clear hb
      go_wp2_with fail
      refine bodyPost_ret (results_tmp2 Try.results37 _ _ _) rfl ?_
      exact ⟨none, 0, 0, [], by rw [he]; rfl, Nat.le_refl _, ⟨rfl, fun h => absurd h (by omega)⟩, HBW.out.trans (HB.out.mono HBW.out.size), fun h => absurd he h, fun _ _ => rfl, fun _ hne => absurd (List.length_eq_zero_iff.1 (by have := HL.out; omega)) hne⟩
    · have hn0' : ¬ ((n : Int) = 0) := by omega
      obtain ⟨hser, hin⟩ := askedE_zero.1 he
      rw [inB_iff] at hin
      obtain ⟨last, rfl⟩ : ∃ last, n = last + 1 := ⟨n - 1, by omega⟩
      have hl60 := hser.len
      have h60 : last < 60 := by have := HL.out; omega
      have HSER := Lib.hid hser; have HIN := Lib.hid hin
      clear hser hin
      have hb0 : (((last : Int) + 1) == 0) = false := by simp; omega
      have hb0' : (((last + 1 : Nat) : Int) == 0) = false := by simp; omega
      go_enter Try.func37, Try.ntmps37
      go_wp2_with fail
      refine HA.out.mono ?_
      rintro e w' ⟨rfl, hb⟩
      have c1 := C1.out w' hb
      have c2 := C2.out w' hb
      have HB := Lib.hid hb; clear hb
      have hsz := HB.out.size
      simp only [World.size_alloc] at hsz
      have d1 := C1.out _ ((HB.out.alloc HB.out.size (.map #[] 0)).alloc (by have := HB.out.size; simp at *; omega) (.cells #[.map (some w'.heap.size)] 123))
      have kb := Blk.new (((w'.alloc (.map #[] 0)).alloc (.cells #[.map (some w'.heap.size)] 123)).alloc (.cells #[.int .i64 (last : Int)] 3)) 124 #[.nilFunc]
      simp only [World.size_alloc] at kb
      have e5 : World.cell? _ ⟨_, 0, none⟩ = some Value.nilFunc := kb.cell 0
      have f5 := kb.frozen 0
      have KB := Lib.hid kb; clear kb
      have hst := thin_start (s := s) (last := last) (c := c) (b3 := w.heap.size) (b4 := w.heap.size + 1) (HBW.out.trans (HB.out.mono HBW.out.size)) H0.out c1 c2 (by omega) (by omega)
      have HST := Lib.hid hst; clear hst
      go_wp2_with fail
      go_loopw [10, 11] (fun v x wr => ∃ (a : Nat) (r : List Nat), a ≤ last ∧ x = .int .i64 a ∧ r.length ≤ a ∧ (∀ r', Greedy l s last a r' → Greedy l s last 0 (r ++ r')) ∧
        ThinSt w wr l s last (last + 1) c A (w'.heap.size + 1 + 1) (w'.heap.size + 1) w.heap.size (w.heap.size + 1) (w'.heap.size + 1 + 1 + 1) w'.heap.size (w'.heap.size + 1 + 1 + 1 + 1) v (r.length + 1) ((0 :: r).map (fun k : Nat => Value.int .i64 (k : Int)))) (fun _ x _ => last - (intOf x).toNat)
      case atStart => exact ⟨0, [], by omega, rfl, by simp, fun _ h => h, HST.out⟩
      case round =>
        obtain ⟨a, r, ha, rfl, hra, hgr, hst⟩ := hrel
        have HR := Lib.hid hgr; clear hgr
        obtain ⟨g, cap, rfl, hcap⟩ := hst.row.form (by omega)
        have HST1 := Lib.hid hst; clear hst
        clear c1 c2 d1 e5 f5
        have c1 := HST1.out.st.c1
        by_cases hal : a < last
        · have hal' : (a : Int) < (last : Int) := by omega
          have HG := Lib.hid (exists_good (l := l) (s := s) (last := last) (by have := HL.out; omega) HIN.out.1 hal)
          go_wp2_with fail
          go_loopw [12] (fun y wr => ∃ b : Nat, a < b ∧ b ≤ last ∧ y = .int .i64 b ∧ (∀ b', a < b' → b' < b → goodB l s last a b' = false) ∧
            ThinSt w wr l s last (last + 1) c A (w'.heap.size + 1 + 1) (w'.heap.size + 1) w.heap.size (w.heap.size + 1) (w'.heap.size + 1 + 1 + 1) w'.heap.size (w'.heap.size + 1 + 1 + 1 + 1) (.slice (some ⟨g, 0, none⟩) (r.length + 1) cap) (r.length + 1) ((0 :: r).map (fun k : Nat => Value.int .i64 (k : Int)))) (fun y _ => last - (intOf y).toNat)
          case atStart => exact ⟨a + 1, by omega, by omega, rfl, fun b' h1 h2 => by omega, HST1.out⟩
          case round =>
            obtain ⟨b, hab, hbl, rfl, hno, hst⟩ := hrel
            have HNO := Lib.hid hno; clear hno
            have HST2 := Lib.hid hst; clear hst
            obtain ⟨K, hK⟩ : ∃ K : World → Prop, K = ThinK w l s last (last + 1) c A (w'.heap.size + 1 + 1) (w'.heap.size + 1) w.heap.size (w.heap.size + 1) (w'.heap.size + 1 + 1 + 1) w'.heap.size (w'.heap.size + 1 + 1 + 1 + 1) (.slice (some ⟨g, 0, none⟩) (r.length + 1) cap) (r.length + 1) ((0 :: r).map (fun k : Nat => Value.int .i64 (k : Int))) := ⟨_, rfl⟩
            have kd : K wr.drew := by rw [hK]; exact HST2.out.below (Below.refl _ _).drew
            have kk : ∀ W : World, K W → ThinSt w W l s last (last + 1) c A (w'.heap.size + 1 + 1) (w'.heap.size + 1) w.heap.size (w.heap.size + 1) (w'.heap.size + 1 + 1 + 1) w'.heap.size (w'.heap.size + 1 + 1 + 1 + 1) (.slice (some ⟨g, 0, none⟩) (r.length + 1) cap) (r.length + 1) ((0 :: r).map (fun k : Nat => Value.int .i64 (k : Int))) := fun W h => by rw [hK] at h; exact h
            have k1 : ∀ p : Kx K, p.w.cell? ⟨w'.heap.size + 1 + 1, 0, none⟩ = some (.int .i64 (last : Int)) := fun p => (kk _ p.ok).st.c1
            have k3 : ∀ p : Kx K, p.w.cell? ⟨w.heap.size, 0, none⟩ = some (.slice A (last + 1) c) := fun p => (kk _ p.ok).st.c3
            have k4 : ∀ p : Kx K, p.w.cell? ⟨w.heap.size + 1, 0, none⟩ = some (.int .i64 s) := fun p => (kk _ p.ok).st.c4
            have k5 : ∀ p : Kx K, p.w.cell? ⟨w'.heap.size + 1 + 1 + 1, 0, none⟩ = some (restV (w'.heap.size + 1 + 1) (w'.heap.size + 1) w.heap.size (w.heap.size + 1) (w'.heap.size + 1 + 1 + 1)) := fun p => (kk _ p.ok).st.c5
            unfold restV at k5
            have kr := kx_rest (w := w) (l := l) (s := s) (last := last) (n := last + 1) (c := c) (A := A) (b1 := w'.heap.size + 1 + 1) (b2 := w'.heap.size + 1) (b3 := w.heap.size) (b4 := w.heap.size + 1) (b5 := w'.heap.size + 1 + 1 + 1) (M := w'.heap.size) (base := w'.heap.size + 1 + 1 + 1 + 1) (v := .slice (some ⟨g, 0, none⟩) (r.length + 1) cap) (k := r.length + 1) (xs := (0 :: r).map (fun k : Nat => Value.int .i64 (k : Int))) HSER.out HIN.out rfl hc (by omega) (by omega)
            have kn := kx_near (w := w) (l := l) (s := s) (last := last) (n := last + 1) (c := c) (A := A) (b1 := w'.heap.size + 1 + 1) (b2 := w'.heap.size + 1) (b3 := w.heap.size) (b4 := w.heap.size + 1) (b5 := w'.heap.size + 1 + 1 + 1) (M := w'.heap.size) (base := w'.heap.size + 1 + 1 + 1 + 1) (v := .slice (some ⟨g, 0, none⟩) (r.length + 1) cap) (k := r.length + 1) (xs := (0 :: r).map (fun k : Nat => Value.int .i64 (k : Int))) HSER.out HIN.out hc hab (by omega : b < last + 1)
            rw [← hK] at kr kn
            have HK := Lib.hid hK; have KK := Lib.hid kk
            clear hK kk
            haveI hne : Nonempty (Kx K) := ⟨⟨_, kd⟩⟩
            obtain ⟨rn, hrn⟩ : ∃ rn : Nat → Nat, rn = restN l s last := ⟨_, rfl⟩
            rw [← hrn] at kr
            have HRN := Lib.hid hrn; clear hrn
            cases hnr : nearB l a b s
            · rw [hnr] at kn
              have KR := Lib.hid kr; have KN := Lib.hid kn; clear kr kn
              go_wp2_with fail
              refine wp_region_kx K (by kernel_rfl) (by kernel_rfl) kd ?_
              repeat (go_big_quiet_step ((first | (go_at_call 68; exact KN.out _) | (go_at_call 67; exact KR.out _ _ (by omega)))))
              refine wpQuiet_nil ?_
              rintro _ ⟨q, rfl⟩
              go_wp2
              have hbad : goodB l s last a b = false := by simp [goodB, hnr]
              have hbl' : b < last := by
                rcases Nat.lt_or_ge b last with h' | h'
                · exact h'
                · obtain ⟨b0, g1, g2, g3⟩ := HG.out
                  rcases Nat.lt_or_ge b0 b with h'' | h''
                  · rw [HNO.out b0 g1 h''] at g3; cases g3
                  · obtain rfl : b0 = b := by omega
                    rw [hbad] at g3; cases g3
              refine ⟨⟨b + 1, by omega, by omega, by go_num, fun b' h1 h2 => ?_, KK.out _ q.ok⟩, by simp [intOf]; omega⟩
              rcases Nat.lt_or_ge b' b with h'' | h''
              · exact HNO.out b' h1 h''
              · obtain rfl : b' = b := by omega
                exact hbad
            · rw [hnr] at kn
              have KR := Lib.hid kr; have KN := Lib.hid kn; clear kr kn
              have hrb := (restN_is (l := l) (s := s) (last := last) (by have := HL.out; omega) HIN.out.1 hbl).le (by have := HL.out; omega) HIN.out.1 hbl
              have HGD := Lib.hid (show goodB l s last a b = decide (1 + rn b = rn a) by rw [HRN.out]; simp [goodB, hnr])
              rw [← HRN.out] at hrb
              have hw1 : IntKind.i64.wrap (1 + (rn b : Int)) = 1 + (rn b : Int) := wi (by have := HL.out; omega)
              by_cases he : 1 + rn b = rn a
              · have hd1 : ((1 + (rn b : Int)) != (rn a : Int)) = false := by simp; omega
                have hd2 : ((1 + (rn b : Int)) == (rn a : Int)) = true := by simp; omega
                have HEQ := Lib.hid he; clear he
                go_wp2_with fail
                refine wp_region_kx K (by kernel_rfl) (by kernel_rfl) kd ?_
                repeat (go_big_quiet_step ((first | (go_at_call 68; exact KN.out _) | (go_at_call 67; exact KR.out _ _ (by omega)))))
                refine wpQuiet_nil ?_
                rintro _ ⟨q, rfl⟩
                obtain ⟨i0, hi0, hz0, hz1, hz2⟩ := info_parts infoInt
                have HI := Lib.hid hi0; have HZ0 := Lib.hid hz0; have HZ1 := Lib.hid hz1; have HZ2 := Lib.hid hz2
                clear hi0 hz0 hz1 hz2
                have HQ := Lib.hid (KK.out _ q.ok)
                have hbsz := (HQ.out.row.lt g rfl).2
                go_wp2_with (at_builtin; refine wpList_append_own _ rfl _ _ 33 rfl (w'.heap.size + 1 + 1 + 1 + 1) 3 i0 (.int .i64 0) 1 8 Try.underlying33 HI.out HZ0.out HZ1.out HZ2.out rfl (by decide) _ _ _ rfl (HQ.out.row.alloc _) ⟨q.w.heap.size, 0, none⟩ 1 1 [.int .i64 b] rfl rfl (cell_one_new _ _ _) (by simp [Value.oneCell']) (by unfold maxLen; omega) (by omega) (by simp; omega) ?_; intro v' w1 hown' hgrow _)
                have HW' := Lib.hid hown'; have HGW := Lib.hid hgrow; clear hown' hgrow
                go_roundw
                case rel =>
                  refine ⟨b, r ++ [b], by omega, rfl, by simp; omega, fun r' hr' => ?_, ?_⟩
                  · rw [List.append_assoc]
                    refine HR.out (b :: r') ⟨hab, hbl, ?_, HNO.out, hr'⟩
                    rw [HGD.out]; simpa using HEQ.out
                  · have := HQ.out.app H0.out (by omega) ((World.grownBy_alloc q.w _ _).trans HGW.out) HW'.out
                    simpa using this
                case measure => simp [intOf]; omega
              · have hd1 : ((1 + (rn b : Int)) != (rn a : Int)) = true := by simp; omega
                have hd2 : ((1 + (rn b : Int)) == (rn a : Int)) = false := by simp; omega
                have HEQ := Lib.hid he; clear he
                go_wp2_with fail
                refine wp_region_kx K (by kernel_rfl) (by kernel_rfl) kd ?_
                repeat (go_big_quiet_step ((first | (go_at_call 68; exact KN.out _) | (go_at_call 67; exact KR.out _ _ (by omega)))))
                refine wpQuiet_nil ?_
                rintro _ ⟨q, rfl⟩
                go_wp2
                have hbad : goodB l s last a b = false := by rw [HGD.out]; simpa using HEQ.out
                have hbl' : b < last := by
                  rcases Nat.lt_or_ge b last with h' | h'
                  · exact h'
                  · obtain ⟨b0, g1, g2, g3⟩ := HG.out
                    rcases Nat.lt_or_ge b0 b with h'' | h''
                    · rw [HNO.out b0 g1 h''] at g3; cases g3
                    · obtain rfl : b0 = b := by omega
                      rw [hbad] at g3; cases g3
                refine ⟨⟨b + 1, by omega, by omega, by go_num, fun b' h1 h2 => ?_, KK.out _ q.ok⟩, by simp [intOf]; omega⟩
                rcases Nat.lt_or_ge b' b with h'' | h''
                · exact HNO.out b' h1 h''
                · obtain rfl : b' = b := by omega
                  exact hbad
        · obtain rfl : a = last := by omega
          go_wp2_with fail
          refine bodyPost_ret (results_tmp2 Try.results37 _ _ _) rfl ?_
          obtain ⟨A2, c2, he2, hc2⟩ := own_form HST1.out.row
          injection he2 with _ _ he2
          have hrow := HST1.out.row
          rw [← map_enc1] at hrow
          exact ⟨some ⟨g, 0, none⟩, r.length + 1, cap, (0 :: r).map Int.ofNat, by rw [he]; rfl, by rw [he2]; exact hc2, Rd.of_own (fun _ => rfl) hrow (by simp), HST1.out.bel, fun h => absurd he h, fun _ hl => by have := HL.out; rw [hl] at this; simp at this,
            fun _ _ => ⟨r, by have := HR.out [] rfl; rw [HL.out]; simpa using this, rfl⟩⟩
  · have he' : ¬ (askedE l s = 0) := he
    go_enter Try.func37, Try.ntmps37
    go_wp2_with fail
    refine HA.out.mono ?_
    rintro e w' ⟨rfl, hb⟩
    have HB := Lib.hid hb; clear hb
    go_wp2_with fail
    refine bodyPost_ret (results_tmp2 Try.results37 _ _ _) rfl ?_
    exact ⟨none, 0, 0, [], rfl, Nat.le_refl _, ⟨rfl, fun h => absurd h (by omega)⟩, HBW.out.trans (HB.out.mono HBW.out.size), fun _ => rfl, fun h => absurd h he, fun h => absurd h he⟩
end Go.Proofs.Ytkgoojilmnkgiaa
