/- THE CONTRACTS of Point.stands and gauge.Outliers. -/
import Derived.Test.YtkgoojilmnkgiaaOutlLaw
import Derived.Test.YtkgoojilmnkgiaaLose
import Derived.Deep.AppendLies
namespace Go.Proofs.Ytkgoojilmnkgiaa
open Go.RowKit Go.Proofs

theorem blk3b (w : World) (X Y Z : Array Value) (a b c : TypeId) :
    Below w.heap.size w (((w.alloc (.cells X a)).alloc (.cells Y b)).alloc (.cells Z c)) :=
  (((Below.refl _ _).alloc (Nat.le_refl _) _).alloc (by simp) _).alloc (by simp; omega) _

set_option maxRecDepth 100000 in
set_option maxHeartbeats 1000000 in
theorem pstands_c (p a b : Int × Int) (far : Int) (w : World) (hp : ptB p = true) (ha : ptB a = true) (hb : ptB b = true) (hf : 0 ≤ far ∧ far ≤ 1000000000) :
    Calls Try.prog 66 #[.agg #[.int .i64 p.1, .int .i64 p.2], .agg #[.int .i64 a.1, .int .i64 a.2], .agg #[.int .i64 b.1, .int .i64 b.2], .int .i64 far] w fun e w' => e = .returned (.bool (stB p.2 a.2 b.2 far)) ∧ Below w.heap.size w w' := by
  have hp' := ptB_iff.1 hp; have ha' := ptB_iff.1 ha; have hb' := ptB_iff.1 hb
  have HB := Lib.hid (blk3b w #[.int .i64 p.1, .int .i64 p.2] #[.int .i64 a.1, .int .i64 a.2] #[.int .i64 b.1, .int .i64 b.2] 72 72 72)
  clear hp ha hb
  by_cases h1 : far < p.2 - a.2 <;> by_cases h2 : far < p.2 - b.2 <;> by_cases h3 : far < a.2 - p.2 <;> by_cases h4 : far < b.2 - p.2
  all_goals first
    | (exfalso; omega)
    | (have hr : stB p.2 a.2 b.2 far = inB (a.2 - b.2) (-far) far := by simp [stB, h1, h2, h3, h4]
       have HR := Lib.hid hr; clear hr
       go_enter Try.func66, Try.ntmps66
       go_wp2_with (go_at_call 63; refine (within_c _ _ _ _).mono ?_; rintro e w' ⟨rfl, rfl⟩)
       go_ret
       exact ⟨ret_bool HR.out.symm, HB.out⟩)
    | (have hr : stB p.2 a.2 b.2 far = false := by simp [stB, h1, h2, h3, h4]
       have HR := Lib.hid hr; clear hr
       go_enter Try.func66, Try.ntmps66
       go_wp2_with (go_at_call 63; refine (within_c _ _ _ _).mono ?_; rintro e w' ⟨rfl, rfl⟩)
       go_ret
       exact ⟨ret_bool HR.out.symm, HB.out⟩)

theorem natV_enc (l : List Nat) : natV l = (l.map Int.ofNat).flatMap enc1 := by
  induction l with
  | nil => rfl
  | cons a l ih => simp only [natV, List.map_cons, List.flatMap_cons] at ih ⊢; rw [← ih]; rfl
theorem getD_of {α : Type} {l : List α} {i : Nat} {x d : α} (h : l[i]? = some x) : l.getD i d = x := by simp [List.getD, h]

set_option maxRecDepth 100000 in
set_option maxHeartbeats 1000000 in
theorem Outliers_c {l : List (Int × Int)} {A : Option Addr} {n c : Nat} {far : Int} {w : World} (h : Rd enc2 2 w A n l) :
    Calls Try.prog 32 #[.slice A n c, .int .i64 far] w fun e w' => ∃ (B : Option Addr) (m d : Nat), e = .returned (.tuple #[.slice B m d, .int .i64 (askedE l far)]) ∧ m ≤ d ∧ Below w.heap.size w w' ∧
      (askedE l far ≠ 0 → m = 0) ∧ (askedE l far = 0 → Rd enc1 1 w' B m ((outl l far).map Int.ofNat)) := by
  have hl := h.len
  have HL := Lib.hid hl; clear hl
  have HA := Lib.hid (asked_c (c := c) (s := far) h)
  by_cases he : askedE l far = 0
  · obtain ⟨hser, hin⟩ := askedE_zero.1 he
    rw [inB_iff] at hin
    have h60 := hser.len
    have HS := Lib.hid hser; clear hser
    rw [HL.out] at h60
    rw [he] at HA
    have HEE := Lib.hid he; clear he
    obtain ⟨i0, hi0, hz0, hz1, hz2⟩ := info_parts infoI
    have HI := Lib.hid hi0; have HZ0 := Lib.hid hz0; have HZ1 := Lib.hid hz1; have HZ2 := Lib.hid hz2
    clear hi0 hz0 hz1 hz2
    go_enter Try.func32, Try.ntmps32
    go_wp2_with fail
    refine HA.out.mono ?_
    rintro e w1 ⟨rfl, hb1⟩
    have HB1 := Lib.hid hb1
    have h1 := h.below hb1
    clear hb1
    go_wp2_with fail
    go_loopw [8, 9] (fun v i wr => ∃ k : Nat, k + 1 ≤ max 1 (n - 1) ∧ i = .int .i64 ((k + 1 : Nat) : Int) ∧ wr.ownsRow w1.heap.size 3 1 v (outTo l far (k + 1)).length (natV (outTo l far (k + 1))) ∧ Below w1.heap.size w1 wr) (fun _ i _ => n - (intOf i).toNat)
    case atStart => exact ⟨0, by omega, rfl, by rw [outTo_no (stAt_zero _ _)]; exact World.ownsRow_nil _ _ _ _, Below.refl _ _⟩
    case round =>
      obtain ⟨k, hk, rfl, hown, hb⟩ := hrel
      have HO := Lib.hid hown; have HB := Lib.hid hb; clear hown hb
      by_cases hlt : k + 1 + 1 < n
      · obtain ⟨b, o, y, hA, hbl, hy, y0, y1⟩ := (h1.below HB.out).at2 (i := k + 1) (by omega)
        subst hA
        obtain ⟨b', o', x, hA, _, hx, x0, x1⟩ := (h1.below HB.out).at2 (i := k) (by omega)
        cases hA
        obtain ⟨b', o', z, hA, _, hz, z0, z1⟩ := (h1.below HB.out).at2 (i := k + 1 + 1) (by omega)
        cases hA
        have hst := stAt_of (far := far) hx hy hz
        have hpc := fun W => pstands_c y x z far W (HS.out.pt hy) (HS.out.pt hx) (HS.out.pt hz) hin
        rw [← hst] at hpc
        have hsz := HB.out.size
        have hlen := outTo_len l far (k + 1)
        clear hst hx hy hz
        have s1 : IntKind.i64.wrap ((k : Int) + 1 - 1) = (k : Int) := by rw [wi (by omega)]; omega
        have s1' : IntKind.i64.wrap (k : Int) = (k : Int) := wi (by omega)
        have s2 : IntKind.i64.wrap ((k : Int) + 1 + 1) = (k : Int) + 1 + 1 := wi (by omega)
        have t1 : ((k : Int) + 1).toNat = k + 1 := by omega
        have t2 : ((k : Int) + 1 + 1).toNat = k + 1 + 1 := by omega
        have b0 : (0 : Int) ≤ (k : Int) := by omega
        have b1 : (0 : Int) ≤ (k : Int) + 1 := by omega
        have b2 : (0 : Int) ≤ (k : Int) + 1 + 1 := by omega
        have c0 : (k : Int) < (n : Int) := by omega
        have c1 : (k : Int) + 1 < (n : Int) := by omega
        have c2 : (k : Int) + 1 + 1 < (n : Int) := by omega
        have hc : (k : Int) + 1 < (n : Int) - 1 := by omega
        cases hs : stAt l far (k + 1) <;> rw [hs] at hpc <;> have HPC := Lib.hid hpc <;> clear hpc
        · go_wp2_with fail
          refine wp_region_ext (by kernel_rfl) (by kernel_rfl) ?_
          repeat (go_big_quiet_step ((go_at_call 66; exact ext_call (HPC.out _))))
          refine wpQuiet_nil ?_
          rintro _ ⟨q, rfl⟩
          go_wp2
          refine ⟨⟨k + 1, by omega, by go_num, by rw [outTo_no hs]; exact own_mono HO.out q.below, below_tr HB.out q.below⟩, ?_⟩
          simp [intOf]; omega
        · go_wp2_with fail
          refine wp_region_ext (by kernel_rfl) (by kernel_rfl) ?_
          repeat (go_big_quiet_step ((go_at_call 66; exact ext_call (HPC.out _))))
          refine wpQuiet_nil ?_
          rintro _ ⟨q, rfl⟩
          have HQ := Lib.hid (own_mono HO.out q.below)
          have hqs := q.below.size
          go_wp2_with (at_builtin; go_must (refine wpList_append_own_at _ rfl _ _ 33 rfl w1.heap.size 3 i0 (.int .i64 0) 1 8 Try.underlying33 HI.out HZ0.out HZ1.out HZ2.out rfl (by decide) _ _ _ rfl (HQ.out.alloc _) ⟨q.w.heap.size, 0, none⟩ 1 1 [.int .i64 ((k + 1 : Nat) : Int)] rfl rfl (cell_one_new _ _ _) (by simp [Value.oneCell']) (by unfold maxLen; omega) (by omega) (by simp; omega) ?_; intro v' w2 hown' hgrow _ _))
          have hown2 : Hid (w2.ownsRow w1.heap.size 3 1 v' (outTo l far (k + 1 + 1)).length (natV (outTo l far (k + 1 + 1)))) := by
            rw [outTo_yes hs, natV_append, List.length_append]
            exact hown'
          have hb2 : Hid (Below w1.heap.size w1 w2) := ((below_tr HB.out q.below).alloc (by omega) _).grown hgrow (by simp; omega) (fun g hg => (HQ.out.lt g hg).1)
          clear hown' hgrow
          go_roundw
          case rel => exact ⟨k + 1, by omega, by go_num, hown2.out, hb2.out⟩
          case measure => simp [intOf]; omega
      · have hc : ¬ (k : Int) + 1 < (n : Int) - 1 := by omega
        obtain ⟨A', c', rfl, hc'⟩ := own_form HO.out
        go_wp2_with fail
        go_ret2
        have hn : n ≤ k + 1 + 1 := by omega
        have ho := HO.out
        rw [← outl_eq (by rw [HL.out]; exact hn)] at ho
        have hint : natV (outl l far) = ((outl l far).map Int.ofNat).flatMap enc1 := natV_enc _
        rw [hint] at ho
        exact ⟨A', _, c', by rw [HEE.out]; rfl, hc', below_tr HB1.out HB.out, fun h => absurd HEE.out h, fun _ => by
          have := Rd.of_own enc1_len ho (by simp)
          rw [outl_eq (by rw [HL.out]; exact hn)] at this ⊢
          exact this⟩
  · generalize askedE l far = q at *
    have hb0 : (q == 0) = false := by simpa using he
    have HE := Lib.hid he; clear he
    go_enter Try.func32, Try.ntmps32
    go_wp2_with fail
    refine HA.out.mono ?_
    rintro e w1 ⟨rfl, hb1⟩
    go_wp2_with fail
    go_ret2
    exact ⟨none, 0, 0, rfl, Nat.le_refl _, hb1, fun _ => rfl, fun h => absurd h HE.out⟩
end Go.Proofs.Ytkgoojilmnkgiaa
