/- THE WALK of the law GaugeNames: the document's examples, and the errors. -/
import Derived.Test.YtkgoojilmnkgiaaOutlLaw
import Derived.Test.YtkgoojilmnkgiaaLose
import Derived.Deep.AppendLies
import Derived.Test.YtkgoojilmnkgiaaMergeC
import Derived.Test.YtkgoojilmnkgiaaGapsC
import Derived.Test.YtkgoojilmnkgiaaProve
import Derived.Test.YtkgoojilmnkgiaaRight
import Derived.Test.YtkgoojilmnkgiaaWakesLaw
import Derived.Test.YtkgoojilmnkgiaaWakes
import Derived.Deep.DeepCutAuto
import Derived.BigQuiet
import Derived.Deep.QuietTactic
namespace Go.Proofs.Ytkgoojilmnkgiaa
open Go.RowKit Go.Proofs

theorem blk3b (w : World) (X Y Z : Array Value) (a b c : TypeId) :
    Below w.heap.size w (((w.alloc (.cells X a)).alloc (.cells Y b)).alloc (.cells Z c)) :=
  (((Below.refl _ _).alloc (Nat.le_refl _) _).alloc (by simp) _).alloc (by simp; omega) _

set_option maxRecDepth 100000 in
set_option maxHeartbeats 1000000 in
theorem pstands_c (p a b : Int × Int) (far : Int) (w : World) (hp : ptB p = true) (ha : ptB a = true) (hb : ptB b = true) (hf : 0 ≤ far ∧ far ≤ 1000000000) :
    Calls Try.prog 66 #[.agg #[.int .i64 p.1, .int .i64 p.2], .agg #[.int .i64 a.1, .int .i64 a.2], .agg #[.int .i64 b.1, .int .i64 b.2], .int .i64 far] w fun e w' => e = .returned (.bool (stB p.2 a.2 b.2 far)) ∧ Below w.heap.size w w' := by
  have hp' := ptB_iff.1 hp; have ha' := ptB_iff.1 ha; have hb' := ptB_iff.1 hb
  have HB := Lib.hid (blk3b w #[.int .i64 p.1, .int .i64 p.2] #[.int .i64 a.1, .int .i64 a.2] #[.int .i64 b.1, .int .i64 b.2] 72 72 72)
  clear hp ha hb
  by_cases h1 : far < p.2 - a.2 <;> by_cases h2 : far < p.2 - b.2 <;> by_cases h3 : far < a.2 - p.2 <;> by_cases h4 : far < b.2 - p.2
  all_goals first
    | (exfalso; omega)
    | (have hr : stB p.2 a.2 b.2 far = inB (a.2 - b.2) (-far) far := by simp [stB, h1, h2, h3, h4]
       have HR := Lib.hid hr; clear hr
       go_enter Try.func66, Try.ntmps66
       go_wp2_with (go_at_call 63; refine (within_c _ _ _ _).mono ?_; rintro e w' ⟨rfl, rfl⟩)
       go_ret
       exact ⟨ret_bool HR.out.symm, HB.out⟩)
    | (have hr : stB p.2 a.2 b.2 far = false := by simp [stB, h1, h2, h3, h4]
       have HR := Lib.hid hr; clear hr
       go_enter Try.func66, Try.ntmps66
       go_wp2_with (go_at_call 63; refine (within_c _ _ _ _).mono ?_; rintro e w' ⟨rfl, rfl⟩)
       go_ret
       exact ⟨ret_bool HR.out.symm, HB.out⟩)

theorem natV_enc (l : List Nat) : natV l = (l.map Int.ofNat).flatMap enc1 := by
  induction l with
  | nil => rfl
  | cons a l ih => simp only [natV, List.map_cons, List.flatMap_cons] at ih ⊢; rw [← ih]; rfl
theorem getD_of {α : Type} {l : List α} {i : Nat} {x d : α} (h : l[i]? = some x) : l.getD i d = x := by simp [List.getD, h]

set_option maxRecDepth 100000 in
set_option maxHeartbeats 1000000 in
theorem Outliers_c {l : List (Int × Int)} {A : Option Addr} {n c : Nat} {far : Int} {w : World} (h : Rd enc2 2 w A n l) :
    Calls Try.prog 32 #[.slice A n c, .int .i64 far] w fun e w' => ∃ (B : Option Addr) (m d : Nat), e = .returned (.tuple #[.slice B m d, .int .i64 (askedE l far)]) ∧ m ≤ d ∧ Below w.heap.size w w' ∧
      (askedE l far ≠ 0 → m = 0) ∧ (askedE l far = 0 → Rd enc1 1 w' B m ((outl l far).map Int.ofNat)) := by
  have hl := h.len
  have HL := Lib.hid hl; clear hl
  have HA := Lib.hid (asked_c (c := c) (s := far) h)
  by_cases he : askedE l far = 0
  · obtain ⟨hser, hin⟩ := askedE_zero.1 he
    rw [inB_iff] at hin
    have h60 := hser.len
    have HS := Lib.hid hser; clear hser
    rw [HL.out] at h60
    rw [he] at HA
    have HEE := Lib.hid he; clear he
    obtain ⟨i0, hi0, hz0, hz1, hz2⟩ := info_parts infoI
    have HI := Lib.hid hi0; have HZ0 := Lib.hid hz0; have HZ1 := Lib.hid hz1; have HZ2 := Lib.hid hz2
    clear hi0 hz0 hz1 hz2
    go_enter Try.func32, Try.ntmps32
    go_wp2_with fail
    refine HA.out.mono ?_
    rintro e w1 ⟨rfl, hb1⟩
    have HB1 := Lib.hid hb1
    have h1 := h.below hb1
    clear hb1
    go_wp2_with fail
    go_loopw [8, 9] (fun v i wr => ∃ k : Nat, k + 1 ≤ max 1 (n - 1) ∧ i = .int .i64 ((k + 1 : Nat) : Int) ∧ wr.ownsRow w1.heap.size 3 1 v (outTo l far (k + 1)).length (natV (outTo l far (k + 1))) ∧ Below w1.heap.size w1 wr) (fun _ i _ => n - (intOf i).toNat)
    case atStart => exact ⟨0, by omega, rfl, by rw [outTo_no (stAt_zero _ _)]; exact World.ownsRow_nil _ _ _ _, Below.refl _ _⟩
    case round =>
      obtain ⟨k, hk, rfl, hown, hb⟩ := hrel
      have HO := Lib.hid hown; have HB := Lib.hid hb; clear hown hb
      by_cases hlt : k + 1 + 1 < n
      · obtain ⟨b, o, y, hA, hbl, hy, y0, y1⟩ := (h1.below HB.out).at2 (i := k + 1) (by omega)
        subst hA
        obtain ⟨b', o', x, hA, _, hx, x0, x1⟩ := (h1.below HB.out).at2 (i := k) (by omega)
        cases hA
        obtain ⟨b', o', z, hA, _, hz, z0, z1⟩ := (h1.below HB.out).at2 (i := k + 1 + 1) (by omega)
        cases hA
        have hst := stAt_of (far := far) hx hy hz
        have hpc := fun W => pstands_c y x z far W (HS.out.pt hy) (HS.out.pt hx) (HS.out.pt hz) hin
        rw [← hst] at hpc
        have hsz := HB.out.size
        have hlen := outTo_len l far (k + 1)
        clear hst hx hy hz
        have s1 : IntKind.i64.wrap ((k : Int) + 1 - 1) = (k : Int) := by rw [wi (by omega)]; omega
        have s1' : IntKind.i64.wrap (k : Int) = (k : Int) := wi (by omega)
        have s2 : IntKind.i64.wrap ((k : Int) + 1 + 1) = (k : Int) + 1 + 1 := wi (by omega)
        have t1 : ((k : Int) + 1).toNat = k + 1 := by omega
        have t2 : ((k : Int) + 1 + 1).toNat = k + 1 + 1 := by omega
        have b0 : (0 : Int) ≤ (k : Int) := by omega
        have b1 : (0 : Int) ≤ (k : Int) + 1 := by omega
        have b2 : (0 : Int) ≤ (k : Int) + 1 + 1 := by omega
        have c0 : (k : Int) < (n : Int) := by omega
        have c1 : (k : Int) + 1 < (n : Int) := by omega
        have c2 : (k : Int) + 1 + 1 < (n : Int) := by omega
        have hc : (k : Int) + 1 < (n : Int) - 1 := by omega
        cases hs : stAt l far (k + 1) <;> rw [hs] at hpc <;> have HPC := Lib.hid hpc <;> clear hpc
        · go_wp2_with fail
          refine wp_region_ext (by kernel_rfl) (by kernel_rfl) ?_
          repeat (go_big_quiet_step ((go_at_call 66; exact ext_call (HPC.out _))))
          refine wpQuiet_nil ?_
          rintro _ ⟨q, rfl⟩
          go_wp2
          refine ⟨⟨k + 1, by omega, by go_num, by rw [outTo_no hs]; exact own_mono HO.out q.below, below_tr HB.out q.below⟩, ?_⟩
          simp [intOf]; omega
        · go_wp2_with fail
          refine wp_region_ext (by kernel_rfl) (by kernel_rfl) ?_
          repeat (go_big_quiet_step ((go_at_call 66; exact ext_call (HPC.out _))))
          refine wpQuiet_nil ?_
          rintro _ ⟨q, rfl⟩
          have HQ := Lib.hid (own_mono HO.out q.below)
          have hqs := q.below.size
          go_wp2_with (at_builtin; go_must (refine wpList_append_own_at _ rfl _ _ 33 rfl w1.heap.size 3 i0 (.int .i64 0) 1 8 Try.underlying33 HI.out HZ0.out HZ1.out HZ2.out rfl (by decide) _ _ _ rfl (HQ.out.alloc _) ⟨q.w.heap.size, 0, none⟩ 1 1 [.int .i64 ((k + 1 : Nat) : Int)] rfl rfl (cell_one_new _ _ _) (by simp [Value.oneCell']) (by unfold maxLen; omega) (by omega) (by simp; omega) ?_; intro v' w2 hown' hgrow _ _))
          have hown2 : Hid (w2.ownsRow w1.heap.size 3 1 v' (outTo l far (k + 1 + 1)).length (natV (outTo l far (k + 1 + 1)))) := by
            rw [outTo_yes hs, natV_append, List.length_append]
            exact hown'
          have hb2 : Hid (Below w1.heap.size w1 w2) := ((below_tr HB.out q.below).alloc (by omega) _).grown hgrow (by simp; omega) (fun g hg => (HQ.out.lt g hg).1)
          clear hown' hgrow
          go_roundw
          case rel => exact ⟨k + 1, by omega, by go_num, hown2.out, hb2.out⟩
          case measure => simp [intOf]; omega
      · have hc : ¬ (k : Int) + 1 < (n : Int) - 1 := by omega
        obtain ⟨A', c', rfl, hc'⟩ := own_form HO.out
        go_wp2_with fail
        go_ret2
        have hn : n ≤ k + 1 + 1 := by omega
        have ho := HO.out
        rw [← outl_eq (by rw [HL.out]; exact hn)] at ho
        have hint : natV (outl l far) = ((outl l far).map Int.ofNat).flatMap enc1 := natV_enc _
        rw [hint] at ho
        exact ⟨A', _, c', by rw [HEE.out]; rfl, hc', below_tr HB1.out HB.out, fun h => absurd HEE.out h, fun _ => by
          have := Rd.of_own enc1_len ho (by simp)
          rw [outl_eq (by rw [HL.out]; exact hn)] at this ⊢
          exact this⟩
  · generalize askedE l far = q at *
    have hb0 : (q == 0) = false := by simpa using he
    have HE := Lib.hid he; clear he
    go_enter Try.func32, Try.ntmps32
    go_wp2_with fail
    refine HA.out.mono ?_
    rintro e w1 ⟨rfl, hb1⟩
    go_wp2_with fail
    go_ret2
    exact ⟨none, 0, 0, rfl, Nat.le_refl _, hb1, fun _ => rfl, fun h => absurd h HE.out⟩
end Go.Proofs.Ytkgoojilmnkgiaa

namespace Go.Proofs.Ytkgoojilmnkgiaa
open Go.RowKit Go.Proofs

theorem nm_r50 {v r : Int} (h : RightR marks0 50 v r) : v = 150 ∧ r = 0 := by
  rcases h with ⟨hno, _⟩ | ⟨_, hin, _⟩ | ⟨_, _, hr, ht⟩
  · exact absurd marks0_ok hno
  · exact absurd hin (by decide)
  · exact ⟨by have := ht.1 (100, 200) rfl (by decide); simpa using this, hr⟩
theorem nm_r300 {v r : Int} (h : RightR marks0 300 v r) : v = 500 ∧ r = 0 := by
  rcases h with ⟨hno, _⟩ | ⟨_, hin, _⟩ | ⟨_, _, hr, ht⟩
  · exact absurd marks0_ok hno
  · exact absurd hin (by decide)
  · exact ⟨by have := ht.2.1 (300, 500) rfl (by decide); simpa using this, hr⟩
theorem nm_r310 {v r : Int} (h : RightR marks0 310 v r) : v = 510 ∧ r = 0 := by
  rcases h with ⟨hno, _⟩ | ⟨_, hin, _⟩ | ⟨_, _, hr, ht⟩
  · exact absurd marks0_ok hno
  · exact absurd hin (by decide)
  · exact ⟨by have := ht.2.1 (300, 500) rfl (by decide); simpa using this, hr⟩
theorem nm_rneg {v r : Int} (h : RightR marks0 (-1) v r) : v = 0 ∧ r = 2 := by
  rcases h with ⟨hno, _⟩ | ⟨_, hin, h1, h2⟩ | ⟨_, hin, hr, ht⟩
  · exact absurd marks0_ok hno
  · exact ⟨h1, h2⟩
  · exact absurd hin (by decide)
theorem nm_rnil {v r : Int} (h : RightR [] 0 v r) : v = 0 ∧ r = 1 := by
  rcases h with ⟨_, h1, h2⟩ | ⟨hok, _⟩ | ⟨hok, _⟩
  · exact ⟨h1, h2⟩
  · exact absurd hok.1 (by decide)
  · exact absurd hok.1 (by decide)
def marks1 : List (Int × Int) := [(300, 500), (100, 200)]
theorem nm_rback {v r : Int} (h : RightR marks1 0 v r) : v = 0 ∧ r = 1 := by
  have hno : ¬ MarksOk marks1 := fun hok => by
    have := hok.2.2.2 0 (300, 500) (100, 200) (by decide) rfl rfl
    exact absurd this (by decide)
  rcases h with ⟨_, h1, h2⟩ | ⟨hok, _⟩ | ⟨hok, _⟩
  · exact ⟨h1, h2⟩
  · exact absurd hok hno
  · exact absurd hok hno

def nmL1 : List Rdg := [⟨1, 5, 10, 3⟩, ⟨1, 6, 20, 4⟩]
def nmL2 : List Rdg := [⟨1, 6, 21, 4⟩, ⟨1, 5, 10, 3⟩, ⟨2, 9, 0, 0⟩]
def nmS : List Rdg := [⟨1, 5, 10, 3⟩, ⟨1, 6, 20, 4⟩, ⟨1, 6, 21, 4⟩, ⟨2, 9, 0, 0⟩]
def nmM : List Rdg := [⟨1, 5, 10, 3⟩, ⟨2, 9, 0, 0⟩]
def nmC : List Rdg := [⟨1, 6, 20, 4⟩, ⟨1, 6, 21, 4⟩]
theorem nm_sord : Sord nmS := by unfold Sord nmS; decide
theorem nm_sorted : sortedR (nmL1 ++ nmL2) = nmS := by
  obtain ⟨h1, h2⟩ := sortedR_ok (nmL1 ++ nmL2)
  have a1 : ∀ x ∈ nmL1 ++ nmL2, x ∈ nmS := by decide
  have a2 : ∀ x ∈ nmS, x ∈ nmL1 ++ nmL2 := by decide
  exact h1.uniq nm_sord fun x => by rw [h2]; exact ⟨a1 x, a2 x⟩
theorem nm_merged : mergedOf nmS = nmM := by decide +kernel
theorem nm_contra : contraOf nmS = nmC := by decide +kernel

def nmG : List Rdg := [⟨1, 3, 0, 0⟩, ⟨1, 9, 0, 0⟩, ⟨2, 5, 0, 0⟩, ⟨1, 4, 0, 0⟩]
def nmGs : List Rdg := [⟨1, 3, 0, 0⟩, ⟨1, 4, 0, 0⟩, ⟨1, 9, 0, 0⟩, ⟨2, 5, 0, 0⟩]
theorem nm_gord : Ord nmGs := by unfold Ord nmGs; decide
theorem nm_gaps {s : List Rdg} (ho : Ord s) (hp : s.Perm nmG) : gapsTo s (s.length - 1) = [(1, 5, 8)] := by
  have hq : nmG.Perm nmGs := by decide
  rw [Ord.uniq ho nm_gord (hp.trans hq)]
  decide +kernel
theorem nm_gerr : errG nmG = 0 := by decide +kernel
def nmT : List Rdg := [⟨1, 3, 0, 0⟩, ⟨1, 3, 0, 0⟩]
theorem nm_terr : errG nmT = 6 := by decide +kernel
def nmB : List Rdg := [⟨256, 0, 0, 0⟩]
theorem nm_berr : errR nmB = 1 := by decide +kernel

def ints1 : List Int := [0, 9, 1, 2, -8, 3]
def pts1 : List (Int × Int) := serP ints1 6
theorem ser1_ok : SerOk pts1 := by
  refine ⟨by decide, by decide +kernel, fun i x y hi hx hy => ?_⟩
  have h5 : pts1.length = 6 := by decide
  rw [h5] at hi
  match i, hi, hx, hy with
  | 0, _, hx, hy => cases hx; cases hy; decide
  | 1, _, hx, hy => cases hx; cases hy; decide
  | 2, _, hx, hy => cases hx; cases hy; decide
  | 3, _, hx, hy => cases hx; cases hy; decide
  | 4, _, hx, hy => cases hx; cases hy; decide
theorem asked1 : askedE pts1 5 = 0 := askedE_zero.2 ⟨ser1_ok, by decide⟩
theorem nm_outl : outl pts1 5 = [1, 4] := by decide +kernel
theorem n01 : nearB pts0 0 1 1 = true := by decide +kernel
theorem nm_proved : Proved pts0 1 [0, 1, 3, 4] := by
  refine ⟨asked0, .inr ⟨by decide, rfl, by decide, fun i x y hx hy => ?_⟩⟩
  match i, hx, hy with
  | 0, hx, hy => cases hx; cases hy; exact ⟨by decide, by decide, n01⟩
  | 1, hx, hy => cases hx; cases hy; exact ⟨by decide, by decide, n13⟩
  | 2, hx, hy => cases hx; cases hy; exact ⟨by decide, by decide, n34⟩
  | 3, hx, hy => cases hy
  | n + 4, hx, hy => cases hy
theorem nm_not : ¬ Proved pts0 1 [0, 4] := by
  rintro ⟨_, ⟨h, _⟩ | ⟨_, _, _, h⟩⟩
  · exact absurd h (by decide)
  · have := (h 0 0 4 rfl rfl).2.2
    exact absurd this (by rw [show (0 : Int).toNat = 0 from rfl, show (4 : Int).toNat = 4 from rfl, n04]; decide)
def pts2 : List (Int × Int) := serP [0, 1] 2
theorem ser2_ok : SerOk pts2 := by
  refine ⟨by decide, by decide +kernel, fun i x y hi hx hy => ?_⟩
  have h5 : pts2.length = 2 := by decide
  rw [h5] at hi
  match i, hi, hx, hy with
  | 0, _, hx, hy => cases hx; cases hy; decide
theorem asked2 : askedE pts2 (-1) = 2 := by
  unfold askedE
  rw [serE_ok ser2_ok, if_neg (by simp), if_pos (by decide)]
theorem asked61 : askedE (List.replicate 61 ((0, 0) : Int × Int)) 0 = 3 := by
  unfold askedE
  rw [serE_long (by simp)]; rfl
theorem asked02 : askedE (List.replicate 2 ((0, 0) : Int × Int)) 0 = 1 := by
  have hno : ¬ SerOk (List.replicate 2 ((0, 0) : Int × Int)) := fun h => by
    have := h.step (i := 0) (x := (0, 0)) (y := (0, 0)) rfl rfl
    exact absurd this (by decide)
  unfold askedE
  rw [serE_bad (by simp) hno]; rfl
theorem nm_err201 : errR (List.replicate 201 (⟨0, 0, 0, 0⟩ : Rdg)) = 3 := by
  unfold errR
  rw [List.length_replicate, if_pos (by decide)]

/-- A row that make has made reads as that many zeros. -/
theorem rd_made {α : Type} {enc : α → List Value} {k : Nat} (x : α) (henc : (enc x).length = k) (_hk : 0 < k) {w : World} {g n : Nat} {t : TypeId} {fr : Nat × Nat} {z : Array Value} (hz : z.toList = enc x)
    (h : w.heap[g]? = some (.cells (madeCells z (n * k)) t fr)) : Rd enc k w (some ⟨g, 0, none⟩) n (List.replicate n x) := by
  refine ⟨by simp, fun _ => ⟨g, 0, rfl, (Array.getElem?_eq_some_iff.1 h).1, fun i y hy j v hv => ?_⟩⟩
  obtain ⟨hi, rfl⟩ : i < n ∧ x = y := by
    rw [List.getElem?_replicate] at hy
    split at hy
    · exact ⟨by assumption, by simpa using hy⟩
    · cases hy
  have hj : j < k := by have := (List.getElem?_eq_some_iff.1 hv).1; omega
  have hsz : z.size = k := by rw [← henc, ← hz]; simp
  have hlt : i * k + j < n * k := by
    have : (i + 1) * k ≤ n * k := Nat.mul_le_mul_right k hi
    rw [Nat.add_mul] at this; omega
  rw [Nat.zero_add, cell_of_row w g _ _ t fr h]
  unfold madeCells
  rw [Array.getElem?_map, Array.getElem?_range, if_pos hlt, hsz]
  have hm : (i * k + j) % k = j := by rw [Nat.mul_comm, Nat.mul_add_mod, Nat.mod_eq_of_lt hj]
  simp only [Option.map_some, hm]
  rw [← hz] at hv
  rw [Array.getElem?_toList] at hv
  rw [getElem!_def, hv]

theorem infoRN : (Try.prog.info? 53).map (fun i => (i.zero, i.size, i.bytes)) = some (some (.agg #[.int .i64 0, .int .i64 0, .int .i64 0, .int .i64 0]), 4, 32) := by kernel_rfl
theorem cells4 : (Value.agg #[.int .i64 0, .int .i64 0, .int .i64 0, .int .i64 0]).cells = #[.int .i64 0, .int .i64 0, .int .i64 0, .int .i64 0] := by simp [go_sem]
theorem cells2 : (Value.agg #[.int .i64 0, .int .i64 0]).cells = #[.int .i64 0, .int .i64 0] := by simp [go_sem]
theorem mk_rd201 (W : World) : (Instr.makeSlice 28 (.int .i64 201) (.int .i64 201)).run Try.prog W = .ok (.slice (some ⟨W.heap.size, 0, none⟩) 201 201) (W.alloc (.cells (madeCells #[.int .i64 0, .int .i64 0, .int .i64 0, .int .i64 0] (201 * 4)) 53)) := by
  obtain ⟨i, h0, hz0, hz1, hz2⟩ := info_parts infoRN
  have := run_make (P := Try.prog) W 28 53 i _ Try.underlying28 h0 hz0 .i64 .i64 201 201 (by decide) (by decide) (by rw [hz2]; decide) (by decide)
  rw [hz1, cells4] at this
  exact this
theorem mk_pt (n : Nat) (hn : n ≤ 100) (W : World) : (Instr.makeSlice 65 (.int .i64 (n : Int)) (.int .i64 (n : Int))).run Try.prog W = .ok (.slice (some ⟨W.heap.size, 0, none⟩) n n) (W.alloc (.cells (madeCells #[.int .i64 0, .int .i64 0] (n * 2)) 72)) := by
  obtain ⟨i, h0, hz0, hz1, hz2⟩ := info_parts infoPoint
  have := run_make (P := Try.prog) W 65 72 i _ Try.underlying65 h0 hz0 .i64 .i64 n n (by omega) (by omega) (by rw [hz2]; omega) (by omega)
  rw [hz1, cells2] at this
  simpa using this
theorem infoB8 : (Try.prog.info? 5).map (fun i => (i.zero, i.size, i.bytes)) = some (some (.int .u8 0), 1, 1) := by kernel_rfl
theorem mk_b (W : World) : (Instr.makeSlice 23 (.int .i64 10001) (.int .i64 10001)).run Try.prog W = .ok (.slice (some ⟨W.heap.size, 0, none⟩) 10001 10001) (W.alloc (.cells (madeCells #[.int .u8 0] (10001 * 1)) 5)) := by
  obtain ⟨i, h0, hz0, hz1, hz2⟩ := info_parts infoB8
  have := run_make (P := Try.prog) W 23 5 i _ Try.underlying23 h0 hz0 .i64 .i64 10001 10001 (by decide) (by decide) (by rw [hz2]; decide) (by decide)
  rw [hz1] at this
  exact this
theorem infoLG : (Try.prog.info? 28).map (fun i => (i.zero, i.size, i.bytes)) = some (some (.slice none 0 0), 1, 24) := by kernel_rfl
theorem mk_l (W : World) : (Instr.makeSlice 94 (.int .i64 7) (.int .i64 7)).run Try.prog W = .ok (.slice (some ⟨W.heap.size, 0, none⟩) 7 7) (W.alloc (.cells (madeCells #[.slice none 0 0] (7 * 1)) 28)) := by
  obtain ⟨i, h0, hz0, hz1, hz2⟩ := info_parts infoLG
  have := run_make (P := Try.prog) W 94 28 i _ Try.underlying94 h0 hz0 .i64 .i64 7 7 (by decide) (by decide) (by rw [hz2]; decide) (by decide)
  rw [hz1] at this
  exact this
end Go.Proofs.Ytkgoojilmnkgiaa

namespace Go.Proofs.Ytkgoojilmnkgiaa
open Go.RowKit Go.Proofs

theorem nm_neq_gap (a b : Int × Int × Int) (W : World) : (binOp .neq 88 (.agg #[.int .i64 a.1, .int .i64 a.2.1, .int .i64 a.2.2]) (.agg #[.int .i64 b.1, .int .i64 b.2.1, .int .i64 b.2.2])).run Try.prog W = .ok (.bool (!decide (a = b))) W := by
  rw [run_neq_struct]
  have : (Op.equalIn 10000 88 (.agg #[.int .i64 a.1, .int .i64 a.2.1, .int .i64 a.2.2]) (.agg #[.int .i64 b.1, .int .i64 b.2.1, .int .i64 b.2.2])).run Try.prog W = .ok (decide (a = b)) W := by
    simp [go_sem, Try.underlying88]
    obtain ⟨a1, a2, a3⟩ := a
    obtain ⟨b1, b2, b3⟩ := b
    by_cases h1 : a1 = b1 <;> by_cases h2 : a2 = b2 <;> by_cases h3 : a3 = b3 <;> simp [h1, h2, h3]
  rw [this]; rfl
theorem nm_neq158 (W : World) : (binOp .neq 88 (.agg #[.int .i64 1, .int .i64 5, .int .i64 8]) (.agg #[.int .i64 1, .int .i64 5, .int .i64 8])).run Try.prog W = .ok (.bool false) W := by
  have := nm_neq_gap (1, 5, 8) (1, 5, 8) W
  simpa using this

theorem nm_right {l : List (Int × Int)} {A : Option Addr} {n c : Nat} {clock v r : Int} {W : World} (h : Rd enc2 2 W A n l) (hn : n ≤ 10) (hc : n ≤ c) (hR : ∀ a b : Int, RightR l clock a b → a = v ∧ b = r) :
    Calls Try.prog 26 #[.slice A n c, .int .i64 clock] W fun e w' => e = .returned (.tuple #[.int .i64 v, .int .i64 r]) ∧ Below W.heap.size W w' := by
  refine (Right_c (c := c) (clock := clock) h (by unfold maxLen; omega) hc).mono ?_
  rintro e w' ⟨⟨a, b, rfl, h1⟩, hb⟩
  obtain ⟨rfl, rfl⟩ := hR a b h1
  exact ⟨rfl, hb⟩
theorem rd_lit2 {W : World} {a b c d : Int} : Rd enc2 2 (W.alloc (.cells #[.int .i64 a, .int .i64 b, .int .i64 c, .int .i64 d] 60)) (some ⟨W.heap.size, 0, none⟩) 2 [(a, b), (c, d)] :=
  Rd.of_blk enc2_len (heap_alloc_new W _) (fun (j : Nat) (v : Value) hv => by simpa [enc2] using hv) rfl
/-- a literal of readings -/
theorem rd_litR {W : World} {l : List Rdg} {cs : Array Value} {n : Nat} (hc : (l.flatMap encR).toArray = cs) (hn : l.length = n) : Rd encR 4 (W.alloc (.cells cs 53)) (some ⟨W.heap.size, 0, none⟩) n l := by
  subst hc
  exact Rd.of_blk encR_len (heap_alloc_new W _) (fun (j : Nat) (v : Value) hv => by simpa using hv) hn
theorem rd_lit1 {W : World} {l : List Int} {cs : Array Value} {n : Nat} (hc : (l.flatMap enc1).toArray = cs) (hn : l.length = n) : Rd enc1 1 (W.alloc (.cells cs 3)) (some ⟨W.heap.size, 0, none⟩) n l := by
  subst hc
  exact Rd.of_blk enc1_len (heap_alloc_new W _) (fun (j : Nat) (v : Value) hv => by simpa using hv) hn

theorem nm_merge {A B : Option Addr} {W : World} {g : Nat} (hg : g = W.heap.size) (h1 : Rd encR 4 W A 2 nmL1) (h2 : Rd encR 4 W B 3 nmL2) :
    Calls Try.prog 47 #[.slice (some ⟨g, 0, none⟩) 2 2] (W.alloc (.cells #[.slice A 2 2, .slice B 3 3] 28)) fun e w' => ∃ A1 c1 A2 c2, e = .returned (.tuple #[.slice A1 2 c1, .slice A2 2 c2, .int .i64 0]) ∧
      Rd encR 4 w' A1 2 nmM ∧ Rd encR 4 w' A2 2 nmC ∧ Below W.heap.size W w' := by
  subst hg
  have hll : RdLL (W.alloc (.cells #[.slice A 2 2, .slice B 3 3] 28)) (some ⟨W.heap.size, 0, none⟩) 2 [⟨A, 2, 2, nmL1⟩, ⟨B, 3, 3, nmL2⟩] := by
    refine ⟨Rd.of_blk encL_len (heap_alloc_new W _) (fun (j : Nat) (v : Value) hv => by simpa [encL] using hv) rfl, fun i x hx => ?_⟩
    have hxe : x = ⟨A, 2, 2, nmL1⟩ ∨ x = ⟨B, 3, 3, nmL2⟩ := by have := List.mem_of_getElem? hx; simpa using this
    rcases hxe with rfl | rfl
    · exact ⟨h1.below ((Below.refl _ W).alloc (Nat.le_refl _) _), (show 2 ≤ maxLen by unfold maxLen; omega), Nat.le_refl 2⟩
    · exact ⟨h2.below ((Below.refl _ W).alloc (Nat.le_refl _) _), (show 3 ≤ maxLen by unfold maxLen; omega), Nat.le_refl 3⟩
  have he : errL [(⟨A, 2, 2, nmL1⟩ : Lst), ⟨B, 3, 3, nmL2⟩] = 0 := by
    unfold errL
    rw [if_neg (by simp [allB, shortB]), if_neg (by
      have a1 : allB validB nmL1 = true := by decide
      have a2 : allB validB nmL2 = true := by decide
      simp [allB, valB] at a1 a2 ⊢
      exact ⟨a1, a2⟩)]
  have hcat : catL [(⟨A, 2, 2, nmL1⟩ : Lst), ⟨B, 3, 3, nmL2⟩] = nmL1 ++ nmL2 := by simp [catL]
  have hm := Merge_c (c := 2) hll (by unfold maxLen; omega)
  rw [he, hcat] at hm
  refine hm.mono fun e w' ⟨⟨A1, n1, c1, A2, n2, c2, h1, h2, h3, h4, h5, _, h6⟩, hb⟩ => ?_
  obtain ⟨h7, h8⟩ := h6 rfl
  rw [nm_sorted, nm_merged] at h7
  rw [nm_sorted, nm_contra] at h8
  obtain rfl : 2 = n1 := h7.len
  obtain rfl : 2 = n2 := h8.len
  exact ⟨A1, c1, A2, c2, h1, h7, h8, below_tr ((Below.refl _ W).alloc (Nat.le_refl _) _) hb⟩
theorem nm_merge7 {W : World} : Calls Try.prog 47 #[.slice (some ⟨W.heap.size, 0, none⟩) 7 7] (W.alloc (.cells (madeCells #[.slice none 0 0] (7 * 1)) 28))
      fun e w' => ∃ A1 n1 c1 A2 n2 c2, e = .returned (.tuple #[.slice A1 n1 c1, .slice A2 n2 c2, .int .i64 3]) ∧ Below W.heap.size W w' := by
  have hll : RdLL (W.alloc (.cells (madeCells #[.slice none 0 0] (7 * 1)) 28)) (some ⟨W.heap.size, 0, none⟩) 7 (List.replicate 7 (⟨none, 0, 0, []⟩ : Lst)) := by
    refine ⟨rd_made (enc := encL) (k := 1) (⟨none, 0, 0, []⟩ : Lst) rfl (by decide) rfl (heap_alloc_new W _), fun i x hx => ?_⟩
    obtain rfl : x = ⟨none, 0, 0, []⟩ := by have := List.mem_of_getElem? hx; exact List.eq_of_mem_replicate this
    exact ⟨⟨rfl, fun h => absurd h (by decide)⟩, Nat.zero_le _, Nat.le_refl _⟩
  have he : errL (List.replicate 7 (⟨none, 0, 0, []⟩ : Lst)) = 3 := by unfold errL; rw [if_pos (.inl (by decide))]
  have hm := Merge_c (c := 7) hll (by unfold maxLen; omega)
  rw [he] at hm
  exact hm.mono fun e w' ⟨⟨A1, n1, c1, A2, n2, c2, h1, _⟩, hb⟩ => ⟨A1, n1, c1, A2, n2, c2, h1, below_tr ((Below.refl _ W).alloc (Nat.le_refl _) _) hb⟩
theorem nm_gapsC {W : World} {A : Option Addr} (h : Rd encR 4 W A 4 nmG) : Calls Try.prog 43 #[.slice A 4 4] W fun e w' => ∃ A' c', e = .returned (.tuple #[.slice A' 1 c', .int .i64 0]) ∧ Rd encG 3 w' A' 1 [(1, 5, 8)] ∧ Below W.heap.size W w' := by
  refine (Gaps_c (c := 4) h (by omega) (Nat.le_refl _)).mono ?_
  rintro e w' ⟨⟨A', n', c', h1, _, _, _, h2⟩, hb⟩
  obtain ⟨s, ho, hp, hr⟩ := h2 nm_gerr
  rw [nm_gaps ho hp] at hr
  rw [nm_gerr] at h1
  obtain rfl : 1 = n' := hr.len
  exact ⟨A', c', h1, hr, hb⟩
theorem nm_gapsT {W : World} {A : Option Addr} (h : Rd encR 4 W A 2 nmT) : Calls Try.prog 43 #[.slice A 2 2] W fun e w' => ∃ A' n' c', e = .returned (.tuple #[.slice A' n' c', .int .i64 6]) ∧ Below W.heap.size W w' := by
  refine (Gaps_c (c := 2) h (by omega) (Nat.le_refl _)).mono ?_
  rintro e w' ⟨⟨A', n', c', h1, _, _, _, h2⟩, hb⟩
  rw [nm_terr] at h1
  exact ⟨A', n', c', h1, hb⟩
theorem nm_writeB {W : World} {A : Option Addr} (h : Rd encR 4 W A 1 nmB) : Calls Try.prog 18 #[.slice A 1 1] W fun e w' => ∃ A' n' c', e = .returned (.tuple #[.slice A' n' c', .int .i64 1]) ∧ Below W.heap.size W w' := by
  refine (Write_c (c := 1) h (by unfold maxLen; omega) (Nat.le_refl _)).mono ?_
  rintro e w' ⟨⟨A', n', c', h1, _, _, _⟩, hb⟩
  rw [nm_berr] at h1
  exact ⟨A', n', c', h1, hb⟩
theorem nm_write201 {W : World} : Calls Try.prog 18 #[.slice (some ⟨W.heap.size, 0, none⟩) 201 201] (W.alloc (.cells (madeCells #[.int .i64 0, .int .i64 0, .int .i64 0, .int .i64 0] (201 * 4)) 53))
      fun e w' => ∃ A' n' c', e = .returned (.tuple #[.slice A' n' c', .int .i64 3]) ∧ Below W.heap.size W w' := by
  refine (Write_c (c := 201) (rd_made (enc := encR) (k := 4) (⟨0, 0, 0, 0⟩ : Rdg) rfl (by decide) rfl (heap_alloc_new W _)) (by unfold maxLen; omega) (Nat.le_refl _)).mono ?_
  rintro e w' ⟨⟨A', n', c', h1, _, _, _⟩, hb⟩
  rw [nm_err201] at h1
  exact ⟨A', n', c', h1, below_tr ((Below.refl _ W).alloc (Nat.le_refl _) _) hb⟩
theorem nm_thin61 {W : World} : Calls Try.prog 37 #[.slice (some ⟨W.heap.size, 0, none⟩) 61 61, .int .i64 0] (W.alloc (.cells (madeCells #[.int .i64 0, .int .i64 0] (61 * 2)) 72))
      fun e w' => ∃ A' n' c', e = .returned (.tuple #[.slice A' n' c', .int .i64 3]) ∧ Below W.heap.size W w' := by
  refine (Thin_c (c := 61) (s := 0) (rd_made (enc := enc2) (k := 2) ((0, 0) : Int × Int) rfl (by decide) rfl (heap_alloc_new W _)) (Nat.le_refl _)).mono ?_
  rintro e w' ⟨A', n', c', out, h1, _, _, hb, _⟩
  rw [asked61] at h1
  exact ⟨A', n', c', h1, below_tr ((Below.refl _ W).alloc (Nat.le_refl _) _) hb⟩
theorem nm_outl2 {W : World} : Calls Try.prog 32 #[.slice (some ⟨W.heap.size, 0, none⟩) 2 2, .int .i64 0] (W.alloc (.cells (madeCells #[.int .i64 0, .int .i64 0] (2 * 2)) 72))
      fun e w' => ∃ A' n' c', e = .returned (.tuple #[.slice A' n' c', .int .i64 1]) ∧ Below W.heap.size W w' := by
  refine (Outliers_c (c := 2) (far := 0) (rd_made (enc := enc2) (k := 2) ((0, 0) : Int × Int) rfl (by decide) rfl (heap_alloc_new W _))).mono ?_
  rintro e w' ⟨A', n', c', h1, _, hb, _⟩
  rw [asked02] at h1
  exact ⟨A', n', c', h1, below_tr ((Below.refl _ W).alloc (Nat.le_refl _) _) hb⟩
theorem nm_outlC {W : World} {A : Option Addr} {c : Nat} (h : Rd enc2 2 W A 6 (serP ints1 6)) : Calls Try.prog 32 #[.slice A 6 c, .int .i64 5] W fun e w' => ∃ A' c', e = .returned (.tuple #[.slice A' 2 c', .int .i64 0]) ∧ Rd enc1 1 w' A' 2 [1, 4] ∧ Below W.heap.size W w' := by
  refine (Outliers_c (c := c) (far := 5) (show Rd enc2 2 W A 6 pts1 from h)).mono ?_
  rintro e w' ⟨A', n', c', h1, _, hb, _, h2⟩
  have h3 := h2 asked1
  rw [nm_outl] at h3
  rw [asked1] at h1
  obtain rfl : 2 = n' := h3.len
  exact ⟨A', c', h1, h3, hb⟩
theorem nm_thinN {W : World} {A : Option Addr} {c : Nat} (h : Rd enc2 2 W A 2 (serP [0, 1] 2)) (hc : 2 ≤ c) : Calls Try.prog 37 #[.slice A 2 c, .int .i64 (-1)] W fun e w' => ∃ A' n' c', e = .returned (.tuple #[.slice A' n' c', .int .i64 2]) ∧ Below W.heap.size W w' := by
  refine (Thin_c (c := c) (s := -1) (show Rd enc2 2 W A 2 pts2 from h) hc).mono ?_
  rintro e w' ⟨A', n', c', out, h1, _, _, hb, _⟩
  rw [asked2] at h1
  exact ⟨A', n', c', h1, hb⟩
theorem nm_prove {W : World} {A B : Option Addr} {c : Nat} (h : Rd enc2 2 W A 5 (serP ints0 5)) (hc : 5 ≤ c) (h' : Rd enc1 1 W B 4 [0, 1, 3, 4]) : Calls Try.prog 38 #[.slice A 5 c, .int .i64 1, .slice B 4 4] W fun e w' => e = .returned (.bool true) ∧ Below W.heap.size W w' := by
  refine (ProveThin_c (s := 1) (show Rd enc2 2 W A 5 pts0 from h) hc h' (Nat.le_refl _) (by omega)).mono ?_
  rintro e w' ⟨⟨v, rfl, h1⟩, hb⟩
  rw [h1.2 nm_proved]
  exact ⟨rfl, hb⟩
theorem nm_noprove {W : World} {A B : Option Addr} {c : Nat} (h : Rd enc2 2 W A 5 (serP ints0 5)) (hc : 5 ≤ c) (h' : Rd enc1 1 W B 2 [0, 4]) : Calls Try.prog 38 #[.slice A 5 c, .int .i64 1, .slice B 2 2] W fun e w' => e = .returned (.bool false) ∧ Below W.heap.size W w' := by
  refine (ProveThin_c (s := 1) (show Rd enc2 2 W A 5 pts0 from h) hc h' (Nat.le_refl _) (by omega)).mono ?_
  rintro e w' ⟨⟨v, rfl, h1⟩, hb⟩
  cases v
  · exact ⟨rfl, hb⟩
  · exact absurd (h1.1 rfl) nm_not
set_option maxRecDepth 100000 in
set_option maxHeartbeats 4000000 in
theorem GaugeNames_w (w : World) : Calls Try.prog 16 #[] w fun e w' => e = .returned (.bool true) ∧ Below w.heap.size w w' := by
  have HB0 := Lib.hid (Below.refl w.heap.size w)
  have mk1 := mk_rd201; have mk2 := mk_l; have mk3 := mk_b
  have mk4 : ∀ W : World, (Instr.makeSlice 65 (.int .i64 61) (.int .i64 61)).run Try.prog W = .ok (.slice (some ⟨W.heap.size, 0, none⟩) 61 61) (W.alloc (.cells (madeCells #[.int .i64 0, .int .i64 0] (61 * 2)) 72)) := fun W => mk_pt 61 (by omega) W
  have mk5 : ∀ W : World, (Instr.makeSlice 65 (.int .i64 2) (.int .i64 2)).run Try.prog W = .ok (.slice (some ⟨W.heap.size, 0, none⟩) 2 2) (W.alloc (.cells (madeCells #[.int .i64 0, .int .i64 0] (2 * 2)) 72)) := fun W => mk_pt 2 (by omega) W
  have hneq := nm_neq158
  have hmarks : Rd enc2 2 (w.alloc (.cells #[.int .i64 100, .int .i64 200, .int .i64 300, .int .i64 500] 60)) (some ⟨w.heap.size, 0, none⟩) 2 marks0 := rd_lit2
  have HM := Lib.hid hmarks; clear hmarks
  go_enter Try.func16, Try.ntmps16
  go_wp2_with fail
  refine (nm_right (c := 2) (clock := 50) HM.out (by omega) (Nat.le_refl _) (fun a b h => nm_r50 h)).mono ?_
  rintro e w1 ⟨rfl, hb⟩
  have bl : Below w.heap.size w w1 := below_tr ((Below.refl _ w).alloc (Nat.le_refl _) _) hb
  have HB1 := Lib.hid (below_tr HB0.out bl)
  have FM1 := Lib.hid (HM.out.below hb)
  clear hb bl HB0 HM
  go_wp2_with fail
  refine (nm_right (c := 2) (clock := 300) FM1.out (by omega) (Nat.le_refl _) (fun a b h => nm_r300 h)).mono ?_
  rintro e w2 ⟨rfl, hb⟩
  have bl : Below w1.heap.size w1 w2 := hb
  have HB2 := Lib.hid (below_tr HB1.out bl)
  have FM2 := Lib.hid (FM1.out.below bl)
  clear hb bl HB1 FM1
  go_wp2_with fail
  refine (nm_right (c := 2) (clock := 310) FM2.out (by omega) (Nat.le_refl _) (fun a b h => nm_r310 h)).mono ?_
  rintro e w3 ⟨rfl, hb⟩
  have bl : Below w2.heap.size w2 w3 := hb
  have HB3 := Lib.hid (below_tr HB2.out bl)
  have FM3 := Lib.hid (FM2.out.below bl)
  clear hb bl HB2 FM2
  go_wp2_with fail
  refine (mk_c 1 5 10 3 _).mono ?_
  rintro e w4 ⟨rfl, hb⟩
  have bl : Below w3.heap.size w3 w4 := hb
  have HB4 := Lib.hid (below_tr HB3.out bl)
  have FM4 := Lib.hid (FM3.out.below bl)
  clear hb bl HB3 FM3
  go_wp2_with fail
  refine (mk_c 1 6 20 4 _).mono ?_
  rintro e w5 ⟨rfl, hb⟩
  have bl : Below w4.heap.size w4 w5 := hb
  have HB5 := Lib.hid (below_tr HB4.out bl)
  have FM5 := Lib.hid (FM4.out.below bl)
  clear hb bl HB4 FM4
  go_wp2_with fail
  refine (mk_c 1 6 21 4 _).mono ?_
  rintro e w6 ⟨rfl, hb⟩
  have bl : Below w5.heap.size w5 w6 := below_tr ((Below.refl _ w5).alloc (Nat.le_refl _) _) hb
  have HB6 := Lib.hid (below_tr HB5.out bl)
  have FM6 := Lib.hid (FM5.out.below bl)
  have FA6 := Lib.hid ((rd_litR (W := w5) (l := nmL1) (cs := #[.int .i64 1, .int .i64 5, .int .i64 10, .int .i64 3, .int .i64 1, .int .i64 6, .int .i64 20, .int .i64 4]) (n := 2) rfl rfl).below hb)
  clear hb bl HB5 FM5
  go_wp2_with fail
  refine (mk_c 1 5 10 3 _).mono ?_
  rintro e w7 ⟨rfl, hb⟩
  have bl : Below w6.heap.size w6 w7 := hb
  have HB7 := Lib.hid (below_tr HB6.out bl)
  have FM7 := Lib.hid (FM6.out.below bl)
  have FA7 := Lib.hid (FA6.out.below bl)
  clear hb bl HB6 FM6 FA6
  go_wp2_with fail
  refine (mk_c 2 9 0 0 _).mono ?_
  rintro e w8 ⟨rfl, hb⟩
  have bl : Below w7.heap.size w7 w8 := hb
  have HB8 := Lib.hid (below_tr HB7.out bl)
  have FM8 := Lib.hid (FM7.out.below bl)
  have FA8 := Lib.hid (FA7.out.below bl)
  clear hb bl HB7 FM7 FA7
  have hm2 := rd_litR (W := w8) (l := nmL2) (cs := #[.int .i64 1, .int .i64 6, .int .i64 21, .int .i64 4, .int .i64 1, .int .i64 5, .int .i64 10, .int .i64 3, .int .i64 2, .int .i64 9, .int .i64 0, .int .i64 0]) (n := 3) rfl rfl
  go_wp2_with fail
  refine (nm_merge (by simp) (FA8.out.below ((Below.refl _ w8).alloc (Nat.le_refl _) _)) hm2).mono ?_
  rintro e w9 ⟨A1, c1, A2, c2, rfl, hrm, hrc, hb⟩
  have bl : Below w8.heap.size w8 w9 := below_tr ((Below.refl _ w8).alloc (Nat.le_refl _) _) hb
  have HB9 := Lib.hid (below_tr HB8.out bl)
  have FM9 := Lib.hid (FM8.out.below bl)
  have M9 := Lib.hid (hrm)
  have C9 := Lib.hid (hrc)
  clear hb bl HB8 FM8 FA8 hrm hrc hm2
  go_wp2_with fail
  refine (mk_c 1 3 0 0 _).mono ?_
  rintro e w10 ⟨rfl, hb⟩
  have bl : Below w9.heap.size w9 w10 := hb
  have HB10 := Lib.hid (below_tr HB9.out bl)
  have FM10 := Lib.hid (FM9.out.below bl)
  have M10 := Lib.hid (M9.out.below bl)
  have C10 := Lib.hid (C9.out.below bl)
  clear hb bl HB9 FM9 M9 C9
  go_wp2_with fail
  refine (mk_c 1 9 0 0 _).mono ?_
  rintro e w11 ⟨rfl, hb⟩
  have bl : Below w10.heap.size w10 w11 := hb
  have HB11 := Lib.hid (below_tr HB10.out bl)
  have FM11 := Lib.hid (FM10.out.below bl)
  have M11 := Lib.hid (M10.out.below bl)
  have C11 := Lib.hid (C10.out.below bl)
  clear hb bl HB10 FM10 M10 C10
  go_wp2_with fail
  refine (mk_c 2 5 0 0 _).mono ?_
  rintro e w12 ⟨rfl, hb⟩
  have bl : Below w11.heap.size w11 w12 := hb
  have HB12 := Lib.hid (below_tr HB11.out bl)
  have FM12 := Lib.hid (FM11.out.below bl)
  have M12 := Lib.hid (M11.out.below bl)
  have C12 := Lib.hid (C11.out.below bl)
  clear hb bl HB11 FM11 M11 C11
  go_wp2_with fail
  refine (mk_c 1 4 0 0 _).mono ?_
  rintro e w13 ⟨rfl, hb⟩
  have bl : Below w12.heap.size w12 w13 := hb
  have HB13 := Lib.hid (below_tr HB12.out bl)
  have FM13 := Lib.hid (FM12.out.below bl)
  have M13 := Lib.hid (M12.out.below bl)
  have C13 := Lib.hid (C12.out.below bl)
  clear hb bl HB12 FM12 M12 C12
  go_wp2_with fail
  refine (nm_gapsC (rd_litR (W := w13) (l := nmG) (cs := #[.int .i64 1, .int .i64 3, .int .i64 0, .int .i64 0, .int .i64 1, .int .i64 9, .int .i64 0, .int .i64 0, .int .i64 2, .int .i64 5, .int .i64 0, .int .i64 0, .int .i64 1, .int .i64 4, .int .i64 0, .int .i64 0]) (n := 4) rfl rfl)).mono ?_
  rintro e w14 ⟨A3, c3, rfl, hrg, hb⟩
  have bl : Below w13.heap.size w13 w14 := below_tr ((Below.refl _ w13).alloc (Nat.le_refl _) _) hb
  have HB14 := Lib.hid (below_tr HB13.out bl)
  have FM14 := Lib.hid (FM13.out.below bl)
  have M14 := Lib.hid (M13.out.below bl)
  have C14 := Lib.hid (C13.out.below bl)
  have G14 := Lib.hid (hrg)
  clear hb bl HB13 FM13 M13 C13 hrg
  go_wp2_with fail
  refine (series2_c (c := 6) (rd_lit1 (W := w14) (l := ints1) (cs := #[.int .i64 0, .int .i64 9, .int .i64 1, .int .i64 2, .int .i64 (-8), .int .i64 3]) (n := 6) rfl rfl) (by omega)).mono ?_
  rintro e w15 ⟨A4, c4, rfl, hc4, hrs, hb⟩
  have bl : Below w14.heap.size w14 w15 := below_tr ((Below.refl _ w14).alloc (Nat.le_refl _) _) hb
  have HB15 := Lib.hid (below_tr HB14.out bl)
  have FM15 := Lib.hid (FM14.out.below bl)
  have M15 := Lib.hid (M14.out.below bl)
  have C15 := Lib.hid (C14.out.below bl)
  have G15 := Lib.hid (G14.out.below bl)
  have P15 := Lib.hid (hrs)
  clear hb bl HB14 FM14 M14 C14 G14 hrs
  go_wp2_with fail
  refine (nm_outlC (c := c4) P15.out).mono ?_
  rintro e w16 ⟨A5, c5, rfl, hro, hb⟩
  have bl : Below w15.heap.size w15 w16 := hb
  have HB16 := Lib.hid (below_tr HB15.out bl)
  have FM16 := Lib.hid (FM15.out.below bl)
  have M16 := Lib.hid (M15.out.below bl)
  have C16 := Lib.hid (C15.out.below bl)
  have G16 := Lib.hid (G15.out.below bl)
  have O16 := Lib.hid (hro)
  clear hb bl HB15 FM15 M15 C15 G15 P15 hro hc4
  go_wp2_with fail
  refine (mk_c 1 5 10 3 _).mono ?_
  rintro e w17 ⟨rfl, hb⟩
  have bl : Below w16.heap.size w16 w17 := hb
  have HB17 := Lib.hid (below_tr HB16.out bl)
  have FM17 := Lib.hid (FM16.out.below bl)
  have M17 := Lib.hid (M16.out.below bl)
  have C17 := Lib.hid (C16.out.below bl)
  have G17 := Lib.hid (G16.out.below bl)
  have O17 := Lib.hid (O16.out.below bl)
  clear hb bl HB16 FM16 M16 C16 G16 O16
  go_wp2_with fail
  refine (mk_c 2 9 0 0 _).mono ?_
  rintro e w18 ⟨rfl, hb⟩
  have bl : Below w17.heap.size w17 w18 := hb
  have HB18 := Lib.hid (below_tr HB17.out bl)
  have FM18 := Lib.hid (FM17.out.below bl)
  have M18 := Lib.hid (M17.out.below bl)
  have C18 := Lib.hid (C17.out.below bl)
  have G18 := Lib.hid (G17.out.below bl)
  have O18 := Lib.hid (O17.out.below bl)
  clear hb bl HB17 FM17 M17 C17 G17 O17
  go_wp2_with fail
  refine (same_c (c := c1) (c' := 2) (M18.out.below ((Below.refl _ w18).alloc (Nat.le_refl _) _)) (rd_litR (W := w18) (l := nmM) (cs := #[.int .i64 1, .int .i64 5, .int .i64 10, .int .i64 3, .int .i64 2, .int .i64 9, .int .i64 0, .int .i64 0]) (n := 2) rfl rfl) (by omega)).mono ?_
  rintro e w19 ⟨he, hb⟩
  have bl : Below w18.heap.size w18 w19 := below_tr ((Below.refl _ w18).alloc (Nat.le_refl _) _) hb
  have HB19 := Lib.hid (below_tr HB18.out bl)
  have FM19 := Lib.hid (FM18.out.below bl)
  have C19 := Lib.hid (C18.out.below bl)
  have G19 := Lib.hid (G18.out.below bl)
  have O19 := Lib.hid (O18.out.below bl)
  clear hb bl HB18 FM18 M18 C18 G18 O18
  rw [decide_eq_true rfl] at he
  subst he
  go_wp2_with fail
  refine (mk_c 1 6 20 4 _).mono ?_
  rintro e w20 ⟨rfl, hb⟩
  have bl : Below w19.heap.size w19 w20 := hb
  have HB20 := Lib.hid (below_tr HB19.out bl)
  have FM20 := Lib.hid (FM19.out.below bl)
  have C20 := Lib.hid (C19.out.below bl)
  have G20 := Lib.hid (G19.out.below bl)
  have O20 := Lib.hid (O19.out.below bl)
  clear hb bl HB19 FM19 C19 G19 O19
  go_wp2_with fail
  refine (mk_c 1 6 21 4 _).mono ?_
  rintro e w21 ⟨rfl, hb⟩
  have bl : Below w20.heap.size w20 w21 := hb
  have HB21 := Lib.hid (below_tr HB20.out bl)
  have FM21 := Lib.hid (FM20.out.below bl)
  have C21 := Lib.hid (C20.out.below bl)
  have G21 := Lib.hid (G20.out.below bl)
  have O21 := Lib.hid (O20.out.below bl)
  clear hb bl HB20 FM20 C20 G20 O20
  go_wp2_with fail
  refine (same_c (c := c2) (c' := 2) (C21.out.below ((Below.refl _ w21).alloc (Nat.le_refl _) _)) (rd_litR (W := w21) (l := nmC) (cs := #[.int .i64 1, .int .i64 6, .int .i64 20, .int .i64 4, .int .i64 1, .int .i64 6, .int .i64 21, .int .i64 4]) (n := 2) rfl rfl) (by omega)).mono ?_
  rintro e w22 ⟨he, hb⟩
  have bl : Below w21.heap.size w21 w22 := below_tr ((Below.refl _ w21).alloc (Nat.le_refl _) _) hb
  have HB22 := Lib.hid (below_tr HB21.out bl)
  have FM22 := Lib.hid (FM21.out.below bl)
  have G22 := Lib.hid (G21.out.below bl)
  have O22 := Lib.hid (O21.out.below bl)
  clear hb bl HB21 FM21 C21 G21 O21
  rw [decide_eq_true rfl] at he
  subst he
  obtain ⟨b3, o3, rfl, hlt3, hg3⟩ := G22.out.2 (by omega)
  have y0 := hg3 0 _ rfl 0 _ rfl; have y1 := hg3 0 _ rfl 1 _ rfl; have y2 := hg3 0 _ rfl 2 _ rfl
  simp at y0 y1 y2
  clear hg3
  go_wp2_with fail
  refine (ints_c (c := c5) (c' := 2) (O22.out.below ((Below.refl _ w22).alloc (Nat.le_refl _) _)) (rd_lit1 (W := w22) (l := [1, 4]) (cs := #[.int .i64 1, .int .i64 4]) (n := 2) rfl rfl) (by omega)).mono ?_
  rintro e w23 ⟨he, hb⟩
  have bl : Below w22.heap.size w22 w23 := below_tr ((Below.refl _ w22).alloc (Nat.le_refl _) _) hb
  have HB23 := Lib.hid (below_tr HB22.out bl)
  have FM23 := Lib.hid (FM22.out.below bl)
  clear hb bl HB22 FM22 G22 O22
  rw [decide_eq_true rfl] at he
  subst he
  clear y0 y1 y2 hlt3
  go_wp2_with fail
  refine (series2_c (c := 5) (rd_lit1 (W := w23) (l := ints0) (cs := #[.int .i64 0, .int .i64 5, .int .i64 11, .int .i64 15, .int .i64 0]) (n := 5) rfl rfl) (by omega)).mono ?_
  rintro e w24 ⟨A6, c6, rfl, hc6, hrs, hb⟩
  have bl : Below w23.heap.size w23 w24 := below_tr ((Below.refl _ w23).alloc (Nat.le_refl _) _) hb
  have HB24 := Lib.hid (below_tr HB23.out bl)
  have FM24 := Lib.hid (FM23.out.below bl)
  have P24 := Lib.hid (hrs)
  clear hb bl HB23 FM23 hrs
  go_wp2_with fail
  refine (nm_prove (c := c6) (P24.out.below ((Below.refl _ w24).alloc (Nat.le_refl _) _)) hc6 (rd_lit1 (W := w24) (l := [0, 1, 3, 4]) (cs := #[.int .i64 0, .int .i64 1, .int .i64 3, .int .i64 4]) (n := 4) rfl rfl)).mono ?_
  rintro e w25 ⟨rfl, hb⟩
  have bl : Below w24.heap.size w24 w25 := below_tr ((Below.refl _ w24).alloc (Nat.le_refl _) _) hb
  have HB25 := Lib.hid (below_tr HB24.out bl)
  have FM25 := Lib.hid (FM24.out.below bl)
  clear hb bl HB24 FM24 P24
  go_wp2_with fail
  refine (series2_c (c := 5) (rd_lit1 (W := w25) (l := ints0) (cs := #[.int .i64 0, .int .i64 5, .int .i64 11, .int .i64 15, .int .i64 0]) (n := 5) rfl rfl) (by omega)).mono ?_
  rintro e w26 ⟨A7, c7, rfl, hc7, hrs, hb⟩
  have bl : Below w25.heap.size w25 w26 := below_tr ((Below.refl _ w25).alloc (Nat.le_refl _) _) hb
  have HB26 := Lib.hid (below_tr HB25.out bl)
  have FM26 := Lib.hid (FM25.out.below bl)
  have P26 := Lib.hid (hrs)
  clear hb bl HB25 FM25 hrs
  go_wp2_with fail
  refine (nm_noprove (c := c7) (P26.out.below ((Below.refl _ w26).alloc (Nat.le_refl _) _)) hc7 (rd_lit1 (W := w26) (l := [0, 4]) (cs := #[.int .i64 0, .int .i64 4]) (n := 2) rfl rfl)).mono ?_
  rintro e w27 ⟨rfl, hb⟩
  have bl : Below w26.heap.size w26 w27 := below_tr ((Below.refl _ w26).alloc (Nat.le_refl _) _) hb
  have HB27 := Lib.hid (below_tr HB26.out bl)
  have FM27 := Lib.hid (FM26.out.below bl)
  clear hb bl HB26 FM26 P26
  go_wp2_with fail
  refine (mk_c 256 0 0 0 _).mono ?_
  rintro e w28 ⟨rfl, hb⟩
  have bl : Below w27.heap.size w27 w28 := hb
  have HB28 := Lib.hid (below_tr HB27.out bl)
  have FM28 := Lib.hid (FM27.out.below bl)
  clear hb bl HB27 FM27
  go_wp2_with fail
  refine (nm_writeB (rd_litR (W := w28) (l := nmB) (cs := #[.int .i64 256, .int .i64 0, .int .i64 0, .int .i64 0]) (n := 1) rfl rfl)).mono ?_
  rintro e w29 ⟨A8, n8, c8, rfl, hb⟩
  have bl : Below w28.heap.size w28 w29 := below_tr ((Below.refl _ w28).alloc (Nat.le_refl _) _) hb
  have HB29 := Lib.hid (below_tr HB28.out bl)
  have FM29 := Lib.hid (FM28.out.below bl)
  clear hb bl HB28 FM28
  go_wp2_with fail
  refine (nm_write201).mono ?_
  rintro e w30 ⟨A9, n9, c9, rfl, hb⟩
  have bl : Below w29.heap.size w29 w30 := hb
  have HB30 := Lib.hid (below_tr HB29.out bl)
  have FM30 := Lib.hid (FM29.out.below bl)
  clear hb bl HB29 FM29
  go_wp2_with fail
  refine (nm_merge7).mono ?_
  rintro e w31 ⟨A10, n10, c10, A11, n11, c11, rfl, hb⟩
  have bl : Below w30.heap.size w30 w31 := hb
  have HB31 := Lib.hid (below_tr HB30.out bl)
  have FM31 := Lib.hid (FM30.out.below bl)
  clear hb bl HB30 FM30
  go_wp2_with fail
  refine (Read_long _ 10001 10001 _ (by omega)).mono ?_
  rintro e w32 ⟨rfl, hb⟩
  have bl : Below w31.heap.size w31 w32 := below_tr ((Below.refl _ w31).alloc (Nat.le_refl _) _) hb
  have HB32 := Lib.hid (below_tr HB31.out bl)
  have FM32 := Lib.hid (FM31.out.below bl)
  clear hb bl HB31 FM31
  go_wp2_with fail
  refine (mk_c 1 3 0 0 _).mono ?_
  rintro e w33 ⟨rfl, hb⟩
  have bl : Below w32.heap.size w32 w33 := hb
  have HB33 := Lib.hid (below_tr HB32.out bl)
  have FM33 := Lib.hid (FM32.out.below bl)
  clear hb bl HB32 FM32
  go_wp2_with fail
  refine (mk_c 1 3 0 0 _).mono ?_
  rintro e w34 ⟨rfl, hb⟩
  have bl : Below w33.heap.size w33 w34 := hb
  have HB34 := Lib.hid (below_tr HB33.out bl)
  have FM34 := Lib.hid (FM33.out.below bl)
  clear hb bl HB33 FM33
  go_wp2_with fail
  refine (nm_gapsT (rd_litR (W := w34) (l := nmT) (cs := #[.int .i64 1, .int .i64 3, .int .i64 0, .int .i64 0, .int .i64 1, .int .i64 3, .int .i64 0, .int .i64 0]) (n := 2) rfl rfl)).mono ?_
  rintro e w35 ⟨A12, n12, c12, rfl, hb⟩
  have bl : Below w34.heap.size w34 w35 := below_tr ((Below.refl _ w34).alloc (Nat.le_refl _) _) hb
  have HB35 := Lib.hid (below_tr HB34.out bl)
  have FM35 := Lib.hid (FM34.out.below bl)
  clear hb bl HB34 FM34
  go_wp2_with fail
  refine (nm_right (l := []) (clock := 0) (n := 0) (c := 0) ⟨rfl, fun h => absurd h (by decide)⟩ (by omega) (Nat.le_refl _) (fun a b h => nm_rnil h)).mono ?_
  rintro e w36 ⟨rfl, hb⟩
  have bl : Below w35.heap.size w35 w36 := hb
  have HB36 := Lib.hid (below_tr HB35.out bl)
  have FM36 := Lib.hid (FM35.out.below bl)
  clear hb bl HB35 FM35
  go_wp2_with fail
  refine (nm_right (c := 2) (clock := -1) FM36.out (by omega) (Nat.le_refl _) (fun a b h => nm_rneg h)).mono ?_
  rintro e w37 ⟨rfl, hb⟩
  have bl : Below w36.heap.size w36 w37 := hb
  have HB37 := Lib.hid (below_tr HB36.out bl)
  have FM37 := Lib.hid (FM36.out.below bl)
  clear hb bl HB36 FM36
  obtain ⟨hbm, hcm⟩ : w.heap.size < w37.heap.size ∧ ∀ (i : Nat) (x : Int × Int), marks0[i]? = some x → ∀ (j : Nat) (v : Value), (enc2 x)[j]? = some v → w37.cell? ⟨w.heap.size, 0 + i * 2 + j, none⟩ = some v := by
    obtain ⟨b, o, e, h1, h2⟩ := FM37.out.2 (by omega)
    cases e
    exact ⟨h1, h2⟩
  have y0 := hcm 0 _ rfl 0 _ rfl; have y1 := hcm 0 _ rfl 1 _ rfl; have y2 := hcm 1 _ rfl 0 _ rfl; have y3 := hcm 1 _ rfl 1 _ rfl
  simp at y0 y1 y2 y3
  clear hcm
  have hr17 : Rd enc2 2 (w37.alloc (.cells #[.int .i64 300, .int .i64 500, .int .i64 100, .int .i64 200] 60)).drew (some ⟨w37.heap.size, 0, none⟩) 2 marks1 := (rd_lit2 (W := w37) (a := 300) (b := 500) (c := 100) (d := 200)).below (Below.refl _ _).drew
  have H17 := Lib.hid hr17; clear hr17
  go_upto_region 17 with fail
  go_cut [17, 18] (fun va vb wx => va = .int .i64 0 ∧ vb = .int .i64 1 ∧ Below w37.heap.size w37 wx)
  case first =>
    go_region_with (go_at_call 26; refine (nm_right (c := 2) (clock := 0) H17.out (by omega) (Nat.le_refl _) (fun a b h => nm_rback h)).mono ?_; rintro e wy ⟨rfl, hb⟩; have HBY := Lib.hid hb; clear hb)
    all_goals
      go_wp2_with fail
      go_meet
      exact ⟨rfl, rfl, below_tr ((Below.refl _ w37).alloc (Nat.le_refl _) _).drew HBY.out⟩
  case rest =>
  obtain ⟨rfl, rfl, hb⟩ := hcut
  have HB38 := Lib.hid (below_tr HB37.out hb)
  clear hb HB37 FM37 y0 y1 y2 y3 hbm
  go_wp2_with fail
  refine (series2_c (c := 2) (rd_lit1 (W := _) (l := [0, 1]) (cs := #[.int .i64 0, .int .i64 1]) (n := 2) rfl rfl) (by omega)).mono ?_
  rintro e w39 ⟨A13, c13, rfl, hc13, hrs, hb⟩
  have bl := below_tr ((Below.refl _ _).alloc (Nat.le_refl _) _) hb
  have HB39 := Lib.hid (below_tr HB38.out bl)
  have P39 := Lib.hid (hrs)
  clear hb bl HB38 hrs
  go_wp2_with fail
  refine (nm_thinN (c := c13) P39.out hc13).mono ?_
  rintro e w40 ⟨A14, n14, c14, rfl, hb⟩
  have bl : Below w39.heap.size w39 w40 := hb
  have HB40 := Lib.hid (below_tr HB39.out bl)
  clear hb bl HB39 P39
  go_wp2_with fail
  refine (nm_thin61).mono ?_
  rintro e w41 ⟨A15, n15, c15, rfl, hb⟩
  have bl : Below w40.heap.size w40 w41 := hb
  have HB41 := Lib.hid (below_tr HB40.out bl)
  clear hb bl HB40
  go_wp2_with fail
  refine (nm_outl2).mono ?_
  rintro e w42 ⟨A16, n16, c16, rfl, hb⟩
  have bl : Below w41.heap.size w41 w42 := hb
  have HB42 := Lib.hid (below_tr HB41.out bl)
  clear hb bl HB41
  go_wp2_with fail
  refine (wakes_ok _).mono ?_
  rintro e w43 ⟨rfl, hb⟩
  have bl : Below w42.heap.size w42 w43 := hb
  have HB43 := Lib.hid (below_tr HB42.out bl)
  clear hb bl HB42
  go_wp2_with fail
  go_ret
  exact ⟨rfl, HB43.out⟩
end Go.Proofs.Ytkgoojilmnkgiaa
