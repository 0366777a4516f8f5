/- THE CONTRACTS of near, series and asked. -/
import Derived.Test.YtkgoojilmnkgiaaPoints
import Derived.Test.YtkgoojilmnkgiaaAllPoint
namespace Go.Proofs.Ytkgoojilmnkgiaa
open Go.RowKit Go.Proofs

def SerUp (l : List (Int × Int)) (m : Nat) : Prop := ∀ (i : Nat) (x y : Int × Int), i < m → l[i]? = some x → l[i + 1]? = some y → x.1 < y.1
/-- a series as described -/
structure SerOk (l : List (Int × Int)) : Prop where
  len : l.length ≤ 60
  pts : allB ptB l = true
  up : SerUp l (l.length - 1)
theorem SerOk.pt {l : List (Int × Int)} (h : SerOk l) {i : Nat} {x : Int × Int} (hx : l[i]? = some x) : ptB x = true := allB_iff.1 h.pts i x hx
theorem SerOk.step {l : List (Int × Int)} (h : SerOk l) {i : Nat} {x y : Int × Int} (hx : l[i]? = some x) (hy : l[i + 1]? = some y) : x.1 < y.1 :=
  h.up i x y (by have := lt_of_get hy; omega) hx hy
theorem SerOk.mono {l : List (Int × Int)} (h : SerOk l) {i : Nat} : ∀ {j : Nat} {x y : Int × Int}, i < j → l[i]? = some x → l[j]? = some y → x.1 < y.1 := by
  intro j
  induction j with
  | zero => intro x y hij; omega
  | succ j ih =>
    intro x y hij hx hy
    obtain ⟨z, hz⟩ := get_of_lt (l := l) (i := j) (by have := lt_of_get hy; omega)
    have h1 := h.step hz hy
    rcases Nat.lt_or_ge i j with h' | h'
    · have := ih h' hx hz; omega
    · obtain rfl : i = j := by omega
      rw [hx] at hz; cases hz; exact h1

/-- is a point near the line through two others? -/
def nearP (a b : Int × Int) (s : Int) (x : Int × Int) : Bool := inB (x.2 - lineV a b x.1) (-s) s
/-- are all points from one index up to another near the line through these? -/
def nearB (l : List (Int × Int)) (a b : Nat) (s : Int) : Bool := allB (nearP (l.getD a (0, 0)) (l.getD b (0, 0)) s) ((l.take b).drop a)
theorem sub_get {α : Type} {l : List α} {a b i : Nat} : ((l.take b).drop a)[i]? = if a + i < b then l[a + i]? else none := by
  rw [List.getElem?_drop, List.getElem?_take]
theorem nearB_iff {l : List (Int × Int)} {a b : Nat} {s : Int} {x y : Int × Int} (hx : l[a]? = some x) (hy : l[b]? = some y) :
    nearB l a b s = true ↔ ∀ (i : Nat) (z : Int × Int), a ≤ i → i < b → l[i]? = some z → nearP x y s z = true := by
  have h1 : l.getD a (0, 0) = x := by simp [List.getD, hx]
  have h2 : l.getD b (0, 0) = y := by simp [List.getD, hy]
  unfold nearB
  rw [h1, h2, allB_iff]
  constructor
  · intro h i z hai hib hz
    exact h (i - a) z (by rw [sub_get, if_pos (by omega)]; rw [show a + (i - a) = i by omega]; exact hz)
  · intro h i z hz
    rw [sub_get] at hz
    split at hz
    · exact h (a + i) z (by omega) (by omega) hz
    · cases hz

set_option maxRecDepth 100000 in
set_option maxHeartbeats 400000 in
theorem near1_c {l : List (Int × Int)} {A : Option Addr} {n c a b B1 B2 B3 B4 : Nat} {s : Int} {w : World} {xa xb : Int × Int} (x : Int × Int) (h : Rd enc2 2 w A n l)
    (h1 : w.cell? ⟨B1, 0, none⟩ = some (.slice A n c)) (h2 : w.cell? ⟨B2, 0, none⟩ = some (.int .i64 a)) (h3 : w.cell? ⟨B3, 0, none⟩ = some (.int .i64 b)) (h4 : w.cell? ⟨B4, 0, none⟩ = some (.int .i64 s))
    (l1 : B1 < w.heap.size) (l2 : B2 < w.heap.size) (l3 : B3 < w.heap.size) (l4 : B4 < w.heap.size)
    (ha : l[a]? = some xa) (hb : l[b]? = some xb) (pa : ptB xa = true) (pb : ptB xb = true) (px : ptB x = true) (hab : xa.1 < xb.1) (hs : 0 ≤ s ∧ s ≤ 1000000000) :
    Calls Try.prog 93 #[.agg #[.int .i64 x.1, .int .i64 x.2], .pointer (some ⟨B1, 0, none⟩), .pointer (some ⟨B2, 0, none⟩), .pointer (some ⟨B3, 0, none⟩), .pointer (some ⟨B4, 0, none⟩)] w
      fun e w' => e = .returned (.bool (nearP xa xb s x)) ∧ Below w.heap.size w w' := by
  have hla := lt_of_get ha; have hlb := lt_of_get hb
  have hl := h.len
  obtain ⟨bk, o, xa', hA, hbk, hxa, a1, a2⟩ := h.at2 (i := a) (by omega)
  subst hA
  rw [ha] at hxa; cases hxa
  obtain ⟨bk', o', xb', hA, _, hxb, b1, b2⟩ := h.at2 (i := b) (by omega)
  cases hA
  rw [hb] at hxb; cases hxb
  clear ha hb
  have hx := ptB_iff.1 px
  have hline := line_bd pa pb hab hx.1
  have hpa := ptB_iff.1 pa
  have w1 : IntKind.i64.wrap (x.2 - lineV xa xb x.1) = x.2 - lineV xa xb x.1 := by unfold lineV; exact wi (by omega)
  have w2 : IntKind.i64.wrap (-s) = -s := wi (by omega)
  have ia : (a : Int) < (n : Int) := by omega
  have ib : (b : Int) < (n : Int) := by omega
  have ia0 : (0 : Int) ≤ (a : Int) := by omega
  have ib0 : (0 : Int) ≤ (b : Int) := by omega
  clear hla hlb hl
  have hbw : Below w.heap.size w (w.alloc (.cells #[.int .i64 x.1, .int .i64 x.2] 72)) := (Below.refl _ _).alloc (Nat.le_refl _) _
  have HBW := Lib.hid hbw; clear hbw
  have lx1 : B1 < (w.alloc (.cells #[.int .i64 x.1, .int .i64 x.2] 72)).heap.size := by simp; omega
  have lx2 : B2 < (w.alloc (.cells #[.int .i64 x.1, .int .i64 x.2] 72)).heap.size := by simp; omega
  have lx3 : B3 < (w.alloc (.cells #[.int .i64 x.1, .int .i64 x.2] 72)).heap.size := by simp; omega
  have lx4 : B4 < (w.alloc (.cells #[.int .i64 x.1, .int .i64 x.2] 72)).heap.size := by simp; omega
  have lbk : bk < (w.alloc (.cells #[.int .i64 x.1, .int .i64 x.2] 72)).heap.size := by simp; omega
  have lw : w.heap.size < (w.alloc (.cells #[.int .i64 x.1, .int .i64 x.2] 72)).heap.size := by simp
  go_enter Try.func93, Try.ntmps93
  go_wp2_with fail
  refine wp_region_ext (by kernel_rfl) (by kernel_rfl) ?_
  repeat (go_big_quiet_step ((first | (go_at_call 94; exact ext_call (line_c xa xb x.1 _ pa pb hab hx.1)) | (go_at_call 63; exact ext_same (within_c _ _ _ _)))))
  refine wpQuiet_nil ?_
  rintro _ ⟨q, rfl⟩
  go_wp2
  go_ret
  exact ⟨rfl, HBW.out.trans (q.below.mono (by simp))⟩

theorem blk4 (w : World) (X Y Z U : Array Value) (a b c d : TypeId) :
    Blk ((((w.alloc (.cells X a)).alloc (.cells Y b)).alloc (.cells Z c)).alloc (.cells U d)) w.heap.size a X ∧ Blk ((((w.alloc (.cells X a)).alloc (.cells Y b)).alloc (.cells Z c)).alloc (.cells U d)) (w.heap.size + 1) b Y ∧
    Blk ((((w.alloc (.cells X a)).alloc (.cells Y b)).alloc (.cells Z c)).alloc (.cells U d)) (w.heap.size + 1 + 1) c Z ∧ Blk ((((w.alloc (.cells X a)).alloc (.cells Y b)).alloc (.cells Z c)).alloc (.cells U d)) (w.heap.size + 1 + 1 + 1) d U := by
  refine ⟨(((Blk.new w a X).alloc _).alloc _).alloc _, ?_, ?_, ?_⟩
  · have := ((Blk.new (w.alloc (.cells X a)) b Y).alloc (.cells Z c)).alloc (.cells U d)
    simpa only [World.size_alloc] using this
  · have := (Blk.new ((w.alloc (.cells X a)).alloc (.cells Y b)) c Z).alloc (.cells U d)
    simpa only [World.size_alloc] using this
  · have := Blk.new (((w.alloc (.cells X a)).alloc (.cells Y b)).alloc (.cells Z c)) d U
    simpa only [World.size_alloc] using this

set_option maxRecDepth 100000 in
set_option maxHeartbeats 400000 in
theorem near_c {l : List (Int × Int)} {A : Option Addr} {n c a b : Nat} {s : Int} {w : World} (h : Rd enc2 2 w A n l) (hc : n ≤ c) (hok : SerOk l) (hab : a < b) (hbn : b < n) (hs : 0 ≤ s ∧ s ≤ 1000000000) :
    Calls Try.prog 68 #[.slice A n c, .int .i64 a, .int .i64 b, .int .i64 s] w fun e w' => e = .returned (.bool (nearB l a b s)) ∧ Below w.heap.size w w' := by
  have hl := h.len
  obtain ⟨xa, ha⟩ := get_of_lt (l := l) (i := a) (by omega)
  obtain ⟨xb, hb⟩ := get_of_lt (l := l) (i := b) (by omega)
  obtain ⟨A1, hsl, hrd⟩ := cut_both (t := 65) (e := 72) (size := 2) Try.underlying65 (fun _ => by kernel_rfl) A (lo := a) (hi := b) w (by omega) (by omega) hc
  obtain ⟨W, hW⟩ : ∃ W : World, W = (((w.alloc (.cells #[.slice A n c] 65)).alloc (.cells #[.int .i64 a] 3)).alloc (.cells #[.int .i64 b] 3)).alloc (.cells #[.int .i64 s] 3) := ⟨_, rfl⟩
  have hbW : Below w.heap.size w W := by
    rw [hW]; exact ((((Below.refl _ _).alloc (Nat.le_refl _) _).alloc (by simp) _).alloc (by simp; omega) _).alloc (by simp; omega) _
  have hsz : W.heap.size = w.heap.size + 1 + 1 + 1 + 1 := by rw [hW]; simp
  obtain ⟨k1, k2, k3, k4⟩ := blk4 w #[.slice A n c] #[.int .i64 a] #[.int .i64 b] #[.int .i64 s] 65 3 3 3
  rw [← hW] at k1 k2 k3 k4
  have c1 : W.cell? ⟨w.heap.size, 0, none⟩ = some (.slice A n c) := by rw [k1.cell]; rfl
  have c2 : W.cell? ⟨w.heap.size + 1, 0, none⟩ = some (.int .i64 a) := by rw [k2.cell]; rfl
  have c3 : W.cell? ⟨w.heap.size + 1 + 1, 0, none⟩ = some (.int .i64 b) := by rw [k3.cell]; rfl
  have c4 : W.cell? ⟨w.heap.size + 1 + 1 + 1, 0, none⟩ = some (.int .i64 s) := by rw [k4.cell]; rfl
  have hcall := allPoint_c (p := nearP xa xb s) (l := (l.take b).drop a) (A := A1) (n := b - a) (c := c - a) w.heap.size (w.heap.size + 1) (w.heap.size + 1 + 1) (w.heap.size + 1 + 1 + 1) W ((hrd enc2 l h).mono hbW) (by have := hok.len; unfold maxLen; omega)
    (fun i x V hx hV => by
      rw [sub_get] at hx
      split at hx
      · exact near1_c x ((h.mono hbW).mono hV) ((hV.cell (p := ⟨_, 0, none⟩) (by dsimp only; omega)).trans c1) ((hV.cell (p := ⟨_, 0, none⟩) (by dsimp only; omega)).trans c2) ((hV.cell (p := ⟨_, 0, none⟩) (by dsimp only; omega)).trans c3) ((hV.cell (p := ⟨_, 0, none⟩) (by dsimp only; omega)).trans c4)
          (by have := hV.size; omega) (by have := hV.size; omega) (by have := hV.size; omega) (by have := hV.size; omega) ha hb (hok.pt ha) (hok.pt hb) (hok.pt hx) (hok.mono hab ha hb) hs
      · cases hx)
  have hres : allB (nearP xa xb s) ((l.take b).drop a) = nearB l a b s := by
    unfold nearB; simp [List.getD, ha, hb]
  rw [hres] at hcall
  have HC := Lib.hid hcall; have HW := Lib.hid hW; have HBW := Lib.hid hbW
  clear hcall hres hrd k1 k2 k3 k4 c1 c2 c3 c4 hsz hl ha hb hbW
  subst hW
  go_enter Try.func68, Try.ntmps68
  go_wp2_with fail
  refine HC.out.mono ?_
  rintro e w' ⟨rfl, hb⟩
  go_wp2_with fail
  go_ret
  exact ⟨rfl, HBW.out.trans (hb.mono HBW.out.size)⟩

/-- the error of points -/
noncomputable def serE (l : List (Int × Int)) : Int := if 60 < l.length then 3 else if (open Classical in decide (SerOk l)) then 0 else 1
theorem serE_long {l : List (Int × Int)} (h : 60 < l.length) : serE l = 3 := by simp [serE, h]
theorem serE_ok {l : List (Int × Int)} (h : SerOk l) : serE l = 0 := by have := h.len; simp [serE, h, this]
theorem serE_bad {l : List (Int × Int)} (h : l.length ≤ 60) (hn : ¬ SerOk l) : serE l = 1 := by simp [serE, hn]; omega
theorem serE_zero {l : List (Int × Int)} : serE l = 0 ↔ SerOk l := by
  constructor
  · intro h
    rcases Nat.lt_or_ge 60 l.length with h1 | h1
    · rw [serE_long h1] at h; cases h
    · exact Classical.byContradiction fun hn => by rw [serE_bad h1 hn] at h; cases h
  · exact serE_ok

set_option maxRecDepth 100000 in
set_option maxHeartbeats 1000000 in
theorem series_c {l : List (Int × Int)} {A : Option Addr} {n c : Nat} {w : World} (h : Rd enc2 2 w A n l) :
    Calls Try.prog 91 #[.slice A n c] w fun e w' => e = .returned (.int .i64 (serE l)) ∧ Below w.heap.size w w' := by
  have hl := h.len
  have HL := Lib.hid hl; clear hl
  by_cases h60 : n ≤ 60
  · go_enter Try.func91, Try.ntmps91
    go_wp2_with fail
    go_loopw [10] (fun i wr => ∃ k : Nat, k ≤ n ∧ i = .int .i64 k ∧ Below w.heap.size w wr ∧ (∀ (i : Nat) (x : Int × Int), i < k → l[i]? = some x → ptB x = true) ∧ SerUp l (k - 1)) (fun i _ => n - (intOf i).toNat)
    case atStart => exact ⟨0, by omega, rfl, Below.refl _ _, fun i x hi => absurd hi (by omega), fun i x y hi => absurd hi (by omega)⟩
    case round =>
      obtain ⟨k, hk, rfl, hb, hall, hup⟩ := hrel
      have HA := Lib.hid hall; clear hall
      have HR := Lib.hid hup; clear hup
      by_cases hlt : k < n
      · obtain ⟨b, o, x, hA, hbl, hx, hx1, hx2⟩ := (h.below hb).at2 (i := k) hlt
        subst hA
        have HX := Lib.hid hx; clear hx
        have hkn' : (k : Int) < (n : Int) := by omega
        have hno : ptB x = false → ¬ SerOk l := fun hm hok => by rw [hok.pt HX.out] at hm; cases hm
        have HNO := Lib.hid hno; clear hno
        have hbx : Below w.heap.size w (wr.alloc (.cells #[.int .i64 x.1, .int .i64 x.2] 72)) := hb.alloc hb.size _
        have hfin : ∀ m : Nat, Below w.heap.size w ((wr.alloc (.cells #[.int .i64 x.1, .int .i64 x.2] 72)).drewN m) := fun m => below_drewN hbx m
        have HF := Lib.hid hfin; clear hfin hbx
        have hbad : ¬ SerOk l → serE l = 1 := fun hn => serE_bad (by rw [HL.out]; exact h60) hn
        have HBAD := Lib.hid hbad; clear hbad
        cases hi1 : inB x.1 0 1000000000
        · go_wp2
          go_quiet ((first | (go_at_call 62; (first | exact quiet_left (tick_c _ _) | exact quiet_add_left (tick_c _ _))) | (go_at_call 105; (first | exact quiet_left (signal_c _ _) | exact quiet_add_left (signal_c _ _)))))
          go_wp2
          go_ret
          exact ⟨ret_int (HBAD.out (HNO.out (by simp [ptB, hi1]))).symm, HF.out _⟩
        · cases hi2 : inB x.2 (-1000000000) 1000000000
          · go_wp2
            go_quiet ((first | (go_at_call 62; (first | exact quiet_left (tick_c _ _) | exact quiet_add_left (tick_c _ _))) | (go_at_call 105; (first | exact quiet_left (signal_c _ _) | exact quiet_add_left (signal_c _ _)))))
            go_wp2
            go_ret
            exact ⟨ret_int (HBAD.out (HNO.out (by simp [ptB, hi2]))).symm, HF.out _⟩
          · have hmx : ptB x = true := by simp [ptB, hi1, hi2]
            have HMX := Lib.hid hmx; clear hmx
            have hall' : ∀ (i : Nat) (u : Int × Int), i < k + 1 → l[i]? = some u → ptB u = true := fun i u hi hu => by
              rcases Nat.lt_or_ge i k with h' | h'
              · exact HA.out i u h' hu
              · obtain rfl : i = k := by omega
                rw [HX.out] at hu; cases hu; exact HMX.out
            have HA' := Lib.hid hall'; clear hall'
            by_cases hk0 : k = 0
            · subst hk0
              simp only [Nat.zero_mul, Nat.add_zero] at hx1 hx2
              go_wp2
              go_quiet ((first | (go_at_call 62; (first | exact quiet_left (tick_c _ _) | exact quiet_add_left (tick_c _ _))) | (go_at_call 105; (first | exact quiet_left (signal_c _ _) | exact quiet_add_left (signal_c _ _)))))
              go_wp2
              go_roundw
              case rel => exact ⟨1, by omega, rfl, HF.out _, HA'.out, fun i x y hi => absurd hi (by omega)⟩
              case measure => simp [intOf] <;> omega
            · obtain ⟨k', rfl⟩ : ∃ k', k = k' + 1 := ⟨k - 1, by omega⟩
              obtain ⟨b', o', p, hA, _, hp, hp1, hp2⟩ := (h.below hb).at2 (i := k') (by omega)
              cases hA
              have HP := Lib.hid hp; clear hp
              have hsub : IntKind.i64.wrap ((k' : Int) + 1 - 1) = (k' : Int) := by rw [IntWalk.i64_in _ (by omega)]; omega
              have hsub2 : IntKind.i64.wrap (k' : Int) = (k' : Int) := wi (by omega)
              have hkk : (k' : Int) < (n : Int) := by omega
              have hk0' : decide ((0 : Int) < (k' : Int) + 1) = true := decide_eq_true (by omega)
              by_cases hd1 : x.1 ≤ p.1
              · go_wp2
                go_quiet ((first | (go_at_call 62; (first | exact quiet_left (tick_c _ _) | exact quiet_add_left (tick_c _ _))) | (go_at_call 105; (first | exact quiet_left (signal_c _ _) | exact quiet_add_left (signal_c _ _)))))
                go_wp2
                go_ret
                exact ⟨ret_int (HBAD.out (fun hok => by have := hok.step HP.out HX.out; omega)).symm, HF.out _⟩
              · have hd1' : p.1 < x.1 := by omega
                clear hd1
                go_wp2
                go_quiet ((first | (go_at_call 62; (first | exact quiet_left (tick_c _ _) | exact quiet_add_left (tick_c _ _))) | (go_at_call 105; (first | exact quiet_left (signal_c _ _) | exact quiet_add_left (signal_c _ _)))))
                go_wp2
                go_roundw
                case rel => exact ⟨k' + 1 + 1, by omega, by go_num, HF.out _, HA'.out, fun i u v hi hu hv => by
                  rcases Nat.lt_or_ge i k' with h' | h'
                  · exact HR.out i u v (by omega) hu hv
                  · obtain rfl : i = k' := by omega
                    rw [HP.out] at hu; rw [HX.out] at hv; cases hu; cases hv; exact hd1'⟩
                case measure => simp [intOf] <;> omega
      · obtain rfl : k = n := by omega
        have hfin : serE l = 0 := serE_ok ⟨by rw [HL.out]; exact h60, allB_iff.2 fun i x hx => HA.out i x (by have := lt_of_get hx; rw [HL.out] at this; exact this) hx, by rw [HL.out]; exact HR.out⟩
        have HFin := Lib.hid hfin; clear hfin
        go_wp2
        go_ret
        exact ⟨ret_int HFin.out.symm, hb⟩
  · have h3 := serE_long (l := l) (by rw [HL.out]; omega)
    have H3 := Lib.hid h3; clear h3
    go_enter Try.func91, Try.ntmps91
    go_wp2
    go_ret
    exact ⟨ret_int H3.out.symm, Below.refl _ _⟩

/-- the error of points that are asked about with a number -/
noncomputable def askedE (l : List (Int × Int)) (s : Int) : Int := if serE l ≠ 0 then serE l else if inB s 0 1000000000 = false then 2 else 0
theorem askedE_zero {l : List (Int × Int)} {s : Int} : askedE l s = 0 ↔ SerOk l ∧ inB s 0 1000000000 = true := by
  unfold askedE
  split
  · rename_i h; constructor
    · intro h'; exact absurd h' h
    · intro h'; exact absurd (serE_ok h'.1) h
  · rename_i h; simp at h
    split
    · rename_i h2; simp [h2]
    · rename_i h2; simp at h2; simp [h2, serE_zero.1 h]

set_option maxHeartbeats 400000 in
theorem asked_c {l : List (Int × Int)} {A : Option Addr} {n c : Nat} {s : Int} {w : World} (h : Rd enc2 2 w A n l) :
    Calls Try.prog 65 #[.slice A n c, .int .i64 s] w fun e w' => e = .returned (.int .i64 (askedE l s)) ∧ Below w.heap.size w w' := by
  by_cases he : serE l = 0
  · cases hin : inB s 0 1000000000
    · have ha : askedE l s = 2 := by simp [askedE, he, hin]
      have HA := Lib.hid ha; clear ha
      have hsc := series_c (c := c) h
      rw [he] at hsc
      have HS := Lib.hid hsc; clear hsc
      have HE := Lib.hid he; clear he
      go_enter Try.func65, Try.ntmps65
      go_wp2_with (first | (go_at_call 91; refine HS.out.mono ?_; rintro e w1 ⟨rfl, hb⟩) | (go_at_call 63; refine (within_c _ _ _ _).mono ?_; rintro e w' ⟨rfl, rfl⟩))
      go_ret
      exact ⟨ret_int HA.out.symm, hb⟩
    · have ha : askedE l s = 0 := by simp [askedE, he, hin]
      have HA := Lib.hid ha; clear ha
      have hsc := series_c (c := c) h
      rw [he] at hsc
      have HS := Lib.hid hsc; clear hsc
      have HE := Lib.hid he; clear he
      go_enter Try.func65, Try.ntmps65
      go_wp2_with (first | (go_at_call 91; refine HS.out.mono ?_; rintro e w1 ⟨rfl, hb⟩) | (go_at_call 63; refine (within_c _ _ _ _).mono ?_; rintro e w' ⟨rfl, rfl⟩))
      go_ret
      exact ⟨ret_int HA.out.symm, hb⟩
  · have ha : askedE l s = serE l := by simp [askedE, he]
    have HA := Lib.hid ha; clear ha
    have hsc := series_c (c := c) h
    generalize serE l = q at *
    have HS := Lib.hid hsc; clear hsc
    have hb0 : (q == 0) = false := by simpa using he
    clear he
    go_enter Try.func65, Try.ntmps65
    go_wp2_with (first | (go_at_call 91; refine HS.out.mono ?_; rintro e w1 ⟨rfl, hb⟩) | (go_at_call 63; refine (within_c _ _ _ _).mono ?_; rintro e w' ⟨rfl, rfl⟩))
    go_ret
    exact ⟨ret_int HA.out.symm, hb⟩
end Go.Proofs.Ytkgoojilmnkgiaa
