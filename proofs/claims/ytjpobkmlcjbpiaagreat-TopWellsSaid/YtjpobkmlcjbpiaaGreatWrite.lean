/- PLAIN LAWS of reading bytes: which records are found, and what is lost. No program in sight. -/
import Derived.Test.YtjpobkmlcjbpiaaGreatReading
import Derived.Test.YtjpobkmlcjbpiaaGreatRegion
import Derived.Test.YtjpobkmlcjbpiaaGreatRecord
set_option linter.unusedVariables false
set_option linter.unusedSimpArgs false
namespace Go.Proofs.YtjpobkmlcjbpiaaGreat.Ga

/-- sixteen bytes from a place on -/
def win (bs : List UInt8) (a : Nat) : List UInt8 := (bs.drop a).take 16
theorem win_len {bs : List UInt8} {a : Nat} (h : a + 16 ≤ bs.length) : (win bs a).length = 16 := by simp [win]; omega
/-- the records that are found from a place on, with their places -/
def scan (bs : List UInt8) (a : Nat) : List (Rdg × Nat) :=
  if a + 16 ≤ bs.length then (if isRec (win bs a) = true then (rdgOf (win bs a), a) :: scan bs (a + 16) else scan bs (a + 1)) else []
termination_by bs.length - a
decreasing_by all_goals omega
theorem scan_end {bs : List UInt8} {a : Nat} (h : ¬ a + 16 ≤ bs.length) : scan bs a = [] := by rw [scan, if_neg h]
theorem scan_yes {bs : List UInt8} {a : Nat} (h : a + 16 ≤ bs.length) (hr : isRec (win bs a) = true) : scan bs a = (rdgOf (win bs a), a) :: scan bs (a + 16) := by rw [scan, if_pos h, if_pos hr]
theorem scan_no {bs : List UInt8} {a : Nat} (h : a + 16 ≤ bs.length) (hr : isRec (win bs a) = false) : scan bs a = scan bs (a + 1) := by rw [scan, if_pos h, if_neg (by rw [hr]; simp)]

/-- the places from one up to another -/
def fromTo (a b : Nat) : List Nat := List.range' a (b - a)
theorem fromTo_nil {a b : Nat} (h : b ≤ a) : fromTo a b = [] := by unfold fromTo; rw [Nat.sub_eq_zero_of_le h]; rfl
theorem fromTo_cons {a b : Nat} (h : a < b) : fromTo a b = a :: fromTo (a + 1) b := by
  unfold fromTo; rw [show b - a = (b - (a + 1)) + 1 by omega, List.range'_succ]
theorem fromTo_snoc {a b : Nat} (h : a ≤ b) : fromTo a (b + 1) = fromTo a b ++ [b] := by
  unfold fromTo; rw [show b + 1 - a = (b - a) + 1 by omega, List.range'_concat]; simp; omega
theorem fromTo_len (a b : Nat) : (fromTo a b).length = b - a := by simp [fromTo]

/-- what is lost up to a record, and where the next bytes begin -/
def lostStep (s : List Nat × Nat) (x : Rdg × Nat) : List Nat × Nat := (s.1 ++ fromTo s.2 x.2, x.2 + 16)
def lostAcc (l : List (Rdg × Nat)) : List Nat × Nat := l.foldl lostStep ([], 0)
theorem lostAcc_snoc (l : List (Rdg × Nat)) (x : Rdg × Nat) : lostAcc (l ++ [x]) = lostStep (lostAcc l) x := by simp [lostAcc]
theorem lostAcc_bd (l : List (Rdg × Nat)) (N : Nat) (h : ∀ x ∈ l, x.2 ≤ N) : (lostAcc l).1.length ≤ l.length * N ∧ (lostAcc l).2 ≤ N + 16 := by
  suffices H : ∀ (l : List (Rdg × Nat)) (s : List Nat × Nat) (k : Nat), (∀ x ∈ l, x.2 ≤ N) → s.1.length ≤ k * N → s.2 ≤ N + 16 → (l.foldl lostStep s).1.length ≤ (k + l.length) * N ∧ (l.foldl lostStep s).2 ≤ N + 16 by
    have := H l ([], 0) 0 h (by simp) (by simp)
    simpa [lostAcc] using this
  intro l
  induction l with
  | nil => intro s k _ h1 h2; exact ⟨by simpa using h1, h2⟩
  | cons x l ih =>
    intro s k hx h1 h2
    have hx0 := hx x (by simp)
    have := ih (lostStep s x) (k + 1) (fun y hy => hx y (by simp [hy])) (by
      simp only [lostStep, List.length_append, fromTo_len, Nat.add_mul, Nat.one_mul]; omega) (by simp only [lostStep]; omega)
    simp only [List.foldl_cons, List.length_cons]
    rw [show k + (l.length + 1) = k + 1 + l.length by omega]
    exact this
/-- all that is lost of bytes -/
def lostOf (bs : List UInt8) : List Nat := (lostAcc (scan bs 0)).1 ++ fromTo (lostAcc (scan bs 0)).2 bs.length
def readOf (bs : List UInt8) : List Rdg := (scan bs 0).map (·.1)

theorem scan_at {bs : List UInt8} : ∀ (n a : Nat), bs.length - a ≤ n → ∀ x ∈ scan bs a, a ≤ x.2 ∧ x.2 + 16 ≤ bs.length ∧ isRec (win bs x.2) = true ∧ x.1 = rdgOf (win bs x.2) := by
  intro n
  induction n with
  | zero => intro a h x hx; rw [scan_end (by omega)] at hx; cases hx
  | succ n ih =>
    intro a h x hx
    by_cases h16 : a + 16 ≤ bs.length
    · cases hr : isRec (win bs a)
      · rw [scan_no h16 hr] at hx
        have := ih (a + 1) (by omega) x hx
        exact ⟨by omega, this.2⟩
      · rw [scan_yes h16 hr] at hx
        rcases List.mem_cons.1 hx with rfl | hx
        · exact ⟨Nat.le_refl _, h16, hr, rfl⟩
        · have := ih (a + 16) (by omega) x hx
          exact ⟨by omega, this.2⟩
    · rw [scan_end h16] at hx; cases hx
theorem scan_len {bs : List UInt8} : ∀ (n a : Nat), bs.length - a ≤ n → (scan bs a).length * 16 ≤ bs.length - a := by
  intro n
  induction n with
  | zero => intro a h; rw [scan_end (by omega)]; simp
  | succ n ih =>
    intro a h
    by_cases h16 : a + 16 ≤ bs.length
    · cases hr : isRec (win bs a)
      · rw [scan_no h16 hr]; have := ih (a + 1) (by omega); omega
      · rw [scan_yes h16 hr, List.length_cons]; have := ih (a + 16) (by omega); omega
    · rw [scan_end h16]; simp

/-- The reference's walk over bytes: what is read and what is lost from a place on. -/
def refRead (bs : List UInt8) (a : Nat) : List Rdg × List Nat :=
  if a < bs.length then (if a + 16 ≤ bs.length ∧ isRec (win bs a) = true then (rdgOf (win bs a) :: (refRead bs (a + 16)).1, (refRead bs (a + 16)).2) else ((refRead bs (a + 1)).1, a :: (refRead bs (a + 1)).2)) else ([], [])
termination_by bs.length - a
decreasing_by all_goals omega
theorem refRead_end {bs : List UInt8} {a : Nat} (h : ¬ a < bs.length) : refRead bs a = ([], []) := by rw [refRead, if_neg h]
theorem refRead_yes {bs : List UInt8} {a : Nat} (h : a + 16 ≤ bs.length) (hr : isRec (win bs a) = true) : refRead bs a = (rdgOf (win bs a) :: (refRead bs (a + 16)).1, (refRead bs (a + 16)).2) := by
  rw [refRead, if_pos (by omega), if_pos ⟨h, hr⟩]
theorem refRead_no {bs : List UInt8} {a : Nat} (h : a < bs.length) (hr : ¬ (a + 16 ≤ bs.length ∧ isRec (win bs a) = true)) : refRead bs a = ((refRead bs (a + 1)).1, a :: (refRead bs (a + 1)).2) := by
  rw [refRead, if_pos h, if_neg hr]
theorem refRead_scan {bs : List UInt8} : ∀ (n a : Nat), bs.length - a ≤ n → a ≤ bs.length → (refRead bs a).1 = (scan bs a).map (·.1) ∧
    ∀ (s : List Nat × Nat), s.2 ≤ a → s.1 ++ fromTo s.2 a ++ (refRead bs a).2 = ((scan bs a).foldl lostStep s).1 ++ fromTo ((scan bs a).foldl lostStep s).2 bs.length := by
  intro n
  induction n with
  | zero =>
    intro a h hle
    obtain rfl : a = bs.length := by omega
    rw [refRead_end (by omega), scan_end (by omega)]
    exact ⟨rfl, fun s _ => by simp⟩
  | succ n ih =>
    intro a h hle
    by_cases hlt : a < bs.length
    · by_cases hr : a + 16 ≤ bs.length ∧ isRec (win bs a) = true
      · obtain ⟨i1, i2⟩ := ih (a + 16) (by omega) hr.1
        rw [refRead_yes hr.1 hr.2, scan_yes hr.1 hr.2]
        refine ⟨by simp [i1], fun s hs => ?_⟩
        have := i2 (lostStep s (rdgOf (win bs a), a)) (by simp [lostStep])
        simp only [List.foldl_cons]
        rw [← this]
        simp [lostStep, fromTo_nil]
      · obtain ⟨i1, i2⟩ := ih (a + 1) (by omega) hlt
        rw [refRead_no hlt hr]
        have hs1 : scan bs a = scan bs (a + 1) := by
          by_cases h16 : a + 16 ≤ bs.length
          · exact scan_no h16 (by simpa using fun h => hr ⟨h16, h⟩)
          · rw [scan_end h16, scan_end (by omega)]
        rw [hs1]
        refine ⟨i1, fun s hs => ?_⟩
        rw [← i2 s (by omega), fromTo_snoc hs]
        simp
    · obtain rfl : a = bs.length := by omega
      rw [refRead_end hlt, scan_end (by omega)]
      exact ⟨rfl, fun s _ => by simp⟩
/-- What the reference reads and loses is what is read and lost. -/
theorem refRead_eq (bs : List UInt8) : refRead bs 0 = (readOf bs, lostOf bs) := by
  obtain ⟨h1, h2⟩ := refRead_scan (bs := bs) bs.length 0 (by omega) (by omega)
  have := h2 ([], 0) (Nat.le_refl _)
  rw [fromTo_nil (Nat.le_refl _)] at this
  simp only [List.nil_append] at this
  exact Prod.ext h1 this
end Go.Proofs.YtjpobkmlcjbpiaaGreat.Ga

namespace Go.Proofs.YtjpobkmlcjbpiaaGreat.Ga
open Go.RowKit Go.Proofs

/-- The error of one list of readings. -/
def errR (l : List Rdg) : Int := if 200 < l.length then 3 else if allB validB l = false then 1 else 0
theorem errL_one {A : Option Addr} {n c : Nat} {l : List Rdg} (hl : l.length = n) : errL [⟨A, n, c, l⟩] = errR l := by
  unfold errL errR allB
  by_cases h : 200 < l.length
  · rw [if_pos (.inr (by simp [shortB]; omega)), if_pos h]
  · rw [if_neg (by simp [shortB]; omega), if_neg h]; simp [valB, allB]
theorem errR_zero {l : List Rdg} : errR l = 0 ↔ l.length ≤ 200 ∧ allB validB l = true := by
  unfold errR; split
  · simp; omega
  · split
    · rename_i h1 h2; simp [h2]
    · rename_i h1 h2; simp at h2; simp [h2]; omega

def bytesOf (l : List Rdg) : List UInt8 := l.flatMap recB
theorem bytesOf_len (l : List Rdg) : (bytesOf l).length = l.length * 16 := by
  induction l with
  | nil => rfl
  | cons r l ih => simp only [bytesOf, List.flatMap_cons, List.length_append, List.length_cons, recB_len] at *; omega
theorem cellsB_toList (l : List UInt8) : (cellsB l).toList = l.flatMap encB := by
  simp only [cellsB]
  induction l with
  | nil => rfl
  | cons b l ih => simp only [List.map_cons, List.flatMap_cons, encB] at *; simp [ih]
theorem bytesOf_snoc (l : List Rdg) (r : Rdg) : (bytesOf (l ++ [r])).flatMap encB = (bytesOf l).flatMap encB ++ (cellsB (recB r)).toList := by
  rw [cellsB_toList]; simp [bytesOf]

theorem infoU8 : (Tryz.prog.info? 5).map (fun i => (i.zero, i.size, i.bytes)) = some (some (.int .u8 0), 1, 1) := by kernel_rfl

set_option maxRecDepth 100000 in
set_option maxHeartbeats 1000000 in
theorem Write_c {l : List Rdg} {A : Option Addr} {n c : Nat} {w : World} (h : Rd encR 4 w A n l) (hn : n ≤ maxLen) (hc : n ≤ c) :
    Calls Tryz.prog 13 #[.slice A n c] w fun e w' => (∃ A' m c', e = .returned (.tuple #[.slice A' m c', .int .i64 (errR l)]) ∧ m ≤ c' ∧ (errR l ≠ 0 → m = 0) ∧
      (errR l = 0 → m = n * 16 ∧ w'.ownsRow w.heap.size 5 1 (.slice A' m c') m ((bytesOf l).flatMap encB))) ∧ Below w.heap.size w w' := by
  have hl := h.len
  have hll : RdLL (w.alloc (.cells #[.slice A n c] 52)) (some ⟨w.heap.size, 0, none⟩) 1 [⟨A, n, c, l⟩] := by
    refine ⟨⟨rfl, fun _ => ⟨w.heap.size, 0, rfl, by simp, fun i x hx j v hv => ?_⟩⟩, fun i x hx => ?_⟩
    · match i, hx with
      | 0, hx =>
        simp at hx; subst hx
        match j, hv with
        | 0, hv => simp [encL] at hv; subst hv; simp
    · match i, hx with
      | 0, hx => simp at hx; subst hx; exact ⟨h.mono ((Below.refl _ _).alloc (Nat.le_refl _) _), hn, hc⟩
  have hck := check_c (c := 1) hll (by unfold maxLen; omega)
  rw [errL_one hl] at hck
  have HCK := Lib.hid hck; clear hck hll
  have HL := Lib.hid hl; clear hl
  go_enter Tryz.func13, Tryz.ntmps13
  go_wp2_with fail
  refine (HCK.out).mono ?_
  rintro e w1 ⟨rfl, hb1⟩
  clear HCK
  have hb : Below w.heap.size w w1 := ((Below.refl _ _).alloc (Nat.le_refl _) _).trans (hb1.mono (by simp))
  clear hb1
  by_cases he : errR l = 0
  · have hn200 : n ≤ 200 := by have := (errR_zero.1 he).1; rw [HL.out] at this; exact this
    obtain ⟨i0, hi0, hz0, hz1, hz2⟩ := info_parts infoU8
    have HI := Lib.hid hi0; have HZ0 := Lib.hid hz0; have HZ1 := Lib.hid hz1; have HZ2 := Lib.hid hz2
    clear hi0 hz0 hz1 hz2
    rw [he]
    go_wp2_with fail
    go_loopw [5, 17] (fun v i wr => ∃ k : Nat, k ≤ n ∧ i = .int .i64 k ∧ wr.ownsRow w.heap.size 5 1 v (k * 16) ((bytesOf (l.take k)).flatMap encB) ∧ Below w.heap.size w wr) (fun _ i _ => n - (intOf i).toNat)
    case atStart => exact ⟨0, Nat.zero_le _, rfl, World.ownsRow_nil _ _ _ _, hb⟩
    case round =>
      clear hb
      obtain ⟨k, hk, rfl, hown, hb⟩ := hrel
      have HO := Lib.hid hown; clear hown
      by_cases hlt : k < n
      · obtain ⟨b, o, x, hA, _, hx, h0, h1, h2, h3⟩ := (h.below hb).at4 hlt
        subst hA
        have HX := Lib.hid hx; clear hx
        go_wp2_with fail
        refine (record_c x _).mono ?_
        rintro e w2 ⟨rfl, hb2⟩
        have hb3 : Below w.heap.size w w2 := (hb.alloc hb.size _).trans (hb2.mono (by have := hb.size; simp; omega))
        obtain ⟨cs, hcs⟩ : ∃ cs : Array Value, cs = cellsB (recB x) := ⟨_, rfl⟩
        rw [← hcs]
        have hlen : cs.size = 16 := by rw [hcs]; simp [cellsB, recB_len]
        have hone : ∀ v ∈ cs.toList, v.oneCell' = true := by
          rw [hcs]; intro v hv; simp [cellsB] at hv; obtain ⟨u, _, rfl⟩ := hv; rfl
        have hthere : (w2.alloc (.cells (cellsB zero16) 96)).there w2.heap.size 0 cs.size := by
          intro j hj
          rw [hlen] at hj
          have hk := Blk.new w2 96 (cellsB zero16)
          refine ⟨?_, by rw [Nat.zero_add]; exact hk.frozen j⟩
          rw [Nat.zero_add, hk.cell]
          simp [cellsB, zero16, hj]
        have hsz : (Tryz.prog.info? 96).map (·.size) = some cs.size := by rw [hlen]; kernel_rfl
        have H1 := Lib.hid hlen; have H2 := Lib.hid hone; have H3 := Lib.hid hthere; have H4 := Lib.hid hsz; have H5 := Lib.hid hcs
        clear hlen hone hthere hsz hcs
        have hown2 : Hid (w2.ownsRow w.heap.size 5 1 u5 (k * 16) ((bytesOf (l.take k)).flatMap encB)) := own_mono (own_mono HO.out ((Below.refl _ wr).alloc (Nat.le_refl _) (.cells #[.int .i64 x.ins, .int .i64 x.num, .int .i64 x.tim, .int .i64 x.val] 55))) (by assumption)
        have hbW : Below w2.heap.size w2 ((w2.alloc (.cells (cellsB zero16) 96)).setCells w2.heap.size 0 cs.toList) := below_setCells _ _ _ ((Below.refl _ w2).alloc (Nat.le_refl _) _) (Nat.le_refl _)
        have HBW := Lib.hid hbW; clear hbW
        have HO3 : Hid (((w2.alloc (.cells (cellsB zero16) 96)).setCells w2.heap.size 0 cs.toList).ownsRow w.heap.size 5 1 u5 (k * 16) ((bytesOf (l.take k)).flatMap encB)) := own_mono hown2.out HBW.out
        have hnews : ((w2.alloc (.cells (cellsB zero16) 96)).setCells w2.heap.size 0 cs.toList).rangeAt w2.heap.size 0 cs.toList := World.rangeAt_setCells_same _ _ _ _ (by simpa using H3.out)
        have HN := Lib.hid hnews; clear hnews
        have hsz3 : w.heap.size ≤ w2.heap.size := hb3.size
        go_wp2_with (first | (refine wpList_store_mid rfl 96 (.tmp 8) (.tmp 22) rfl w2.heap.size 0 cs rfl rfl H3.out H4.out (by rw [Array.all_eq_true']; exact fun v hv => H2.out v (by simpa using hv)) ?_) | (at_builtin; refine wpList_append_own _ rfl (.tmp 23) (.tmp 24) 29 rfl w.heap.size 5 i0 (.int .u8 0) 1 1 Tryz.underlying29 HI.out HZ0.out HZ1.out HZ2.out rfl (by decide) _ _ _ rfl HO3.out ⟨w2.heap.size, 0, none⟩ 16 16 cs.toList rfl ?c0 ?c1 ?c2 ?c3 ?c4 ?c5 ?_))
        case c0 => rw [Array.length_toList, H1.out]
        case c1 => intro j u hj; rw [Addr.add_mid]; exact HN.out j u hj
        case c2 => exact H2.out
        case c3 => unfold maxLen; omega
        case c4 => omega
        case c5 => exact Nat.le_trans hsz3 HBW.out.size
        intro v' w4 hown4 hgrow _
        have hown5 : w4.ownsRow w.heap.size 5 1 v' ((k + 1) * 16) ((bytesOf (l.take (k + 1))).flatMap encB) := by
          rw [List.take_add_one, HX.out, Option.toList_some, bytesOf_snoc, ← H5.out, show (k + 1) * 16 = k * 16 + 16 from by omega]
          exact hown4
        have hb5 : Below w.heap.size w w4 := (hb3.trans (HBW.out.mono hb3.size)).grown hgrow (Nat.le_trans hsz3 HBW.out.size) (fun g hg => (HO3.out.lt g hg).1)
        have HO5 := Lib.hid hown5; have HB5 := Lib.hid hb5; clear hown5 hb5 hown4 hgrow
        go_wp2
        go_roundw
        case rel => exact ⟨k + 1, by omega, by go_num, HO5.out, HB5.out⟩
        case measure => simp [intOf] <;> omega
      · obtain rfl : k = n := by omega
        obtain ⟨A', c', rfl, hc'⟩ := own_form HO.out
        go_wp2
        go_ret2
        refine ⟨⟨A', k * 16, c', by rw [he]; rfl, hc', fun h => absurd he h, fun _ => ⟨rfl, ?_⟩⟩, hb⟩
        have := HO.out
        rwa [List.take_of_length_le (by rw [HL.out]; exact Nat.le_refl _)] at this
  · go_wp2
    go_ret2
    exact ⟨⟨none, 0, 0, rfl, Nat.le_refl _, fun _ => rfl, fun h => absurd h he⟩, hb⟩
end Go.Proofs.YtjpobkmlcjbpiaaGreat.Ga
