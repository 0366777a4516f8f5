/- THE CONTRACT of gauge.Write. -/
import Derived.Test.YtkgoojilmnkgiaaCheck
import Derived.Test.YtkgoojilmnkgiaaRecord
namespace Go.Proofs.Ytkgoojilmnkgiaa
open Go.RowKit Go.Proofs

/-- The error of one list of readings. -/
def errR (l : List Rdg) : Int := if 200 < l.length then 3 else if allB validB l = false then 1 else 0
theorem errL_one {A : Option Addr} {n c : Nat} {l : List Rdg} (hl : l.length = n) : errL [⟨A, n, c, l⟩] = errR l := by
  unfold errL errR allB
  by_cases h : 200 < l.length
  · rw [if_pos (.inr (by simp [shortB]; omega)), if_pos h]
  · rw [if_neg (by simp [shortB]; omega), if_neg h]; simp [valB, allB]
theorem errR_zero {l : List Rdg} : errR l = 0 ↔ l.length ≤ 200 ∧ allB validB l = true := by
  unfold errR; split
  · simp; omega
  · split
    · rename_i h1 h2; simp [h2]
    · rename_i h1 h2; simp at h2; simp [h2]; omega

def bytesOf (l : List Rdg) : List UInt8 := l.flatMap recB
theorem bytesOf_len (l : List Rdg) : (bytesOf l).length = l.length * 16 := by
  induction l with
  | nil => rfl
  | cons r l ih => simp only [bytesOf, List.flatMap_cons, List.length_append, List.length_cons, recB_len] at *; omega
theorem cellsB_toList (l : List UInt8) : (cellsB l).toList = l.flatMap encB := by
  simp only [cellsB]
  induction l with
  | nil => rfl
  | cons b l ih => simp only [List.map_cons, List.flatMap_cons, encB] at *; simp [ih]
theorem bytesOf_snoc (l : List Rdg) (r : Rdg) : (bytesOf (l ++ [r])).flatMap encB = (bytesOf l).flatMap encB ++ (cellsB (recB r)).toList := by
  rw [cellsB_toList]; simp [bytesOf]

theorem infoU8 : (Try.prog.info? 5).map (fun i => (i.zero, i.size, i.bytes)) = some (some (.int .u8 0), 1, 1) := by kernel_rfl

set_option maxRecDepth 100000 in
set_option maxHeartbeats 1000000 in
theorem Write_c {l : List Rdg} {A : Option Addr} {n c : Nat} {w : World} (h : Rd encR 4 w A n l) (hn : n ≤ maxLen) (hc : n ≤ c) :
    Calls Try.prog 18 #[.slice A n c] w fun e w' => (∃ A' m c', e = .returned (.tuple #[.slice A' m c', .int .i64 (errR l)]) ∧ m ≤ c' ∧ (errR l ≠ 0 → m = 0) ∧
      (errR l = 0 → m = n * 16 ∧ w'.ownsRow w.heap.size 5 1 (.slice A' m c') m ((bytesOf l).flatMap encB))) ∧ Below w.heap.size w w' := by
  have hl := h.len
  have hll : RdLL (w.alloc (.cells #[.slice A n c] 28)) (some ⟨w.heap.size, 0, none⟩) 1 [⟨A, n, c, l⟩] := by
    refine ⟨⟨rfl, fun _ => ⟨w.heap.size, 0, rfl, by simp, fun i x hx j v hv => ?_⟩⟩, fun i x hx => ?_⟩
    · match i, hx with
      | 0, hx =>
        simp at hx; subst hx
        match j, hv with
        | 0, hv => simp [encL] at hv; subst hv; simp
    · match i, hx with
      | 0, hx => simp at hx; subst hx; exact ⟨h.mono ((Below.refl _ _).alloc (Nat.le_refl _) _), hn, hc⟩
  have hck := check_c (c := 1) hll (by unfold maxLen; omega)
  rw [errL_one hl] at hck
  have HCK := Lib.hid hck; clear hck hll
  have HL := Lib.hid hl; clear hl
  go_enter Try.func18, Try.ntmps18
  go_wp2_with fail
  refine (HCK.out).mono ?_
  rintro e w1 ⟨rfl, hb1⟩
  clear HCK
  have hb : Below w.heap.size w w1 := ((Below.refl _ _).alloc (Nat.le_refl _) _).trans (hb1.mono (by simp))
  clear hb1
  by_cases he : errR l = 0
  · have hn200 : n ≤ 200 := by have := (errR_zero.1 he).1; rw [HL.out] at this; exact this
    obtain ⟨i0, hi0, hz0, hz1, hz2⟩ := info_parts infoU8
    have HI := Lib.hid hi0; have HZ0 := Lib.hid hz0; have HZ1 := Lib.hid hz1; have HZ2 := Lib.hid hz2
    clear hi0 hz0 hz1 hz2
    rw [he]
    go_wp2_with fail
    go_loopw [5, 17] (fun v i wr => ∃ k : Nat, k ≤ n ∧ i = .int .i64 k ∧ wr.ownsRow w.heap.size 5 1 v (k * 16) ((bytesOf (l.take k)).flatMap encB) ∧ Below w.heap.size w wr) (fun _ i _ => n - (intOf i).toNat)
    case atStart => exact ⟨0, Nat.zero_le _, rfl, World.ownsRow_nil _ _ _ _, hb⟩
    case round =>
      clear hb
      obtain ⟨k, hk, rfl, hown, hb⟩ := hrel
      have HO := Lib.hid hown; clear hown
      by_cases hlt : k < n
      · obtain ⟨b, o, x, hA, _, hx, h0, h1, h2, h3⟩ := (h.below hb).at4 hlt
        subst hA
        have HX := Lib.hid hx; clear hx
        go_wp2_with fail
        refine (record_c x _).mono ?_
        rintro e w2 ⟨rfl, hb2⟩
        have hb3 : Below w.heap.size w w2 := (hb.alloc hb.size _).trans (hb2.mono (by have := hb.size; simp; omega))
        obtain ⟨cs, hcs⟩ : ∃ cs : Array Value, cs = cellsB (recB x) := ⟨_, rfl⟩
        rw [← hcs]
        have hlen : cs.size = 16 := by rw [hcs]; simp [cellsB, recB_len]
        have hone : ∀ v ∈ cs.toList, v.oneCell' = true := by
          rw [hcs]; intro v hv; simp [cellsB] at hv; obtain ⟨u, _, rfl⟩ := hv; rfl
        have hthere : (w2.alloc (.cells (cellsB zero16) 105)).there w2.heap.size 0 cs.size := by
          intro j hj
          rw [hlen] at hj
          have hk := Blk.new w2 105 (cellsB zero16)
          refine ⟨?_, by rw [Nat.zero_add]; exact hk.frozen j⟩
          rw [Nat.zero_add, hk.cell]
          simp [cellsB, zero16, hj]
        have hsz : (Try.prog.info? 105).map (·.size) = some cs.size := by rw [hlen]; kernel_rfl
        have H1 := Lib.hid hlen; have H2 := Lib.hid hone; have H3 := Lib.hid hthere; have H4 := Lib.hid hsz; have H5 := Lib.hid hcs
        clear hlen hone hthere hsz hcs
        have hown2 : Hid (w2.ownsRow w.heap.size 5 1 u5 (k * 16) ((bytesOf (l.take k)).flatMap encB)) := own_mono (own_mono HO.out ((Below.refl _ wr).alloc (Nat.le_refl _) (.cells #[.int .i64 x.ins, .int .i64 x.num, .int .i64 x.tim, .int .i64 x.val] 53))) (by assumption)
        have hbW : Below w2.heap.size w2 ((w2.alloc (.cells (cellsB zero16) 105)).setCells w2.heap.size 0 cs.toList) := below_setCells _ _ _ ((Below.refl _ w2).alloc (Nat.le_refl _) _) (Nat.le_refl _)
        have HBW := Lib.hid hbW; clear hbW
        have HO3 : Hid (((w2.alloc (.cells (cellsB zero16) 105)).setCells w2.heap.size 0 cs.toList).ownsRow w.heap.size 5 1 u5 (k * 16) ((bytesOf (l.take k)).flatMap encB)) := own_mono hown2.out HBW.out
        have hnews : ((w2.alloc (.cells (cellsB zero16) 105)).setCells w2.heap.size 0 cs.toList).rangeAt w2.heap.size 0 cs.toList := World.rangeAt_setCells_same _ _ _ _ (by simpa using H3.out)
        have HN := Lib.hid hnews; clear hnews
        have hsz3 : w.heap.size ≤ w2.heap.size := hb3.size
        go_wp2_with (first | (refine wpList_store_mid rfl 105 (.tmp 8) (.tmp 22) rfl w2.heap.size 0 cs rfl rfl H3.out H4.out (by rw [Array.all_eq_true']; exact fun v hv => H2.out v (by simpa using hv)) ?_) | (at_builtin; refine wpList_append_own _ rfl (.tmp 23) (.tmp 24) 23 rfl w.heap.size 5 i0 (.int .u8 0) 1 1 Try.underlying23 HI.out HZ0.out HZ1.out HZ2.out rfl (by decide) _ _ _ rfl HO3.out ⟨w2.heap.size, 0, none⟩ 16 16 cs.toList rfl ?c0 ?c1 ?c2 ?c3 ?c4 ?c5 ?_))
        case c0 => rw [Array.length_toList, H1.out]
        case c1 => intro j u hj; rw [Addr.add_mid]; exact HN.out j u hj
        case c2 => exact H2.out
        case c3 => unfold maxLen; omega
        case c4 => omega
        case c5 => exact Nat.le_trans hsz3 HBW.out.size
        intro v' w4 hown4 hgrow _
        have hown5 : w4.ownsRow w.heap.size 5 1 v' ((k + 1) * 16) ((bytesOf (l.take (k + 1))).flatMap encB) := by
          rw [List.take_add_one, HX.out, Option.toList_some, bytesOf_snoc, ← H5.out, show (k + 1) * 16 = k * 16 + 16 from by omega]
          exact hown4
        have hb5 : Below w.heap.size w w4 := (hb3.trans (HBW.out.mono hb3.size)).grown hgrow (Nat.le_trans hsz3 HBW.out.size) (fun g hg => (HO3.out.lt g hg).1)
        have HO5 := Lib.hid hown5; have HB5 := Lib.hid hb5; clear hown5 hb5 hown4 hgrow
        go_wp2
        go_roundw
        case rel => exact ⟨k + 1, by omega, by go_num, HO5.out, HB5.out⟩
        case measure => simp [intOf] <;> omega
      · obtain rfl : k = n := by omega
        obtain ⟨A', c', rfl, hc'⟩ := own_form HO.out
        go_wp2
        go_ret2
        refine ⟨⟨A', k * 16, c', by rw [he]; rfl, hc', fun h => absurd he h, fun _ => ⟨rfl, ?_⟩⟩, hb⟩
        have := HO.out
        rwa [List.take_of_length_le (by rw [HL.out]; exact Nat.le_refl _)] at this
  · go_wp2
    go_ret2
    exact ⟨⟨none, 0, 0, rfl, Nat.le_refl _, fun _ => rfl, fun h => absurd h he⟩, hb⟩
end Go.Proofs.Ytkgoojilmnkgiaa
