/- THE CONTRACT of wakes: the document's first examples hold. -/
import Derived.Test.YtkgoojilmnkgiaaWakesLaw
import Derived.Test.YtkgoojilmnkgiaaLawRights
import Derived.Deep.RegionHeld3
namespace Go.Proofs.Ytkgoojilmnkgiaa
open Go.RowKit Go.Proofs

theorem run_bytes9 (w : World) (s : ByteArray) : (convert 9 23 (.string s)).run Try.prog w = .ok (.slice (some ⟨w.heap.size, 0, none⟩) s.size (grownCap w s.size 0 5))
      (w.drew.alloc (.cells (bytesRow s (grownCap w s.size 0 5)) 5 ((bytesRow s (grownCap w s.size 0 5)).size, (bytesRow s (grownCap w s.size 0 5)).size + 1))) :=
  run_bytes_of_string w 9 23 5 s Try.underlying9 Try.underlying23 Try.underlying5

/-- A block that is known whole reads as a list. -/
theorem Rd.of_blk {α : Type} {enc : α → List Value} {k : Nat} (henc : ∀ x, (enc x).length = k) {w : World} {g n : Nat} {t : TypeId} {cs : Array Value} {fr : Nat × Nat} {l : List α} (h : w.heap[g]? = some (.cells cs t fr)) (hc : ∀ (j : Nat) (v : Value), (l.flatMap enc)[j]? = some v → cs[j]? = some v) (hl : l.length = n) :
    Rd enc k w (some ⟨g, 0, none⟩) n l := by
  refine ⟨hl, fun hn => ⟨g, 0, rfl, (Array.getElem?_eq_some_iff.1 h).1, fun i x hx j v hv => ?_⟩⟩
  have h1 := flatMap_get henc l i x j v hx hv
  rw [Nat.zero_add, cell_of_row w g _ cs t fr h]
  exact hc _ _ h1

theorem grown_ge (w : World) (n m : Nat) (e : TypeId) : n ≤ grownCap w n m e := Nat.le_add_right _ _
/-- '[]byte(s)' reads as s's bytes. -/
theorem rd_bytes (w : World) (s : ByteArray) (cap : Nat) (n : Nat) (e : TypeId) (hn : s.data.toList.length = n) : Rd encB 1 (w.alloc (.cells (bytesRow s cap) e ((bytesRow s cap).size, (bytesRow s cap).size + 1))).drew (some ⟨w.heap.size, 0, none⟩) n s.data.toList := by
  have hlt : ∀ (j : Nat) (v : Value), (s.data.toList.flatMap encB)[j]? = some v → (bytesRow s cap)[j]? = some v := by
    intro j v hv
    rw [← cellsB_toList] at hv
    have hj : j < s.data.size := by have := (List.getElem?_eq_some_iff.1 hv).1; simpa [cellsB] using this
    rw [bytesRow_at s cap j hj]
    simp only [cellsB, List.getElem?_map, Array.getElem?_toList, Option.map_eq_some_iff] at hv
    obtain ⟨a, ha, rfl⟩ := hv
    rw [(Array.getElem?_eq_some_iff.1 ha).2]
  exact Rd.of_blk (w := (w.alloc (.cells (bytesRow s cap) e ((bytesRow s cap).size, (bytesRow s cap).size + 1))).drew) encB_len (show (w.alloc (.cells (bytesRow s cap) e ((bytesRow s cap).size, (bytesRow s cap).size + 1))).heap[w.heap.size]? = _ from heap_alloc_new w _) hlt hn

theorem wk_same {w6 W : World} {A2 : Option Addr} {c2 : Nat} (h : Rd encR 4 w6 A2 1 [rdg0]) (hW : Below w6.heap.size w6 W) : Calls Try.prog 24 #[.slice A2 1 c2, .slice (some ⟨W.heap.size, 0, none⟩) 1 1] (W.alloc (.cells #[.int .i64 7, .int .i64 258, .int .i64 1000, .int .i64 (-2)] 53))
      fun e w' => e = .returned (.bool true) ∧ Below w6.heap.size w6 w' := by
  have h1 := hW.alloc hW.size (.cells #[.int .i64 7, .int .i64 258, .int .i64 1000, .int .i64 (-2)] 53)
  refine (same_c (h.below h1) (Rd.of_blk encR_len (heap_alloc_new W _) (fun (j : Nat) (v : Value) hv => by simpa [rdg0, encR] using hv) rfl : Rd encR 4 _ _ 1 [rdg0]) (by omega)).mono ?_
  rintro e w' ⟨rfl, hb⟩
  exact ⟨by simp, below_tr h1 hb⟩
theorem wk_ints1 {w6 W : World} {A3 : Option Addr} {c3 : Nat} (h : Rd enc1 1 w6 A3 2 ([0, 17].map Int.ofNat)) (hW : Below w6.heap.size w6 W) : Calls Try.prog 25 #[.slice A3 2 c3, .slice (some ⟨W.heap.size, 0, none⟩) 2 2] (W.alloc (.cells #[.int .i64 0, .int .i64 17] 3))
      fun e w' => e = .returned (.bool true) ∧ Below w6.heap.size w6 w' := by
  have h1 := hW.alloc hW.size (.cells #[.int .i64 0, .int .i64 17] 3)
  refine (ints_c (h.below h1) (Rd.of_blk enc1_len (heap_alloc_new W _) (fun (j : Nat) (v : Value) hv => by simpa [enc1] using hv) rfl : Rd enc1 1 _ _ 2 [0, 17]) (by omega)).mono ?_
  rintro e w' ⟨rfl, hb⟩
  exact ⟨by simp, below_tr h1 hb⟩
theorem wk_ints2 {w6 W : World} {A8 : Option Addr} {c8 : Nat} (h : Rd enc1 1 w6 A8 3 [0, 3, 4]) (hW : Below w6.heap.size w6 W) : Calls Try.prog 25 #[.slice A8 3 c8, .slice (some ⟨W.heap.size, 0, none⟩) 3 3] (W.alloc (.cells #[.int .i64 0, .int .i64 3, .int .i64 4] 3))
      fun e w' => e = .returned (.bool true) ∧ Below w6.heap.size w6 w' := by
  have h1 := hW.alloc hW.size (.cells #[.int .i64 0, .int .i64 3, .int .i64 4] 3)
  refine (ints_c (h.below h1) (Rd.of_blk enc1_len (heap_alloc_new W _) (fun (j : Nat) (v : Value) hv => by simpa [enc1] using hv) rfl : Rd enc1 1 _ _ 3 [0, 3, 4]) (by omega)).mono ?_
  rintro e w' ⟨rfl, hb⟩
  exact ⟨by simp, below_tr h1 hb⟩
theorem wk_conv {w6 W : World} {A1 : Option Addr} {base c1 : Nat} (h : w6.ownsRow base 5 1 (.slice A1 (1 * 16) c1) (1 * 16) ((bytesOf [rdg0]).flatMap encB)) (hW : Below w6.heap.size w6 W) :
    (convert 23 9 (.slice A1 16 c1)).run Try.prog W = .ok (.string ⟨wireB.toArray⟩) W := by
  have hr := (Rd.of_own encB_len h (by rw [bytes0]; rfl)).below hW
  obtain ⟨b, o, rfl, _, hc⟩ := hr.2 (by omega)
  exact run_convert_bytes_back (P := Try.prog) W 23 9 5 ⟨b, o, none⟩ c1 wireB Try.underlying23 Try.underlying5 Try.underlying9 (fun j hj => by
    have := hc j _ (by rw [bytes0]; exact List.getElem?_eq_getElem hj) 0 _ rfl
    rw [Addr.add_mid]
    simpa using this)

set_option maxRecDepth 100000 in
set_option maxHeartbeats 1000000 in
theorem wakes_ok (w : World) : Calls Try.prog 17 #[] w fun e w' => e = .returned (.bool true) ∧ Below w.heap.size w w' := by
  go_enter Try.func17, Try.ntmps17
  go_wp2_with fail
  refine (mk_c 7 258 1000 (-2) _).mono ?_
  rintro e w1 ⟨rfl, hb1⟩
  have hrd : Rd encR 4 (w1.alloc (.cells #[.int .i64 7, .int .i64 258, .int .i64 1000, .int .i64 (-2)] 53)) (some ⟨w1.heap.size, 0, none⟩) 1 [rdg0] := Rd.of_blk encR_len (heap_alloc_new w1 _) (fun (j : Nat) (v : Value) hv => by simpa [rdg0, encR] using hv) rfl
  have hb2 : Below w.heap.size w (w1.alloc (.cells #[.int .i64 7, .int .i64 258, .int .i64 1000, .int .i64 (-2)] 53)) := hb1.alloc hb1.size _
  have HW := Lib.hid (Write_c (c := 1) hrd (by unfold maxLen; omega) (Nat.le_refl _))
  have HB2 := Lib.hid hb2
  clear hrd hb1 hb2
  go_wp2_with fail
  refine HW.out.mono ?_
  rintro e w2 ⟨⟨A1, m1, c1, rfl, hm1, _, hok⟩, hb⟩
  obtain ⟨rfl, hown⟩ := hok err0
  have HB3 := Lib.hid (below_tr HB2.out hb)
  have HO := Lib.hid hown
  clear HW HB2 hb hown hok
  rw [err0]
  go_wp2_with fail
  refine (wire_c _).mono ?_
  rintro e w' ⟨rfl, rfl⟩
  have hcv := run_bytes9
  go_wp2_with fail
  have hrb := rd_bytes w2 (⟨#[1]⟩ ++ ⟨wireB.toArray⟩ ++ ⟨#[165]⟩) (grownCap w2 (1 + wireB.length + 1) 0 5) (1 + wireB.length + 1) 5 (by simp; omega)
  rw [show (⟨#[1]⟩ ++ ⟨wireB.toArray⟩ ++ ⟨#[165]⟩ : ByteArray).data.toList = wakeB by simp [wakeB]] at hrb
  have HR := Lib.hid (Read_c hrb (grown_ge w2 (1 + wireB.length + 1) 0 5) (by decide))
  rw [read0, lost0] at HR
  have HB4 := Lib.hid ((HB3.out.alloc HB3.out.size (.cells (bytesRow (⟨#[1]⟩ ++ ⟨wireB.toArray⟩ ++ ⟨#[165]⟩) (grownCap w2 (1 + wireB.length + 1) 0 5)) 5 ((bytesRow (⟨#[1]⟩ ++ ⟨wireB.toArray⟩ ++ ⟨#[165]⟩) (grownCap w2 (1 + wireB.length + 1) 0 5)).size, (bytesRow (⟨#[1]⟩ ++ ⟨wireB.toArray⟩ ++ ⟨#[165]⟩) (grownCap w2 (1 + wireB.length + 1) 0 5)).size + 1))).drew)
  clear hrb hcv
  refine HR.out.mono ?_
  rintro e w3 ⟨A2, n2, c2, A3, n3, c3, rfl, hc2, hc3, hr2, hr3, hb⟩
  have HB5 := Lib.hid (below_tr HB4.out hb)
  have HR2 := Lib.hid hr2; have HR3 := Lib.hid hr3
  have HO5 := Lib.hid (own_mono (own_mono HO.out (((Below.refl _ w2).alloc (Nat.le_refl _) (.cells (bytesRow (⟨#[1]⟩ ++ ⟨wireB.toArray⟩ ++ ⟨#[165]⟩) (grownCap w2 (1 + wireB.length + 1) 0 5)) 5 ((bytesRow (⟨#[1]⟩ ++ ⟨wireB.toArray⟩ ++ ⟨#[165]⟩) (grownCap w2 (1 + wireB.length + 1) 0 5)).size, (bytesRow (⟨#[1]⟩ ++ ⟨wireB.toArray⟩ ++ ⟨#[165]⟩) (grownCap w2 (1 + wireB.length + 1) 0 5)).size + 1))).drew)) hb)
  clear HB4 HR hb hr2 hr3 HO
  have hrm : Rd enc2 2 (w3.alloc (.cells #[.int .i64 100, .int .i64 200, .int .i64 300, .int .i64 500] 60)) (some ⟨w3.heap.size, 0, none⟩) 2 marks0 := Rd.of_blk enc2_len (heap_alloc_new w3 _) (fun (j : Nat) (v : Value) hv => by simpa [marks0, enc2] using hv) rfl
  have HRT := Lib.hid (Right_c (c := 2) (clock := 101) hrm (by unfold maxLen; omega) (Nat.le_refl _))
  clear hrm
  go_wp2_with fail
  refine HRT.out.mono ?_
  rintro e w4 ⟨⟨v, r, rfl, hR⟩, hb⟩
  obtain ⟨rfl, rfl⟩ := right0 hR
  have bl4 := ((Below.refl _ w3).alloc (Nat.le_refl _) (.cells #[.int .i64 100, .int .i64 200, .int .i64 300, .int .i64 500] 60)).trans (hb.mono (by simp))
  have HB6 := Lib.hid (below_tr HB5.out bl4)
  have HR4 := Lib.hid (HR2.out.below bl4); have HR5 := Lib.hid (HR3.out.below bl4); have HO6 := Lib.hid (own_mono HO5.out bl4)
  clear HRT hb hR bl4 HB5 HR2 HR3 HO5
  have hri : Rd enc1 1 (w4.alloc (.cells #[.int .i64 0, .int .i64 5, .int .i64 11, .int .i64 15, .int .i64 0] 3)) (some ⟨w4.heap.size, 0, none⟩) 5 ints0 := Rd.of_blk enc1_len (heap_alloc_new w4 _) (fun (j : Nat) (v : Value) hv => by simpa [ints0, enc1] using hv) rfl
  have HSR := Lib.hid (series2_c (c := 5) hri (by omega))
  clear hri
  go_wp2_with fail
  refine HSR.out.mono ?_
  rintro e w5 ⟨A6, c6, rfl, hc6, hr6, hb⟩
  have bl5 := ((Below.refl _ w4).alloc (Nat.le_refl _) (.cells #[.int .i64 0, .int .i64 5, .int .i64 11, .int .i64 15, .int .i64 0] 3)).trans (hb.mono (by simp))
  have HTH := Lib.hid (Thin_c (s := 1) (show Rd enc2 2 w5 A6 5 pts0 from hr6) hc6)
  have HB7 := Lib.hid (below_tr HB6.out bl5)
  have HR6 := Lib.hid (HR4.out.below bl5); have HR7 := Lib.hid (HR5.out.below bl5); have HO7 := Lib.hid (own_mono HO6.out bl5)
  clear HSR hb hr6 bl5 HB6 HR4 HR5 HO6
  go_wp2_with fail
  refine HTH.out.mono ?_
  rintro e w6 ⟨A8, n8, c8, out, rfl, hc8, hr8, hb, _, _, hg⟩
  have hout : out = [0, 3, 4] := by
    obtain ⟨r, h1, h2⟩ := hg asked0 (by decide)
    rw [h2, Greedy.det h1 (show Greedy pts0 1 (pts0.length - 1) 0 [3, 4] from greedy0)]; rfl
  rw [asked0]
  have HB8 := Lib.hid (below_tr HB7.out hb)
  have HR8 := Lib.hid (HR6.out.below hb); have HR9 := Lib.hid (HR7.out.below hb); have HO8 := Lib.hid (own_mono HO7.out hb); have HR10 := Lib.hid hr8; have HOUT := Lib.hid hout
  clear HTH hb hr8 HB7 HR6 HR7 HO7 hg hout
  go_wp2_with fail
  obtain rfl : n3 = 2 := by have := HR9.out.len; simpa using this.symm
  obtain rfl : n2 = 1 := by have := HR8.out.len; simpa using this.symm
  obtain rfl : n8 = 3 := by have := HR10.out.len; rw [HOUT.out] at this; simpa using this.symm
  have hconv := fun (W : World) (hW : Below w6.heap.size w6 W) => wk_conv HO8.out hW
  have hsame := fun (W : World) (hW : Below w6.heap.size w6 W) => wk_same (c2 := c2) HR8.out hW
  have hints1 := fun (W : World) (hW : Below w6.heap.size w6 W) => wk_ints1 (c3 := c3) HR9.out hW
  have hr10 := HR10.out
  rw [HOUT.out] at hr10
  have hints2 := fun (W : World) (hW : Below w6.heap.size w6 W) => wk_ints2 (c8 := c8) hr10 hW
  clear hr10
  have HS := Lib.hid hsame; have HI1 := Lib.hid hints1; have HI2 := Lib.hid hints2
  clear hsame hints1 hints2
  go_region_held3 (fun w' => Below w6.heap.size w6 w') (first | assumption | exact (Below.refl _ _).drew | exact Below.drew (by assumption) | exact Below.alloc (by assumption) (Below.size (by assumption)) _)
    (first | (go_at_call 53; refine (wire_c _).mono ?_; rintro e w' ⟨rfl, rfl⟩) | (go_at_call 51; refine (mk_c 7 258 1000 (-2) _).mono ?_; rintro e w7 ⟨rfl, hb7⟩; have hbb7 : Below w6.heap.size w6 w7 := below_tr (by assumption) hb7) | (go_at_call 24; ((with_reducible refine (HS.out _ (by assumption)).mono ?_); rintro e w8 ⟨rfl, hb8⟩)) | (go_at_call 25; ((with_reducible refine (HI1.out _ (by assumption)).mono ?_); rintro e w9 ⟨rfl, hb9⟩)) | (go_at_call 25; ((with_reducible refine (HI2.out _ (by assumption)).mono ?_); rintro e w9 ⟨rfl, hb9⟩)))
  all_goals
    go_wp2_with fail
    go_ret
    exact ⟨rfl, below_tr HB8.out (by assumption)⟩
theorem wakesOk : WakesOk := wakes_ok
end Go.Proofs.Ytkgoojilmnkgiaa
