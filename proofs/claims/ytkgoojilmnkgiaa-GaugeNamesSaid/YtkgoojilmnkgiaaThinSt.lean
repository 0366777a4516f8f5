/- WHAT THIN's WALK CARRIES, and the plain laws of the list that it hands back. -/
import Derived.Test.YtkgoojilmnkgiaaRest
import Derived.Test.YtkgoojilmnkgiaaClosed
import Derived.Laws.EntriesVeiled
import Derived.Deep.AppendLies
namespace Go.Proofs.Ytkgoojilmnkgiaa
open Go.RowKit Go.Proofs Go.Maps

/-- the least number, as a function -/
noncomputable def restN (l : List (Int × Int)) (s : Int) (last a : Nat) : Nat := open Classical in if h : ∃ r, IsRest l s last a r then h.choose else 0
theorem restN_of {l : List (Int × Int)} {s : Int} {last a r : Nat} (h : IsRest l s last a r) : restN l s last a = r := by
  have he : ∃ r, IsRest l s last a r := ⟨r, h⟩
  unfold restN
  rw [dif_pos he]
  exact he.choose_spec.unique h
/-- what Thin takes at a -/
noncomputable def goodB (l : List (Int × Int)) (s : Int) (last a b : Nat) : Bool := nearB l a b s && decide (1 + restN l s last b = restN l s last a)
/-- the list that Thin hands back behind a -/
def Greedy (l : List (Int × Int)) (s : Int) (last : Nat) : Nat → List Nat → Prop
  | a, [] => a = last
  | a, b :: r => a < b ∧ b ≤ last ∧ goodB l s last a b = true ∧ (∀ b', a < b' → b' < b → goodB l s last a b' = false) ∧ Greedy l s last b r

theorem exists_good {l : List (Int × Int)} {s : Int} {last a : Nat} (hl : last < l.length) (hs : 0 ≤ s) (ha : a < last) : ∃ b, a < b ∧ b ≤ last ∧ goodB l s last a b = true := by
  obtain ⟨r, hr⟩ := rest_exists hl hs (Nat.le_of_lt ha)
  match r, hr with
  | 0, hr => have := hr.1; simp [HopsK] at this; omega
  | r + 1, hr =>
    obtain ⟨b, h1, h2, h3, h4⟩ := hr.1
    refine ⟨b, h1, h2, ?_⟩
    have hb : IsRest l s last b r := ⟨h4, fun k hk => by
      have := hr.2 (k + 1) ⟨b, h1, h2, h3, hk⟩
      omega⟩
    rw [goodB, h3, restN_of hb, restN_of hr, Nat.add_comm]; simp
theorem restN_is {l : List (Int × Int)} {s : Int} {last a : Nat} (hl : last < l.length) (hs : 0 ≤ s) (ha : a ≤ last) : IsRest l s last a (restN l s last a) := by
  obtain ⟨r, hr⟩ := rest_exists hl hs ha
  rw [restN_of hr]; exact hr

theorem map_enc1 : ∀ r : List Nat, (r.map Int.ofNat).flatMap enc1 = r.map fun k : Nat => Value.int .i64 (k : Int)
  | [] => rfl
  | x :: r => by rw [List.map_cons, List.flatMap_cons, map_enc1 r]; rfl
/-- What stays while Thin runs: the boxes, the map, the list that it builds. -/
structure ThinSt (w V : World) (l : List (Int × Int)) (s : Int) (last n c : Nat) (A : Option Addr) (b1 b2 b3 b4 b5 M base : Nat) (v : Value) (k : Nat) (xs : List Value) : Prop where
  st : RestSt V l s last n c A b1 b2 b3 b4 b5 M
  row : V.ownsRow base 3 1 v k xs
  bel : Below w.heap.size w V
section
variable {w V V' : World} {l : List (Int × Int)} {s : Int} {last n c : Nat} {A : Option Addr} {b1 b2 b3 b4 b5 M base : Nat} {v v' : Value} {k k' : Nat} {xs xs' : List Value}
theorem ThinSt.below (h : ThinSt w V l s last n c A b1 b2 b3 b4 b5 M base v k xs) (hb : Below V.heap.size V V') : ThinSt w V' l s last n c A b1 b2 b3 b4 b5 M base v k xs :=
  ⟨h.st.below hb, h.row.kept (only_of_below hb none) (by cases e : v.ownBlock <;> simp), h.bel.trans (hb.mono h.bel.size)⟩
theorem ThinSt.rest (h : ThinSt w V l s last n c A b1 b2 b3 b4 b5 M base v k xs) (hg : V.grownBy V' (some M)) (hm : Memo V' M l s last) (hM : M < base) (hwM : w.heap.size ≤ M) : ThinSt w V' l s last n c A b1 b2 b3 b4 b5 M base v k xs :=
  ⟨h.st.grown hg hm, h.row.kept hg (.inr fun e => by have := h.row.lt M e; omega), h.bel.grown hg h.bel.size (fun j hj => by injection hj with hj; omega)⟩
theorem ThinSt.app (h : ThinSt w V l s last n c A b1 b2 b3 b4 b5 M base v k xs) (h0 : Rd enc2 2 w A n l) (hB : b1 < base ∧ b2 < base ∧ b3 < base ∧ b4 < base ∧ b5 < base ∧ M < base ∧ w.heap.size ≤ base)
    (hg : V.grownBy V' v.ownBlock) (hown : V'.ownsRow base 3 1 v' k' xs') : ThinSt w V' l s last n c A b1 b2 b3 b4 b5 M base v' k' xs' := by
  have hne : ∀ j, j < base → some j ≠ v.ownBlock := fun j hj e => by have := h.row.lt j e.symm; omega
  have hbel : Below w.heap.size w V' := h.bel.grown hg h.bel.size (fun j hj => by have := h.row.lt j hj; omega)
  obtain ⟨n2, D, hm, hm2⟩ := h.st.memo
  exact ⟨⟨hg.cell h.st.c1 (hne _ hB.1), hg.cell h.st.c2 (hne _ hB.2.1), hg.cell h.st.c3 (hne _ hB.2.2.1), hg.cell h.st.c4 (hne _ hB.2.2.2.1), hg.cell h.st.c5 (hne _ hB.2.2.2.2.1), h0.below hbel, ⟨n2, D, hm.kept hg (hne _ hB.2.2.2.2.2.1), hm2⟩⟩, hown, hbel⟩
/-- the function value that rest is -/
def restV (b1 b2 b3 b4 b5 : Nat) : Value := .func (.func 67) #[] #[.pointer (some ⟨b1, 0, none⟩), .pointer (some ⟨b2, 0, none⟩), .pointer (some ⟨b3, 0, none⟩), .pointer (some ⟨b4, 0, none⟩), .pointer (some ⟨b5, 0, none⟩)]
theorem thin_start {w' : World} (hb : Below w.heap.size w w') (h0 : Rd enc2 2 w A n l) (c3 : w'.cell? ⟨b3, 0, none⟩ = some (.slice A n c)) (c4 : w'.cell? ⟨b4, 0, none⟩ = some (.int .i64 s)) (l3 : b3 < w'.heap.size) (l4 : b4 < w'.heap.size) :
    ThinSt w (((((w'.alloc (.map #[] 0)).alloc (.cells #[.map (some w'.heap.size)] 123)).alloc (.cells #[.int .i64 (last : Int)] 3)).alloc
        (.cells #[restV (w'.heap.size + 1 + 1) (w'.heap.size + 1) b3 b4 (w'.heap.size + 1 + 1 + 1)] 124)).alloc (.cells #[.int .i64 0] 3))
      l s last n c A (w'.heap.size + 1 + 1) (w'.heap.size + 1) b3 b4 (w'.heap.size + 1 + 1 + 1) w'.heap.size (w'.heap.size + 1 + 1 + 1 + 1) (.slice (some ⟨w'.heap.size + 1 + 1 + 1 + 1, 0, none⟩) 1 1) 1 [.int .i64 0] := by
  have s1 : (w'.alloc (.map #[] 0)).heap.size = w'.heap.size + 1 := by simp
  generalize hW1 : w'.alloc (.map #[] 0) = W1 at s1
  have bl1 : Below w'.heap.size w' W1 := by rw [← hW1]; exact (Below.refl _ _).alloc (Nat.le_refl _) _
  have hm1 : W1.ownsMap Try.prog 3 (plainElem (H := Unit) Try.prog 3) w'.heap.size 0 (.map []) := by rw [← hW1]; exact World.ownsMap_made _ _ _ _
  have k2 := Blk.new W1 123 #[.map (some w'.heap.size)]
  have s2 : (W1.alloc (.cells #[.map (some w'.heap.size)] 123)).heap.size = w'.heap.size + 1 + 1 := by simp [s1]
  have hm2 := hm1.alloc (.cells #[.map (some w'.heap.size)] 123)
  have bl2 := bl1.alloc bl1.size (.cells #[.map (some w'.heap.size)] 123)
  generalize hW2 : W1.alloc (.cells #[.map (some w'.heap.size)] 123) = W2 at s2 k2 hm2 bl2
  have k3 := Blk.new W2 3 #[.int .i64 (last : Int)]
  have s3 : (W2.alloc (.cells #[.int .i64 (last : Int)] 3)).heap.size = w'.heap.size + 1 + 1 + 1 := by simp [s2]
  replace k2 := k2.alloc (.cells #[.int .i64 (last : Int)] 3)
  have hm3 := hm2.alloc (.cells #[.int .i64 (last : Int)] 3)
  have bl3 := bl2.alloc bl2.size (.cells #[.int .i64 (last : Int)] 3)
  generalize hW3 : W2.alloc (.cells #[.int .i64 (last : Int)] 3) = W3 at s3 k2 k3 hm3 bl3
  obtain ⟨rv, hrv⟩ : ∃ rv, rv = restV (w'.heap.size + 1 + 1) (w'.heap.size + 1) b3 b4 (w'.heap.size + 1 + 1 + 1) := ⟨_, rfl⟩
  rw [← hrv]
  have k4 := Blk.new W3 124 #[rv]
  have s4 : (W3.alloc (.cells #[rv] 124)).heap.size = w'.heap.size + 1 + 1 + 1 + 1 := by simp [s3]
  replace k2 := k2.alloc (.cells #[rv] 124)
  replace k3 := k3.alloc (.cells #[rv] 124)
  have hm4 := hm3.alloc (.cells #[rv] 124)
  have bl4 := bl3.alloc bl3.size (.cells #[rv] 124)
  generalize hW4 : W3.alloc (.cells #[rv] 124) = W4 at s4 k2 k3 k4 hm4 bl4
  replace k2 := k2.alloc (.cells #[.int .i64 0] 3)
  replace k3 := k3.alloc (.cells #[.int .i64 0] 3)
  replace k4 := k4.alloc (.cells #[.int .i64 0] 3)
  have hm5 := hm4.alloc (.cells #[.int .i64 0] 3)
  have bl5 := bl4.alloc bl4.size (.cells #[.int .i64 0] 3)
  have hrow := World.ownsRow_lit (base := w'.heap.size + 1 + 1 + 1 + 1) (e := 3) (size := 1) W4 #[.int .i64 0] 1 (by omega) (by unfold maxLen; omega) rfl
  rw [s4] at hrow
  rw [s1] at k2; rw [s2] at k3; rw [s3] at k4
  have hbel : Below w.heap.size w (W4.alloc (.cells #[.int .i64 0] 3)) := hb.trans (bl5.mono hb.size)
  refine ⟨⟨?_, ?_, ?_, ?_, ?_, h0.below hbel, ?_⟩, hrow, hbel⟩
  · rw [k3.cell]; rfl
  · rw [k2.cell]; rfl
  · exact (bl5.cell (p := ⟨b3, 0, none⟩) l3).trans c3
  · exact (bl5.cell (p := ⟨b4, 0, none⟩) l4).trans c4
  · rw [k4.cell, hrv]; rfl
  · exact ⟨0, .map [], hm5, by omega, by simp [Maps.size], tidy_empty, fun a z _ hh => by simp [Maps.has] at hh⟩
/-- the property that the loops of Thin keep -/
def ThinK (w : World) (l : List (Int × Int)) (s : Int) (last n c : Nat) (A : Option Addr) (b1 b2 b3 b4 b5 M base : Nat) (v : Value) (k : Nat) (xs : List Value) : World → Prop := fun V => ThinSt w V l s last n c A b1 b2 b3 b4 b5 M base v k xs
theorem kx_st (p : Kx (ThinK w l s last n c A b1 b2 b3 b4 b5 M base v k xs)) : ThinSt w p.w l s last n c A b1 b2 b3 b4 b5 M base v k xs := p.ok
theorem kx_rest (hok : SerOk l) (hs : 0 ≤ s ∧ s ≤ 1000000000) (hn : last + 1 = n) (hc : n ≤ c) (hM : M < base) (hwM : w.heap.size ≤ M) (p : Kx (ThinK w l s last n c A b1 b2 b3 b4 b5 M base v k xs)) (x : Nat) (hx : x ≤ last) :
    Calls Try.prog 67 #[.int .i64 x, .pointer (some ⟨b1, 0, none⟩), .pointer (some ⟨b2, 0, none⟩), .pointer (some ⟨b3, 0, none⟩), .pointer (some ⟨b4, 0, none⟩), .pointer (some ⟨b5, 0, none⟩)] p.w
      fun e w'' => e = .returned (.int .i64 (restN l s last x : Nat)) ∧ ∃ q : Kx (ThinK w l s last n c A b1 b2 b3 b4 b5 M base v k xs), w'' = q.w :=
  kx_any ((rest_c hok hs hn hc (last - x) p.w x (by omega) (kx_st p).st).mono (by
    rintro e w2 ⟨r2, rfl, h2, h3, h4⟩
    exact ⟨by rw [restN_of h2], (kx_st p).rest h3 h4 hM hwM⟩))
theorem kx_near (hok : SerOk l) (hs : 0 ≤ s ∧ s ≤ 1000000000) (hc : n ≤ c) {a b : Nat} (hab : a < b) (hb : b < n) (p : Kx (ThinK w l s last n c A b1 b2 b3 b4 b5 M base v k xs)) :
    Calls Try.prog 68 #[.slice A n c, .int .i64 a, .int .i64 b, .int .i64 s] p.w fun e w'' => e = .returned (.bool (nearB l a b s)) ∧ ∃ q : Kx (ThinK w l s last n c A b1 b2 b3 b4 b5 M base v k xs), w'' = q.w :=
  kx_call (fun _ hb => (kx_st p).below hb) (near_c (a := a) (b := b) (kx_st p).st.rd hc hok hab hb hs)
end
end Go.Proofs.Ytkgoojilmnkgiaa
