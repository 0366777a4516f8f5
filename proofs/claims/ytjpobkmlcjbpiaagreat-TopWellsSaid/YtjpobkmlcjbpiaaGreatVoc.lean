/- WORDS FOR MEMORY: a slice of records that reads as a list, and the small facts on worlds that every walk of this seat uses. No program in sight. -/
import Derived.WalkKit
import Derived.WalkSpells
import Derived.WalkLawsBesides
import Derived.Deep.Draws
import Derived.Lib.Hide
import Derived.Maps.AppendAt
set_option linter.unusedVariables false
set_option linter.unusedSimpArgs false
namespace Go.Proofs.YtjpobkmlcjbpiaaGreat
open Go.RowKit

/-- The slice address A with n elements reads as the list l in the world w: element i lies in the k cells from the offset + i * k on. -/
def Rd {α : Type} (enc : α → List Value) (k : Nat) (w : World) (A : Option Addr) (n : Nat) (l : List α) : Prop :=
  l.length = n ∧ (0 < n → ∃ b o, A = some ⟨b, o, none⟩ ∧ b < w.heap.size ∧ ∀ i x, l[i]? = some x → ∀ j v, (enc x)[j]? = some v → w.cell? ⟨b, o + i * k + j, none⟩ = some v)

section
variable {α : Type} {enc : α → List Value} {k : Nat} {w w' : World} {A : Option Addr} {n : Nat} {l : List α}

theorem below_tr {a b c : World} (h : Below a.heap.size a b) (h' : Below b.heap.size b c) : Below a.heap.size a c := h.trans (h'.mono h.size)
theorem below_drewN {B : Nat} {a w : World} (h : Below B a w) (n : Nat) : Below B a (w.drewN n) := ⟨h.os, h.tape, h.output, h.size, h.block⟩

theorem bcell {W w1 : World} (hb : Below W.heap.size W w1) : (∀ b o, b < W.heap.size → w1.cell? ⟨b, o, none⟩ = W.cell? ⟨b, o, none⟩) ∧ (∀ b o, b < W.heap.size → w1.frozen? ⟨b, o, none⟩ = W.frozen? ⟨b, o, none⟩) :=
  ⟨fun b o h => hb.cell (p := ⟨b, o, none⟩) h, fun b o h => hb.frozen (p := ⟨b, o, none⟩) h⟩

theorem Rd.nil (enc : α → List Value) (k : Nat) (w : World) (A : Option Addr) : Rd enc k w A 0 [] := ⟨rfl, fun h => absurd h (by omega)⟩
theorem Rd.mono (h : Rd enc k w A n l) (hb : Below w.heap.size w w') : Rd enc k w' A n l :=
  ⟨h.1, fun hn => by
    obtain ⟨b, o, e, hlt, hc⟩ := h.2 hn
    exact ⟨b, o, e, Nat.lt_of_lt_of_le hlt hb.size, fun i x hx j v hv => (hb.cell (p := ⟨b, _, none⟩) hlt).trans (hc i x hx j v hv)⟩⟩
theorem Rd.below {w0 : World} (h : Rd enc k w0 A n l) (hb : Below w0.heap.size w0 w) : Rd enc k w A n l := h.mono hb
theorem Rd.at_ (h : Rd enc k w A n l) {i : Nat} (hi : i < n) : ∃ b o x, A = some ⟨b, o, none⟩ ∧ b < w.heap.size ∧ l[i]? = some x ∧ ∀ j v, (enc x)[j]? = some v → w.cell? ⟨b, o + i * k + j, none⟩ = some v := by
  obtain ⟨b, o, e, hlt, hc⟩ := h.2 (by omega)
  have hl : i < l.length := by have := h.1; omega
  exact ⟨b, o, l[i], e, hlt, List.getElem?_eq_getElem hl, hc i _ (List.getElem?_eq_getElem hl)⟩
theorem Rd.len (h : Rd enc k w A n l) : l.length = n := h.1
/-- a cut l[a:b] -/
theorem Rd.cut (h : Rd enc k w A n l) {a b cap : Nat} (hab : a ≤ b) (hb : b ≤ n) (hc : n ≤ cap) :
    Rd enc k w (if cap = a then A else A.map (·.add (a * k))) (b - a) ((l.take b).drop a) := by
  refine ⟨by simp [h.1]; omega, fun hn => ?_⟩
  obtain ⟨bl, o, rfl, hlt, hcell⟩ := h.2 (by omega)
  rw [if_neg (by omega)]
  refine ⟨bl, o + a * k, ?_, hlt, fun i x hx j v hv => ?_⟩
  · simp only [Option.map, Addr.add]
    by_cases h0 : a * k = 0
    · simp [h0]
    · simp [h0]
  · rw [List.getElem?_drop, List.getElem?_take] at hx
    split at hx
    · have := hcell (a + i) x hx j v hv
      rw [Nat.add_mul] at this
      rw [← this]; congr 2; omega
    · cases hx

theorem run_sliceBounds_in {P : Program} {len cap lo hi : Nat} (W : World) (h1 : lo ≤ hi) (h2 : hi ≤ cap) :
    (Instr.sliceBounds true len cap (some (.int .i64 (lo : Int))) (some (.int .i64 (hi : Int))) none).run P W = .ok (lo, hi, cap) W := by
  simp [Instr.sliceBounds, Instr.sliceBound, asIntOf, h1, h2]
theorem run_sliceBounds_from {P : Program} {len cap lo : Nat} (W : World) (h1 : lo ≤ len) :
    (Instr.sliceBounds true len cap (some (.int .i64 (lo : Int))) none none).run P W = .ok (lo, len, cap) W := by
  simp [Instr.sliceBounds, Instr.sliceBound, asIntOf]
  intro h; omega
/-- l[lo:hi] and l[lo:] as one run equation each, the new address under a letter. -/
theorem cut_both {P : Program} {t e : TypeId} {size : Nat} (ht : P.underlying t = some (.slice e)) (hs : ∀ W, (sizeOf e).run P W = .ok size W) (A : Option Addr) {len cap lo hi : Nat} (w : World) (h1 : lo ≤ hi) (h2 : hi ≤ len) (h3 : len ≤ cap) :
    ∃ A1, (∀ W, (Instr.slice t (.slice A len cap) (some (.int .i64 (lo : Int))) (some (.int .i64 (hi : Int))) none).run P W = .ok (.slice A1 (hi - lo) (cap - lo)) W) ∧
      ∀ {α : Type} (enc : α → List Value) (l : List α), Rd enc size w A len l → Rd enc size w A1 (hi - lo) ((l.take hi).drop lo) := by
  refine ⟨if cap = lo then A else A.map (·.add (lo * size)), fun W => ?_, fun enc l h => h.cut h1 h2 h3⟩
  simp [Instr.slice, run_underlying ht, run_sliceBounds_in W h1 (by omega : hi ≤ cap), hs]
theorem cut_from {P : Program} {t e : TypeId} {size : Nat} (ht : P.underlying t = some (.slice e)) (hs : ∀ W, (sizeOf e).run P W = .ok size W) (A : Option Addr) {len cap lo : Nat} (w : World) (h1 : lo ≤ len) (h3 : len ≤ cap) :
    ∃ A1, (∀ W, (Instr.slice t (.slice A len cap) (some (.int .i64 (lo : Int))) none none).run P W = .ok (.slice A1 (len - lo) (cap - lo)) W) ∧
      ∀ {α : Type} (enc : α → List Value) (l : List α), Rd enc size w A len l → Rd enc size w A1 (len - lo) (l.drop lo) := by
  refine ⟨if cap = lo then A else A.map (·.add (lo * size)), fun W => ?_, fun enc l h => ?_⟩
  · simp [Instr.slice, run_underlying ht, run_sliceBounds_from W h1, hs]
  · have := h.cut h1 (Nat.le_refl _) h3
    rwa [List.take_of_length_le (by rw [h.1]; exact Nat.le_refl _)] at this

theorem flatMap_get (henc : ∀ x, (enc x).length = k) (l : List α) : ∀ (i : Nat) (x : α) (j : Nat) (v : Value), l[i]? = some x → (enc x)[j]? = some v → (l.flatMap enc)[i * k + j]? = some v := by
  induction l with
  | nil => intro i x j v hx; simp at hx
  | cons y l ih =>
    intro i x j v hx hv
    have hj : j < k := by rw [← henc x]; exact (List.getElem?_eq_some_iff.1 hv).1
    rw [List.flatMap_cons]
    cases i with
    | zero =>
      simp at hx; subst hx
      rw [List.getElem?_append_left (by rw [henc]; omega)]
      simpa using hv
    | succ i =>
      rw [List.getElem?_append_right (by rw [henc, Nat.succ_mul]; omega), henc]
      have : (i + 1) * k + j - k = i * k + j := by rw [Nat.succ_mul]; omega
      rw [this]
      exact ih i x j v (by simpa using hx) hv
theorem flatMap_len (henc : ∀ x, (enc x).length = k) (l : List α) : (l.flatMap enc).length = l.length * k := by
  induction l with
  | nil => simp
  | cons y l ih => rw [List.flatMap_cons, List.length_append, henc, ih, List.length_cons, Nat.succ_mul]; omega

theorem Rd.of_own (henc : ∀ x, (enc x).length = k) {base : Nat} {e : TypeId} {c : Nat} (h : w.ownsRow base e k (.slice A n c) n (l.flatMap enc)) (hl : l.length = n) : Rd enc k w A n l := by
  refine ⟨hl, fun hn => ?_⟩
  rcases h.2 with ⟨_, h0⟩ | ⟨g, cap, cur, hv, hbase, hg, hnc, hm, hsz, htake⟩
  · omega
  · have hA : A = some ⟨g, 0, none⟩ := by injection hv
    refine ⟨g, 0, hA, ?_, fun i x hx j v hv => ?_⟩
    · rcases Nat.lt_or_ge g w.heap.size with hlt | hge
      · exact hlt
      · rw [Array.getElem?_eq_none hge] at hg; cases hg
    · have h1 := flatMap_get henc l i x j v hx hv
      rw [← htake, List.getElem?_take] at h1
      split at h1
      · rw [Nat.zero_add]
        rw [cell_of_row w g _ cur e (0, 0) hg]
        simpa using h1
      · cases h1

/-- What is owned stays owned where nothing old has turned. -/
theorem own_mono {base : Nat} {e : TypeId} {v : Value} {xs : List Value} (h : w.ownsRow base e k v n xs) (hb : Below w.heap.size w w') : w'.ownsRow base e k v n xs := by
  refine ⟨h.1, ?_⟩
  rcases h.2 with h0 | ⟨g, cap, cur, hv, hbase, hg, hrest⟩
  · exact .inl h0
  · have hlt : g < w.heap.size := by
      rcases Nat.lt_or_ge g w.heap.size with hlt | hge
      · exact hlt
      · rw [Array.getElem?_eq_none hge] at hg; cases hg
    exact .inr ⟨g, cap, cur, hv, hbase, (hb.block g hlt).trans hg, hrest⟩
/-- An owned row's value is a slice of its length. -/
theorem own_form {base : Nat} {e : TypeId} {v : Value} {xs : List Value} (h : w.ownsRow base e k v n xs) : ∃ A c, v = .slice A n c ∧ n ≤ c := by
  rcases h.2 with ⟨rfl, rfl⟩ | ⟨g, cap, cur, rfl, _, _, hnc, _⟩
  · exact ⟨none, 0, rfl, Nat.le_refl _⟩
  · exact ⟨some ⟨g, 0, none⟩, cap, rfl, hnc⟩
end

theorem quiet_add_left {P : Program} {f : FuncId} {args : Array Value} {w : World} {a n : Nat} {v : Value}
    (h : Calls P f args (w.drewN (a + n)) fun e w' => e = .returned v ∧ w.drewN (a + n) = w') :
    Calls P f args (w.drewN (a + n)) fun e w'' => e = .returned v ∧ ∃ m, w'' = w.drewN (a + m) :=
  h.mono fun _ _ ⟨he, hm⟩ => ⟨he, n, hm.symm⟩
theorem quiet_left {P : Program} {f : FuncId} {args : Array Value} {w : World} {n : Nat} {v : Value}
    (h : Calls P f args (w.drewN n) fun e w' => e = .returned v ∧ w.drewN n = w') : Calls P f args (w.drewN n) fun e w'' => e = .returned v ∧ ∃ m, w'' = w.drewN m :=
  h.mono fun _ _ ⟨he, hm⟩ => ⟨he, n, hm.symm⟩
theorem wi {e : Int} (h : -9223372036854775808 ≤ e ∧ e ≤ 9223372036854775807) : IntKind.i64.wrap e = e := IntWalk.i64_in _ (by omega)
theorem ret_bool {a b : Bool} (h : a = b) : Ending.returned (.bool a) = .returned (.bool b) := by rw [h]
theorem ret_int {k : IntKind} {a b : Int} (h : a = b) : Ending.returned (.int k a) = .returned (.int k b) := by rw [h]

/-- A block that is known whole. -/
def Blk (w : World) (g : Nat) (t : TypeId) (cs : Array Value) : Prop := w.heap[g]? = some (.cells cs t (0, 0))
section
variable {w w' : World} {g : Nat} {t : TypeId} {cs : Array Value}
theorem Blk.lt (h : Blk w g t cs) : g < w.heap.size := by
  rcases Nat.lt_or_ge g w.heap.size with hlt | hge
  · exact hlt
  · unfold Blk at h; rw [Array.getElem?_eq_none hge] at h; cases h
theorem Blk.cell (h : Blk w g t cs) (i : Nat) : w.cell? ⟨g, i, none⟩ = cs[i]? := cell_of_row w g i cs t (0, 0) h
theorem Blk.frozen (h : Blk w g t cs) (i : Nat) : w.frozen? ⟨g, i, none⟩ = false := by
  unfold Blk at h
  simp [World.frozen?, h]
theorem Blk.new (w : World) (t : TypeId) (cs : Array Value) : Blk (w.alloc (.cells cs t)) w.heap.size t cs := heap_alloc_new w _
theorem Blk.drewN (h : Blk w g t cs) (n : Nat) : Blk (w.drewN n) g t cs := h
theorem Blk.alloc (h : Blk w g t cs) (o : Obj) : Blk (w.alloc o) g t cs := (Below.heap_alloc w o g h.lt).trans h
theorem Blk.set_ (h : Blk w g t cs) (i : Nat) (u : Value) : Blk (w.setCell ⟨g, i, none⟩ u) g t (cs.setIfInBounds i u) := by
  unfold Blk at h ⊢
  simp [World.setCell, Array.getElem?_modify, h]
theorem Blk.far (h : Blk w g t cs) {p : Addr} (hp : g ≠ p.block) (u : Value) : Blk (w.setCell p u) g t cs := (Below.heap_setCell w p u g hp).trans h
theorem Blk.below {B : Nat} (h : Blk w g t cs) (hb : Below B w w') (hg : g < B) : Blk w' g t cs := (hb.block g hg).trans h
theorem Blk.grown {row : Option Nat} (h : Blk w g t cs) (hb : w.grownBy w' row) (hg : some g ≠ row) : Blk w' g t cs := (hb.block g h.lt hg).trans h
end
theorem only_drewN {a w : World} {row : Option Nat} (h : a.grownBy w row) (n : Nat) : a.grownBy (w.drewN n) row := ⟨h.os, h.tape, h.output, h.size, h.block⟩
theorem only_alloc {a w : World} {row : Option Nat} (h : a.grownBy w row) (o : Obj) : a.grownBy (w.alloc o) row :=
  ⟨h.os, h.tape, h.output, Nat.le_trans h.size (by simp), fun i hi hne => (Below.heap_alloc w o i (Nat.lt_of_lt_of_le hi h.size)).trans (h.block i hi hne)⟩
theorem only_setCell {a w : World} {g : Nat} (h : a.grownBy w (some g)) {p : Addr} (hp : p.block = g ∨ a.heap.size ≤ p.block) (u : Value) : a.grownBy (w.setCell p u) (some g) :=
  ⟨h.os, h.tape, h.output, by simpa [World.setCell] using h.size, fun i hi hne => (Below.heap_setCell w p u i (by
    rintro rfl
    rcases hp with hp | hp
    · exact hne (by rw [hp])
    · omega)).trans (h.block i hi hne)⟩
theorem only_of_below {a w : World} (h : Below a.heap.size a w) (row : Option Nat) : a.grownBy w row := ⟨h.os, h.tape, h.output, h.size, fun i hi _ => h.block i hi⟩
theorem only_trans {a b c : World} {g : Nat} (h : a.grownBy b (some g)) (k : b.grownBy c (some g)) : a.grownBy c (some g) :=
  ⟨k.os.trans h.os, k.tape.trans h.tape, k.output.trans h.output, Nat.le_trans h.size k.size, fun i hi hne => (k.block i (Nat.lt_of_lt_of_le hi h.size) hne).trans (h.block i hi hne)⟩

/-- Two ints: a mark, a point. -/
def enc2 (p : Int × Int) : List Value := [.int .i64 p.1, .int .i64 p.2]
theorem enc2_len (p : Int × Int) : (enc2 p).length = 2 := rfl
def enc1 (n : Int) : List Value := [.int .i64 n]
theorem enc1_len (n : Int) : (enc1 n).length = 1 := rfl
def encB (n : UInt8) : List Value := [.int .u8 (n.toNat : Int)]
theorem encB_len (n : UInt8) : (encB n).length = 1 := rfl

/-- A reading: instrument, number, time, value. -/
structure Rdg where
  ins : Int
  num : Int
  tim : Int
  val : Int
  deriving DecidableEq
def encR (r : Rdg) : List Value := [.int .i64 r.ins, .int .i64 r.num, .int .i64 r.tim, .int .i64 r.val]
theorem encR_len (r : Rdg) : (encR r).length = 4 := rfl
/-- A slice of readings as a value, with the list that it reads as. -/
structure Lst where
  A : Option Addr
  n : Nat
  c : Nat
  l : List Rdg
def encL (x : Lst) : List Value := [.slice x.A x.n x.c]
theorem encL_len (x : Lst) : (encL x).length = 1 := rfl

section
variable {w : World} {A : Option Addr} {n : Nat}
theorem Rd.at4 {l : List Rdg} (h : Rd encR 4 w A n l) {i : Nat} (hi : i < n) :
    ∃ b o x, A = some ⟨b, o, none⟩ ∧ b < w.heap.size ∧ l[i]? = some x ∧ w.cell? ⟨b, o + i * 4, none⟩ = some (.int .i64 x.ins) ∧ w.cell? ⟨b, o + i * 4 + 1, none⟩ = some (.int .i64 x.num) ∧
      w.cell? ⟨b, o + i * 4 + 2, none⟩ = some (.int .i64 x.tim) ∧ w.cell? ⟨b, o + i * 4 + 3, none⟩ = some (.int .i64 x.val) := by
  obtain ⟨b, o, x, e, hb, hx, hc⟩ := h.at_ hi
  exact ⟨b, o, x, e, hb, hx, hc 0 _ rfl, hc 1 _ rfl, hc 2 _ rfl, hc 3 _ rfl⟩
theorem Rd.atL {l : List Lst} (h : Rd encL 1 w A n l) {i : Nat} (hi : i < n) :
    ∃ b o x, A = some ⟨b, o, none⟩ ∧ b < w.heap.size ∧ l[i]? = some x ∧ w.cell? ⟨b, o + i, none⟩ = some (.slice x.A x.n x.c) := by
  obtain ⟨b, o, x, e, hb, hx, hc⟩ := h.at_ hi
  exact ⟨b, o, x, e, hb, hx, by simpa using hc 0 _ rfl⟩
theorem Rd.at2 {l : List (Int × Int)} (h : Rd enc2 2 w A n l) {i : Nat} (hi : i < n) :
    ∃ b o x, A = some ⟨b, o, none⟩ ∧ b < w.heap.size ∧ l[i]? = some x ∧ w.cell? ⟨b, o + i * 2, none⟩ = some (.int .i64 x.1) ∧ w.cell? ⟨b, o + i * 2 + 1, none⟩ = some (.int .i64 x.2) := by
  obtain ⟨b, o, x, e, hb, hx, hc⟩ := h.at_ hi
  exact ⟨b, o, x, e, hb, hx, hc 0 _ rfl, hc 1 _ rfl⟩
theorem Rd.at1 {l : List Int} (h : Rd enc1 1 w A n l) {i : Nat} (hi : i < n) :
    ∃ b o x, A = some ⟨b, o, none⟩ ∧ b < w.heap.size ∧ l[i]? = some x ∧ w.cell? ⟨b, o + i, none⟩ = some (.int .i64 x) := by
  obtain ⟨b, o, x, e, hb, hx, hc⟩ := h.at_ hi
  exact ⟨b, o, x, e, hb, hx, by simpa using hc 0 _ rfl⟩
theorem Rd.atB {l : List UInt8} (h : Rd encB 1 w A n l) {i : Nat} (hi : i < n) :
    ∃ b o x, A = some ⟨b, o, none⟩ ∧ b < w.heap.size ∧ l[i]? = some x ∧ w.cell? ⟨b, o + i, none⟩ = some (.int .u8 (x.toNat : Int)) := by
  obtain ⟨b, o, x, e, hb, hx, hc⟩ := h.at_ hi
  exact ⟨b, o, x, e, hb, hx, by simpa using hc 0 _ rfl⟩
end

end Go.Proofs.YtjpobkmlcjbpiaaGreat
