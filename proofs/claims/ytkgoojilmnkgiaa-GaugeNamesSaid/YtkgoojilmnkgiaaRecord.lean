/- THE CONTRACT of Reading.record: the sixteen bytes of a reading. -/
import Derived.Test.YtkgoojilmnkgiaaPut
import Derived.Deep.MidRow
namespace Go.Proofs.Ytkgoojilmnkgiaa
open Go.RowKit Go.Proofs

theorem below_setCells (cs : List Value) : ∀ (o : Nat) (w' : World) {B g : Nat} {w : World}, Below B w w' → B ≤ g → Below B w (w'.setCells g o cs) := by
  induction cs with
  | nil => intro o w' B g w h hg; exact h
  | cons v cs ih => intro o w' B g w h hg; exact ih _ _ (h.setCell (p := ⟨g, o, none⟩) hg v) hg

theorem results_cell {fn : Func} {p : Tmp} {ty : TypeId} (h : fn.results = #[.cell p ty]) (tmps : Array Value) (P : Program) (w : World) :
    (results fn tmps).run P w = (do loadVar ty (← asAddr (tmps.getD p undef))).run P w := by
  simp only [results, h]
  simp
theorem results_ptr {ty : TypeId} {u v : Value} {a : Addr} {P : Program} {w : World} (hu : u = .pointer (some a)) (hl : (loadVar ty a).run P w = .ok v w) :
    (do loadVar ty (← asAddr u) : Sem Value).run P w = .ok v w := by
  subst hu
  simp only [asAddr, Sem.run_bind, Sem.run_pure, Result.andThen_ok, hl]

def zero16 : List UInt8 := List.replicate 16 0
def cellsB (l : List UInt8) : Array Value := (l.map (fun (b : UInt8) => Value.int .u8 (b.toNat : Int))).toArray

/-- The worlds in the course of record: the boxed parameter, the result, the writer with what is written. -/
structure RecSt (w0 w : World) (r : Rdg) (done : List UInt8) (i : Nat) : Prop where
  par : Blk w w0.heap.size 53 #[.int .i64 r.ins, .int .i64 r.num, .int .i64 r.tim, .int .i64 r.val]
  res : Blk w (w0.heap.size + 1) 105 (cellsB zero16)
  wri : ∃ bs : List UInt8, bs.length = 16 ∧ bs.take i = done ∧ Blk w (w0.heap.size + 1 + 1) 145 (w17 bs i)
  below : Below w0.heap.size w0 w

theorem RecSt.cells {w0 w : World} {r : Rdg} {done : List UInt8} {i : Nat} (h : RecSt w0 w r done i) :
    w.cell? ⟨w0.heap.size, 0, none⟩ = some (.int .i64 r.ins) ∧ w.cell? ⟨w0.heap.size, 1, none⟩ = some (.int .i64 r.num) ∧ w.cell? ⟨w0.heap.size, 2, none⟩ = some (.int .i64 r.tim) ∧ w.cell? ⟨w0.heap.size, 3, none⟩ = some (.int .i64 r.val) := by
  refine ⟨?_, ?_, ?_, ?_⟩ <;> rw [h.par.cell] <;> rfl

theorem put_st {w0 w : World} {r : Rdg} {done : List UInt8} {i : Nat} (h : RecSt w0 w r done i) (n : Int) (m : Nat) (mi : Int) (hmi : mi = (m : Int)) (hm : i + m ≤ 16) (h4 : m ≤ 4) :
    Calls Try.prog 84 #[.pointer (some ⟨w0.heap.size + 1 + 1, 0, none⟩), .int .i64 n, .int .i64 mi] w fun e w' => e = .returned (.tuple #[]) ∧ RecSt w0 w' r (done ++ beB n m) (i + m) := by
  subst hmi
  obtain ⟨bs, hl, ht, hb⟩ := h.wri
  refine (put_c _ i m n bs w hb hl hm h4).mono fun e w' ⟨he, ⟨bs', hl', ht', hb'⟩, hg⟩ => ⟨he, ?_, ?_, ⟨bs', hl', by rw [ht', ht], hb'⟩, ?_⟩
  · exact h.par.grown hg (by simp; omega)
  · exact h.res.grown hg (by simp)
  · exact h.below.grown hg h.below.size (fun k hk => by cases hk; omega)

set_option maxRecDepth 100000 in
set_option maxHeartbeats 400000 in
theorem record_c (r : Rdg) (w : World) :
    Calls Try.prog 55 #[.agg #[.int .i64 r.ins, .int .i64 r.num, .int .i64 r.tim, .int .i64 r.val]] w fun e w' => e = .returned (.agg (cellsB (recB r))) ∧ Below w.heap.size w w' := by
  go_enter Try.func55, Try.ntmps55
  go_wp2_with fail
  obtain ⟨W, hW⟩ : ∃ W : World, W = ((w.alloc (.cells #[.int .i64 r.ins, .int .i64 r.num, .int .i64 r.tim, .int .i64 r.val] 53)).alloc (.cells (cellsB zero16) 105)).alloc (.cells (w17 zero16 0) 145) := ⟨_, rfl⟩
  have st0 : RecSt w W r [] 0 := by
    subst hW
    refine ⟨?_, ?_, ⟨zero16, rfl, rfl, ?_⟩, ?_⟩
    · exact ((Blk.new w _ _).alloc _).alloc _
    · have := (Blk.new (w.alloc (.cells #[.int .i64 r.ins, .int .i64 r.num, .int .i64 r.tim, .int .i64 r.val] 53)) 105 (cellsB zero16)).alloc (.cells (w17 zero16 0) 145)
      simpa using this
    · have := Blk.new ((w.alloc (.cells #[.int .i64 r.ins, .int .i64 r.num, .int .i64 r.tim, .int .i64 r.val] 53)).alloc (.cells (cellsB zero16) 105)) 145 (w17 zero16 0)
      simpa using this
    · exact (((Below.refl _ _).alloc (Nat.le_refl _) _).alloc (by simp) _).alloc (by simp; omega) _
  have hWW : W = ((w.alloc (.cells #[.int .i64 r.ins, .int .i64 r.num, .int .i64 r.tim, .int .i64 r.val] 53)).alloc (.cells #[.int .u8 0, .int .u8 0, .int .u8 0, .int .u8 0, .int .u8 0, .int .u8 0, .int .u8 0, .int .u8 0, .int .u8 0, .int .u8 0, .int .u8 0, .int .u8 0, .int .u8 0, .int .u8 0, .int .u8 0, .int .u8 0] 105)).alloc (.cells #[.int .u8 0, .int .u8 0, .int .u8 0, .int .u8 0, .int .u8 0, .int .u8 0, .int .u8 0, .int .u8 0, .int .u8 0, .int .u8 0, .int .u8 0, .int .u8 0, .int .u8 0, .int .u8 0, .int .u8 0, .int .u8 0, .int .i64 0] 145) := hW
  rw [← hWW]
  clear hWW hW
  refine (put_st st0 165 1 1 rfl (by omega) (by omega)).mono ?_
  rintro e w1 ⟨rfl, st1⟩
  obtain ⟨c0, c1, c2, c3⟩ := st1.cells
  go_wp2_with fail
  refine (put_st st1 _ 1 1 rfl (by omega) (by omega)).mono ?_
  rintro e w2 ⟨rfl, st2⟩
  obtain ⟨c0, c1, c2, c3⟩ := st2.cells
  go_wp2_with fail
  refine (put_st st2 _ 2 2 rfl (by omega) (by omega)).mono ?_
  rintro e w3 ⟨rfl, st3⟩
  obtain ⟨c0, c1, c2, c3⟩ := st3.cells
  go_wp2_with fail
  refine (put_st st3 _ 4 4 rfl (by omega) (by omega)).mono ?_
  rintro e w4 ⟨rfl, st4⟩
  obtain ⟨c0, c1, c2, c3⟩ := st4.cells
  go_wp2_with fail
  refine (put_st st4 _ 4 4 rfl (by omega) (by omega)).mono ?_
  rintro e w5 ⟨rfl, st5⟩
  obtain ⟨c0, c1, c2, c3⟩ := st5.cells
  have hpre : [] ++ beB 165 1 ++ beB r.ins 1 ++ beB r.num 2 ++ beB r.tim 4 ++ beB r.val 4 = preB r := rfl
  rw [hpre] at st5
  clear hpre
  obtain ⟨bs, hl, ht, hbk⟩ := st5.wri
  have hbyte : ∀ k : Nat, k < 12 → ∃ b : UInt8, (preB r)[k]? = some b ∧ w5.cell? ⟨w.heap.size + 1 + 1, k, none⟩ = some (.int .u8 (b.toNat : Int)) := by
    intro k hk
    have h1 : (preB r)[k]? = some (bs[k]'(by omega)) := by
      rw [← ht, List.getElem?_take_of_lt (by omega)]; exact List.getElem?_eq_getElem _
    exact ⟨_, h1, by rw [hbk.cell]; exact w17_byte _⟩
  have HB := Lib.hid hbyte; clear hbyte hl ht hbk
  go_wp2_with fail
  go_loop [5, 35] (fun cv i => ∃ (k : Nat) (c : Int), k ≤ 12 ∧ i = .int .i64 k ∧ cv = .int .i64 c ∧ 0 ≤ c ∧ c < 16777213 ∧ c = ck ((preB r).take k)) (fun _ i => 12 - (intOf i).toNat)
  case atStart => exact ⟨0, 1, by omega, rfl, rfl, by omega, by omega, rfl⟩
  case round =>
    obtain ⟨k, c, hk, rfl, rfl, hc0, hc1, hce⟩ := hrel
    have HC := Lib.hid hce; clear hce
    by_cases hlt : k < 12
    · obtain ⟨b, hb, hcell⟩ := HB.out k hlt
      have HX := Lib.hid hb; clear hb
      have hb1 : (b.toNat : Int) ≤ 255 := by have := b.toNat_lt; omega
      have hb0 : (0 : Int) ≤ (b.toNat : Int) := by omega
      go_wp2
      go_round
      case rel => exact ⟨k + 1, (257 * c + (b.toNat : Int) + 1) % 16777213, by omega, by go_num, rfl, Int.emod_nonneg _ (by omega), Int.emod_lt_of_pos _ (by omega), by
        rw [List.take_add_one, HX.out, HC.out]; exact (ck_snoc _ _).symm⟩
      case measure => simp [intOf] <;> omega
    · obtain rfl : k = 12 := by omega
      have hce : c = ck (preB r) := by rw [HC.out, List.take_of_length_le (by rw [preB_len]; exact Nat.le_refl _)]
      have HCE := Lib.hid hce; clear hce HC HB
      go_wp2_with fail
      refine (put_st st5 c 3 3 rfl (by omega) (by omega)).mono ?_
      rintro e w6 ⟨rfl, st6⟩
      go_wp2_with fail
      refine (put_st st6 90 1 1 rfl (by omega) (by omega)).mono ?_
      rintro e w7 ⟨rfl, st7⟩
      obtain ⟨cs, hcs⟩ : ∃ cs : List Value, cs = (cellsB (recB r)).toList := ⟨_, rfl⟩
      have hlen : cs.length = 16 := by rw [hcs]; simp [cellsB, recB_len]
      have hrange : w7.rangeAt (w.heap.size + 1 + 1) 0 cs := by
        obtain ⟨bs, hl, ht, hbk⟩ := st7.wri
        intro j v hv
        have hbs : bs = recB r := by
          have h16 : bs.take 16 = bs := List.take_of_length_le (by omega)
          rw [← h16]
          have : bs.take (0 + 1 + 1 + 2 + 4 + 4 + 3 + 1) = bs.take 16 := rfl
          rw [← this, ht, HCE.out]
          rfl
        rw [hcs, hbs.symm] at hv
        have hj : j < bs.length := by have := (List.getElem?_eq_some_iff.1 hv).1; simpa [cellsB] using this
        rw [Nat.zero_add, hbk.cell, w17_byte hj]
        simp [cellsB, hj] at hv
        rw [hv]
      have hthere : w7.there (w.heap.size + 1) 0 cs.toArray.size := by
        intro j hj
        have hj16 : j < 16 := by simpa [hlen] using hj
        rw [Nat.zero_add]
        refine ⟨?_, st7.res.frozen j⟩
        rw [st7.res.cell]
        simp [cellsB, zero16, hj16]
      have hone : cs.toArray.all (·.oneCell') = true := by
        rw [hcs]; simp [cellsB]; intros; rfl
      have hsz1 : (Try.prog.info? 105).map (·.size) = some cs.length := by rw [hlen]; kernel_rfl
      have hsz2 : (Try.prog.info? 105).map (·.size) = some cs.toArray.size := by rw [List.size_toArray]; exact hsz1
      have H1 := Lib.hid hrange; have H2 := Lib.hid hthere; have H3 := Lib.hid hone; have H4 := Lib.hid hsz1; have H5 := Lib.hid hsz2; have H6 := Lib.hid hcs; have H7 := Lib.hid hlen
      clear hrange hthere hone hsz1 hsz2 hcs hlen
      go_wp2_with (first | (refine wpList_load_mid rfl 105 (.tmp 54) rfl (w.heap.size + 1 + 1) 0 rfl cs _ H1.out Try.underlying105 rfl H4.out ?_) | (refine wpList_store_mid rfl 105 (.tmp 2) (.tmp 55) rfl (w.heap.size + 1) 0 cs.toArray rfl rfl H2.out H5.out H3.out ?_))
      have hld : ∀ K : Nat, (loadVar 105 ⟨w.heap.size + 1, 0, none⟩).run Try.prog (w7.setCells (w.heap.size + 1) 0 cs) = .ok (.agg cs.toArray) (w7.setCells (w.heap.size + 1) 0 cs) := fun _ =>
        run_loadVar_mid _ _ _ _ cs _ (World.rangeAt_setCells_same w7 (w.heap.size + 1) 0 cs (by simpa using H2.out)) Try.underlying105 rfl H4.out
      refine bodyPost_ret (v := .agg cs.toArray) ?_ rfl ⟨by rw [H6.out], ?_⟩
      · rw [results_cell Try.results55]
        exact results_ptr rfl (hld 0)
      · exact below_setCells _ _ _ st7.below (by omega)
end Go.Proofs.Ytkgoojilmnkgiaa
