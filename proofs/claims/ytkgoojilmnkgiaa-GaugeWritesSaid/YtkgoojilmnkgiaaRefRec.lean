/- THE CONTRACTS of the reference's Record and Records. -/
import Derived.Test.YtkgoojilmnkgiaaRefBytes
import Derived.Test.YtkgoojilmnkgiaaRefNum
import Derived.Test.YtkgoojilmnkgiaaWrite
import Derived.Deep.DeepCutAuto
namespace Go.Proofs.Ytkgoojilmnkgiaa
open Go.RowKit Go.Proofs

/-- a number of 32 bits, the sign laid round -/
def val32 (z : Int) : Int := if z < 0 then z + 4294967296 else z
theorem byteOf_congr {a b : Int} (h : a % 256 = b % 256) : byteOf a = byteOf b := by unfold byteOf; rw [h]
theorem beB_val32 (z : Int) : beB (val32 z) 4 = beB z 4 := by
  unfold val32; split
  · simp only [beB, Int.reducePow]
    rw [byteOf_congr (show (z + 4294967296) / 16777216 % 256 = z / 16777216 % 256 by omega), byteOf_congr (show (z + 4294967296) / 65536 % 256 = z / 65536 % 256 by omega),
      byteOf_congr (show (z + 4294967296) / 256 % 256 = z / 256 % 256 by omega), byteOf_congr (show (z + 4294967296) / 1 % 256 = z / 1 % 256 by omega)]
  · rfl
theorem b165 : beB 165 1 = [165] := by decide
theorem b90 : beB 90 1 = [90] := by decide
theorem preB_ref (r : Rdg) : beB 165 1 ++ beB r.ins 1 ++ beB r.num 2 ++ beB r.tim 4 ++ beB (val32 r.val) 4 = preB r := by rw [beB_val32, b165]; rfl

theorem rb_c (m : Nat) (mi : Int) (hmi : mi = (m : Int)) (n : Int) (B : List UInt8) (hB : B = beB n m) (w : World) (hm : m ≤ 4) (h0 : 0 ≤ n) (h1 : n ≤ 9223372036854775807) :
    Calls Try.prog 85 #[.int .i64 n, .int .i64 mi] w fun e w' => e = .returned (str B) ∧ Below w.heap.size w w' := by
  subst hmi; subst hB; exact rbytes_c m n w hm h0 h1
theorem ck_take {l : List UInt8} {k : Nat} {x : UInt8} (hx : l[k]? = some x) : ck (l.take (k + 1)) = ckStep (ck (l.take k)) x := by
  rw [List.take_add_one, hx]
  exact ck_snoc _ _

set_option maxRecDepth 100000 in
set_option maxHeartbeats 1000000 in
theorem rrecord_c {r : Rdg} (hv : validB r = true) (w : World) :
    Calls Try.prog 57 #[.agg #[.int .i64 r.ins, .int .i64 r.num, .int .i64 r.tim, .int .i64 r.val]] w fun e w' => e = .returned (str (recB r)) ∧ Below w.heap.size w w' := by
  obtain ⟨⟨a0, a1⟩, ⟨b0, b1⟩, ⟨c0, c1⟩, d0, d1⟩ := validB_iff.1 hv
  have hv0 : 0 ≤ val32 r.val ∧ val32 r.val < 4294967296 := by unfold val32; split <;> omega
  obtain ⟨V, hV⟩ : ∃ V, V = val32 r.val := ⟨_, rfl⟩
  have hP := preB_ref r
  rw [← hV] at hP hv0
  have HV := Lib.hid hV
  clear hV
  obtain ⟨B0, hB0⟩ : ∃ B, B = beB 165 1 := ⟨_, rfl⟩
  obtain ⟨B1, hB1⟩ : ∃ B, B = beB r.ins 1 := ⟨_, rfl⟩
  obtain ⟨B2, hB2⟩ : ∃ B, B = beB r.num 2 := ⟨_, rfl⟩
  obtain ⟨B3, hB3⟩ : ∃ B, B = beB r.tim 4 := ⟨_, rfl⟩
  obtain ⟨B4, hB4⟩ : ∃ B, B = beB V 4 := ⟨_, rfl⟩
  have c0' := Lib.hid (fun W => rb_c 1 1 rfl 165 B0 hB0 W (by omega) (by omega) (by omega))
  have c1' := Lib.hid (fun W => rb_c 1 1 rfl r.ins B1 hB1 W (by omega) a0 (by omega))
  have c2' := Lib.hid (fun W => rb_c 2 2 rfl r.num B2 hB2 W (by omega) b0 (by omega))
  have c3' := Lib.hid (fun W => rb_c 4 4 rfl r.tim B3 hB3 W (by omega) c0 (by omega))
  have c4' := Lib.hid (fun W => rb_c 4 4 rfl V B4 hB4 W (by omega) hv0.1 (by omega))
  rw [← hB0, ← hB1, ← hB2, ← hB3, ← hB4] at hP
  have l0 : B0.length = 1 := by rw [hB0, beB_len]
  have l1 : B1.length = 1 := by rw [hB1, beB_len]
  have l2 : B2.length = 2 := by rw [hB2, beB_len]
  have l3 : B3.length = 4 := by rw [hB3, beB_len]
  have l4 : B4.length = 4 := by rw [hB4, beB_len]
  clear hB0 hB1 hB2 hB3 hB4
  obtain ⟨S1, hS1⟩ : ∃ S, S = B0 ++ B1 := ⟨_, rfl⟩
  obtain ⟨S2, hS2⟩ : ∃ S, S = S1 ++ B2 := ⟨_, rfl⟩
  obtain ⟨S3, hS3⟩ : ∃ S, S = S2 ++ B3 := ⟨_, rfl⟩
  obtain ⟨S4, hS4⟩ : ∃ S, S = S3 ++ B4 := ⟨_, rfl⟩
  rw [← hS1, ← hS2, ← hS3, ← hS4] at hP
  have t1 : S1.length = 2 := by rw [hS1, List.length_append, l0, l1]
  have t2 : S2.length = 4 := by rw [hS2, List.length_append, t1, l2]
  have t3 : S3.length = 8 := by rw [hS3, List.length_append, t2, l3]
  have t4 : S4.length = 12 := by rw [hS4, List.length_append, t3, l4]
  have q1 : ∀ W, (binOp BinOp.add 9 (str B0) (str B1)).run Try.prog W = .ok (str S1) W := fun W => by rw [hS1]; exact add_str _ _ W (by omega)
  have q2 : ∀ W, (binOp BinOp.add 9 (str S1) (str B2)).run Try.prog W = .ok (str S2) W := fun W => by rw [hS2]; exact add_str _ _ W (by omega)
  have q3 : ∀ W, (binOp BinOp.add 9 (str S2) (str B3)).run Try.prog W = .ok (str S3) W := fun W => by rw [hS3]; exact add_str _ _ W (by omega)
  have q4 : ∀ W, (binOp BinOp.add 9 (str S3) (str B4)).run Try.prog W = .ok (str S4) W := fun W => by rw [hS4]; exact add_str _ _ W (by omega)
  clear hS1 hS2 hS3 hS4 l0 l1 l2 l3 l4 t1 t2 t3
  have T4 := Lib.hid t4
  clear t4
  obtain ⟨C, hC⟩ : ∃ C, C = beB (ck S4) 3 := ⟨_, rfl⟩
  obtain ⟨E, hE⟩ : ∃ E, E = beB 90 1 := ⟨_, rfl⟩
  have hck := ck_bd S4
  have c5' := Lib.hid (fun W => rb_c 3 3 rfl (ck S4) C hC W (by omega) hck.1 (by omega))
  have c6' := Lib.hid (fun W => rb_c 1 1 rfl 90 E hE W (by omega) (by omega) (by omega))
  obtain ⟨S5, hS5⟩ : ∃ S, S = S4 ++ C := ⟨_, rfl⟩
  have lC : C.length = 3 := by rw [hC, beB_len]
  have lE : E.length = 1 := by rw [hE, beB_len]
  have l5 : S5.length = 15 := by rw [hS5, List.length_append, T4.out, lC]
  have q5 : ∀ W, (binOp BinOp.add 9 (str S4) (str C)).run Try.prog W = .ok (str S5) W := fun W => by rw [hS5]; exact add_str _ _ W (by have := T4.out; omega)
  have q6 : ∀ W, (binOp BinOp.add 9 (str S5) (str E)).run Try.prog W = .ok (str (recB r)) W := fun W => by
    have h1 : S5 ++ E = recB r := by rw [hS5, hC, hE, b90, recB, hP]
    rw [← h1]; exact add_str _ _ W (by omega)
  clear hS5 hC hE lC lE l5 hck hP hv
  have HB := Lib.hid ((Below.refl _ w).alloc (Nat.le_refl _) (.cells #[.int .i64 r.ins, .int .i64 r.num, .int .i64 r.tim, .int .i64 r.val] 55))
  have HK : Hid (∀ W : World, Below (w.alloc (.cells #[.int .i64 r.ins, .int .i64 r.num, .int .i64 r.tim, .int .i64 r.val] 55)).heap.size (w.alloc (.cells #[.int .i64 r.ins, .int .i64 r.num, .int .i64 r.tim, .int .i64 r.val] 55)) W →
      W.cell? ⟨w.heap.size, 0, none⟩ = some (.int .i64 r.ins) ∧ W.cell? ⟨w.heap.size, 1, none⟩ = some (.int .i64 r.num) ∧ W.cell? ⟨w.heap.size, 2, none⟩ = some (.int .i64 r.tim)) := Lib.hid (fun W hW => by
    have hk := (Blk.new w 55 #[.int .i64 r.ins, .int .i64 r.num, .int .i64 r.tim, .int .i64 r.val]).below hW (by simp)
    exact ⟨hk.cell 0, hk.cell 1, hk.cell 2⟩)
  go_enter Try.func57, Try.ntmps57
  go_upto_if 10 with fail
  go_cut [3] (fun v wx => v = .int .i64 V ∧ wx = w.alloc (.cells #[.int .i64 r.ins, .int .i64 r.num, .int .i64 r.tim, .int .i64 r.val] 55))
  case first =>
    by_cases hn : r.val < 0
    · have hw : IntKind.i64.wrap (r.val + 4294967296) = V := by rw [HV.out, val32, if_pos hn]; exact wi (by omega)
      go_wp2_with fail
      go_meet
      exact ⟨rfl, rfl⟩
    · have hw : r.val = V := by rw [HV.out, val32, if_neg hn]
      have HW := Lib.hid hw; clear hw
      go_wp2_with fail
      go_meet
      exact ⟨by rw [HW.out], rfl⟩
  case rest =>
  obtain ⟨rfl, rfl⟩ := hcut
  obtain ⟨wc, hwc⟩ : ∃ wc : World, wc = w.alloc (.cells #[.int .i64 r.ins, .int .i64 r.num, .int .i64 r.tim, .int .i64 r.val] 55) := ⟨_, rfl⟩
  rw [← hwc] at HB HK ⊢
  clear hwc
  go_wp2_with fail
  go_region_held3 (fun w' => Below wc.heap.size wc w' ∧ w'.cell? ⟨w.heap.size, 0, none⟩ = some (.int .i64 r.ins) ∧ w'.cell? ⟨w.heap.size, 1, none⟩ = some (.int .i64 r.num) ∧ w'.cell? ⟨w.heap.size, 2, none⟩ = some (.int .i64 r.tim))
    (first | exact ⟨Below.refl _ _, HK.out _ (Below.refl _ _)⟩ | exact ⟨(Below.refl _ _).drew, HK.out _ (Below.refl _ _).drew⟩ | assumption)
    ((go_at_call 85; (first | (with_reducible refine (c0'.out _).mono ?_) | (with_reducible refine (c1'.out _).mono ?_) | (with_reducible refine (c2'.out _).mono ?_) | (with_reducible refine (c3'.out _).mono ?_) | (with_reducible refine (c4'.out _).mono ?_)); rintro e w2 ⟨rfl, hb2⟩; have hbb : Below wc.heap.size wc w2 := below_tr (by (first | exact Below.refl _ _ | exact (Below.refl _ _).drew | (exact And.left (by assumption)) | assumption)) hb2; have hbk := And.intro hbb (HK.out _ hbb)))
  have HB2 := Lib.hid (below_tr HB.out hbb)
  clear hbk hb2 hbb c0' c1' c2' c3' c4' q1 q2 q3 q4 HK HB
  go_wp2_with fail
  rw [show str S4 = Value.string ⟨S4.toArray⟩ from rfl] at q5 ⊢
  go_loop [5, 6] (fun v i => ∃ k : Nat, k ≤ 12 ∧ i = .int .i64 k ∧ v = .int .i64 (ck (S4.take k))) (fun _ i => 12 - (intOf i).toNat)
  case atStart => exact ⟨0, Nat.zero_le _, rfl, rfl⟩
  case round =>
    obtain ⟨k, hk, rfl, rfl⟩ := hrel
    by_cases hlt : k < 12
    · obtain ⟨x, hx⟩ := get_of_lt (show k < S4.length by rw [T4.out]; exact hlt)
      have hn := ck_take hx
      have hb := ck_bd (S4.take k)
      have hxl := x.toNat_lt
      have HN := Lib.hid hn
      clear hn
      generalize ck (S4.take k) = q at *
      have k1 : (k : Int) < 12 := by omega
      have k2 : (k : Int) < (S4.length : Int) := by rw [T4.out]; omega
      have k0 : (0 : Int) ≤ (k : Int) := by omega
      have w1 : IntKind.i64.wrap (257 * q) = 257 * q := wi (by omega)
      have w2 : IntKind.i64.wrap (x.toNat : Int) = (x.toNat : Int) := wi (by omega)
      have w3 : IntKind.i64.wrap (257 * q + (x.toNat : Int)) = 257 * q + (x.toNat : Int) := wi (by omega)
      have w4 : IntKind.i64.wrap (257 * q + (x.toNat : Int) + 1) = 257 * q + (x.toNat : Int) + 1 := wi (by omega)
      go_wp2
      go_round
      case rel =>
        have hxx : S4[k]'(by rw [T4.out]; exact hlt) = x := by rw [List.getElem?_eq_getElem (by rw [T4.out]; exact hlt)] at hx; exact Option.some.inj hx
        refine ⟨k + 1, by omega, by go_num, ?_⟩
        rw [HN.out]
        show Value.int .i64 ((wrap64 (wrap64 (257 * q + wrap64 (((S4[k]'(by rw [T4.out]; exact hlt)).toNat : Nat) : Int)) + 1)).tmod 16777213) = _
        rw [hxx]
        congr 1
        have e1 : wrap64 (wrap64 (257 * q + wrap64 (x.toNat : Int)) + 1) = 257 * q + (x.toNat : Int) + 1 := by unfold wrap64; omega
        rw [e1, Int.tmod_eq_emod_of_nonneg (by omega)]
        rfl
      case measure => simp [intOf] <;> omega
    · obtain rfl : k = 12 := by omega
      rw [List.take_of_length_le (by rw [T4.out]; exact Nat.le_refl _)]
      go_wp2_with fail
      refine (c5'.out _).mono ?_
      rintro e w3 ⟨rfl, hb3⟩
      have HB3 := Lib.hid (below_tr HB2.out hb3)
      clear hb3
      go_wp2_with fail
      refine (c6'.out _).mono ?_
      rintro e w4 ⟨rfl, hb4⟩
      have HB4 := Lib.hid (below_tr HB3.out hb4)
      clear hb4
      go_wp2_with fail
      go_ret
      exact ⟨rfl, HB4.out⟩

theorem bytesOf_take {l : List Rdg} {k : Nat} {x : Rdg} (hx : l[k]? = some x) : bytesOf (l.take (k + 1)) = bytesOf (l.take k) ++ recB x := by
  rw [List.take_add_one, hx]; simp [bytesOf]

set_option maxRecDepth 100000 in
set_option maxHeartbeats 1000000 in
theorem rrecords_c {l : List Rdg} {A : Option Addr} {n c : Nat} {w : World} (h : Rd encR 4 w A n l) (hn : n ≤ 10000) (hv : allB validB l = true) :
    Calls Try.prog 21 #[.slice A n c] w fun e w' => e = .returned (str (bytesOf l)) ∧ Below w.heap.size w w' := by
  have hl := h.len
  have HL := Lib.hid hl
  have HV := Lib.hid (fun i x hx => (allB_iff.1 hv) i x hx)
  clear hl hv
  go_enter Try.func21, Try.ntmps21
  go_wp2_with fail
  go_loopw [3, 4] (fun v i wr => ∃ k : Nat, k ≤ n ∧ i = .int .i64 k ∧ v = str (bytesOf (l.take k)) ∧ Below w.heap.size w wr) (fun _ i _ => n - (intOf i).toNat)
  case atStart => exact ⟨0, Nat.zero_le _, rfl, rfl, Below.refl _ _⟩
  case round =>
    obtain ⟨k, hk, rfl, rfl, hb⟩ := hrel
    have HB := Lib.hid hb
    by_cases hlt : k < n
    · obtain ⟨b, o, x, hA, hbl, hx, x0, x1, x2, x3⟩ := (h.below hb).at4 hlt
      subst hA
      clear hb
      have HX := Lib.hid hx; clear hx
      have HR := Lib.hid (fun W => rrecord_c (HV.out k x HX.out) W)
      have HT := Lib.hid (bytesOf_take HX.out)
      have hlen : (bytesOf (l.take k)).length = k * 16 := by rw [bytesOf_len, List.length_take, HL.out]; congr 1; omega
      obtain ⟨S, hS⟩ : ∃ S, S = bytesOf (l.take k) := ⟨_, rfl⟩
      rw [← hS] at hlen HT ⊢
      clear hS
      have hadd : ∀ W, (binOp BinOp.add 9 (str S) (str (recB x))).run Try.prog W = .ok (str (S ++ recB x)) W := fun W => add_str _ _ W (by rw [hlen, recB_len]; omega)
      obtain ⟨S', hS'⟩ : ∃ S', S' = S ++ recB x := ⟨_, rfl⟩
      rw [← hS'] at hadd HT
      clear hlen hS'
      have hkn : (k : Int) < (n : Int) := by omega
      go_wp2_with fail
      refine (HR.out _).mono ?_
      rintro e w2 ⟨rfl, hb2⟩
      have HB2 := Lib.hid (below_tr HB.out hb2)
      clear hb2
      go_wp2_with fail
      go_roundw
      case rel => exact ⟨k + 1, by omega, by go_num, by rw [HT.out], HB2.out⟩
      case measure => simp [intOf] <;> omega
    · obtain rfl : k = n := by omega
      rw [List.take_of_length_le (by rw [HL.out]; exact Nat.le_refl _)]
      go_wp2_with fail
      go_ret
      exact ⟨rfl, HB.out⟩
end Go.Proofs.Ytkgoojilmnkgiaa
