/- PLAIN LAWS of bytes: a number's bytes, a record's bytes and its check. No program in sight. -/
import Derived.Test.YtkgoojilmnkgiaaVoc
namespace Go.Proofs.Ytkgoojilmnkgiaa

/-- the byte of a number -/
def byteOf (z : Int) : UInt8 := UInt8.ofNat (z % 256).toNat
theorem byteOf_toNat (z : Int) : ((byteOf z).toNat : Int) = z % 256 := by
  have h : (z % 256).toNat < 256 := by omega
  simp only [byteOf, UInt8.toNat_ofNat']
  omega
/-- a number in so many bytes, the greatest first -/
def beB (n : Int) : Nat → List UInt8
  | 0 => []
  | m + 1 => byteOf (n / 256 ^ m) :: beB n m
theorem beB_len (n : Int) : ∀ m, (beB n m).length = m
  | 0 => rfl
  | m + 1 => by simp [beB, beB_len n m]
theorem beB_succ (n : Int) (m : Nat) : beB n (m + 1) = byteOf (n / 256 ^ m) :: beB n m := rfl

def ckStep (c : Int) (b : UInt8) : Int := (257 * c + (b.toNat : Int) + 1) % 16777213
def ck (l : List UInt8) : Int := l.foldl ckStep 1
theorem ckStep_bd (c : Int) (b : UInt8) : 0 ≤ ckStep c b ∧ ckStep c b < 16777213 := by
  unfold ckStep; exact ⟨Int.emod_nonneg _ (by omega), Int.emod_lt_of_pos _ (by omega)⟩
theorem ck_bd_aux : ∀ (l : List UInt8) (c : Int), 0 ≤ c → c < 16777213 → 0 ≤ l.foldl ckStep c ∧ l.foldl ckStep c < 16777213
  | [], c, h, h' => ⟨h, h'⟩
  | b :: l, c, _, _ => by
    simp only [List.foldl_cons]
    exact ck_bd_aux l _ (ckStep_bd c b).1 (ckStep_bd c b).2
theorem ck_bd (l : List UInt8) : 0 ≤ ck l ∧ ck l < 16777213 := ck_bd_aux l 1 (by omega) (by omega)
theorem ck_snoc (l : List UInt8) (b : UInt8) : ck (l ++ [b]) = ckStep (ck l) b := by simp [ck]

def preB (r : Rdg) : List UInt8 := [165] ++ beB r.ins 1 ++ beB r.num 2 ++ beB r.tim 4 ++ beB r.val 4
theorem preB_len (r : Rdg) : (preB r).length = 12 := by simp [preB, beB_len]
/-- the record of a reading -/
def recB (r : Rdg) : List UInt8 := preB r ++ beB (ck (preB r)) 3 ++ [90]
theorem recB_len (r : Rdg) : (recB r).length = 16 := by simp [recB, preB_len, beB_len]

/-- A byte set at the end of what is written. -/
theorem take_set_snoc {bs : List UInt8} {i : Nat} {b : UInt8} (h : i < bs.length) : (bs.set i b).take (i + 1) = bs.take i ++ [b] := by
  rw [List.take_succ_eq_append_getElem (by simpa using h)]
  simp [List.take_set_of_le]

/-- The cells of a writer: its bytes, and where it is. -/
def w17 (bs : List UInt8) (i : Nat) : Array Value := (bs.map (fun (b : UInt8) => Value.int .u8 (b.toNat : Int)) ++ [Value.int .i64 (i : Int)]).toArray
theorem w17_byte {bs : List UInt8} {i j : Nat} (hj : j < bs.length) : (w17 bs i)[j]? = some (.int .u8 ((bs[j]'hj).toNat : Int)) := by
  simp [w17, List.getElem?_append_left, hj]
theorem w17_at {bs : List UInt8} {i : Nat} (h : bs.length = 16) : (w17 bs i)[16]? = some (.int .i64 (i : Int)) := by
  simp only [w17, List.getElem?_toArray]
  rw [List.getElem?_append_right (by simp [h])]
  simp [h]
theorem w17_set {bs : List UInt8} {i j : Nat} (b : UInt8) (hj : j < bs.length) : (w17 bs i).setIfInBounds j (.int .u8 (b.toNat : Int)) = w17 (bs.set j b) i := by
  simp only [w17, List.setIfInBounds_toArray]
  rw [List.set_append_left _ _ (by simpa using hj), List.map_set]
theorem w17_move {bs : List UInt8} {i : Nat} (k : Nat) (h : bs.length = 16) : (w17 bs i).setIfInBounds 16 (.int .i64 (k : Int)) = w17 bs k := by
  simp only [w17, List.setIfInBounds_toArray]
  rw [List.set_append_right _ _ (by simp [h])]
  simp [h]
end Go.Proofs.Ytkgoojilmnkgiaa
