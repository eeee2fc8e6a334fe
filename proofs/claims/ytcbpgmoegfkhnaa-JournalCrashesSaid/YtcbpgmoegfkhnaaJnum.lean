/- Numbers as bytes: plain laws. -/
import Derived.Test.YtcbpgmoegfkhnaaOwnDisk
import Derived.IntWalk
namespace Go.Proofs.Ytcbpgmoegfkhnaa
set_option linter.unusedVariables false
open Go.RowKit

/-- the number that the first k bytes denote; bytes that are missing are zeros -/
def valI (l : List UInt8) : Nat → Int
  | 0 => 0
  | k + 1 => if k < l.length then bits .or .i64 (wrap64 (valI l k * 256)) (wrap64 ((l.getD k 0).toNat : Int)) else wrap64 (valI l k * 256)

theorem valI_in (l : List UInt8) {k : Nat} (h : k < l.length) : valI l (k + 1) = bits .or .i64 (wrap64 (valI l k * 256)) (wrap64 (l[k].toNat : Int)) := by
  simp [valI, h, List.getD]
theorem valI_out (l : List UInt8) {k : Nat} (h : ¬ k < l.length) : valI l (k + 1) = wrap64 (valI l k * 256) := by
  simp [valI, h]

/-- the last k bytes of a number, the most significant one first -/
def numL (n : Nat) : Nat → List UInt8
  | 0 => []
  | k + 1 => UInt8.ofNat (n / 256 ^ k % 256) :: numL n k
theorem numL_length (n : Nat) : ∀ k, (numL n k).length = k
  | 0 => rfl
  | k + 1 => by simp [numL, numL_length n k]

theorem ofInt64 (a : Nat) (ha : a < 18446744073709551616) : (BitVec.ofInt 64 (a : Int)).toNat = a := by
  rw [BitVec.ofInt_natCast, BitVec.toNat_ofNat]; exact Nat.mod_eq_of_lt (by omega)
theorem wrap_small (n : Nat) (h : n < 9223372036854775808) : wrap64 (n : Int) = n := by unfold wrap64; omega
theorem or_low (m b : Nat) (hm : m * 256 + b < 9223372036854775808) (hb : b < 256) : bits .or .i64 (wrap64 ((m : Int) * 256)) (wrap64 (b : Int)) = ((m * 256 + b : Nat) : Int) := by
  have hm2 : m * 256 < 9223372036854775808 := Nat.lt_of_le_of_lt (Nat.le_add_right _ _) hm
  have e1 : wrap64 ((m : Int) * 256) = ((m * 256 : Nat) : Int) := by
    rw [show ((m : Int) * 256) = ((m * 256 : Nat) : Int) by omega]
    exact wrap_small (m * 256) hm2
  have e2 : wrap64 (b : Int) = (b : Int) := wrap_small b (by omega)
  have e3 : m * 256 ||| b = m * 256 + b := by
    have := Nat.shiftLeft_add_eq_or_of_lt (show b < 2 ^ 8 from hb) m
    rw [Nat.shiftLeft_eq] at this
    exact this.symm
  rw [e1, e2]
  show IntKind.i64.wrap ((BitVec.ofInt 64 ((m * 256 : Nat) : Int) ||| BitVec.ofInt 64 (b : Int)).toNat : Int) = _
  rw [BitVec.toNat_or, ofInt64 (m * 256) (Nat.lt_trans hm2 (by decide)), ofInt64 b (Nat.lt_trans hb (by decide)), e3]
  have := wrap_small (m * 256 + b) hm
  rw [← IntWalk.i64_left] at this
  exact this
theorem or_zero_ (x : Int) : bits .or .i64 (wrap64 x) (wrap64 0) = wrap64 x := by
  have e2 : wrap64 0 = 0 := by unfold wrap64; omega
  rw [e2]
  show IntKind.i64.wrap ((BitVec.ofInt 64 (wrap64 x) ||| BitVec.ofInt 64 0).toNat : Int) = _
  have e0 : BitVec.ofInt 64 0 = 0#64 := by decide
  rw [e0, BitVec.or_zero, BitVec.toNat_ofInt, IntKind.wrap_i64]
  unfold wrap64
  omega

theorem valI_step (l : List UInt8) (k : Nat) : valI l (k + 1) = bits .or .i64 (wrap64 (valI l k * 256)) (wrap64 ((l.getD k 0).toNat : Int)) := by
  by_cases h : k < l.length
  · simp [valI, h]
  · rw [valI_out l h]
    have : l.getD k 0 = 0 := by simp [List.getD, List.getElem?_eq_none (Nat.le_of_not_lt h)]
    rw [this]
    exact (or_zero_ _).symm
theorem valI_congr {l l' : List UInt8} : ∀ {k : Nat}, (∀ i, i < k → l'.getD i 0 = l.getD i 0) → valI l' k = valI l k
  | 0, _ => rfl
  | k + 1, h => by rw [valI_step, valI_step, valI_congr (k := k) (fun i hi => h i (by omega)), h k (by omega)]
theorem valI_nil (k : Nat) : valI [] k = 0 := by
  induction k with
  | zero => rfl
  | succ k ih => rw [valI_out _ (by simp), ih]; unfold wrap64; omega

/-- the same number, not wrapped -/
def valN (l : List UInt8) : Nat → Nat
  | 0 => 0
  | k + 1 => valN l k * 256 + (l.getD k 0).toNat
theorem valN_lt (l : List UInt8) : ∀ k, valN l k < 256 ^ k
  | 0 => by simp [valN]
  | k + 1 => by
    have h1 := valN_lt l k
    have h2 : (l.getD k 0).toNat < 256 := UInt8.toNat_lt _
    simp only [valN, Nat.pow_succ]
    have : valN l k * 256 + 256 ≤ 256 ^ k * 256 := by
      have := Nat.mul_le_mul_right 256 h1
      omega
    omega
theorem valI_eq (l : List UInt8) : ∀ k, valN l k < 9223372036854775808 → valI l k = valN l k
  | 0, _ => rfl
  | k + 1, h => by
    simp only [valN] at h ⊢
    have h2 : (l.getD k 0).toNat < 256 := UInt8.toNat_lt _
    rw [valI_step, valI_eq l k (by omega), or_low _ _ h h2]
theorem valI_four (l : List UInt8) : 0 ≤ valI l 4 ∧ valI l 4 < 4294967296 := by
  have := valN_lt l 4
  rw [valI_eq l 4 (by omega)]
  omega
theorem numL_getD (n : Nat) : ∀ (k i : Nat) (r : List UInt8), i < k → (numL n k ++ r).getD i 0 = UInt8.ofNat (n / 256 ^ (k - 1 - i) % 256)
  | 0, i, _, h => by omega
  | k + 1, 0, _, _ => by simp [numL]
  | k + 1, i + 1, r, h => by
    have := numL_getD n k i r (by omega)
    simp only [numL, List.cons_append]
    rw [show (k + 1 - 1 - (i + 1)) = k - 1 - i by omega]
    simpa using this
theorem valN_num (n k : Nat) (r : List UInt8) (i : Nat) (h : i ≤ k) : valN (numL n k ++ r) i = n % 256 ^ k / 256 ^ (k - i) := by
  induction i with
  | zero => simp [valN, Nat.div_eq_of_lt (Nat.mod_lt n (Nat.pow_pos (by decide : 0 < 256)))]
  | succ i ih =>
    simp only [valN]
    rw [ih (by omega), numL_getD n k i r (by omega)]
    have hk : k - i = k - (i + 1) + 1 := by omega
    have hk2 : k - 1 - i = k - (i + 1) := by omega
    rw [hk, hk2, UInt8.toNat_ofNat']
    generalize hj : k - (i + 1) = j
    have h1 : n % 256 ^ k / 256 ^ (j + 1) = n % 256 ^ k / 256 ^ j / 256 := by rw [Nat.pow_succ, Nat.div_div_eq_div_mul]
    have h2 : n / 256 ^ j % 256 = n % 256 ^ k / 256 ^ j % 256 := by
      obtain ⟨d, rfl⟩ : ∃ d, k = j + 1 + d := ⟨k - (j + 1), by omega⟩
      rw [show (256 : Nat) ^ (j + 1 + d) = 256 ^ j * (256 * 256 ^ d) by rw [Nat.pow_add, Nat.pow_succ, Nat.mul_assoc], Nat.mod_mul_right_div_self]
      rw [Nat.mod_mul_right_mod]
    rw [h1, h2]
    omega
theorem valI_num (n k : Nat) (r : List UInt8) (h : n < 256 ^ k) (h63 : n < 9223372036854775808) : valI (numL n k ++ r) k = n := by
  have h1 := valN_num n k r k (Nat.le_refl _)
  simp only [Nat.sub_self, Nat.pow_zero, Nat.div_one, Nat.mod_eq_of_lt h] at h1
  rw [valI_eq _ _ (by omega), h1]
end Go.Proofs.Ytcbpgmoegfkhnaa
