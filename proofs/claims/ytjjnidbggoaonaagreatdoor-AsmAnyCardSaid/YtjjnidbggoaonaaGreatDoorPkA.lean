/- Numbers of bytes, the highest first: plainly. -/
import Derived.Test.YtjjnidbggoaonaaGreatDoorRow
import Derived.Test.YtjjnidbggoaonaaGreatDoorArgs
import Derived.Test.YtjjnidbggoaonaaGreatDoorBits
import Derived.IntWalk
namespace Go.Proofs.YtjjnidbggoaonaaGreatDoor
open Go.RowKit

/-- The number of the first k bytes, the highest first. -/
def beN (B : Nat → Int) : Nat → Int
  | 0 => 0
  | k + 1 => beN B k * 256 + B k
theorem beN_nonneg (B : Nat → Int) (hB : ∀ j, 0 ≤ B j ∧ B j ≤ 255) (k : Nat) : 0 ≤ beN B k := by
  induction k with
  | zero => simp [beN]
  | succ k ih => have := hB k; unfold beN; omega
theorem beN_lt (B : Nat → Int) (hB : ∀ j, 0 ≤ B j ∧ B j ≤ 255) (k : Nat) : beN B k < 256 ^ k := by
  induction k with
  | zero => simp [beN]
  | succ k ih => have := hB k; unfold beN; rw [Int.pow_succ]; omega
theorem beN_congr (B C : Nat → Int) (k : Nat) (h : ∀ j, j < k → B j = C j) : beN B k = beN C k := by
  induction k with
  | zero => rfl
  | succ k ih => unfold beN; rw [ih (fun j hj => h j (by omega)), h k (by omega)]
/-- What a step of the sum may be: below 2^64 while there are at most eight. -/
theorem beN_bd (B : Nat → Int) (hB : ∀ j, 0 ≤ B j ∧ B j ≤ 255) (k : Nat) (h : k < 8) : 0 ≤ beN B k ∧ beN B k ≤ 72057594037927935 := by
  refine ⟨beN_nonneg B hB k, ?_⟩
  have h1 := beN_lt B hB k
  have h2 : (256 : Int) ^ k ≤ 256 ^ 7 := by
    have e := Int.ofNat_le.2 (Nat.pow_le_pow_right (n := 256) (i := k) (j := 7) (by omega) (by omega))
    rw [Int.natCast_pow, Int.natCast_pow] at e; exact e
  have h3 : (256 : Int) ^ 7 = 72057594037927936 := by decide
  omega
theorem beN_bd8 (B : Nat → Int) (hB : ∀ j, 0 ≤ B j ∧ B j ≤ 255) (k : Nat) (h : k ≤ 8) : 0 ≤ beN B k ∧ beN B k ≤ 18446744073709551615 := by
  refine ⟨beN_nonneg B hB k, ?_⟩
  have h1 := beN_lt B hB k
  have h2 : (256 : Int) ^ k ≤ 256 ^ 8 := by
    have e := Int.ofNat_le.2 (Nat.pow_le_pow_right (n := 256) (i := k) (j := 8) (by omega) (by omega))
    rw [Int.natCast_pow, Int.natCast_pow] at e; exact e
  have h3 : (256 : Int) ^ 8 = 18446744073709551616 := by decide
  omega

theorem or_u64 (a b : Int) (h0 : 0 ≤ a) (h1 : 0 ≤ b) (h2 : b < 256) (h3 : a ≤ 72057594037927935) : bits .or .u64 (a * 256) b = a * 256 + b := by
  obtain ⟨a, rfl⟩ := Int.eq_ofNat_of_zero_le h0
  obtain ⟨b, rfl⟩ := Int.eq_ofNat_of_zero_le h1
  have e1 : ((a : Int) * 256) = ((2 ^ 8 * a : Nat) : Int) := by omega
  rw [e1]
  have h2' : b < 2 ^ 8 := by omega
  show IntKind.u64.wrap ((BitVec.ofInt 64 ((2 ^ 8 * a : Nat) : Int) ||| BitVec.ofInt 64 (b : Int)).toNat : Int) = _
  rw [BitVec.toNat_or, BitVec.ofInt_natCast, BitVec.ofInt_natCast, BitVec.toNat_ofNat, BitVec.toNat_ofNat, Nat.mod_eq_of_lt (by omega), Nat.mod_eq_of_lt (by omega), ← Nat.two_pow_add_eq_or_of_lt h2', IntKind.wrap_u64]
  omega

/-- Byte k of the n bytes of x, the highest first. -/
def byN (n : Nat) (x : Int) (k : Nat) : Int := x / 256 ^ (n - 1 - k) % 256
theorem byN_bd (n : Nat) (x : Int) (k : Nat) : 0 ≤ byN n x k ∧ byN n x k ≤ 255 := by
  unfold byN
  have h1 := Int.emod_nonneg (x / 256 ^ (n - 1 - k)) (by omega : (256 : Int) ≠ 0)
  have h2 := Int.emod_lt_of_pos (x / 256 ^ (n - 1 - k)) (by omega : (0 : Int) < 256)
  omega
theorem beN_byN (n : Nat) (x : Int) (h0 : 0 ≤ x) : ∀ k, k ≤ n → beN (byN n x) k = x / 256 ^ (n - k) % 256 ^ k
  | 0, _ => by simp [beN, Int.emod_one]
  | k + 1, hk => by
    unfold beN
    rw [beN_byN n x h0 k (by omega)]
    unfold byN
    have e1 : n - k = (n - (k + 1)) + 1 := by omega
    have e2 : n - 1 - k = n - (k + 1) := by omega
    rw [e1, e2, Int.pow_succ]
    generalize hp : (256 : Int) ^ (n - (k + 1)) = p
    have hpp : 0 < p := by rw [← hp]; exact Int.pow_pos (by omega)
    rw [← Int.ediv_ediv_of_nonneg (by omega : (0 : Int) ≤ p)]
    generalize x / p = y
    rw [Int.pow_succ]
    have hq : (0 : Int) < 256 ^ k := Int.pow_pos (by omega)
    generalize (256 : Int) ^ k = q at hq
    have := Int.emod_emod_of_dvd
    have h1 : y % (q * 256) = y / 256 % q * 256 + y % 256 := by
      have d1 := Int.emod_add_mul_ediv y 256
      have d2 := Int.emod_add_mul_ediv (y / 256) q
      have l1 := Int.emod_nonneg y (by omega : (256 : Int) ≠ 0)
      have l2 := Int.emod_lt_of_pos y (by omega : (0 : Int) < 256)
      have l3 := Int.emod_nonneg (y / 256) (by omega : q ≠ 0)
      have l4 := Int.emod_lt_of_pos (y / 256) hq
      generalize hr : y % 256 = r at *
      generalize hs : y / 256 % q = s at *
      generalize y / 256 / q = t at *
      have e3 : q * 256 * t = 256 * (q * t) := by rw [Int.mul_comm q 256, Int.mul_assoc]
      have : y = s * 256 + r + q * 256 * t := by rw [e3, ← d1, ← d2]; generalize q * t = u; omega
      rw [this, Int.add_mul_emod_self_left]
      exact Int.emod_eq_of_lt (by omega) (by have : s * 256 + 256 ≤ q * 256 := by omega
                                             omega)
    rw [h1]
end Go.Proofs.YtjjnidbggoaonaaGreatDoor
