/- Masks of low bits on int: x & (2^i - 1) is the remainder, for every int. -/
import Derived.Test.YtjjnidbggoaonaaGreatDoorLib
namespace Go.Proofs.YtjjnidbggoaonaaGreatDoor
open Go.RowKit

theorem wrap_i64_small (n : Nat) (h : n < 9223372036854775808) : IntKind.i64.wrap (n : Int) = n := by
  simp [IntKind.wrap, IntKind.bits, IntKind.signed]; omega

theorem and_mask_i64 (x : Int) (i m : Nat) (hi : i ≤ 62) (hm : m = 2 ^ i - 1) : bits .and .i64 x m = x % ((m : Int) + 1) := by
  have hp : 2 ^ i ≤ 2 ^ 62 := Nat.pow_le_pow_right (by omega) hi
  have hpos : 0 < 2 ^ i := Nat.pow_pos (by omega)
  have h62 : (2 : Nat) ^ 62 = 4611686018427387904 := by decide
  have e1 : (BitVec.ofInt 64 x).toNat = (x % 18446744073709551616).toNat := by
    rw [BitVec.toNat_ofInt]; rfl
  have e2 : (BitVec.ofInt 64 (m : Int)).toNat = m := by
    rw [BitVec.toNat_ofInt]
    have h64 : (2 ^ 64 : Nat) = 18446744073709551616 := by decide
    have : (m : Int) % ((2 ^ 64 : Nat) : Int) = m := Int.emod_eq_of_lt (by omega) (by omega)
    rw [this]; rfl
  have key : bits .and .i64 x m = IntKind.i64.wrap (((x % 18446744073709551616).toNat % 2 ^ i : Nat) : Int) := by
    show IntKind.i64.wrap _ = _
    congr 1
    show (((BitVec.ofInt 64 x &&& BitVec.ofInt 64 (m : Int)).toNat : Nat) : Int) = _
    rw [BitVec.toNat_and, e1, e2, hm, Nat.and_two_pow_sub_one_eq_mod]
  have hlt := Nat.mod_lt (x % 18446744073709551616).toNat hpos
  rw [key, wrap_i64_small _ (by omega)]
  have hm1 : ((m : Int) + 1) = ((2 ^ i : Nat) : Int) := by omega
  have hnn : 0 ≤ x % 18446744073709551616 := Int.emod_nonneg _ (by omega)
  rw [hm1, Int.natCast_emod, Int.toNat_of_nonneg hnn]
  refine Int.emod_emod_of_dvd _ ?_
  have : (18446744073709551616 : Int) = ((2 ^ 64 : Nat) : Int) := by decide
  rw [this]
  exact Int.natCast_dvd_natCast.2 (Nat.pow_dvd_pow 2 (by omega))

theorem tmod_bd (a n : Int) (hn : 0 < n) : -n < a.tmod n ∧ a.tmod n < n := by
  have h1 := Int.emod_nonneg a (Int.ne_of_gt hn)
  have h2 := Int.emod_lt_of_pos a hn
  rw [Int.tmod_eq_emod]
  split <;> omega

theorem and3 (x : Int) : bits .and .i64 x 3 = x % 4 := and_mask_i64 x 2 3 (by omega) (by decide)
theorem and1 (x : Int) : bits .and .i64 x 1 = x % 2 := and_mask_i64 x 1 1 (by omega) (by decide)
theorem and7 (x : Int) : bits .and .i64 x 7 = x % 8 := and_mask_i64 x 3 7 (by omega) (by decide)
theorem and15 (x : Int) : bits .and .i64 x 15 = x % 16 := and_mask_i64 x 4 15 (by omega) (by decide)
theorem and4095 (x : Int) : bits .and .i64 x 4095 = x % 4096 := and_mask_i64 x 12 4095 (by omega) (by decide)
theorem and65535 (x : Int) : bits .and .i64 x 65535 = x % 65536 := and_mask_i64 x 16 65535 (by omega) (by decide)
theorem and262143 (x : Int) : bits .and .i64 x 262143 = x % 262144 := and_mask_i64 x 18 262143 (by omega) (by decide)
end Go.Proofs.YtjjnidbggoaonaaGreatDoor
