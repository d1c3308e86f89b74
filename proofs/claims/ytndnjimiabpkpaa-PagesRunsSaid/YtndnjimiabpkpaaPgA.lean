/- Tables of pages in frames: entries, plainly and in memory; contracts of index, entry, set. -/
import Derived.Test.YtndnjimiabpkpaaPkC
namespace Go.Proofs.Ytndnjimiabpkpaa
open Go.RowKit

theorem and1_u64 (x : Int) (h0 : 0 ≤ x) (h1 : x ≤ 18446744073709551615) : bits .and .u64 x 1 = x % 2 := by
  obtain ⟨n, rfl⟩ := Int.eq_ofNat_of_zero_le h0
  show IntKind.u64.wrap ((BitVec.ofInt 64 (n : Int) &&& BitVec.ofInt 64 ((1 : Nat) : Int)).toNat : Int) = _
  rw [BitVec.toNat_and, BitVec.ofInt_natCast, BitVec.ofInt_natCast, BitVec.toNat_ofNat, BitVec.toNat_ofNat, Nat.mod_eq_of_lt (by omega), Nat.mod_eq_of_lt (by omega), Nat.and_one_is_mod, IntKind.wrap_u64]
  omega
theorem and2_u64 (f : Int) (b : Bool) (h0 : 0 ≤ f) (h1 : f ≤ 4294967295) : bits .and .u64 (f * 256 + 1 + (if b then 2 else 0)) 2 = if b then 2 else 0 := by
  obtain ⟨n, rfl⟩ := Int.eq_ofNat_of_zero_le h0
  have key : ∀ c : Nat, c < 256 → (2 ^ 8 * n + c) &&& 2 = c &&& 2 := by
    intro c hc
    apply Nat.eq_of_testBit_eq
    intro i
    rw [Nat.testBit_and, Nat.testBit_and]
    by_cases hi : i < 8
    · rw [Nat.testBit_two_pow_mul_add _ (by omega), if_pos hi]
    · have : Nat.testBit 2 i = false := Nat.testBit_lt_two_pow (Nat.lt_of_lt_of_le (by decide : 2 < 2 ^ 8) (Nat.pow_le_pow_right (by omega) (by omega)))
      rw [this]; simp
  cases b
  · have e : ((n : Int) * 256 + 1 + (if false = true then 2 else 0)) = ((2 ^ 8 * n + 1 : Nat) : Int) := by simp; omega
    rw [e]
    show IntKind.u64.wrap ((BitVec.ofInt 64 ((2 ^ 8 * n + 1 : Nat) : Int) &&& BitVec.ofInt 64 ((2 : Nat) : Int)).toNat : Int) = _
    rw [BitVec.toNat_and, BitVec.ofInt_natCast, BitVec.ofInt_natCast, BitVec.toNat_ofNat, BitVec.toNat_ofNat, Nat.mod_eq_of_lt (by omega), Nat.mod_eq_of_lt (by omega), key 1 (by omega)]
    decide
  · have e : ((n : Int) * 256 + 1 + (if true = true then 2 else 0)) = ((2 ^ 8 * n + 3 : Nat) : Int) := by simp; omega
    rw [e]
    show IntKind.u64.wrap ((BitVec.ofInt 64 ((2 ^ 8 * n + 3 : Nat) : Int) &&& BitVec.ofInt 64 ((2 : Nat) : Int)).toNat : Int) = _
    rw [BitVec.toNat_and, BitVec.ofInt_natCast, BitVec.ofInt_natCast, BitVec.toNat_ofNat, BitVec.toNat_ofNat, Nat.mod_eq_of_lt (by omega), Nat.mod_eq_of_lt (by omega), key 3 (by omega)]
    decide
theorem or2_u64 (f : Int) (h0 : 0 ≤ f) (h1 : f ≤ 4294967295) : bits .or .u64 (f * 256 + 1) 2 = f * 256 + 3 := by
  obtain ⟨n, rfl⟩ := Int.eq_ofNat_of_zero_le h0
  have e : ((n : Int) * 256 + 1) = ((2 ^ 8 * n + 1 : Nat) : Int) := by omega
  rw [e]
  show IntKind.u64.wrap ((BitVec.ofInt 64 ((2 ^ 8 * n + 1 : Nat) : Int) ||| BitVec.ofInt 64 ((2 : Nat) : Int)).toNat : Int) = _
  rw [BitVec.toNat_or, BitVec.ofInt_natCast, BitVec.ofInt_natCast, BitVec.toNat_ofNat, BitVec.toNat_ofNat, Nat.mod_eq_of_lt (by omega), Nat.mod_eq_of_lt (by omega),
    Nat.two_pow_add_eq_or_of_lt (by omega : 1 < 2 ^ 8), Nat.or_assoc, show (1 ||| 2 : Nat) = 3 from rfl, ← Nat.two_pow_add_eq_or_of_lt (by omega : 3 < 2 ^ 8), IntKind.wrap_u64]
  omega

/-- Entry i of table t. -/
def ent (P : Pool) (t : Int) (i : Nat) : Int := beN (fun j => P.D ((t.toNat - 1) * 64 + i * 8 + j)) 8
def Pool.setE (P : Pool) (t : Int) (i : Nat) (x : Int) : Pool := P.write t ((i : Int) * 8) 8 (byN 8 x)
theorem ent_bd (P : Pool) (hB : ∀ i, 0 ≤ P.D i ∧ P.D i ≤ 255) (t : Int) (i : Nat) : 0 ≤ ent P t i ∧ ent P t i ≤ 18446744073709551615 := beN_bd8 _ (fun _ => hB _) 8 (Nat.le_refl _)
theorem setE_n (P : Pool) (t : Int) (i : Nat) (x : Int) : (P.setE t i x).n = P.n := by unfold Pool.setE Pool.write; split <;> rfl
theorem setE_O (P : Pool) (t : Int) (i : Nat) (x : Int) : (P.setE t i x).O = P.O := by unfold Pool.setE Pool.write; split <;> rfl
theorem setE_owner (P : Pool) (t : Int) (i : Nat) (x f : Int) : (P.setE t i x).owner f = P.owner f := by unfold Pool.owner Pool.there; rw [setE_n, setE_O]
theorem fits8 (P : Pool) (t : Int) (i : Nat) (hi : i < 8) (ho : P.owner t ≠ 0) : P.fits t ((i : Int) * 8) 8 = true := by
  rw [P.fits_iff]; exact ⟨ho, by omega, by omega, by omega, by omega⟩
theorem ent_setE (P : Pool) (t t' : Int) (i i' : Nat) (x : Int) (hi : i < 8) (hi' : i' < 8) (ho : P.owner t ≠ 0) (ht : 1 ≤ t) (ht' : 1 ≤ t') (h0 : 0 ≤ x) (h1 : x ≤ 18446744073709551615) :
    ent (P.setE t i x) t' i' = if t' = t ∧ i' = i then x else ent P t' i' := by
  have hw : P.setE t i x = ⟨P.n, P.O, fun j => if (t.toNat - 1) * 64 + ((i : Int) * 8).toNat ≤ j ∧ j < (t.toNat - 1) * 64 + ((i : Int) * 8).toNat + 8 then byN 8 x (j - ((t.toNat - 1) * 64 + ((i : Int) * 8).toNat)) else P.D j⟩ := by
    unfold Pool.setE Pool.write; rw [if_pos]; exact fits8 P t i hi ho
  have e8 : ((i : Int) * 8).toNat = i * 8 := by omega
  rw [hw, e8]
  unfold ent
  by_cases e : t' = t ∧ i' = i
  · obtain ⟨rfl, rfl⟩ := e
    rw [if_pos ⟨rfl, rfl⟩]
    rw [beN_congr _ (byN 8 x) 8 (fun j hj => by
      show (if _ then _ else _) = _
      rw [if_pos (by omega)]; congr 1; omega)]
    rw [beN_byN 8 x h0 8 (Nat.le_refl _)]
    have h2 : (256 : Int) ^ 8 = 18446744073709551616 := by decide
    rw [Nat.sub_self, h2]
    simp only [Int.pow_zero, Int.ediv_one]
    omega
  · rw [if_neg e]
    refine beN_congr _ _ 8 fun j hj => ?_
    show (if _ then _ else _) = _
    rw [if_neg]
    intro h
    apply e
    constructor <;> omega
theorem setE_other (P : Pool) (t : Int) (i : Nat) (x : Int) (hi : i < 8) (j : Nat) (hj : j / 64 ≠ t.toNat - 1) : (P.setE t i x).D j = P.D j := by
  unfold Pool.setE Pool.write
  split
  · show (if _ then _ else _) = _
    rw [if_neg]
    have : ((i : Int) * 8).toNat = i * 8 := by omega
    omega
  · rfl
/-- An entry looks at its own frame alone. -/
theorem ent_congr (P P' : Pool) (t : Int) (i : Nat) (hi : i < 8) (h : ∀ j, j / 64 = t.toNat - 1 → P'.D j = P.D j) : ent P' t i = ent P t i :=
  beN_congr _ _ 8 fun j hj => h _ (by omega)

attribute [local irreducible] World.setCell World.alloc World.drew World.setRow Calls Code.wp row

theorem index_any (l p : Nat) (w : World) (hl : l ≤ 3) (hp : p < 4096) :
    Calls Try.prog 54 #[.int .i64 l, .int .i64 p] w fun e w' => e = .returned (.int .i64 ((p / 8 ^ (3 - l) % 8 : Nat) : Int)) ∧ w = w' := by
  have hpi : (p : Int) < 4096 := by omega
  have h7 := and7
  obtain rfl | rfl | rfl | rfl : l = 0 ∨ l = 1 ∨ l = 2 ∨ l = 3 := by omega
  all_goals
    go_enter Try.func54, Try.ntmps54
    go_wp2_with fail
    go_ret
    refine ⟨?_, rfl⟩
    show Ending.returned (Value.int .i64 _) = _
    congr 2
    try omega
end Go.Proofs.Ytndnjimiabpkpaa
