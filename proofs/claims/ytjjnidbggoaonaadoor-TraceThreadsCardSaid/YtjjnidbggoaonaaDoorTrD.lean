/- A step comes back from its text, plainly. -/
import Derived.Test.YtjjnidbggoaonaaDoorTrQ
import Derived.Test.YtjjnidbggoaonaaDoorDec
namespace Go.Proofs.YtjjnidbggoaonaaDoor
open Go.Lib

theorem index_word : ∀ (a r : List UInt8), Word a → index (a ++ 32 :: r) [32] = a.length
  | [], r, _ => by simp [index]
  | c :: a, r, h => by
    have ih := index_word a r fun d hd => h d (by simp [hd])
    have hc : ((32 : UInt8) == c) = false := by
      have := h c (by simp)
      simp; exact fun e => this e.symm
    rw [List.cons_append, index]
    rw [if_neg (by simp [List.isPrefixOf, hc]), ih, if_neg (by simp <;> omega)]
    simp
theorem index_last : ∀ a : List UInt8, Word a → index a [32] = -1
  | [], _ => by simp [index]
  | c :: a, h => by
    have ih := index_last a fun d hd => h d (by simp [hd])
    have hc : ((32 : UInt8) == c) = false := by
      have := h c (by simp)
      simp; exact fun e => this e.symm
    rw [index, if_neg (by simp [List.isPrefixOf, hc]), ih]; rfl
theorem word_count {a : List UInt8} (h : Word a) : a.count 32 = 0 := List.count_eq_zero.2 fun e => h 32 e rfl
theorem parts_three (a b c : List UInt8) (ha : Word a) (hb : Word b) (hc : Word c) : partsL (a ++ 32 :: (b ++ 32 :: c)) = [a, b, c] := by
  unfold partsL
  rw [splitB_data]
  show splitK [32] 0 (count _ [32]) _ = _
  simp only []
  rw [count_one]
  have hcnt : (a ++ 32 :: (b ++ 32 :: c)).count 32 = 2 := by
    simp [List.count_append, word_count ha, word_count hb, word_count hc]
  rw [hcnt]
  have e1 := index_word a (b ++ 32 :: c) ha
  have e2 := index_word b c hb
  rw [splitK, if_neg (by rw [e1]; simp <;> omega), e1]
  have d1 : (a ++ 32 :: (b ++ 32 :: c)).drop ((a.length : Int).toNat + [(32 : UInt8)].length) = b ++ 32 :: c := by simp
  have t1 : (a ++ 32 :: (b ++ 32 :: c)).take ((a.length : Int).toNat + 0) = a := by simp
  rw [d1, t1, splitK, if_neg (by rw [e2]; simp <;> omega), e2]
  have d2 : (b ++ 32 :: c).drop ((b.length : Int).toNat + [(32 : UInt8)].length) = c := by simp
  have t2 : (b ++ 32 :: c).take ((b.length : Int).toNat + 0) = b := by simp
  rw [d2, t2]
  rfl

theorem dec_word (u : Nat) : Word (decDigits u) := fun c hc e => by
  subst e
  have := dec_digit u 32 hc
  simp at this
theorem wd_word (k : Nat) (h : k < 7) : Word (wd k) := by
  have h1 : ∀ k, k < 7 → (wd k).all (fun c => c != 32) = true := by decide +kernel
  intro c hc e
  have := List.all_eq_true.1 (h1 k h) c hc
  subst e; simp at this
theorem wd_inj : ∀ i, i < 7 → ∀ j, j < 7 → wd i = wd j → i = j := by decide +kernel
theorem evText_ok {c : Int} {k : Nat} (t : Nat) (hc : 0 ≤ c) (hk : k < 7) : evText c t k = itoa c ++ 32 :: (decDigits t ++ 32 :: wd k) := by
  unfold evText
  rw [if_neg (by omega)]
  simp
def numF (a : Nat) (l : List UInt8) : Nat := l.foldl (fun r c => r * 10 + (c.toNat - 48)) a
theorem numF_le : ∀ (l : List UInt8) (acc : Nat), acc ≤ numF acc l
  | [], acc => Nat.le_refl _
  | c :: l, acc => by
    have := numF_le l (acc * 10 + (c.toNat - 48))
    show acc ≤ numF (acc * 10 + (c.toNat - 48)) l
    omega
theorem parseM_ok (M : Nat) (hM : M ≤ 18446744073709551615) : ∀ (l : List UInt8) (acc : Nat), (∀ c ∈ l, 48 ≤ c.toNat ∧ c.toNat ≤ 57) → numF acc l ≤ M → parseUintM M acc l = .ok (numF acc l)
  | [], acc, _, _ => rfl
  | c :: l, acc, hd, hM2 => by
    have h1 := numF_le l (acc * 10 + (c.toNat - 48))
    have hM3 : numF (acc * 10 + (c.toNat - 48)) l ≤ M := hM2
    unfold parseUintM
    rw [if_pos (hd c (by simp)), if_neg (by omega), if_neg (by omega)]
    exact parseM_ok M hM l _ (fun d hd' => hd d (by simp [hd'])) hM3
theorem uintO_dec (t : Nat) (ht : t < 18446744073709551616) : uintO (decDigits t) = some (t : Int) := by
  unfold uintO parseUintB
  rw [if_neg (dec_ne t)]
  have hn : numF 0 (decDigits t) = t := num_dec t
  have := parseM_ok (2 ^ 64 - 1) (by decide) (decDigits t) 0 (dec_digit t) (by rw [hn]; omega)
  rw [this, hn]; rfl
theorem atoiO_itoa (n : Int) (h0 : 0 ≤ n) (h1 : n ≤ 9223372036854775807) : atoiO (itoa n) = some n := by
  obtain ⟨u, rfl⟩ : ∃ u : Nat, n = (u : Int) := ⟨n.toNat, by omega⟩
  have hi : itoa (u : Int) = decDigits u := by unfold itoa; rw [if_neg (by omega)]; simp
  rw [hi]
  have hd := dec_digit u
  have hne := dec_ne u
  have hp : parseMag (decDigits u) = .ok u := by
    unfold parseMag
    rw [if_neg hne, ← parseUintM_64]
    have hn : numF 0 (decDigits u) = u := num_dec u
    have := parseM_ok 18446744073709551615 (by decide) (decDigits u) 0 hd (by rw [hn]; omega)
    rw [this, hn]
  unfold atoiO
  rcases hl : decDigits u with _ | ⟨c, r⟩
  · exact absurd hl hne
  · have hc := hd c (by rw [hl]; simp)
    rw [atoiAll_plain c r (by omega) (by omega), ← hl, hp]
    unfold signless
    simp only []
    rw [if_neg (by omega)]
    rfl
/-- What Parse finds of a step's own text: the step. -/
theorem ev_parts (c : Int) (t k : Nat) (hc : 0 ≤ c) (hk : k < 7) : partsL (evText c t k) = [itoa c, decDigits t, wd k] := by
  rw [evText_ok t hc hk]
  exact parts_three _ _ _ (itoa_word c) (dec_word t) (wd_word k hk)
theorem ev_is (c : Int) (t k : Nat) (hc : 0 ≤ c) (hc1 : c ≤ 9223372036854775807) (ht : t < 18446744073709551616) : EvIs (evText c t k) (itoa c) (decDigits t) (wd k) k :=
  ⟨c, t, atoiO_itoa c hc hc1, uintO_dec t ht, rfl, rfl⟩
end Go.Proofs.YtjjnidbggoaonaaDoor
