/- Decimal numerals: what they are of, that no two numbers have one; words apart by blanks. Plain lists, no program. -/
import Derived.Test.YtjjnidbggoaonaaGreatDoorRows
import Derived.Lib.ItoaNum
namespace Go.Proofs.YtjjnidbggoaonaaGreatDoor
open Go.Lib

/-- What digits spell. -/
def num (l : List UInt8) : Nat := l.foldl (fun r c => r * 10 + (c.toNat - 48)) 0
theorem num_snoc (l : List UInt8) (c : UInt8) : num (l ++ [c]) = num l * 10 + (c.toNat - 48) := by simp [num, List.foldl_append]
theorem digit_nat (k : Nat) (h : k < 10) : (UInt8.ofNat (48 + k)).toNat = 48 + k := by
  rw [UInt8.toNat_ofNat']; exact Nat.mod_eq_of_lt (by omega)
theorem num_dec (u : Nat) : num (decDigits u) = u := by
  induction u using Nat.strongRecOn with
  | _ u ih =>
    rw [decDigits]
    by_cases h : u < 10
    · rw [dif_pos h]
      show 0 * 10 + ((UInt8.ofNat (48 + u)).toNat - 48) = u
      rw [digit_nat u h]; omega
    · rw [dif_neg h, num_snoc, ih (u / 10) (by omega), digit_nat _ (by omega)]; omega
theorem dec_digit (u : Nat) : ∀ c ∈ decDigits u, 48 ≤ c.toNat ∧ c.toNat ≤ 57 := by
  induction u using Nat.strongRecOn with
  | _ u ih =>
    intro c hc
    rw [decDigits] at hc
    by_cases h : u < 10
    · rw [dif_pos h] at hc
      simp only [List.mem_singleton] at hc
      subst hc
      rw [digit_nat u h]; omega
    · rw [dif_neg h] at hc
      rcases List.mem_append.1 hc with hc | hc
      · exact ih (u / 10) (by omega) c hc
      · simp only [List.mem_singleton] at hc
        subst hc
        rw [digit_nat _ (by omega)]; omega
theorem dec_ne (u : Nat) : decDigits u ≠ [] := by
  rw [decDigits]; split <;> simp
theorem dec_inj {u v : Nat} (h : decDigits u = decDigits v) : u = v := by rw [← num_dec u, ← num_dec v, h]
theorem itoa_char (n : Int) : ∀ c ∈ itoa n, c.toNat = 45 ∨ (48 ≤ c.toNat ∧ c.toNat ≤ 57) := by
  intro c hc
  unfold itoa at hc
  split at hc
  · rcases List.mem_cons.1 hc with rfl | hc
    · exact .inl rfl
    · exact .inr (dec_digit _ c hc)
  · exact .inr (dec_digit _ c hc)
theorem itoa_ne (n : Int) : itoa n ≠ [] := by
  unfold itoa; split
  · simp
  · exact dec_ne _
theorem itoa_inj {n m : Int} (h : itoa n = itoa m) : n = m := by
  have head : ∀ u v : Nat, 45 :: decDigits u ≠ decDigits v := fun u v e => by
    have := dec_digit v 45 (by rw [← e]; simp)
    simp at this
  unfold itoa at h
  split at h <;> split at h
  · have := dec_inj (List.cons.inj h).2; omega
  · exact absurd h (head _ _)
  · exact absurd h.symm (head _ _)
  · have := dec_inj h; omega

/-- No blank in it. -/
def Word (l : List UInt8) : Prop := ∀ c ∈ l, c ≠ 32
theorem itoa_word (n : Int) : Word (itoa n) := fun c hc e => by
  subst e
  have := itoa_char n 32 hc
  simp at this
theorem Word.cons {l : List UInt8} (h : Word l) {c : UInt8} (hc : c ≠ 32) : Word (c :: l) := fun d hd => by
  rcases List.mem_cons.1 hd with rfl | hd
  · exact hc
  · exact h d hd
/-- The first word of a text, and what is behind it. -/
theorem word_split : ∀ {l1 l2 r1 r2 : List UInt8}, Word l1 → Word l2 → l1 ++ 32 :: r1 = l2 ++ 32 :: r2 → l1 = l2 ∧ r1 = r2
  | [], [], _, _, _, _, h => ⟨rfl, (List.cons.inj h).2⟩
  | [], c :: l2, _, _, _, h2, h => absurd (List.cons.inj h).1.symm (h2 c (by simp))
  | c :: l1, [], _, _, h1, _, h => absurd (List.cons.inj h).1 (h1 c (by simp))
  | c :: l1, d :: l2, r1, r2, h1, h2, h => by
    obtain ⟨e1, e2⟩ := List.cons.inj h
    obtain ⟨e3, e4⟩ := word_split (fun x hx => h1 x (by simp [hx])) (fun x hx => h2 x (by simp [hx])) e2
    exact ⟨by rw [e1, e3], e4⟩
end Go.Proofs.YtjjnidbggoaonaaGreatDoor
