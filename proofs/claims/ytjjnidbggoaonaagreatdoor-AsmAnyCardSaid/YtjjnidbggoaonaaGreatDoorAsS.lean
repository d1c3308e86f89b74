/- The library's string functions as plain lists have them: IndexByte, Split at one byte, Cut at one byte, Trim of blanks. No program. -/
import Derived.Test.YtjjnidbggoaonaaGreatDoorAsP
import Derived.Lib.Split
import Derived.Lib.SplitLaws
import Derived.Lib.IndexBytes
import Derived.Lib.IndexAny
import Derived.Lib.SlTrimSet
namespace Go.Proofs.YtjjnidbggoaonaaGreatDoor
open Go.Lib

theorem cut_index (c : UInt8) : ∀ l : List UInt8, (indexByte l c = -1 ∧ cutAt c l = none) ∨ ∃ i : Nat, indexByte l c = i ∧ i < l.length ∧ cutAt c l = some (l.take i, l.drop (i + 1))
  | [] => .inl ⟨rfl, rfl⟩
  | x :: r => by
    unfold indexByte cutAt
    by_cases h : (x == c) = true
    · rw [if_pos h, if_pos h]
      exact .inr ⟨0, rfl, by simp, by simp⟩
    · rw [if_neg h, if_neg h]
      rcases cut_index c r with ⟨h1, h2⟩ | ⟨i, h1, h2, h3⟩
      · rw [h1, h2]; exact .inl ⟨rfl, rfl⟩
      · rw [h1, h3, if_neg (by simp)]
        exact .inr ⟨i + 1, by simp, by simpa using h2, by simp⟩
theorem parts_cut (c : UInt8) : ∀ l : List UInt8, partsAt c l = match cutAt c l with | none => [l] | some p => p.1 :: partsAt c p.2
  | [] => rfl
  | x :: r => by
    unfold cutAt
    rw [partsAt]
    by_cases h : (x == c) = true
    · rw [if_pos h, if_pos h]
    · rw [if_neg h, if_neg h, parts_cut c r]
      cases cutAt c r <;> rfl
theorem split_parts (c : UInt8) : ∀ (n : Nat) (l : List UInt8), l.length ≤ n → splitK [c] 0 (count l [c]) l = partsAt c l := by
  intro n
  induction n with
  | zero =>
    intro l hl
    have : l = [] := List.eq_nil_of_length_eq_zero (by omega)
    subst this
    have hm : index [] [c] = -1 := rfl
    rw [count_miss hm]; rfl
  | succ n ih =>
    intro l hl
    rw [parts_cut]
    have ho := index_one l c
    rcases cut_index c l with ⟨h1, h2⟩ | ⟨i, h1, h2, h3⟩
    · rw [h1] at ho
      rw [count_miss ho, h2]; rfl
    · rw [h1] at ho
      rw [count_hit (by simp) ho, h3]
      show splitK [c] 0 (1 + _) l = _
      rw [Nat.add_comm]
      unfold splitK
      rw [if_neg (by rw [ho]; simp), ho]
      simp only [Int.toNat_natCast, Nat.add_zero, List.length_cons, List.length_nil, Nat.zero_add]
      rw [ih _ (by simp; omega)]
theorem partsAt_len (c : UInt8) : ∀ l : List UInt8, (partsAt c l).length ≤ l.length + 1
  | [] => by simp [partsAt]
  | x :: r => by
    have := partsAt_len c r
    rw [partsAt]
    split
    · simp; omega
    · cases h : partsAt c r <;> rw [h] at this <;> simp at this ⊢; omega
theorem partsAt_each (c : UInt8) : ∀ (l : List UInt8), ∀ p ∈ partsAt c l, p.length ≤ l.length
  | [], p, h => by simp [partsAt] at h; subst h; simp
  | x :: r, p, h => by
    have ih := partsAt_each c r
    rw [partsAt] at h
    split at h
    · rcases List.mem_cons.1 h with rfl | h
      · simp
      · have := ih p h; simp; omega
    · cases hq : partsAt c r with
      | nil => rw [hq] at h; simp at h; subst h; simp
      | cons q qs =>
        rw [hq] at h ih
        rcases List.mem_cons.1 h with rfl | h
        · have := ih q List.mem_cons_self; simp; omega
        · have := ih p (List.mem_cons_of_mem _ h); simp; omega
theorem bl_contains (c : UInt8) : ([32, 9] : List UInt8).contains c = isBl c := by
  unfold isBl
  rw [Bool.eq_iff_iff]
  simp
theorem trimS_eq (l : List UInt8) : trimS l [32, 9] = trimB l := by
  unfold trimS trimLeftS trimRightS trimB
  simp only [bl_contains]
theorem trimB_len (l : List UInt8) : (trimB l).length ≤ l.length := by
  unfold trimB
  have h1 := (List.dropWhile_sublist (p := isBl) (l := l.reverse)).length_le
  have h2 := (List.dropWhile_sublist (p := isBl) (l := (l.reverse.dropWhile isBl).reverse)).length_le
  simp at h1 h2 ⊢
  omega
theorem cut_eq (l : List UInt8) (c : UInt8) : Lib.cut l [c] = match cutAt c l with | none => (l, [], false) | some p => (p.1, p.2, true) := by
  unfold Lib.cut
  rw [index_one]
  rcases cut_index c l with ⟨h1, h2⟩ | ⟨i, h1, _, h3⟩
  · rw [h1, h2]; rfl
  · rw [h1, h3, if_pos (by omega)]; simp
end Go.Proofs.YtjjnidbggoaonaaGreatDoor
