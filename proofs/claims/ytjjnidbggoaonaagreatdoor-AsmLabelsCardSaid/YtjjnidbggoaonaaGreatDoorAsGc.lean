/- The labels' plain law, joined. -/
import Derived.Test.YtjjnidbggoaonaaGreatDoorAsGb
namespace Go.Proofs.YtjjnidbggoaonaaGreatDoor

theorem lab_all : ∀ a, a < 32 → ∀ b, b < 32 → labOk a b = true := fun a ha b hb => by
  obtain ⟨k, r, rfl, hk, hr⟩ : ∃ k r, a = 2 * k + r ∧ k < 16 ∧ r < 2 := ⟨a / 2, a % 2, by omega, by omega, by omega⟩
  obtain rfl | rfl | rfl | rfl | rfl | rfl | rfl | rfl | rfl | rfl | rfl | rfl | rfl | rfl | rfl | rfl : k = 0 ∨ k = 1 ∨ k = 2 ∨ k = 3 ∨ k = 4 ∨ k = 5 ∨ k = 6 ∨ k = 7 ∨ k = 8 ∨ k = 9 ∨ k = 10 ∨ k = 11 ∨ k = 12 ∨ k = 13 ∨ k = 14 ∨ k = 15 := by omega
  · exact lab_0 r hr b hb
  · exact lab_1 r hr b hb
  · exact lab_2 r hr b hb
  · exact lab_3 r hr b hb
  · exact lab_4 r hr b hb
  · exact lab_5 r hr b hb
  · exact lab_6 r hr b hb
  · exact lab_7 r hr b hb
  · exact lab_8 r hr b hb
  · exact lab_9 r hr b hb
  · exact lab_10 r hr b hb
  · exact lab_11 r hr b hb
  · exact lab_12 r hr b hb
  · exact lab_13 r hr b hb
  · exact lab_14 r hr b hb
  · exact lab_15 r hr b hb
end Go.Proofs.YtjjnidbggoaonaaGreatDoor
