/- The faults' plain law. -/
import Derived.Test.YtjjnidbggoaonaaGreatDoorAsM
namespace Go.Proofs.YtjjnidbggoaonaaGreatDoor

/-- The lines with a fault, and the faults' kinds. -/
def badL : List (List UInt8 × Nat) :=
  [([97, 58], 3), ([65, 58, 32, 104, 97, 108, 116], 10), ([97, 100, 100, 32, 114, 49, 44, 32, 114, 50], 10), ([108, 105, 32, 114, 49, 54, 44, 32, 49], 10),
   ([108, 105, 32, 114, 49, 44, 32, 50, 49, 52, 55, 52, 56, 51, 54, 52, 56], 11), ([108, 105, 32, 114, 49, 44, 32, 45, 50, 49, 52, 55, 52, 56, 51, 54, 52, 57], 11),
   ([106, 97, 108, 32, 114, 49, 44, 32, 110, 111, 119, 104, 101, 114, 101], 2), ([110, 111, 112], 10), ([46, 122, 101, 114, 111, 32, 49, 50, 57], 11),
   ([46, 119, 111, 114, 100, 32, 48, 120, 49, 48, 48, 48, 48, 48, 48, 48, 48, 48, 48, 48, 48, 48, 48, 48, 48], 11), ([108, 100, 32, 114, 49, 44, 32, 56, 40, 114, 50], 10),
   ([108, 105, 32, 114, 49, 44, 32, 48, 120, 103], 10), ([46, 122, 101, 114, 111, 32, 45, 49], 11), ([104, 97, 108, 116, 32, 114, 49], 10), ([108, 100, 32, 114, 49, 44, 32, 40, 114, 50, 41], 10)]
def haltN : Nat → List UInt8
  | 0 => []
  | k + 1 => haltN k ++ [104, 97, 108, 116, 10]
def badText (k : Nat) (x : List UInt8) : List UInt8 := [97, 58, 32, 104, 97, 108, 116, 10] ++ haltN k ++ x ++ [10, 104, 97, 108, 116, 32, 104, 97, 108, 116]
set_option maxRecDepth 100000 in
theorem bad_all : ∀ k, k < 16 → ∀ p ∈ badL, assemble (badText k p.1) = ([], p.2, k + 2) := by decide +kernel
set_option maxRecDepth 100000 in
theorem bad_plain : ∀ k, k < 16 → ∀ p ∈ badL, (badText k p.1).length ≤ 16384 ∧ ∀ c ∈ badText k p.1, c.toNat < 128 := by decide +kernel
end Go.Proofs.YtjjnidbggoaonaaGreatDoor
