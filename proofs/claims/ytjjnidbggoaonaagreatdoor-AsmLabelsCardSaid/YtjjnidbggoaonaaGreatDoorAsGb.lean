/- The labels' plain law. -/
import Derived.Test.YtjjnidbggoaonaaGreatDoorAsM
namespace Go.Proofs.YtjjnidbggoaonaaGreatDoor

def trapN : Nat → List UInt8
  | 0 => []
  | k + 1 => trapN k ++ [116, 114, 97, 112, 10]
def haltM : Nat → List UInt8
  | 0 => []
  | k + 1 => haltM k ++ [104, 97, 108, 116, 10]
def labText (a b : Nat) : List UInt8 :=
  [98, 101, 113, 32, 114, 49, 44, 32, 114, 50, 44, 32, 116, 104, 101, 114, 101, 10] ++ trapN a ++ [116, 104, 101, 114, 101, 58, 32, 10, 35, 32, 110, 111, 116, 104, 105, 110, 103, 10, 32, 32, 9, 10] ++ haltM b ++ [106, 97, 108, 32, 114, 51, 44, 116, 104, 101, 114, 101]
def labOk (a b : Nat) : Bool :=
  let r := assemble (labText a b)
  r.2 == (0, 0) && r.1.length == 8 * (a + b + 2) && r.1.take 8 == (⟨25, 1, 2, 0, (a : Int) + 1⟩ : Ins).enc && r.1.drop (8 * (a + b + 1)) == (⟨29, 3, 0, 0, -(b : Int)⟩ : Ins).enc
set_option maxRecDepth 100000 in
set_option maxHeartbeats 0 in
theorem lab_0 : ∀ a, a < 2 → ∀ b, b < 32 → labOk (0 + a) b = true := by decide +kernel
set_option maxRecDepth 100000 in
set_option maxHeartbeats 0 in
theorem lab_1 : ∀ a, a < 2 → ∀ b, b < 32 → labOk (2 + a) b = true := by decide +kernel
set_option maxRecDepth 100000 in
set_option maxHeartbeats 0 in
theorem lab_2 : ∀ a, a < 2 → ∀ b, b < 32 → labOk (4 + a) b = true := by decide +kernel
set_option maxRecDepth 100000 in
set_option maxHeartbeats 0 in
theorem lab_3 : ∀ a, a < 2 → ∀ b, b < 32 → labOk (6 + a) b = true := by decide +kernel
set_option maxRecDepth 100000 in
set_option maxHeartbeats 0 in
theorem lab_4 : ∀ a, a < 2 → ∀ b, b < 32 → labOk (8 + a) b = true := by decide +kernel
set_option maxRecDepth 100000 in
set_option maxHeartbeats 0 in
theorem lab_5 : ∀ a, a < 2 → ∀ b, b < 32 → labOk (10 + a) b = true := by decide +kernel
set_option maxRecDepth 100000 in
set_option maxHeartbeats 0 in
theorem lab_6 : ∀ a, a < 2 → ∀ b, b < 32 → labOk (12 + a) b = true := by decide +kernel
set_option maxRecDepth 100000 in
set_option maxHeartbeats 0 in
theorem lab_7 : ∀ a, a < 2 → ∀ b, b < 32 → labOk (14 + a) b = true := by decide +kernel
set_option maxRecDepth 100000 in
set_option maxHeartbeats 0 in
theorem lab_8 : ∀ a, a < 2 → ∀ b, b < 32 → labOk (16 + a) b = true := by decide +kernel
set_option maxRecDepth 100000 in
set_option maxHeartbeats 0 in
theorem lab_9 : ∀ a, a < 2 → ∀ b, b < 32 → labOk (18 + a) b = true := by decide +kernel
set_option maxRecDepth 100000 in
set_option maxHeartbeats 0 in
theorem lab_10 : ∀ a, a < 2 → ∀ b, b < 32 → labOk (20 + a) b = true := by decide +kernel
set_option maxRecDepth 100000 in
set_option maxHeartbeats 0 in
theorem lab_11 : ∀ a, a < 2 → ∀ b, b < 32 → labOk (22 + a) b = true := by decide +kernel
set_option maxRecDepth 100000 in
set_option maxHeartbeats 0 in
theorem lab_12 : ∀ a, a < 2 → ∀ b, b < 32 → labOk (24 + a) b = true := by decide +kernel
set_option maxRecDepth 100000 in
set_option maxHeartbeats 0 in
theorem lab_13 : ∀ a, a < 2 → ∀ b, b < 32 → labOk (26 + a) b = true := by decide +kernel
set_option maxRecDepth 100000 in
set_option maxHeartbeats 0 in
theorem lab_14 : ∀ a, a < 2 → ∀ b, b < 32 → labOk (28 + a) b = true := by decide +kernel
set_option maxRecDepth 100000 in
set_option maxHeartbeats 0 in
theorem lab_15 : ∀ a, a < 2 → ∀ b, b < 32 → labOk (30 + a) b = true := by decide +kernel
end Go.Proofs.YtjjnidbggoaonaaGreatDoor
