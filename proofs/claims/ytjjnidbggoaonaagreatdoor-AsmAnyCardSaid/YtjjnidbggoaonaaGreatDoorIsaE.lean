/- isa.Encode: an instruction's bytes. -/
import Derived.Test.YtjjnidbggoaonaaGreatDoorIsaR
import Derived.Test.YtjjnidbggoaonaaGreatDoorStrIn
namespace Go.Proofs.YtjjnidbggoaonaaGreatDoor
open Go.RowKit
attribute [local irreducible] World.setCell World.alloc World.drew Calls Code.wp

/-- The number's four bytes. -/
def uns (n : Int) : Int := n % 4294967296
def Ins.enc (x : Ins) : List Int := [x.op, x.a, x.b, x.c, uns x.imm / 16777216, uns x.imm / 65536 % 256, uns x.imm / 256 % 256, uns x.imm % 256]

set_option maxHeartbeats 1000000 in
theorem enc_any (op a b c imm : Int) (w : World) (h : Ins.right ⟨op, a, b, c, imm⟩ = true) (hi : -2147483648 ≤ imm ∧ imm ≤ 2147483647) :
    Calls Tryz.prog 16 #[.agg #[.int .i64 op, .int .i64 a, .int .i64 b, .int .i64 c, .int .i32 imm]] w fun e w' => ∃ v, e = .returned v ∧ StrIn w' v (Ins.enc ⟨op, a, b, c, imm⟩) ∧ Below w.heap.size w w' := by
  obtain ⟨⟨o0, o1⟩, ⟨a0, a1⟩, ⟨b0, b1⟩, ⟨c0, c1⟩⟩ := Ins.right_spec h
  clear h
  simp only at o0 o1 a0 a1 b0 b1 c0 c1
  obtain ⟨i0, i1⟩ := hi
  obtain ⟨u, hu⟩ : ∃ u : Int, uns imm = u := ⟨_, rfl⟩
  have hw : IntKind.u32.wrap imm = u := by rw [← hu]; simp [IntKind.wrap_u32, uns]
  have u0 : 0 ≤ u := by rw [← hu]; unfold uns; omega
  have u1 : u ≤ 4294967295 := by rw [← hu]; unfold uns; omega
  have Hu := Lib.hid hu; clear hu
  go_enter Tryz.func16, Tryz.ntmps16
  go_wp2_with fail
  go_ret
  refine ⟨_, rfl, ?_, ((Below.refl _ _).alloc (Nat.le_refl _) _).alloc (by simp) _⟩
  have hB := Blk.new (w.alloc (.cells #[.int .i64 op, .int .i64 a, .int .i64 b, .int .i64 c, .int .i32 imm] 23)) #[.int .u8 op, .int .u8 a, .int .u8 b, .int .u8 c, .int .u8 (u / 16777216), .int .u8 (u / 65536 % 256), .int .u8 (u / 256 % 256), .int .u8 (u % 256)] 5
  rw [World.size_alloc] at hB
  refine StrIn.of_blk (l := Ins.enc ⟨op, a, b, c, imm⟩) (c := 8) hB fun j hj => ?_
  have hj : j < 8 := hj
  unfold Ins.enc
  simp only [Hu.out]
  obtain rfl | rfl | rfl | rfl | rfl | rfl | rfl | rfl : j = 0 ∨ j = 1 ∨ j = 2 ∨ j = 3 ∨ j = 4 ∨ j = 5 ∨ j = 6 ∨ j = 7 := by omega
  all_goals rfl
end Go.Proofs.YtjjnidbggoaonaaGreatDoor
