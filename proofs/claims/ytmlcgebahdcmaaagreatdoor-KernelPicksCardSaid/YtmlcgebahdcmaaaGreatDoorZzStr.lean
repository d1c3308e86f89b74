/- Of the proof of this claim: a joined text. -/
import Derived.Test.YtmlcgebahdcmaaaGreatDoorZzLib
import Derived.LoopN
import Derived.BigQuiet
set_option maxHeartbeats 1000000
namespace Go.Proofs.YtmlcgebahdcmaaaGreatDoor
open Go.RowKit
def bs (l : List Int) : ByteArray := l.foldl (fun r n => r.push (UInt8.ofNat n.toNat)) ByteArray.empty
def bytesV (l : List Int) : List Value := l.map (Value.int .u8)
section
variable {P : Program} {src dst e : Nat}
end
end Go.Proofs.YtmlcgebahdcmaaaGreatDoor
namespace Go.Proofs.YtmlcgebahdcmaaaGreatDoor
open Go.RowKit
attribute [local irreducible] World.setCell World.alloc World.drew Calls Code.wp
structure Ins where
 op : Int
 a : Int
 b : Int
 c : Int
 imm : Int
def Ins.v (x : Ins) : Value := .agg #[.int .i64 x.op, .int .i64 x.a, .int .i64 x.b, .int .i64 x.c, .int .i32 x.imm]
def regB (r : Int) : Bool := decide (0 <= r) && decide (r < 16)
def Ins.right (x : Ins) : Bool := (decide (1 <= x.op) && decide (x.op <= 43)) && (regB x.a && (regB x.b && regB x.c))
theorem regB_no {r : Int} (h : regB r = false) : r < 0 \/ 16 <= r := by
 unfold regB at h; simp at h; omega
theorem regB_yes {r : Int} (h : regB r = true) : 0 <= r /\ r < 16 := by
 unfold regB at h; simpa using h
theorem Ins.right_spec {x : Ins} (h : x.right = true) : (1 <= x.op /\ x.op <= 43) /\ (0 <= x.a /\ x.a < 16) /\ (0 <= x.b /\ x.b < 16) /\ (0 <= x.c /\ x.c < 16) := by
 unfold Ins.right at h
 simp only [Bool.and_eq_true, decide_eq_true_eq] at h
 exact ⟨h.1, regB_yes h.2.1, regB_yes h.2.2.1, regB_yes h.2.2.2⟩
theorem right_any (op a b c imm : Int) (w : World) :
  Calls Tryz.prog 144 #[.agg #[.int .i64 op, .int .i64 a, .int .i64 b, .int .i64 c, .int .i32 imm]] w fun e w' => e = .returned (.bool (Ins.right ⟨op, a, b, c, imm⟩)) /\ Below w.heap.size w w' := by
 have hx : Ins.right ⟨op, a, b, c, imm⟩ = ((decide (1 <= op) && decide (op <= 43)) && (regB a && (regB b && regB c))) := rfl
 have Hx := Lib.hid hx; clear hx
 have i0 : ∀ w, (Instr.index 304 (.agg #[.int .i64 a, .int .i64 b, .int .i64 c]) (.int .i64 0)).run Tryz.prog w = .ok (.int .i64 a) w := fun _ => by kernel_rfl
 have i1 : ∀ w, (Instr.index 304 (.agg #[.int .i64 a, .int .i64 b, .int .i64 c]) (.int .i64 1)).run Tryz.prog w = .ok (.int .i64 b) w := fun _ => by kernel_rfl
 have i2 : ∀ w, (Instr.index 304 (.agg #[.int .i64 a, .int .i64 b, .int .i64 c]) (.int .i64 2)).run Tryz.prog w = .ok (.int .i64 c) w := fun _ => by kernel_rfl
 have hb := (Below.refl w.heap.size w).alloc (Nat.le_refl _) (.cells #[.int .i64 op, .int .i64 a, .int .i64 b, .int .i64 c, .int .i32 imm] 90)
 have Hb := Lib.hid hb; clear hb
 cases ha : regB a
 ·have Ha := Lib.hid ha
  rcases regB_no ha with h | h
  all_goals clear ha
  all_goals go_enter Tryz.func144, Tryz.ntmps144
  all_goals go_wp2_with fail
  all_goals refine wp_loop_rounds 1 ?_
  all_goals rw [rounds_succ]
  all_goals go_wp2_with fail
  all_goals go_ret
  all_goals exact ⟨by rw [Hx.out, Ha.out]; simp, Hb.out⟩
 cases hb : regB b
 ·have Hbb := Lib.hid hb
  obtain ⟨a0, a1⟩ := regB_yes ha
  rcases regB_no hb with h | h
  all_goals clear ha hb
  all_goals go_enter Tryz.func144, Tryz.ntmps144
  all_goals go_wp2_with fail
  all_goals refine wp_loop_rounds 2 ?_
  all_goals rw [rounds_succ]
  all_goals go_wp2_with fail
  all_goals rw [rounds_succ]
  all_goals go_wp2_with fail
  all_goals go_ret
  all_goals exact ⟨by rw [Hx.out, Hbb.out]; simp, Hb.out⟩
 cases hc : regB c
 ·have Hcc := Lib.hid hc
  obtain ⟨a0, a1⟩ := regB_yes ha
  obtain ⟨b0, b1⟩ := regB_yes hb
  rcases regB_no hc with h | h
  all_goals clear ha hb hc
  all_goals go_enter Tryz.func144, Tryz.ntmps144
  all_goals go_wp2_with fail
  all_goals refine wp_loop_rounds 3 ?_
  all_goals rw [rounds_succ]
  all_goals go_wp2_with fail
  all_goals rw [rounds_succ]
  all_goals go_wp2_with fail
  all_goals rw [rounds_succ]
  all_goals go_wp2_with fail
  all_goals go_ret
  all_goals exact ⟨by rw [Hx.out, Hcc.out]; simp, Hb.out⟩
 obtain ⟨a0, a1⟩ := regB_yes ha
 obtain ⟨b0, b1⟩ := regB_yes hb
 obtain ⟨c0, c1⟩ := regB_yes hc
 have Ha := Lib.hid ha; have Hbb := Lib.hid hb; have Hcc := Lib.hid hc; clear ha hb hc
 by_cases h1 : 1 <= op
 all_goals go_enter Tryz.func144, Tryz.ntmps144
 all_goals go_wp2_with fail
 all_goals refine wp_loop_rounds 4 ?_
 all_goals rw [rounds_succ]
 all_goals go_wp2_with fail
 all_goals rw [rounds_succ]
 all_goals go_wp2_with fail
 all_goals rw [rounds_succ]
 all_goals go_wp2_with fail
 all_goals rw [rounds_succ]
 all_goals go_wp2_with fail
 all_goals go_ret
 ·refine ⟨?_, Hb.out⟩
  rw [Hx.out, Ha.out, Hbb.out, Hcc.out]
  simp [h1]
  omega
 ·refine ⟨?_, Hb.out⟩
  rw [Hx.out, Ha.out, Hbb.out, Hcc.out]
  simp
  omega
end Go.Proofs.YtmlcgebahdcmaaaGreatDoor
namespace Go.Proofs.YtmlcgebahdcmaaaGreatDoor
open Go.RowKit
def StrIn (w : World) (v : Value) (l : List Int) : Prop :=
 ∃ x c, v = .slice x l.length c /\ (l = [] \/ ∃ b o, x = some ⟨b, o, none⟩ /\ b < w.heap.size /\ ∀ j, j < l.length -> w.cell? ⟨b, o + j, none⟩ = some (.int .u8 (l.getD j 0)))
theorem StrIn.of_blk {w : World} {b t c : Nat} {l : List Int} {cs : Array Value} (h : Blk w b cs t) (hc : ∀ j, j < l.length -> cs[j]? = some (.int .u8 (l.getD j 0))) : StrIn w (.slice (some ⟨b, 0, none⟩) l.length c) l :=
 ⟨_, c, rfl, .inr ⟨b, 0, rfl, h.lt, fun j hj => by rw [Nat.zero_add, h.cell, hc j hj]⟩⟩
end Go.Proofs.YtmlcgebahdcmaaaGreatDoor
namespace Go.Proofs.YtmlcgebahdcmaaaGreatDoor
open Go.RowKit
attribute [local irreducible] World.setCell World.alloc World.drew Calls Code.wp
def uns (n : Int) : Int := n % 4294967296
def Ins.enc (x : Ins) : List Int := [x.op, x.a, x.b, x.c, uns x.imm / 16777216, uns x.imm / 65536 % 256, uns x.imm / 256 % 256, uns x.imm % 256]
theorem enc_any (op a b c imm : Int) (w : World) (h : Ins.right ⟨op, a, b, c, imm⟩ = true) (hi : -2147483648 <= imm /\ imm <= 2147483647) :
  Calls Tryz.prog 58 #[.agg #[.int .i64 op, .int .i64 a, .int .i64 b, .int .i64 c, .int .i32 imm]] w fun e w' => ∃ v, e = .returned v /\ StrIn w' v (Ins.enc ⟨op, a, b, c, imm⟩) /\ Below w.heap.size w w' := by
 obtain ⟨⟨o0, o1⟩, ⟨a0, a1⟩, ⟨b0, b1⟩, ⟨c0, c1⟩⟩ := Ins.right_spec h
 clear h
 simp only at o0 o1 a0 a1 b0 b1 c0 c1
 obtain ⟨i0, i1⟩ := hi
 obtain ⟨u, hu⟩ : ∃ u : Int, uns imm = u := ⟨_, rfl⟩
 have hw : IntKind.u32.wrap imm = u := by rw [<- hu]; simp [IntKind.wrap_u32, uns]
 have u0 : 0 <= u := by rw [<- hu]; unfold uns; omega
 have u1 : u <= 4294967295 := by rw [<- hu]; unfold uns; omega
 have Hu := Lib.hid hu; clear hu
 go_enter Tryz.func58, Tryz.ntmps58
 go_wp2_with fail
 go_ret
 refine ⟨_, rfl, ?_, ((Below.refl _ _).alloc (Nat.le_refl _) _).alloc (by simp) _⟩
 have hB := Blk.new (w.alloc (.cells #[.int .i64 op, .int .i64 a, .int .i64 b, .int .i64 c, .int .i32 imm] 90)) #[.int .u8 op, .int .u8 a, .int .u8 b, .int .u8 c, .int .u8 (u / 16777216), .int .u8 (u / 65536 % 256), .int .u8 (u / 256 % 256), .int .u8 (u % 256)] 5
 rw [World.size_alloc] at hB
 refine StrIn.of_blk (l := Ins.enc ⟨op, a, b, c, imm⟩) (c := 8) hB fun j hj => ?_
 have hj : j < 8 := hj
 unfold Ins.enc
 simp only [Hu.out]
 obtain rfl | rfl | rfl | rfl | rfl | rfl | rfl | rfl : j = 0 \/ j = 1 \/ j = 2 \/ j = 3 \/ j = 4 \/ j = 5 \/ j = 6 \/ j = 7 := by omega
 all_goals rfl
end Go.Proofs.YtmlcgebahdcmaaaGreatDoor
