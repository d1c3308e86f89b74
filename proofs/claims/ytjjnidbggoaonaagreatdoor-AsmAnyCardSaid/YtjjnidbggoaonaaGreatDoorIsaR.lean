/- isa.Right, and the law's own: may it be an instruction? -/
import Derived.Test.YtjjnidbggoaonaaGreatDoorIsaN
import Derived.LoopN
import Derived.BigQuiet
namespace Go.Proofs.YtjjnidbggoaonaaGreatDoor
open Go.RowKit
attribute [local irreducible] World.setCell World.alloc World.drew Calls Code.wp

/-- An instruction's five numbers. -/
structure Ins where
  op : Int
  a : Int
  b : Int
  c : Int
  imm : Int

def Ins.v (x : Ins) : Value := .agg #[.int .i64 x.op, .int .i64 x.a, .int .i64 x.b, .int .i64 x.c, .int .i32 x.imm]
def Ins.cells (x : Ins) : Array Value := #[.int .i64 x.op, .int .i64 x.a, .int .i64 x.b, .int .i64 x.c, .int .i32 x.imm]
def regB (r : Int) : Bool := decide (0 ≤ r) && decide (r < 16)
def Ins.right (x : Ins) : Bool := (decide (1 ≤ x.op) && decide (x.op ≤ 43)) && (regB x.a && (regB x.b && regB x.c))
theorem regB_no {r : Int} (h : regB r = false) : r < 0 ∨ 16 ≤ r := by
  unfold regB at h; simp at h; omega
theorem regB_yes {r : Int} (h : regB r = true) : 0 ≤ r ∧ r < 16 := by
  unfold regB at h; simpa using h
theorem Ins.right_spec {x : Ins} (h : x.right = true) : (1 ≤ x.op ∧ x.op ≤ 43) ∧ (0 ≤ x.a ∧ x.a < 16) ∧ (0 ≤ x.b ∧ x.b < 16) ∧ (0 ≤ x.c ∧ x.c < 16) := by
  unfold Ins.right at h
  simp only [Bool.and_eq_true, decide_eq_true_eq] at h
  exact ⟨h.1, regB_yes h.2.1, regB_yes h.2.2.1, regB_yes h.2.2.2⟩

set_option maxHeartbeats 1000000 in
theorem right_any (op a b c imm : Int) (w : World) :
    Calls Tryz.prog 41 #[.agg #[.int .i64 op, .int .i64 a, .int .i64 b, .int .i64 c, .int .i32 imm]] w fun e w' => e = .returned (.bool (Ins.right ⟨op, a, b, c, imm⟩)) ∧ Below w.heap.size w w' := by
  have hx : Ins.right ⟨op, a, b, c, imm⟩ = ((decide (1 ≤ op) && decide (op ≤ 43)) && (regB a && (regB b && regB c))) := rfl
  have Hx := Lib.hid hx; clear hx
  have i0 : ∀ w, (Instr.index 115 (.agg #[.int .i64 a, .int .i64 b, .int .i64 c]) (.int .i64 0)).run Tryz.prog w = .ok (.int .i64 a) w := fun _ => by kernel_rfl
  have i1 : ∀ w, (Instr.index 115 (.agg #[.int .i64 a, .int .i64 b, .int .i64 c]) (.int .i64 1)).run Tryz.prog w = .ok (.int .i64 b) w := fun _ => by kernel_rfl
  have i2 : ∀ w, (Instr.index 115 (.agg #[.int .i64 a, .int .i64 b, .int .i64 c]) (.int .i64 2)).run Tryz.prog w = .ok (.int .i64 c) w := fun _ => by kernel_rfl
  have hb := (Below.refl w.heap.size w).alloc (Nat.le_refl _) (.cells #[.int .i64 op, .int .i64 a, .int .i64 b, .int .i64 c, .int .i32 imm] 23)
  have Hb := Lib.hid hb; clear hb
  cases ha : regB a
  · have Ha := Lib.hid ha
    rcases regB_no ha with h | h
    all_goals clear ha
    all_goals go_enter Tryz.func41, Tryz.ntmps41
    all_goals go_wp2_with fail
    all_goals refine wp_loop_rounds 1 ?_
    all_goals rw [rounds_succ]
    all_goals go_wp2_with fail
    all_goals go_ret
    all_goals exact ⟨by rw [Hx.out, Ha.out]; simp, Hb.out⟩
  cases hb : regB b
  · have Hbb := Lib.hid hb
    obtain ⟨a0, a1⟩ := regB_yes ha
    rcases regB_no hb with h | h
    all_goals clear ha hb
    all_goals go_enter Tryz.func41, Tryz.ntmps41
    all_goals go_wp2_with fail
    all_goals refine wp_loop_rounds 2 ?_
    all_goals rw [rounds_succ]
    all_goals go_wp2_with fail
    all_goals rw [rounds_succ]
    all_goals go_wp2_with fail
    all_goals go_ret
    all_goals exact ⟨by rw [Hx.out, Hbb.out]; simp, Hb.out⟩
  cases hc : regB c
  · have Hcc := Lib.hid hc
    obtain ⟨a0, a1⟩ := regB_yes ha
    obtain ⟨b0, b1⟩ := regB_yes hb
    rcases regB_no hc with h | h
    all_goals clear ha hb hc
    all_goals go_enter Tryz.func41, Tryz.ntmps41
    all_goals go_wp2_with fail
    all_goals refine wp_loop_rounds 3 ?_
    all_goals rw [rounds_succ]
    all_goals go_wp2_with fail
    all_goals rw [rounds_succ]
    all_goals go_wp2_with fail
    all_goals rw [rounds_succ]
    all_goals go_wp2_with fail
    all_goals go_ret
    all_goals exact ⟨by rw [Hx.out, Hcc.out]; simp, Hb.out⟩
  obtain ⟨a0, a1⟩ := regB_yes ha
  obtain ⟨b0, b1⟩ := regB_yes hb
  obtain ⟨c0, c1⟩ := regB_yes hc
  have Ha := Lib.hid ha; have Hbb := Lib.hid hb; have Hcc := Lib.hid hc; clear ha hb hc
  by_cases h1 : 1 ≤ op
  all_goals go_enter Tryz.func41, Tryz.ntmps41
  all_goals go_wp2_with fail
  all_goals refine wp_loop_rounds 4 ?_
  all_goals rw [rounds_succ]
  all_goals go_wp2_with fail
  all_goals rw [rounds_succ]
  all_goals go_wp2_with fail
  all_goals rw [rounds_succ]
  all_goals go_wp2_with fail
  all_goals rw [rounds_succ]
  all_goals go_wp2_with fail
  all_goals go_ret
  · refine ⟨?_, Hb.out⟩
    rw [Hx.out, Ha.out, Hbb.out, Hcc.out]
    simp [h1]
    omega
  · refine ⟨?_, Hb.out⟩
    rw [Hx.out, Ha.out, Hbb.out, Hcc.out]
    simp
    omega

theorem nm_cons (k : Nat) (h : k < 43) : ∃ x r, nm k = x :: r := by
  have h1 : ∀ k, k < 43 → (nm k).isEmpty = false := by decide +kernel
  have := h1 k h
  cases hn : nm k with
  | nil => rw [hn] at this; cases this
  | cons x r => exact ⟨x, r, rfl⟩
end Go.Proofs.YtjjnidbggoaonaaGreatDoor
