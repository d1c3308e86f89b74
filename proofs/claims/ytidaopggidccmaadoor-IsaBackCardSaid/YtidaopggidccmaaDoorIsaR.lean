/- isa.Right, and the law's own: may it be an instruction? -/
import Derived.Test.YtidaopggidccmaaDoorIsaN
import Derived.LoopN
import Derived.BigQuiet
namespace Go.Proofs.YtidaopggidccmaaDoor
open Go.RowKit
attribute [local irreducible] World.setCell World.alloc World.drew Calls Code.wp

/-- An instruction's five numbers. -/
structure Ins where
  op : Int
  a : Int
  b : Int
  c : Int
  imm : Int

def Ins.v (x : Ins) : Value := .agg #[.int .i64 x.op, .int .i64 x.a, .int .i64 x.b, .int .i64 x.c, .int .i32 x.imm]
def Ins.cells (x : Ins) : Array Value := #[.int .i64 x.op, .int .i64 x.a, .int .i64 x.b, .int .i64 x.c, .int .i32 x.imm]
def regB (r : Int) : Bool := decide (0 ≤ r) && decide (r < 16)
def Ins.right (x : Ins) : Bool := (decide (1 ≤ x.op) && decide (x.op ≤ 43)) && (regB x.a && (regB x.b && regB x.c))
theorem regB_no {r : Int} (h : regB r = false) : r < 0 ∨ 16 ≤ r := by
  unfold regB at h; simp at h; omega
theorem regB_yes {r : Int} (h : regB r = true) : 0 ≤ r ∧ r < 16 := by
  unfold regB at h; simpa using h
theorem Ins.right_spec {x : Ins} (h : x.right = true) : (1 ≤ x.op ∧ x.op ≤ 43) ∧ (0 ≤ x.a ∧ x.a < 16) ∧ (0 ≤ x.b ∧ x.b < 16) ∧ (0 ≤ x.c ∧ x.c < 16) := by
  unfold Ins.right at h
  simp only [Bool.and_eq_true, decide_eq_true_eq] at h
  exact ⟨h.1, regB_yes h.2.1, regB_yes h.2.2.1, regB_yes h.2.2.2⟩

set_option maxHeartbeats 1000000 in
theorem right_any (op a b c imm : Int) (w : World) :
    Calls Tryd.prog 22 #[.agg #[.int .i64 op, .int .i64 a, .int .i64 b, .int .i64 c, .int .i32 imm]] w fun e w' => e = .returned (.bool (Ins.right ⟨op, a, b, c, imm⟩)) ∧ Below w.heap.size w w' := by
  have hx : Ins.right ⟨op, a, b, c, imm⟩ = ((decide (1 ≤ op) && decide (op ≤ 43)) && (regB a && (regB b && regB c))) := rfl
  have Hx := Lib.hid hx; clear hx
  have i0 : ∀ w, (Instr.index 69 (.agg #[.int .i64 a, .int .i64 b, .int .i64 c]) (.int .i64 0)).run Tryd.prog w = .ok (.int .i64 a) w := fun _ => by kernel_rfl
  have i1 : ∀ w, (Instr.index 69 (.agg #[.int .i64 a, .int .i64 b, .int .i64 c]) (.int .i64 1)).run Tryd.prog w = .ok (.int .i64 b) w := fun _ => by kernel_rfl
  have i2 : ∀ w, (Instr.index 69 (.agg #[.int .i64 a, .int .i64 b, .int .i64 c]) (.int .i64 2)).run Tryd.prog w = .ok (.int .i64 c) w := fun _ => by kernel_rfl
  have hb := (Below.refl w.heap.size w).alloc (Nat.le_refl _) (.cells #[.int .i64 op, .int .i64 a, .int .i64 b, .int .i64 c, .int .i32 imm] 25)
  have Hb := Lib.hid hb; clear hb
  cases ha : regB a
  · have Ha := Lib.hid ha
    rcases regB_no ha with h | h
    all_goals clear ha
    all_goals go_enter Tryd.func22, Tryd.ntmps22
    all_goals go_wp2_with fail
    all_goals refine wp_loop_rounds 1 ?_
    all_goals rw [rounds_succ]
    all_goals go_wp2_with fail
    all_goals go_ret
    all_goals exact ⟨by rw [Hx.out, Ha.out]; simp, Hb.out⟩
  cases hb : regB b
  · have Hbb := Lib.hid hb
    obtain ⟨a0, a1⟩ := regB_yes ha
    rcases regB_no hb with h | h
    all_goals clear ha hb
    all_goals go_enter Tryd.func22, Tryd.ntmps22
    all_goals go_wp2_with fail
    all_goals refine wp_loop_rounds 2 ?_
    all_goals rw [rounds_succ]
    all_goals go_wp2_with fail
    all_goals rw [rounds_succ]
    all_goals go_wp2_with fail
    all_goals go_ret
    all_goals exact ⟨by rw [Hx.out, Hbb.out]; simp, Hb.out⟩
  cases hc : regB c
  · have Hcc := Lib.hid hc
    obtain ⟨a0, a1⟩ := regB_yes ha
    obtain ⟨b0, b1⟩ := regB_yes hb
    rcases regB_no hc with h | h
    all_goals clear ha hb hc
    all_goals go_enter Tryd.func22, Tryd.ntmps22
    all_goals go_wp2_with fail
    all_goals refine wp_loop_rounds 3 ?_
    all_goals rw [rounds_succ]
    all_goals go_wp2_with fail
    all_goals rw [rounds_succ]
    all_goals go_wp2_with fail
    all_goals rw [rounds_succ]
    all_goals go_wp2_with fail
    all_goals go_ret
    all_goals exact ⟨by rw [Hx.out, Hcc.out]; simp, Hb.out⟩
  obtain ⟨a0, a1⟩ := regB_yes ha
  obtain ⟨b0, b1⟩ := regB_yes hb
  obtain ⟨c0, c1⟩ := regB_yes hc
  have Ha := Lib.hid ha; have Hbb := Lib.hid hb; have Hcc := Lib.hid hc; clear ha hb hc
  by_cases h1 : 1 ≤ op
  all_goals go_enter Tryd.func22, Tryd.ntmps22
  all_goals go_wp2_with fail
  all_goals refine wp_loop_rounds 4 ?_
  all_goals rw [rounds_succ]
  all_goals go_wp2_with fail
  all_goals rw [rounds_succ]
  all_goals go_wp2_with fail
  all_goals rw [rounds_succ]
  all_goals go_wp2_with fail
  all_goals rw [rounds_succ]
  all_goals go_wp2_with fail
  all_goals go_ret
  · refine ⟨?_, Hb.out⟩
    rw [Hx.out, Ha.out, Hbb.out, Hcc.out]
    simp [h1]
    omega
  · refine ⟨?_, Hb.out⟩
    rw [Hx.out, Ha.out, Hbb.out, Hcc.out]
    simp
    omega

theorem nm_cons (k : Nat) (h : k < 43) : ∃ x r, nm k = x :: r := by
  have h1 : ∀ k, k < 43 → (nm k).isEmpty = false := by decide +kernel
  have := h1 k h
  cases hn : nm k with
  | nil => rw [hn] at this; cases this
  | cons x r => exact ⟨x, r, rfl⟩
theorem nameOf_yes {op : Int} (h : 1 ≤ op ∧ op ≤ 43) : ∃ x r, nameOf op = x :: r := by
  unfold nameOf
  rw [if_pos h]
  exact nm_cons _ (by omega)
theorem nameOf_no {op : Int} (h : ¬ (1 ≤ op ∧ op ≤ 43)) : nameOf op = [] := if_neg h

set_option maxHeartbeats 1000000 in
theorem lright_any (op a b c imm : Int) (w : World) :
    Calls Tryd.prog 14 #[.agg #[.int .i64 op, .int .i64 a, .int .i64 b, .int .i64 c, .int .i32 imm]] w fun e w' => e = .returned (.bool (Ins.right ⟨op, a, b, c, imm⟩)) ∧ Below w.heap.size w w' := by
  have hx : Ins.right ⟨op, a, b, c, imm⟩ = ((decide (1 ≤ op) && decide (op ≤ 43)) && (regB a && (regB b && regB c))) := rfl
  have Hx := Lib.hid hx; clear hx
  have hb := (Below.refl w.heap.size w).alloc (Nat.le_refl _) (.cells #[.int .i64 op, .int .i64 a, .int .i64 b, .int .i64 c, .int .i32 imm] 25)
  have Hb := Lib.hid hb; clear hb
  by_cases ho : 1 ≤ op ∧ op ≤ 43
  · obtain ⟨x, r, hxr⟩ := nameOf_yes ho
    have Hxr := Lib.hid hxr; clear hxr
    have Ho := Lib.hid ho; clear ho
    have key : ∀ P, P = Ins.right ⟨op, a, b, c, imm⟩ → (regB a && (regB b && regB c)) = P := fun P hP => by
      rw [hP, Hx.out]; simp [Ho.out.1, Ho.out.2]
    have Key := Lib.hid key; clear key
    by_cases a0 : 0 ≤ a
    · by_cases a1 : a < 16
      · by_cases b0 : 0 ≤ b
        · by_cases b1 : b < 16
          · by_cases c0 : 0 ≤ c
            all_goals go_enter Tryd.func14, Tryd.ntmps14
            all_goals go_wp2_with fail
            all_goals refine (name_any op _).mono ?_
            all_goals rintro e w1 ⟨rfl, hb1⟩
            all_goals rw [Hxr.out]
            all_goals have hc1 := fun i => (show w1.cell? ⟨w.heap.size, i, none⟩ = _ from hb1.cell (p := ⟨w.heap.size, i, none⟩) (by simp)).trans ((Blk.new w #[.int .i64 op, .int .i64 a, .int .i64 b, .int .i64 c, .int .i32 imm] 25).cell i)
            all_goals have Hb1 := Lib.hid (Hb.out.trans (hb1.mono (by simp))); clear hb1
            all_goals go_wp2_with fail
            all_goals go_ret
            all_goals refine ⟨?_, Hb1.out⟩
            all_goals rw [← Key.out _ rfl]
            all_goals simp [regB, a0, a1, b0, b1]
            all_goals omega
          · have b1' : 16 ≤ b := by omega
            go_enter Tryd.func14, Tryd.ntmps14
            go_wp2_with fail
            refine (name_any op _).mono ?_
            rintro e w1 ⟨rfl, hb1⟩
            rw [Hxr.out]
            have hc1 := fun i => (show w1.cell? ⟨w.heap.size, i, none⟩ = _ from hb1.cell (p := ⟨w.heap.size, i, none⟩) (by simp)).trans ((Blk.new w #[.int .i64 op, .int .i64 a, .int .i64 b, .int .i64 c, .int .i32 imm] 25).cell i)
            have Hb1 := Lib.hid (Hb.out.trans (hb1.mono (by simp))); clear hb1
            go_wp2_with fail
            go_ret
            refine ⟨?_, Hb1.out⟩
            rw [← Key.out _ rfl]
            simp [regB, a0, a1, b0]
            omega
        · have b0' : b < 0 := by omega
          go_enter Tryd.func14, Tryd.ntmps14
          go_wp2_with fail
          refine (name_any op _).mono ?_
          rintro e w1 ⟨rfl, hb1⟩
          rw [Hxr.out]
          have hc1 := fun i => (show w1.cell? ⟨w.heap.size, i, none⟩ = _ from hb1.cell (p := ⟨w.heap.size, i, none⟩) (by simp)).trans ((Blk.new w #[.int .i64 op, .int .i64 a, .int .i64 b, .int .i64 c, .int .i32 imm] 25).cell i)
          have Hb1 := Lib.hid (Hb.out.trans (hb1.mono (by simp))); clear hb1
          go_wp2_with fail
          go_ret
          refine ⟨?_, Hb1.out⟩
          rw [← Key.out _ rfl]
          simp [regB, a0, a1]
          omega
      · have a1' : 16 ≤ a := by omega
        go_enter Tryd.func14, Tryd.ntmps14
        go_wp2_with fail
        refine (name_any op _).mono ?_
        rintro e w1 ⟨rfl, hb1⟩
        rw [Hxr.out]
        have hc1 := fun i => (show w1.cell? ⟨w.heap.size, i, none⟩ = _ from hb1.cell (p := ⟨w.heap.size, i, none⟩) (by simp)).trans ((Blk.new w #[.int .i64 op, .int .i64 a, .int .i64 b, .int .i64 c, .int .i32 imm] 25).cell i)
        have Hb1 := Lib.hid (Hb.out.trans (hb1.mono (by simp))); clear hb1
        go_wp2_with fail
        go_ret
        refine ⟨?_, Hb1.out⟩
        rw [← Key.out _ rfl]
        simp [regB, a0]
        omega
    · have a0' : a < 0 := by omega
      go_enter Tryd.func14, Tryd.ntmps14
      go_wp2_with fail
      refine (name_any op _).mono ?_
      rintro e w1 ⟨rfl, hb1⟩
      rw [Hxr.out]
      have hc1 := fun i => (show w1.cell? ⟨w.heap.size, i, none⟩ = _ from hb1.cell (p := ⟨w.heap.size, i, none⟩) (by simp)).trans ((Blk.new w #[.int .i64 op, .int .i64 a, .int .i64 b, .int .i64 c, .int .i32 imm] 25).cell i)
      have Hb1 := Lib.hid (Hb.out.trans (hb1.mono (by simp))); clear hb1
      go_wp2_with fail
      go_ret
      refine ⟨?_, Hb1.out⟩
      rw [← Key.out _ rfl]
      simp [regB]
      omega
  · have hn := nameOf_no ho
    have Hn := Lib.hid hn; clear hn
    go_enter Tryd.func14, Tryd.ntmps14
    go_wp2_with fail
    refine (name_any op _).mono ?_
    rintro e w1 ⟨rfl, hb1⟩
    rw [Hn.out]
    have Hb1 := Lib.hid (Hb.out.trans (hb1.mono (by simp))); clear hb1
    go_wp2_with fail
    go_ret
    refine ⟨?_, Hb1.out⟩
    rw [Hx.out]
    simp
    omega
end Go.Proofs.YtidaopggidccmaaDoor
