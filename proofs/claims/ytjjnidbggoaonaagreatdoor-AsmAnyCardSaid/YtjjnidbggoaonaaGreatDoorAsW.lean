/- Lines of instructions: plain. -/
import Derived.Test.YtjjnidbggoaonaaGreatDoorAsO
namespace Go.Proofs.YtjjnidbggoaonaaGreatDoor
open Go.RowKit
attribute [local irreducible] World.setCell World.alloc World.drew Calls Code.wp
attribute [local go_sem] Oper.semAt_some

theorem two_blk (w : World) (o1 o3 : Obj) (C : Array Value) (T : TypeId) : Blk (((w.alloc o1).alloc (.cells C T)).alloc o3) (w.heap.size + 1) C T := by
  have := (Blk.new (w.alloc o1) C T).alloc o3
  rw [World.size_alloc] at this
  exact this
set_option maxHeartbeats 4000000 in
theorem plain_any (o : Nat) (a b c imm : Int) (h0 : 1 ≤ o) (h1 : o ≤ 43) (w : World) :
    Calls Tryz.prog 33 #[.agg #[.int .i64 o, .int .i64 a, .int .i64 b, .int .i64 c, .int .i32 imm]] w fun e w' => e = .returned (plainA ⟨o, a, b, c, imm⟩).v ∧ Below w.heap.size w w' := by
  have Hform := Lib.hid (fun w => form_any o h0 h1 w)
  have hcs : formA o = 0 ∨ formA o = 1 ∨ formA o = 2 ∨ formA o = 3 ∨ formA o = 4 ∨ formA o = 5 ∨ formA o = 6 ∨ formA o = 7 ∨ formA o = 8 := by have := formA_le o; omega
  obtain ⟨f, hf⟩ : ∃ f, formA o = f := ⟨_, rfl⟩
  rw [hf] at Hform hcs
  go_enter Tryz.func33, Tryz.ntmps33
  go_wp2_with fail
  refine (Hform.out _).mono ?_
  rintro e w' ⟨rfl, rfl⟩
  rcases hcs with rfl | rfl | rfl | rfl | rfl | rfl | rfl | rfl | rfl
  all_goals
    go_wp2_with fail
  all_goals
    refine bodyPost_ret (results_cell_row rfl _ _ (w.heap.size + 1) _ _ (0, 0) _ rfl (two_blk w _ _ _ _) Tryz.underlying23 rfl (by kernel_rfl)) rfl ⟨?_, (((Below.refl _ w).alloc (Nat.le_refl _) _).alloc (by rw [World.size_alloc]; omega) _).alloc (by rw [World.size_alloc, World.size_alloc]; omega) _⟩
    simp [plainA, Ins.v, hf]
/-- A register's name: the closure in Line. -/
theorem regt_any (n : Int) (h0 : -9223372036854775808 ≤ n) (h1 : n ≤ 9223372036854775807) (w : World) (hp : HasPow w) :
    Calls Tryz.prog 38 #[.int .i64 n] w fun e w' => e = .returned (S (rT n)) ∧ Below w.heap.size w w' := by
  have Hi := Lib.hid (itoa_any n h0 h1 w hp)
  have hln := Lib.itoa_length_le n h0 h1
  obtain ⟨t, ht⟩ : ∃ t, Lib.itoa n = t := ⟨_, rfl⟩
  have hr : rT n = 114 :: t := by rw [← ht]; rfl
  rw [ht] at Hi hln
  have hcat : ∀ w, (Op.stringOp .add ⟨#[114]⟩ ⟨t.toArray⟩).run Tryz.prog w = .ok (S (114 :: t)) w := fun w => run_sadd [114] t (by simp; omega) w
  rw [hr]
  clear hp ht hr
  go_enter Tryz.func38, Tryz.ntmps38
  go_wp2_with fail
  refine Hi.out.mono ?_
  rintro e w2 ⟨rfl, hb⟩
  have Hb := Lib.hid hb
  clear hb
  go_wp2_with fail
  go_ret
  exact ⟨rfl, Hb.out⟩
end Go.Proofs.YtjjnidbggoaonaaGreatDoor
