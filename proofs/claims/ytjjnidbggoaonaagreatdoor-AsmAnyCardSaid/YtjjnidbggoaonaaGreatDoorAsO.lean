/- The assembler's forms and names of operations; places. -/
import Derived.Test.YtjjnidbggoaonaaGreatDoorAsX
import Derived.Test.YtjjnidbggoaonaaGreatDoorMapS
namespace Go.Proofs.YtjjnidbggoaonaaGreatDoor
open Go.RowKit
attribute [local irreducible] World.setCell World.alloc World.drew Calls Code.wp
attribute [local go_sem] Oper.semAt_some

set_option maxHeartbeats 4000000 in
theorem form_any (op : Nat) (h0 : 1 ≤ op) (h1 : op ≤ 43) (w : World) : Calls Tryz.prog 40 #[.int .i64 op] w fun e w' => e = .returned (.int .i64 (formA op : Nat)) ∧ w = w' := by
  obtain rfl | rfl | rfl | rfl | rfl | rfl | rfl | rfl | rfl | rfl | rfl | rfl | rfl | rfl | rfl | rfl | rfl | rfl | rfl | rfl | rfl | rfl | rfl | rfl | rfl | rfl | rfl | rfl | rfl | rfl | rfl | rfl | rfl | rfl | rfl | rfl | rfl | rfl | rfl | rfl | rfl | rfl | rfl : op = 1 ∨ op = 2 ∨ op = 3 ∨ op = 4 ∨ op = 5 ∨ op = 6 ∨ op = 7 ∨ op = 8 ∨ op = 9 ∨ op = 10 ∨ op = 11 ∨ op = 12 ∨ op = 13 ∨ op = 14 ∨ op = 15 ∨ op = 16 ∨ op = 17 ∨ op = 18 ∨ op = 19 ∨ op = 20 ∨ op = 21 ∨ op = 22 ∨ op = 23 ∨ op = 24 ∨ op = 25 ∨ op = 26 ∨ op = 27 ∨ op = 28 ∨ op = 29 ∨ op = 30 ∨ op = 31 ∨ op = 32 ∨ op = 33 ∨ op = 34 ∨ op = 35 ∨ op = 36 ∨ op = 37 ∨ op = 38 ∨ op = 39 ∨ op = 40 ∨ op = 41 ∨ op = 42 ∨ op = 43 := by omega
  all_goals
    go_enter Tryz.func40, Tryz.ntmps40
    go_wp2_with fail
    go_ret
    exact ⟨rfl, rfl⟩
theorem itoa0 : Lib.itoa 0 = [48] := by
  have h : Lib.itoa ((0 : Nat) : Int) = Lib.decDigits 0 := by unfold Lib.itoa; rw [if_neg (by omega)]; rfl
  rw [show (0 : Int) = ((0 : Nat) : Int) from rfl, h, Lib.decDigits, dif_pos (by omega)]; rfl
theorem opT_text (k : Nat) (h : k < 43) : (Ins.mk ((k : Int) + 1) 0 0 0 0).text = opT k := by
  have hr : (Ins.mk ((k : Int) + 1) 0 0 0 0).right = true := by simp [Ins.right, regB]; omega
  unfold Ins.text opT
  rw [if_pos hr]
  simp only [itoa0]
  rw [show ((k : Int) + 1).toNat - 1 = k by omega]
  simp
set_option maxRecDepth 100000 in
set_option maxHeartbeats 2000000 in
theorem op_any (word : List UInt8) (hl : word.length ≤ 100000) (w : World) (h : HasAs w) :
    Calls Tryz.prog 67 #[S word] w fun e w' => e = .returned (.int .i64 (opA word : Nat)) ∧ Below w.heap.size w w' := by
  have H := Lib.hid h
  clear h
  have a1 : ∀ w, (Op.stringOp .add ⟨word.toArray⟩ ⟨#[32]⟩).run Tryz.prog w = .ok (S (word ++ [32])) w := run_sadd word [32] (by simp; omega)
  obtain ⟨W, hW⟩ : ∃ W, word ++ [32] = W := ⟨_, rfl⟩
  rw [hW] at a1
  have HW := Lib.hid hW
  clear hW
  go_enter Tryz.func67, Tryz.ntmps67
  go_wp2_with fail
  go_loopg [3] 43 (fun g vi wx => ∃ k : Nat, k + g = 43 ∧ vi = .int .i64 ((k : Int) + 1) ∧ Below w.heap.size w wx ∧ Hid (opA word = opFrom word k g))
  case atStart => exact ⟨0, rfl, rfl, Below.refl _ _, Lib.hid rfl⟩
  case round =>
    obtain ⟨k, hk, rfl, hb, hh⟩ := hrel
    have Hb := Lib.hid hb; clear hb
    by_cases hlt : k < 43
    · have hlt' : (k : Int) + 1 ≤ 43 := by omega
      obtain ⟨g, hg⟩ : ∃ g, gk = g + 1 := ⟨gk - 1, by omega⟩
      have hst : opA word = if W.isPrefixOf (opT k) then k + 1 else opFrom word (k + 1) g := by rw [hh.out, hg, ← HW.out]; rfl
      have Htx := Lib.hid (fun w hp hs => text_any ⟨(k : Int) + 1, 0, 0, 0, 0⟩ (by simp) w hp hs)
      rw [opT_text k hlt] at Htx
      simp only at Htx
      clear hh
      obtain ⟨T, hT⟩ : ∃ T, opT k = T := ⟨_, rfl⟩
      rw [hT] at hst Htx
      clear hT
      cases hp : W.isPrefixOf T
      · have Hst : Hid (opA word = opFrom word (k + 1) g) := by show _ = _; rw [hst, hp]; rfl
        have Hp := Lib.hid hp
        clear hst hp
        go_wp2_with fail
        refine (Htx.out _ (H.out.pow.below Hb.out) (H.out.sp.below Hb.out)).mono ?_
        rintro e w2 ⟨rfl, hb2⟩
        have Hb2 := Lib.hid (bel_from Hb.out hb2)
        clear hb2
        go_wp2_with fail
        refine (pre_any _ _ _).mono ?_
        rintro e w3 ⟨rfl, rfl⟩
        rw [Hp.out]
        go_wp2_with fail
        go_roundg g
        case measure => omega
        case rel => exact ⟨k + 1, by omega, by go_num, Hb2.out, Hst⟩
      · have Hst : Hid (opA word = k + 1) := by show _ = _; rw [hst, hp]; rfl
        have Hp := Lib.hid hp
        clear hst hp
        go_wp2_with fail
        refine (Htx.out _ (H.out.pow.below Hb.out) (H.out.sp.below Hb.out)).mono ?_
        rintro e w2 ⟨rfl, hb2⟩
        have Hb2 := Lib.hid (bel_from Hb.out hb2)
        clear hb2
        go_wp2_with fail
        refine (pre_any _ _ _).mono ?_
        rintro e w3 ⟨rfl, rfl⟩
        rw [Hp.out]
        go_wp2_with fail
        go_ret
        exact ⟨by rw [Hst.out]; rfl, Hb2.out⟩
    · obtain rfl : k = 43 := by omega
      obtain rfl : gk = 0 := by omega
      have hf : Hid (opA word = 0) := by show _ = _; rw [hh.out]; rfl
      clear hh
      go_wp2_with fail
      go_ret
      exact ⟨by rw [hf.out]; rfl, Hb.out⟩
end Go.Proofs.YtjjnidbggoaonaaGreatDoor
