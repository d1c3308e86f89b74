/- The walk of IsaNames: it returns true, whatever the two numbers. -/
import Derived.Test.YtidaopggidccmaaDoorIsaF
namespace Go.Proofs.YtidaopggidccmaaDoor
open Go.RowKit
attribute [local irreducible] World.setCell World.alloc World.drew Calls Code.wp

theorem text_op (p : Nat) (hp : p < 43) : (Ins.mk ((p : Int) + 1) 0 0 0 0).text = nm p ++ [32, 114, 48, 32, 114, 48, 32, 114, 48, 32, 48] := by
  have h : (Ins.mk ((p : Int) + 1) 0 0 0 0).right = true := by
    simp [Ins.right, regB]; omega
  unfold Ins.text
  rw [if_pos h]
  have e : ((p : Int) + 1).toNat - 1 = p := by omega
  simp only [e, itoa0]
  simp
theorem nameOf_op (p : Nat) (hp : p < 43) : nameOf ((p : Int) + 1) = nm p := by
  unfold nameOf
  rw [if_pos (by omega), show ((p : Int) + 1).toNat - 1 = p by omega]

set_option maxHeartbeats 1000000 in
theorem names_walk (a b : Int) (w : World) (_ : (Lit.int .i64 a).wf = true) (_ : (Lit.int .i64 b).wf = true) (hp : HasPow w) (hs : HasSp w) :
    Calls Tryd.prog 3 #[.int .i64 a, .int .i64 b] w fun e w' => e = .returned (.bool true) ∧ Below w.heap.size w w' := by
  have Hp := Lib.hid hp; have Hs := Lib.hid hs; clear hp hs
  obtain ⟨f0, f1⟩ := tmod_bd a 43 (by omega)
  obtain ⟨p, hq, hq', hq64⟩ : ∃ q : Nat, a.tmod 43 % 43 = q ∧ (a.tmod 43 + 43) % 43 = q ∧ q < 43 := ⟨(a.tmod 43 % 43).toNat, by omega, by omega, by omega⟩
  obtain ⟨g0, g1⟩ := tmod_bd b 43 (by omega)
  obtain ⟨q, hr, hr', hr64⟩ : ∃ q : Nat, b.tmod 43 % 43 = q ∧ (b.tmod 43 + 43) % 43 = q ∧ q < 43 := ⟨(b.tmod 43 % 43).toNat, by omega, by omega, by omega⟩
  have T1 := Lib.hid (text_op p hq64)
  have T2 := Lib.hid (text_op q hr64)
  have N1 := Lib.hid (nameOf_op p hq64)
  have H1 := Lib.hid hq64; have H2 := Lib.hid hr64
  go_enter Tryd.func3, Tryd.ntmps3
  go_wp2_with fail
  refine (fit04_any _ Hp.out Hs.out).mono ?_
  rintro e w1 ⟨rfl, hb1⟩
  have Hb1 := Lib.hid hb1; clear hb1
  go_wp2_with fail
  refine (text_any ⟨(p : Int) + 1, 0, 0, 0, 0⟩ ⟨by simp, by simp⟩ _ (Hp.out.below Hb1.out) (Hs.out.below Hb1.out)).mono ?_
  rintro e w2 ⟨rfl, hb2⟩
  have Hb2 := Lib.hid (bel_from Hb1.out hb2); clear hb2
  rw [T1.out]
  obtain ⟨sx, hx⟩ : ∃ s : ByteArray, (⟨(nm p ++ [32, 114, 48, 32, 114, 48, 32, 114, 48, 32, 48]).toArray⟩ : ByteArray) = s := ⟨_, rfl⟩
  rw [show S (nm p ++ [32, 114, 48, 32, 114, 48, 32, 114, 48, 32, 48]) = .string sx from congrArg Value.string hx]
  have Hx := Lib.hid hx; clear hx
  go_wp2_with fail
  refine (text_any ⟨(q : Int) + 1, 0, 0, 0, 0⟩ ⟨by simp, by simp⟩ _ (Hp.out.below Hb2.out) (Hs.out.below Hb2.out)).mono ?_
  rintro e w3 ⟨rfl, hb3⟩
  have Hb3 := Lib.hid (bel_from Hb2.out hb3); clear hb3
  rw [T2.out]
  obtain ⟨sy, hy⟩ : ∃ s : ByteArray, (⟨(nm q ++ [32, 114, 48, 32, 114, 48, 32, 114, 48, 32, 48]).toArray⟩ : ByteArray) = s := ⟨_, rfl⟩
  rw [show S (nm q ++ [32, 114, 48, 32, 114, 48, 32, 114, 48, 32, 48]) = .string sy from congrArg Value.string hy]
  have Hy := Lib.hid hy; clear hy
  by_cases hpq : p = q
  · obtain rfl := hpq
    obtain rfl : sx = sy := Hx.out.symm.trans Hy.out
    go_wp2_with fail
    refine (name_any _ _).mono ?_
    rintro e w4 ⟨rfl, hb4⟩
    have Hb4 := Lib.hid (bel_from Hb3.out hb4); clear hb4
    rw [N1.out]
    have e3 : (sx.toList == nm p ++ [32, 114, 48, 32, 114, 48, 32, 114, 48, 32, 48]) = true := by
      rw [← Hx.out]
      simp
    have hl := nm_len p
    have ha := run_sadd (P := Tryd.prog) (nm p) [32, 114, 48, 32, 114, 48, 32, 114, 48, 32, 48] (by simp; omega)
    go_wp2_with fail
    go_ret
    exact ⟨rfl, Hb4.out⟩
  · have e1 : (sx.toList == sy.toList) = false := by
      rw [← Hx.out, ← Hy.out, beq_eq_false_iff_ne]
      intro e
      have e' : nm p ++ [32, 114, 48, 32, 114, 48, 32, 114, 48, 32, 48] = nm q ++ [32, 114, 48, 32, 114, 48, 32, 114, 48, 32, 48] := by simpa using e
      exact hpq (names_inj p q H1.out H2.out (List.append_cancel_right e'))
    have e2 : ((p : Int) == (q : Int)) = false := by rw [beq_eq_false_iff_ne]; omega
    have e3 : ((p : Int) + 1 == (q : Int) + 1) = false := by rw [beq_eq_false_iff_ne]; omega
    clear hpq
    go_wp2_with fail
    refine (name_any _ _).mono ?_
    rintro e w4 ⟨rfl, hb4⟩
    have Hb4 := Lib.hid (bel_from Hb3.out hb4); clear hb4
    rw [N1.out]
    have e4 : (sx.toList == nm p ++ [32, 114, 48, 32, 114, 48, 32, 114, 48, 32, 48]) = true := by
      rw [← Hx.out]
      simp
    have hl := nm_len p
    have ha := run_sadd (P := Tryd.prog) (nm p) [32, 114, 48, 32, 114, 48, 32, 114, 48, 32, 48] (by simp; omega)
    go_wp2_with fail
    go_ret
    exact ⟨rfl, Hb4.out⟩
end Go.Proofs.YtidaopggidccmaaDoor
