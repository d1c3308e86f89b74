/- The law's own example of an instruction (fit) returns true. Names are unlike. -/
import Derived.Test.YtidaopggidccmaaDoorIsaT
namespace Go.Proofs.YtidaopggidccmaaDoor
open Go.RowKit
attribute [local irreducible] World.setCell World.alloc World.drew Calls Code.wp

theorem itoa_nat (k : Nat) : Lib.itoa (k : Int) = Lib.decDigits k := by
  unfold Lib.itoa
  rw [if_neg (by omega)]; rfl
theorem dec_small (k : Nat) (h : k < 10) : Lib.decDigits k = [UInt8.ofNat (48 + k)] := by
  rw [Lib.decDigits, dif_pos h]
theorem itoa0 : Lib.itoa 0 = [48] := (itoa_nat 0).trans (dec_small 0 (by omega))
theorem itoa1 : Lib.itoa 1 = [49] := (itoa_nat 1).trans (dec_small 1 (by omega))
theorem itoa2 : Lib.itoa 2 = [50] := (itoa_nat 2).trans (dec_small 2 (by omega))
theorem itoam4 : Lib.itoa (-4) = [45, 52] := by
  unfold Lib.itoa
  rw [if_pos (by omega), show (-4 : Int).natAbs = 4 from rfl, dec_small 4 (by omega)]; rfl
theorem fit_text : (Ins.mk 18 1 2 0 (-4)).text = [97, 100, 100, 105, 32, 114, 49, 32, 114, 50, 32, 114, 48, 32, 45, 52] := by
  have h : (Ins.mk 18 1 2 0 (-4)).right = true := by decide
  unfold Ins.text
  rw [if_pos h]
  simp only [itoa0, itoa1, itoa2, itoam4]
  rfl
theorem names_inj (i j : Nat) (hi : i < 43) (hj : j < 43) (h : nm i = nm j) : i = j := by
  have h1 : ∀ i, i < 43 → ∀ j, j < 43 → nm i = nm j → i = j := by decide +kernel
  exact h1 i hi j hj h

set_option maxHeartbeats 400000 in
theorem fit04_any (w : World) (hp : HasPow w) (hs : HasSp w) :
    Calls Tryd.prog 11 #[] w fun e w' => e = .returned (.bool true) ∧ Below w.heap.size w w' := by
  have Hp := Lib.hid hp; have Hs := Lib.hid hs; clear hp hs
  have hb := (Below.refl w.heap.size w).alloc (Nat.le_refl _) (.cells #[.int .i64 18, .int .i64 1, .int .i64 2, .int .i64 0, .int .i32 (-4)] 25)
  have Hb := Lib.hid hb; clear hb
  go_enter Tryd.func11, Tryd.ntmps11
  go_wp2_with fail
  refine (text_any ⟨18, 1, 2, 0, -4⟩ (by decide) _ (Hp.out.below Hb.out) (Hs.out.below Hb.out)).mono ?_
  rintro e w1 ⟨rfl, hb1⟩
  rw [fit_text]
  have hc1 := fun i => (show w1.cell? ⟨w.heap.size, i, none⟩ = _ from hb1.cell (p := ⟨w.heap.size, i, none⟩) (by simp)).trans ((Blk.new w #[.int .i64 18, .int .i64 1, .int .i64 2, .int .i64 0, .int .i32 (-4)] 25).cell i)
  have Hb1 := Lib.hid (Hb.out.trans (hb1.mono (by simp))); clear hb1
  go_wp2_with fail
  refine (right_any _ _ _ _ _ _).mono ?_
  rintro e w2 ⟨rfl, hb2⟩
  have Hb2 := Lib.hid (bel_from Hb1.out hb2); clear hb2
  rw [show Ins.right ⟨18, 1, 2, 0, -4⟩ = true by decide]
  go_wp2_with fail
  go_ret
  exact ⟨rfl, Hb2.out⟩
end Go.Proofs.YtidaopggidccmaaDoor
