/- The law's own example of a pool (fit) returns true. -/
import Derived.Test.YtndnjimiabpkpaaFrN
namespace Go.Proofs.Ytndnjimiabpkpaa
open Go.RowKit
attribute [local irreducible] World.setCell World.alloc World.drew World.setRow Calls Code.wp row

theorem below_ps {w w1 w2 : World} {pb db ob : Nat} (h : Below w.heap.size w w1) (k : Kept (PS pb db ob) w1 w2) (h1 : w.heap.size ≤ pb) (h2 : w.heap.size ≤ db) (h3 : w.heap.size ≤ ob) : Below w.heap.size w w2 :=
  h.trans (k.below h.size (fun j hj e => by rcases e with e | e | e <;> omega))

set_option maxHeartbeats 1000000 in
theorem fit06_any (w : World) :
    Calls Try.prog 16 #[] w fun e w' => e = .returned (.bool true) ∧ Below w.heap.size w w' := by
  go_enter Try.func16, Try.ntmps16
  go_wp2_with fail
  refine (new_any 2 _ (by omega) (by omega)).mono ?_
  rintro e w1 ⟨pb, db, ob, rfl, hP, l1, l2, l3, hb⟩
  have HP := Lib.hid hP; clear hP
  have Hb := Lib.hid hb; clear hb
  have e1 : (newPool 2).allocRet 7 = 1 := by decide
  have e2 : ((newPool 2).alloc 7).allocRet 7 = 2 := by decide
  have e3 : (((newPool 2).alloc 7).alloc 7).allocRet 7 = 0 := by decide
  have e4 : (((((newPool 2).alloc 7).alloc 7).alloc 7).free 1).allocRet 8 = 1 := by decide
  have e5 : ((((((newPool 2).alloc 7).alloc 7).alloc 7).free 1).alloc 8).left = 0 := by decide
  go_wp2_with fail
  refine (alloc_any pb db ob _ _ _ HP.out).mono ?_
  rintro e w2 ⟨rfl, hP2, hK2⟩
  have HP2 := Lib.hid hP2; have Hb2 := Lib.hid (below_ps Hb.out hK2 l1 l2 l3); clear hP2 hK2
  go_wp2_with fail
  refine (alloc_any pb db ob _ _ _ HP2.out).mono ?_
  rintro e w3 ⟨rfl, hP3, hK3⟩
  have HP3 := Lib.hid hP3; have Hb3 := Lib.hid (below_ps Hb2.out hK3 l1 l2 l3); clear hP3 hK3
  go_wp2_with fail
  refine (alloc_any pb db ob _ _ _ HP3.out).mono ?_
  rintro e w4 ⟨rfl, hP4, hK4⟩
  have HP4 := Lib.hid hP4; have Hb4 := Lib.hid (below_ps Hb3.out hK4 l1 l2 l3); clear hP4 hK4
  go_wp2_with fail
  refine (free_any pb db ob _ _ _ HP4.out).mono ?_
  rintro e w5 ⟨rfl, hP5, hK5⟩
  have HP5 := Lib.hid hP5; have Hb5 := Lib.hid (below_ps Hb4.out hK5 l1 l2 l3); clear hP5 hK5
  go_wp2_with fail
  refine (alloc_any pb db ob _ _ _ HP5.out).mono ?_
  rintro e w6 ⟨rfl, hP6, hK6⟩
  have HP6 := Lib.hid hP6; have Hb6 := Lib.hid (below_ps Hb5.out hK6 l1 l2 l3); clear hP6 hK6
  go_wp2_with fail
  refine (left_any pb db ob _ _ HP6.out).mono ?_
  rintro e w7 ⟨rfl, rfl⟩
  go_wp2_with fail
  go_ret
  exact ⟨rfl, Hb6.out⟩
end Go.Proofs.Ytndnjimiabpkpaa
