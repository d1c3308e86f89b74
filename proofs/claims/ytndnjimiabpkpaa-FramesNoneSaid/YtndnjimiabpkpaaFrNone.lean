/- The walk of FramesNone: it returns true, whatever the numbers. -/
import Derived.Test.YtndnjimiabpkpaaFrFit
namespace Go.Proofs.Ytndnjimiabpkpaa
open Go.RowKit
attribute [local irreducible] World.setCell World.alloc World.drew World.setRow Calls Code.wp row


set_option maxRecDepth 100000 in
set_option maxHeartbeats 1000000 in
theorem none_walk (n o : Int) (w : World) (_ : (Lit.int .i64 n).wf = true) (_ : (Lit.int .u64 o).wf = true) :
    Calls Try.prog 7 #[.int .i64 n, .int .u64 o] w fun e w' => e = .returned (.bool true) ∧ Below w.heap.size w w' := by
  go_enter Try.func7, Try.ntmps7
  go_wp2_with fail
  refine (fit06_any _).mono ?_
  rintro e w1 ⟨rfl, hb1⟩
  have Hb1 := Lib.hid hb1; clear hb1
  have hsz := Hb1.out.size
  go_wp2_with fail
  go_loopg [6, 7, 18] 3 (fun g _ _ i wx => ∃ j : Nat, j + g = 3 ∧ i = .int .i64 j ∧ Blk wx w1.heap.size #[.int .i64 n, .int .i64 (n.tmod 5000), .int .i64 (n.tmod 10)] 3 ∧ Below w.heap.size w wx)
  case atStart => exact ⟨0, by omega, rfl, Blk.new _ _ _, Hb1.out.alloc hsz _⟩
  case round =>
    obtain ⟨j, hj, rfl, hB, hb⟩ := hrel
    have HB := Lib.hid hB; clear hB
    have Hb := Lib.hid hb; clear hb
    by_cases hlt : j < 3
    · obtain ⟨c, hc⟩ : ∃ c : Int, wr.cell? ⟨w1.heap.size, j, none⟩ = some (.int .i64 c) := by
        rw [HB.out.cell]
        obtain rfl | rfl | rfl : j = 0 ∨ j = 1 ∨ j = 2 := by omega
        all_goals exact ⟨_, rfl⟩
      by_cases h1 : 1 ≤ c
      · by_cases h2 : c ≤ 4096
        · obtain ⟨m, rfl⟩ : ∃ m : Nat, c = (m : Int) := ⟨c.toNat, by omega⟩
          go_wp2_with fail
          refine (new_any m _ (by omega) (by omega)).mono ?_
          rintro e w2 ⟨pb, db, ob, rfl, _, _, _, _, hb2⟩
          have HB2 := Lib.hid (HB.out.below hb2 HB.out.lt)
          have Hb2 := Lib.hid (Hb.out.trans (hb2.mono Hb.out.size)); clear hb2
          go_wp2_with fail
          go_roundg (3 - (j + 1))
          case measure => omega
          case rel => exact ⟨j + 1, by omega, by go_num, HB2.out, Hb2.out⟩
        · go_wp2_with fail
          refine (new_no c _ (by omega)).mono ?_
          rintro e w2 ⟨rfl, rfl⟩
          go_wp2_with fail
          go_roundg (3 - (j + 1))
          case measure => omega
          case rel => exact ⟨j + 1, by omega, by go_num, HB.out, Hb.out⟩
      · go_wp2_with fail
        refine (new_no c _ (by omega)).mono ?_
        rintro e w2 ⟨rfl, rfl⟩
        go_wp2_with fail
        go_roundg (3 - (j + 1))
        case measure => omega
        case rel => exact ⟨j + 1, by omega, by go_num, HB.out, Hb.out⟩
    · go_wp2_with fail
      refine (free_nil _ _).mono ?_
      rintro e w2 ⟨rfl, rfl⟩
      go_wp2_with fail
      refine (plen_nil _).mono ?_
      rintro e w2 ⟨rfl, rfl⟩
      go_wp2_with fail
      refine (left_nil _).mono ?_
      rintro e w2 ⟨rfl, rfl⟩
      go_wp2_with fail
      refine (alloc_nil _ _).mono ?_
      rintro e w2 ⟨rfl, rfl⟩
      go_wp2_with fail
      refine (owner_nil _ _).mono ?_
      rintro e w2 ⟨rfl, rfl⟩
      go_wp2_with fail
      refine (count_nil _ _).mono ?_
      rintro e w2 ⟨rfl, rfl⟩
      go_wp2_with fail
      refine (read_nil _ _ _ _).mono ?_
      rintro e w2 ⟨rfl, rfl⟩
      go_wp2_with fail
      refine (write_nil _ _ _ _ _ _).mono ?_
      rintro e w2 ⟨rfl, rfl⟩
      go_wp2_with fail
      refine (new_any 3 _ (by omega) (by omega)).mono ?_
      rintro e w2 ⟨pb, db, ob, rfl, hP, l1, l2, l3, hb2⟩
      have HP := Lib.hid hP; clear hP
      have Hb2 := Lib.hid (Hb.out.trans ((Below.alloc (Below.refl _ _) Hb.out.size _).trans (hb2.mono (by have := Hb.out.size; simp; omega)))); clear hb2
      have e0 : (newPool 3).allocRet 0 = 0 := by decide
      go_wp2_with fail
      refine (alloc_any pb db ob _ _ _ HP.out).mono ?_
      rintro e w3 ⟨rfl, hP3, hK3⟩
      have Hb3 := Lib.hid (below_ps Hb2.out hK3 (by have := Hb.out.size; simp at l1; omega) (by have := Hb.out.size; simp at l2; omega) (by have := Hb.out.size; simp at l3; omega)); clear hP3 hK3
      go_wp2_with fail
      go_ret
      exact ⟨rfl, Hb3.out⟩
end Go.Proofs.Ytndnjimiabpkpaa
