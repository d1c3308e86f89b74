/- The law's own example of a TLB (fit) returns true. -/
import Derived.Test.YtphophonkdfcaaaTlb
namespace Go.Proofs.Ytphophonkdfcaaa
open Go.RowKit
attribute [local irreducible] World.setCell World.alloc World.drew Calls Code.wp

theorem Pl.put_n (t : Pl) (page frame : Int) (rw : Bool) (h0 : 0 ≤ t.n) (h3 : t.n < 4) : 0 ≤ (t.put page frame rw).n ∧ (t.put page frame rw).n < 4 := by
  unfold Pl.put
  split
  · exact ⟨h0, h3⟩
  · split <;> simp only [Pl.store] <;> omega

theorem put_all (b : Nat) (t : Pl) (page frame : Int) (rw : Bool) (w : World) (hB : Blk w b t.cells 28) (hn0 : 0 ≤ t.n) (hn3 : t.n < 4) :
    Calls Try.prog 7 #[.pointer (some ⟨b, 0, none⟩), .int .i64 page, .int .i64 frame, .bool rw] w fun e w' => e = .returned (.tuple #[]) ∧ Blk w' b (t.put page frame rw).cells 28 ∧ Kept (· = b) w w' := by
  by_cases h : frame < 1
  · refine (put_low b page frame rw w h).mono ?_
    rintro e w' ⟨rfl, rfl⟩
    refine ⟨rfl, ?_, Kept.refl _ _⟩
    unfold Pl.put; rw [if_pos h]; exact hB
  · exact put_any b t page frame rw w hB h hn0 hn3

/-- The example's TLB, after k puts. -/
def fitTo : Nat → Pl
  | 0 => Pl.zero
  | k + 1 => (fitTo k).put k (k + 1) true
theorem fitTo_n (k : Nat) : 0 ≤ (fitTo k).n ∧ (fitTo k).n < 4 := by
  induction k with
  | zero => exact ⟨by decide, by decide⟩
  | succ k ih => exact Pl.put_n _ _ _ _ ih.1 ih.2

set_option maxHeartbeats 400000 in
theorem fit_any (w : World) :
    Calls Try.prog 6 #[] w fun e w' => e = .returned (.bool true) ∧ Below w.heap.size w w' := by
  go_enter Try.func6, Try.ntmps6
  go_wp2_with fail
  go_loopw [2, 3] (fun _ i wx => ∃ k : Nat, k ≤ 5 ∧ i = .int .i64 k ∧ Blk wx w.heap.size (fitTo k).cells 28 ∧ Below w.heap.size w wx) (fun _ i _ => 5 - (intOf i).toNat)
  case atStart => exact ⟨0, by omega, rfl, Blk.new _ _ _, (Below.refl _ _).alloc (Nat.le_refl _) _⟩
  case round =>
    obtain ⟨k, hk, rfl, hB, hb⟩ := hrel
    have HB := Lib.hid hB; clear hB
    have Hb := Lib.hid hb; clear hb
    by_cases hlt : k < 5
    · go_wp2_with fail
      refine (put_all _ (fitTo k) _ _ _ _ HB.out (fitTo_n k).1 (fitTo_n k).2).mono ?_
      rintro e w1 ⟨rfl, hB1, hK1⟩
      have HB1 := Lib.hid hB1; clear hB1
      have HK1 := Lib.hid hK1; clear hK1
      go_wp2_with fail
      go_roundw
      case rel => exact ⟨k + 1, by omega, by go_num, HB1.out, Hb.out.trans (HK1.out.below Hb.out.size (fun j hj e => by omega))⟩
      case measure => simp [intOf]; omega
    · obtain rfl : k = 5 := by omega
      have HB := HB.out
      go_wp2_with fail
      refine (find_any _ (fitTo 5) _ _ _ HB).mono ?_
      rintro e w1 ⟨rfl, hb1⟩
      have HB1 := HB.below hb1 HB.lt
      have Hb1 := Lib.hid (Hb.out.trans (hb1.mono Hb.out.size)); clear hb1
      have e1 : ((fitTo 5).find 0 false == 0) = true := by decide
      go_wp2_with fail
      refine (find_any _ (fitTo 5) _ _ _ HB1).mono ?_
      rintro e w2 ⟨rfl, hb2⟩
      have HB2 := HB1.below hb2 HB1.lt
      have Hb2 := Lib.hid (Hb1.out.trans (hb2.mono Hb1.out.size)); clear hb2
      have e2 : ((fitTo 5).find 4 true == 5) = true := by decide
      go_wp2_with fail
      refine (len_any _ (fitTo 5) _ HB2).mono ?_
      rintro e w3 ⟨rfl, hb3⟩
      have Hb3 := Lib.hid (Hb2.out.trans (hb3.mono Hb2.out.size)); clear hb3
      have e3 : ((fitTo 5).lenTo 4 == 4) = true := by decide
      go_wp2_with fail
      go_ret
      exact ⟨rfl, Hb3.out⟩
end Go.Proofs.Ytphophonkdfcaaa
