/- The walk of PagesShare. -/
import Derived.Test.YtndnjimiabpkpaaPgS
import Derived.BigRegion
namespace Go.Proofs.Ytndnjimiabpkpaa
open Go.RowKit
attribute [local irreducible] World.setCell World.alloc World.drew World.setRow Calls Code.wp row

/-- How many of the first k shifts tell the pages apart. -/
def apart (A B : Nat) : Nat → Nat
  | 0 => 0
  | 1 => if A / 8 = B / 8 then 0 else 1
  | 2 => (if A / 8 = B / 8 then 0 else 1) + (if A / 64 = B / 64 then 0 else 1)
  | _ => (if A / 8 = B / 8 then 0 else 1) + (if A / 64 = B / 64 then 0 else 1) + (if A / 512 = B / 512 then 0 else 1)

set_option maxRecDepth 100000 in
set_option maxHeartbeats 4000000 in
theorem share_walk (a b : Int) (w : World) (_ : (Lit.int .i64 a).wf = true) (_ : (Lit.int .i64 b).wf = true) :
    Calls Try.prog 11 #[.int .i64 a, .int .i64 b] w fun e w' => e = .returned (.bool true) ∧ Below w.heap.size w w' := by
  obtain ⟨A, hA, hA4⟩ : ∃ m : Nat, a % 4096 = (m : Int) ∧ m < 4096 := ⟨(a % 4096).toNat, by omega, by omega⟩
  obtain ⟨B, hB, hB4⟩ : ∃ m : Nat, b % 4096 = (m : Int) ∧ m < 4096 := ⟨(b % 4096).toNat, by omega, by omega⟩
  have hand : bits .and .i64 a 4095 = (A : Int) := by rw [and4095, hA]
  have hand2 : bits .and .i64 b 4095 = (B : Int) := by rw [and4095, hB]
  clear hA hB
  go_enter Try.func11, Try.ntmps11
  go_wp2_with fail
  refine (fit07_any _).mono ?_
  rintro e w0 ⟨rfl, hb0⟩
  have Hb0 := Lib.hid hb0
  have hsz0 := hb0.size
  clear hb0
  go_wp2_with fail
  refine (new_any 20 _ (by omega) (by omega)).mono ?_
  rintro e w1 ⟨pb, db, ob, rfl, hP, l1, l2, l3, hb⟩
  have HP := Lib.hid hP; have Hb := Lib.hid (Hb0.out.trans (hb.mono hsz0))
  have m1 : w.heap.size ≤ pb := by omega
  have m2 : w.heap.size ≤ db := by omega
  have m3 : w.heap.size ≤ ob := by omega
  clear hP hb l1 l2 l3
  go_wp2_with fail
  refine (alloc_any pb db ob _ _ _ HP.out).mono ?_
  rintro e w2 ⟨rfl, hP2, hK2⟩
  obtain ⟨r, hr, r1, r2, hT, _, hleft, _⟩ := Tab.begin (newPool 20) 1 (by omega) (by decide)
  rw [hr]
  have HP2 := Lib.hid hP2; have Hb2 := Lib.hid (below_ps Hb.out hK2 m1 m2 m3); have HT := Lib.hid hT
  have hl19 : Hid (((newPool 20).alloc 1).left = 19) := by
    have e : (newPool 20).left = 20 := by decide
    unfold Hid; omega
  have hr0 : r ≠ 0 := by omega
  have Hr0 := Lib.hid hr0
  clear hP2 hK2 hT hleft hr hr0
  go_wp2_with fail
  refine (fill_yes pb db ob _ r 1 _ _ _ A 5 3 true _ HP2.out HT.out hA4 (by omega) (by omega) (by rw [needT_root]; decide) (by rw [needT_root]; have := hl19.out; omega)).mono ?_
  rintro e w3 ⟨rfl, P3, N3, hF3⟩
  have HF3 := Lib.hid hF3
  have Hb3 := Lib.hid (below_ps Hb2.out hF3.kept m1 m2 m3)
  have hneed : needT N3 B = apart A B 3 := needT_path N3 B A hB4 hA4 (rootN_path r Hr0.out N3 A hF3.new)
  have hn3 : apart A B 3 ≤ 3 := by unfold apart; (repeat' split) <;> omega
  have Hn := Lib.hid hneed
  have hl3 : Hid (P3.left = 16) := by have h := hF3.left; rw [needT_root] at h; have := hl19.out; unfold Hid; omega
  rw [needT_root]
  clear hF3 hneed
  go_wp2_with fail
  refine (fill_yes pb db ob _ r 1 _ _ _ B 6 3 false _ HF3.out.pool HF3.out.tab hB4 (by omega) (by omega) (by rw [Hn.out]; omega) (by rw [Hn.out]; have := hl3.out; omega)).mono ?_
  rintro e w4 ⟨rfl, P4, N4, hF4⟩
  have HF4 := Lib.hid hF4
  have Hb4 := Lib.hid (below_ps Hb3.out hF4.kept m1 m2 m3)
  rw [Hn.out]
  obtain ⟨nn, hnn⟩ : ∃ nn, apart A B 3 = nn := ⟨_, rfl⟩
  rw [hnn]
  have Hnn := Lib.hid hnn
  have hsz4 := Hb4.out.size
  clear hF4 hnn hn3
  go_wp2_with fail
  have HP5 : Hid (PoolAt (w4.alloc (.cells #[.int .i64 3, .int .i64 6, .int .i64 9] 3)) pb db ob P4) := HF4.out.pool.alloc _
  have HBk : Hid (Blk (w4.alloc (.cells #[.int .i64 3, .int .i64 6, .int .i64 9] 3)) w4.heap.size #[.int .i64 3, .int .i64 6, .int .i64 9] 3) := Blk.new _ _ _
  have Hb5 := Lib.hid (Hb4.out.alloc hsz4 (.cells #[.int .i64 3, .int .i64 6, .int .i64 9] 3))
  go_loopg [11, 13, 45] 3 (fun g c _ i wx => ∃ k : Nat, k + g = 3 ∧ i = .int .i64 k ∧ c = .int .i64 (apart A B k : Nat) ∧ PoolAt wx pb db ob P4 ∧ Blk wx w4.heap.size #[.int .i64 3, .int .i64 6, .int .i64 9] 3 ∧ Below w.heap.size w wx)
  case atStart => exact ⟨0, by omega, rfl, rfl, HP5.out, HBk.out, Hb5.out⟩
  case round =>
    clear HP5 HBk Hb5
    obtain ⟨k, hk, rfl, rfl, hPx, hBk, hbx⟩ := hrel
    have HPx := Lib.hid hPx; have HBk' := Lib.hid hBk; have Hbx := Lib.hid hbx
    clear hPx hBk hbx
    by_cases hlt : k < 3
    · obtain rfl | rfl | rfl : k = 0 ∨ k = 1 ∨ k = 2 := by omega
      · by_cases c : A / 8 = B / 8
        · have hc : (A : Int) / 8 = (B : Int) / 8 := by omega
          have hs : apart A B 1 = apart A B 0 := by simp [apart, c]
          have Hs := Lib.hid hs; have Hc := Lib.hid c
          clear hs c
          have hcell := HBk'.out.cell 0
          go_wp2_with fail
          go_region
          all_goals go_wp2_with fail
          all_goals go_roundg (3 - 1)
          case measure => omega
          case rel => exact ⟨1, by omega, rfl, by rw [Hs.out], HPx.out.drew, HBk'.out.drew, Hbx.out.drew⟩
        · have hc : ((A : Int) / 8 != (B : Int) / 8) = true := by simp; omega
          have hc2 : ((A : Int) / 8 == (B : Int) / 8) = false := by simp; omega
          have hs : apart A B 1 = apart A B 0 + 1 := by simp [apart, c]
          have Hs := Lib.hid hs; have Hc := Lib.hid c
          clear hs c
          have hcell := HBk'.out.cell 0
          have hlt : (apart A B 0 : Int) ≤ 3 := by unfold apart; (repeat' split) <;> omega
          obtain ⟨q, hq⟩ : ∃ q, apart A B 0 = q := ⟨_, rfl⟩
          rw [hq] at hlt ⊢
          have Hq := Lib.hid hq; clear hq
          go_wp2_with fail
          go_region
          all_goals go_wp2_with fail
          all_goals go_roundg (3 - 1)
          case measure => omega
          case rel => exact ⟨1, by omega, rfl, by rw [Hs.out, Hq.out]; go_num, HPx.out.drew, HBk'.out.drew, Hbx.out.drew⟩
      · by_cases c : A / 64 = B / 64
        · have hc : (A : Int) / 64 = (B : Int) / 64 := by omega
          have hs : apart A B 2 = apart A B 1 := by simp [apart, c]
          have Hs := Lib.hid hs; have Hc := Lib.hid c
          clear hs c
          have hcell := HBk'.out.cell 1
          go_wp2_with fail
          go_region
          all_goals go_wp2_with fail
          all_goals go_roundg (3 - 2)
          case measure => omega
          case rel => exact ⟨2, by omega, rfl, by rw [Hs.out], HPx.out.drew, HBk'.out.drew, Hbx.out.drew⟩
        · have hc : ((A : Int) / 64 != (B : Int) / 64) = true := by simp; omega
          have hc2 : ((A : Int) / 64 == (B : Int) / 64) = false := by simp; omega
          have hs : apart A B 2 = apart A B 1 + 1 := by simp [apart, c]
          have Hs := Lib.hid hs; have Hc := Lib.hid c
          clear hs c
          have hcell := HBk'.out.cell 1
          have hlt : (apart A B 1 : Int) ≤ 3 := by unfold apart; (repeat' split) <;> omega
          obtain ⟨q, hq⟩ : ∃ q, apart A B 1 = q := ⟨_, rfl⟩
          rw [hq] at hlt ⊢
          have Hq := Lib.hid hq; clear hq
          go_wp2_with fail
          go_region
          all_goals go_wp2_with fail
          all_goals go_roundg (3 - 2)
          case measure => omega
          case rel => exact ⟨2, by omega, rfl, by rw [Hs.out, Hq.out]; go_num, HPx.out.drew, HBk'.out.drew, Hbx.out.drew⟩
      · by_cases c : A / 512 = B / 512
        · have hc : (A : Int) / 512 = (B : Int) / 512 := by omega
          have hs : apart A B 3 = apart A B 2 := by simp [apart, c]
          have Hs := Lib.hid hs; have Hc := Lib.hid c
          clear hs c
          have hcell := HBk'.out.cell 2
          go_wp2_with fail
          go_region
          all_goals go_wp2_with fail
          all_goals go_roundg (3 - 3)
          case measure => omega
          case rel => exact ⟨3, by omega, rfl, by rw [Hs.out], HPx.out.drew, HBk'.out.drew, Hbx.out.drew⟩
        · have hc : ((A : Int) / 512 != (B : Int) / 512) = true := by simp; omega
          have hc2 : ((A : Int) / 512 == (B : Int) / 512) = false := by simp; omega
          have hs : apart A B 3 = apart A B 2 + 1 := by simp [apart, c]
          have Hs := Lib.hid hs; have Hc := Lib.hid c
          clear hs c
          have hcell := HBk'.out.cell 2
          have hlt : (apart A B 2 : Int) ≤ 3 := by unfold apart; (repeat' split) <;> omega
          obtain ⟨q, hq⟩ : ∃ q, apart A B 2 = q := ⟨_, rfl⟩
          rw [hq] at hlt ⊢
          have Hq := Lib.hid hq; clear hq
          go_wp2_with fail
          go_region
          all_goals go_wp2_with fail
          all_goals go_roundg (3 - 3)
          case measure => omega
          case rel => exact ⟨3, by omega, rfl, by rw [Hs.out, Hq.out]; go_num, HPx.out.drew, HBk'.out.drew, Hbx.out.drew⟩
    · obtain rfl : k = 3 := by omega
      rw [Hnn.out]
      have hlt' : ¬ ((3 : Nat) : Int) < 3 := by omega
      clear hlt
      go_wp2_with fail
      refine (walk_any pb db ob _ r 1 _ _ _ A _ HPx.out HF4.out.tab hA4).mono ?_
      rintro e w6 ⟨rfl, hb6⟩
      have HP6 := Lib.hid (HPx.out.below hb6)
      have Hb6 := Lib.hid (Hbx.out.trans (hb6.mono Hbx.out.size))
      clear hb6
      go_wp2_with fail
      refine (walk_any pb db ob _ r 1 _ _ _ B _ HP6.out HF4.out.tab hB4).mono ?_
      rintro e w7 ⟨rfl, hb7⟩
      have Hb7 := Lib.hid (Hb6.out.trans (hb7.mono Hb6.out.size))
      clear hb7
      have eB : updI (updI noF A 5) B 6 B = 6 := by simp [updI]
      rw [eB]
      clear eB
      by_cases hab : A = B
      · have hab' : ((A : Int) == (B : Int)) = true := by simp [hab]
        clear hab
        go_wp2_with fail
        go_ret
        exact ⟨by simp, Hb7.out⟩
      · have hab' : ((A : Int) == (B : Int)) = false := by simp; omega
        have eA : updI (updI noF A 5) B 6 A = 5 := by simp [updI, hab]
        rw [eA]
        clear hab eA
        go_wp2_with fail
        go_ret
        exact ⟨by simp, Hb7.out⟩
end Go.Proofs.Ytndnjimiabpkpaa
