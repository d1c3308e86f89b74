/- The walk of CallsOf: it returns true, whatever the number. -/
import Derived.Test.YtidaopggidccmaaDoorCalS
import Derived.Test.YtidaopggidccmaaDoorStrIn
namespace Go.Proofs.YtidaopggidccmaaDoor
open Go.RowKit
attribute [local irreducible] World.setCell World.alloc World.drew Calls Code.wp

theorem spec_0 (b : Nat) (w : World) : (Instr.fieldAt 41 (.pointer (some ⟨b, 0, none⟩)) 0).run Tryd.prog w = .ok (.pointer (some ⟨b, 0, none⟩)) w := by go_simp; try rfl
theorem arr_0 (b : Nat) (w : World) : (Instr.indexAt 44 (.pointer (some ⟨b, 0, none⟩)) (.int .i64 0)).run Tryd.prog w = .ok (.pointer (some ⟨b, 0, none⟩)) w := by go_simp; try rfl
theorem arr_1 (b : Nat) (w : World) : (Instr.indexAt 44 (.pointer (some ⟨b, 0, none⟩)) (.int .i64 1)).run Tryd.prog w = .ok (.pointer (some ⟨b, 1, none⟩)) w := by go_simp; try rfl
theorem arr_2 (b : Nat) (w : World) : (Instr.indexAt 44 (.pointer (some ⟨b, 0, none⟩)) (.int .i64 2)).run Tryd.prog w = .ok (.pointer (some ⟨b, 2, none⟩)) w := by go_simp; try rfl

set_option maxRecDepth 100000 in
set_option maxHeartbeats 1000000 in
theorem cof_walk (n : Int) (w : World) (hn : (Lit.int .u64 n).wf = true) (hs : HasSp w) (hm : HasMax w) :
    Calls Tryd.prog 6 #[.int .u64 n] w fun e w' => e = .returned (.bool true) ∧ Below w.heap.size w w' := by
  have Hs := Lib.hid hs; have Hm := Lib.hid hm; clear hs hm
  have hn0 := (wf_u64 hn).1
  have hn2 : 0 ≤ n.tmod 64 := by rw [Int.tmod_eq_emod_of_nonneg hn0]; omega
  obtain ⟨N, hN⟩ : ∃ N : Nat → Int, N = fun j => if j = 0 then n else n.tmod 64 := ⟨_, rfl⟩
  have HN0 : Hid (∀ j, 0 ≤ N j) := fun j => by rw [hN]; show 0 ≤ (if j = 0 then n else n.tmod 64); split <;> assumption
  have HNc : Hid (∀ j, j < 2 → (#[.int .u64 n, .int .u64 (n.tmod 64)] : Array Value)[j]? = some (.int .u64 (N j))) := fun j hj => by
    rw [hN]
    obtain rfl | rfl : j = 0 ∨ j = 1 := by omega
    all_goals rfl
  clear hN hn hn0 hn2
  go_enter Tryd.func6, Tryd.ntmps6
  go_wp2_with fail
  refine (fit21_any _ Hs.out Hm.out).mono ?_
  rintro e w1 ⟨rfl, hb1⟩
  have Hb1 := Lib.hid hb1; clear hb1
  go_wp2_with fail
  refine (specs_any _).mono ?_
  rintro e w2 ⟨rfl, hw2⟩
  have B2 : Hid (Blk w2 w1.heap.size specsV 44) := by rw [hw2]; exact Blk.new _ _ _
  have Hb2 : Hid (Below w.heap.size w w2) := by rw [hw2]; exact Hb1.out.alloc Hb1.out.size _
  have hs2 : w2.heap.size = w1.heap.size + 1 := by rw [hw2]; simp
  have hsw : w.heap.size ≤ w1.heap.size := Hb1.out.size
  clear hw2 Hb1
  go_wp2_with fail
  obtain ⟨w3, hw3⟩ : ∃ w3, w2.alloc (.cells #[.int .u64 n, .int .u64 (n.tmod 64)] 35) = w3 := ⟨_, rfl⟩
  rw [hw3]
  have B3 : Hid (Blk w3 w2.heap.size #[.int .u64 n, .int .u64 (n.tmod 64)] 35) := by rw [← hw3]; exact Blk.new _ _ _
  have B2' : Hid (Blk w3 w1.heap.size specsV 44) := by rw [← hw3]; exact B2.out.alloc _
  have Hb3 : Hid (Below w.heap.size w w3) := by rw [← hw3]; exact Hb2.out.alloc Hb2.out.size _
  clear hw3 B2 Hb2
  go_loopg [5, 6, 7, 8, 17] 2 (fun g _ _ _ _ z wx => ∃ j : Nat, j + g = 2 ∧ z = .int .i64 j ∧ Below w3.heap.size w3 wx)
  case atStart => exact ⟨0, by omega, rfl, Below.refl _ _⟩
  case round =>
    obtain ⟨j, hj, rfl, hb⟩ := hrel
    have Hb := Lib.hid hb; clear hb
    have Hbw := Lib.hid (bel_from Hb3.out Hb.out)
    by_cases hlt : j < 2
    · have hcj : wr.cell? ⟨w1.heap.size + 1, j, none⟩ = some (.int .u64 (N j)) := by
        rw [← hs2, (B3.out.below Hb.out B3.out.lt).cell]; exact HNc.out j hlt
      obtain ⟨m, hm⟩ : ∃ m, N j = m := ⟨_, rfl⟩
      have hm0 : 0 ≤ m := hm ▸ HN0.out j
      rw [hm] at hcj
      clear hm
      by_cases hmk : 1 ≤ m ∧ m ≤ 40
      · obtain ⟨q, rfl⟩ : ∃ q : Nat, m = (q : Int) + 1 := ⟨(m - 1).toNat, by omega⟩
        have hi : (q : Int) < 40 := by omega
        have Hi : Hid (q < 40) := by unfold Hid; omega
        clear hmk hm0
        go_wp2_with fail
        refine (of_yes q Hi.out _ (Hs.out.below Hbw.out) (Hm.out.below Hbw.out)).mono ?_
        rintro e w5 ⟨v, rfl, ⟨s1, s2, rfl, d1, d2⟩, hb5⟩
        have Hb5 := Lib.hid (bel_from Hb.out hb5); clear hb5
        have E1 := Lib.hid d1; have E2 := Lib.hid d2
        obtain ⟨x1, c1, rfl, _⟩ := d1
        obtain ⟨x2, c2, rfl, _⟩ := d2
        have B5 := Lib.hid (B2'.out.below Hb5.out B2'.out.lt)
        obtain ⟨f0, f1, f2⟩ := specs_at q Hi.out
        have h0 := (B5.out.cell (3 * q)).trans f0
        have h1 := (B5.out.cell (3 * q + 1)).trans f1
        have h2 := (B5.out.cell (3 * q + 2)).trans f2
        rw [Nat.mul_comm 3 q] at h0 h1 h2
        have hlt5 : w1.heap.size < w5.heap.size := B5.out.lt
        have hi1 : (q : Int) + 1 ≤ 40 := by omega
        clear f0 f1 f2
        go_wp2_with fail
        obtain ⟨w7, hw7⟩ : ∃ w7, (w5.alloc (.cells #[S (cN q), .slice x1 (cC q).length c1, .slice x2 (cR q).length c2] 41)).alloc (.cells #[S (cN q), S (dgs (cC q)), S (dgs (cR q))] 44) = w7 := ⟨_, rfl⟩
        have B6 : Hid (Blk w7 w5.heap.size #[S (cN q), .slice x1 (cC q).length c1, .slice x2 (cR q).length c2] 41) := by rw [← hw7]; exact (Blk.new _ _ _).alloc _
        have B7 : Hid (Blk w7 (w5.heap.size + 1) #[S (cN q), S (dgs (cC q)), S (dgs (cR q))] 44) := by
          rw [← hw7]
          have := Blk.new (w5.alloc (.cells #[S (cN q), .slice x1 (cC q).length c1, .slice x2 (cR q).length c2] 41)) #[S (cN q), S (dgs (cC q)), S (dgs (cR q))] 44
          simpa [Hid] using this
        have hb57 : Below w5.heap.size w5 w7 := by rw [← hw7]; exact ((Below.refl _ _).alloc (Nat.le_refl _) _).alloc (by simp) _
        have D1 := Lib.hid (E1.out.below hb57)
        have D2 := Lib.hid (E2.out.below hb57)
        have Hb7 := Lib.hid (bel_from Hb5.out hb57)
        have Hd := Lib.hid (call_digits q Hi.out)
        rw [hw7]
        clear hw7 hb57 E1 E2 h0 h1 h2 hlt5 B5 Hb5
        refine wp_region_rinv (by kernel_rfl) (by kernel_rfl) (by kernel_rfl)
          (fun i v => match i with | 0 => v = .pointer (some ⟨w5.heap.size, 0, none⟩) | 1 => v = S (cN q) | 2 => v = .pointer (some ⟨w5.heap.size + 1, 0, none⟩) | 3 => v = S (cN q) | 4 => v = .bool false | 5 => v = (.bool false) | 6 => v = .pointer (some ⟨w5.heap.size, 1, none⟩) | 7 => v = .slice x1 (cC q).length c1 | 8 => v = S (dgs (cC q)) | 9 => v = .pointer (some ⟨w5.heap.size + 1, 1, none⟩) | 10 => v = S (dgs (cC q)) | 11 => v = .bool false | 12 => v = (.bool false) | 13 => v = (.bool false) | 14 => v = .pointer (some ⟨w5.heap.size, 2, none⟩) | 15 => v = .slice x2 (cR q).length c2 | 16 => v = S (dgs (cR q)) | 17 => v = .pointer (some ⟨w5.heap.size + 1, 2, none⟩) | 18 => v = S (dgs (cR q)) | 19 => v = .bool false | 20 => v = (.bool false) | _ => True)
          (fun _ _ wx => Below w7.heap.size w7 wx) ?_ ?_ ?_
        · exact (Below.refl _ _).drew
        · intro hu i l a wx hi hl hli hd hcl hR hW
          have hi27 : i = 0 ∨ i = 1 ∨ i = 2 ∨ i = 3 ∨ i = 4 ∨ i = 5 ∨ i = 6 ∨ i = 7 ∨ i = 8 ∨ i = 9 ∨ i = 10 ∨ i = 11 ∨ i = 12 ∨ i = 13 ∨ i = 14 ∨ i = 15 ∨ i = 16 ∨ i = 17 ∨ i = 18 ∨ i = 19 ∨ i = 20 := by have : i < 21 := hi; omega
          rcases hi27 with rfl | rfl | rfl | rfl | rfl | rfl | rfl | rfl | rfl | rfl | rfl | rfl | rfl | rfl | rfl | rfl | rfl | rfl | rfl | rfl | rfl
          · -- [0] fieldAddr 41 t6 0
            refine wpOp_val rfl (d := 57) rfl (wanted_plain rfl _) (ex_fieldAddr (hR.was 6 rfl) (spec_0 _ _)) ⟨hR.put hu (by rw [hl]; decide) (d := 57) rfl (of_decide_eq_true rfl) rfl, ?_⟩
            exact hW
          · -- [1] load 9 t57
            have hc := (B6.out.below hW B6.out.lt).cell 0
            refine wpOp_val rfl (d := 58) rfl (wanted_plain rfl _) (ex_load (hR.slot 0 57 (hd 0 rfl) rfl) (load_str hc)) ⟨hR.put hu (by rw [hl]; decide) (d := 58) rfl (of_decide_eq_true rfl) rfl, ?_⟩
            clear hc
            exact hW
          · -- [2] indexAddr 44 t8 (.int .i64 0)
            refine wpOp_val rfl (d := 59) rfl (wanted_plain rfl _) (ex_indexAddr (hR.was 8 rfl) rfl (arr_0 _ _)) ⟨hR.put hu (by rw [hl]; decide) (d := 59) rfl (of_decide_eq_true rfl) rfl, ?_⟩
            exact hW
          · -- [3] load 9 t59
            have hc := (B7.out.below hW B7.out.lt).cell 0
            refine wpOp_val rfl (d := 60) rfl (wanted_plain rfl _) (ex_load (hR.slot 2 59 (hd 2 rfl) rfl) (load_str hc)) ⟨hR.put hu (by rw [hl]; decide) (d := 60) rfl (of_decide_eq_true rfl) rfl, ?_⟩
            clear hc
            exact hW
          · -- [4] binOp neq 9 t58 t60 9
            refine wpOp_val rfl (d := 61) rfl (wanted_plain rfl _) (ex_bin (hR.slot 1 58 (hd 1 rfl) rfl) (hR.slot 3 60 (hd 3 rfl) rfl) (fun w => by simp [eqGuard]) (neq_same _ _)) ⟨hR.put hu (by rw [hl]; decide) (d := 61) rfl (of_decide_eq_true rfl) rfl, ?_⟩
            exact hW
          · -- [5] move [t61]
            refine wpOp_val rfl (d := 62) rfl (wanted_plain rfl _) (ex_move (hR.slot 4 61 (hd 4 rfl) rfl)) ⟨hR.put hu (by rw [hl]; decide) (d := 62) rfl (of_decide_eq_true rfl) rfl, ?_⟩
            exact hW
          · -- [6] fieldAddr 41 t6 1
            refine wpOp_val rfl (d := 63) rfl ((wanted_slot rfl (d := 62) rfl (hR.slot 5 62 (hd 5 rfl) rfl)).trans rfl) (ex_fieldAddr (hR.was 6 rfl) (spec_1 _ _)) ⟨hR.put hu (by rw [hl]; decide) (d := 63) rfl (of_decide_eq_true rfl) rfl, ?_⟩
            exact hW
          · -- [7] load 39 t63
            have hc := (B6.out.below hW B6.out.lt).cell 1
            refine wpOp_val rfl (d := 64) rfl ((wanted_slot rfl (d := 62) rfl (hR.slot 5 62 (hd 5 rfl) rfl)).trans rfl) (ex_load (hR.slot 6 63 (hd 6 rfl) rfl) (load_ints hc)) ⟨hR.put hu (by rw [hl]; decide) (d := 64) rfl (of_decide_eq_true rfl) rfl, ?_⟩
            clear hc
            exact hW
          · -- [8] call f20 [t64]
            refine wpOp_call rfl (d := 65) rfl ((wanted_slot rfl (d := 62) rfl (hR.slot 5 62 (hd 5 rfl) rfl)).trans rfl) (ex_call (vs := #[(.slice x1 (cC q).length c1)]) (by rw [List.map_toArray]; simp only [List.map_cons, List.map_nil, show a.eval (.tmp 64) = (.slice x1 (cC q).length c1) from (hR.slot 7 64 (hd 7 rfl) rfl)]) (enters_fn Tryd.func20 (by kernel_rfl) rfl)) (R := fun v w' => v = S (dgs (cC q)) ∧ Below wx.heap.size wx w') ((digits_any _ _ (cC q) Hd.out.1 Hd.out.2.1 wx (D1.out.below hW)).mono fun e w' ⟨h1, h2⟩ => ⟨_, h1, rfl, h2⟩) ?_
            rintro v w' ⟨rfl, h2⟩
            exact ⟨hR.put hu (by rw [hl]; decide) (d := 65) rfl (of_decide_eq_true rfl) rfl, bel_from hW h2⟩
          · -- [9] indexAddr 44 t8 (.int .i64 1)
            refine wpOp_val rfl (d := 66) rfl ((wanted_slot rfl (d := 62) rfl (hR.slot 5 62 (hd 5 rfl) rfl)).trans rfl) (ex_indexAddr (hR.was 8 rfl) rfl (arr_1 _ _)) ⟨hR.put hu (by rw [hl]; decide) (d := 66) rfl (of_decide_eq_true rfl) rfl, ?_⟩
            exact hW
          · -- [10] load 9 t66
            have hc := (B7.out.below hW B7.out.lt).cell 1
            refine wpOp_val rfl (d := 67) rfl ((wanted_slot rfl (d := 62) rfl (hR.slot 5 62 (hd 5 rfl) rfl)).trans rfl) (ex_load (hR.slot 9 66 (hd 9 rfl) rfl) (load_str hc)) ⟨hR.put hu (by rw [hl]; decide) (d := 67) rfl (of_decide_eq_true rfl) rfl, ?_⟩
            clear hc
            exact hW
          · -- [11] binOp neq 9 t65 t67 9
            refine wpOp_val rfl (d := 68) rfl ((wanted_slot rfl (d := 62) rfl (hR.slot 5 62 (hd 5 rfl) rfl)).trans rfl) (ex_bin (hR.slot 8 65 (hd 8 rfl) rfl) (hR.slot 10 67 (hd 10 rfl) rfl) (fun w => by simp [eqGuard]) (neq_same _ _)) ⟨hR.put hu (by rw [hl]; decide) (d := 68) rfl (of_decide_eq_true rfl) rfl, ?_⟩
            exact hW
          · -- [12] pick [t62, (.bool true), t68]
            refine wpOp_val rfl (d := 69) rfl (wanted_plain rfl _) (ex_pick_false (hR.slot 5 62 (hd 5 rfl) rfl) (hR.slot 11 68 (hd 11 rfl) rfl)) ⟨hR.put hu (by rw [hl]; decide) (d := 69) rfl (of_decide_eq_true rfl) rfl, ?_⟩
            exact hW
          · -- [13] move [t69]
            refine wpOp_val rfl (d := 70) rfl (wanted_plain rfl _) (ex_move (hR.slot 12 69 (hd 12 rfl) rfl)) ⟨hR.put hu (by rw [hl]; decide) (d := 70) rfl (of_decide_eq_true rfl) rfl, ?_⟩
            exact hW
          · -- [14] fieldAddr 41 t6 2
            refine wpOp_val rfl (d := 71) rfl ((wanted_slot rfl (d := 70) rfl (hR.slot 13 70 (hd 13 rfl) rfl)).trans rfl) (ex_fieldAddr (hR.was 6 rfl) (spec_2 _ _)) ⟨hR.put hu (by rw [hl]; decide) (d := 71) rfl (of_decide_eq_true rfl) rfl, ?_⟩
            exact hW
          · -- [15] load 39 t71
            have hc := (B6.out.below hW B6.out.lt).cell 2
            refine wpOp_val rfl (d := 72) rfl ((wanted_slot rfl (d := 70) rfl (hR.slot 13 70 (hd 13 rfl) rfl)).trans rfl) (ex_load (hR.slot 14 71 (hd 14 rfl) rfl) (load_ints hc)) ⟨hR.put hu (by rw [hl]; decide) (d := 72) rfl (of_decide_eq_true rfl) rfl, ?_⟩
            clear hc
            exact hW
          · -- [16] call f20 [t72]
            refine wpOp_call rfl (d := 73) rfl ((wanted_slot rfl (d := 70) rfl (hR.slot 13 70 (hd 13 rfl) rfl)).trans rfl) (ex_call (vs := #[(.slice x2 (cR q).length c2)]) (by rw [List.map_toArray]; simp only [List.map_cons, List.map_nil, show a.eval (.tmp 72) = (.slice x2 (cR q).length c2) from (hR.slot 15 72 (hd 15 rfl) rfl)]) (enters_fn Tryd.func20 (by kernel_rfl) rfl)) (R := fun v w' => v = S (dgs (cR q)) ∧ Below wx.heap.size wx w') ((digits_any _ _ (cR q) Hd.out.2.2.1 Hd.out.2.2.2 wx (D2.out.below hW)).mono fun e w' ⟨h1, h2⟩ => ⟨_, h1, rfl, h2⟩) ?_
            rintro v w' ⟨rfl, h2⟩
            exact ⟨hR.put hu (by rw [hl]; decide) (d := 73) rfl (of_decide_eq_true rfl) rfl, bel_from hW h2⟩
          · -- [17] indexAddr 44 t8 (.int .i64 2)
            refine wpOp_val rfl (d := 74) rfl ((wanted_slot rfl (d := 70) rfl (hR.slot 13 70 (hd 13 rfl) rfl)).trans rfl) (ex_indexAddr (hR.was 8 rfl) rfl (arr_2 _ _)) ⟨hR.put hu (by rw [hl]; decide) (d := 74) rfl (of_decide_eq_true rfl) rfl, ?_⟩
            exact hW
          · -- [18] load 9 t74
            have hc := (B7.out.below hW B7.out.lt).cell 2
            refine wpOp_val rfl (d := 75) rfl ((wanted_slot rfl (d := 70) rfl (hR.slot 13 70 (hd 13 rfl) rfl)).trans rfl) (ex_load (hR.slot 17 74 (hd 17 rfl) rfl) (load_str hc)) ⟨hR.put hu (by rw [hl]; decide) (d := 75) rfl (of_decide_eq_true rfl) rfl, ?_⟩
            clear hc
            exact hW
          · -- [19] binOp neq 9 t73 t75 9
            refine wpOp_val rfl (d := 76) rfl ((wanted_slot rfl (d := 70) rfl (hR.slot 13 70 (hd 13 rfl) rfl)).trans rfl) (ex_bin (hR.slot 16 73 (hd 16 rfl) rfl) (hR.slot 18 75 (hd 18 rfl) rfl) (fun w => by simp [eqGuard]) (neq_same _ _)) ⟨hR.put hu (by rw [hl]; decide) (d := 76) rfl (of_decide_eq_true rfl) rfl, ?_⟩
            exact hW
          · -- [20] pick [t70, (.bool true), t76]
            refine wpOp_val rfl (d := 77) rfl (wanted_plain rfl _) (ex_pick_false (hR.slot 13 70 (hd 13 rfl) rfl) (hR.slot 19 76 (hd 19 rfl) rfl)) ⟨hR.put hu (by rw [hl]; decide) (d := 77) rfl (of_decide_eq_true rfl) rfl, ?_⟩
            exact hW
-- ENDO
        · intro l a wb hl hR hW
          have Hb8 := Lib.hid (bel_from Hb7.out hW)
          have e77 : a.tmps.getD 77 undef = .bool false := hR.slot 20 77 (hl 20 (by decide)) rfl
          rw [hR.fold [57, 58, 59, 60, 61, 62, 63, 64, 65, 66, 67, 68, 69, 70, 71, 72, 73, 74, 75, 76, 77] (by kernel_rfl)]
          simp only [List.foldl, e77]
          clear hW hR e77 hl
          generalize a.tmps.getD 57 undef = u57
          generalize a.tmps.getD 58 undef = u58
          generalize a.tmps.getD 59 undef = u59
          generalize a.tmps.getD 60 undef = u60
          generalize a.tmps.getD 61 undef = u61
          generalize a.tmps.getD 62 undef = u62
          generalize a.tmps.getD 63 undef = u63
          generalize a.tmps.getD 64 undef = u64
          generalize a.tmps.getD 65 undef = u65
          generalize a.tmps.getD 66 undef = u66
          generalize a.tmps.getD 67 undef = u67
          generalize a.tmps.getD 68 undef = u68
          generalize a.tmps.getD 69 undef = u69
          generalize a.tmps.getD 70 undef = u70
          generalize a.tmps.getD 71 undef = u71
          generalize a.tmps.getD 72 undef = u72
          generalize a.tmps.getD 73 undef = u73
          generalize a.tmps.getD 74 undef = u74
          generalize a.tmps.getD 75 undef = u75
          generalize a.tmps.getD 76 undef = u76
          go_simp
          clear a l
          go_wp2_with fail
          go_roundg (2 - (j + 1))
          case measure => omega
          case rel => exact ⟨j + 1, by omega, by go_num, Hb8.out⟩
      · have h40 : m < 1 ∨ 40 < m := by omega
        have hno := of_no m hmk
        have Hno := Lib.hid hno; clear hno hmk
        rcases h40 with h40 | h40
        · go_wp2_with fail
          refine (Hno.out _).mono ?_
          rintro e w5 ⟨rfl, hb5⟩
          have Hb5 := Lib.hid (bel_from Hb.out hb5); clear hb5
          have e0 : of0 = .agg #[.string ⟨#[]⟩, .slice none 0 0, .slice none 0 0] := rfl
          rw [e0]
          clear e0
          go_wp2_with fail
          go_roundg (2 - (j + 1))
          case measure => omega
          case rel => exact ⟨j + 1, by omega, by go_num, Hb5.out.alloc Hb5.out.size _⟩
        · have h41 : 1 ≤ m := by omega
          go_wp2_with fail
          refine (Hno.out _).mono ?_
          rintro e w5 ⟨rfl, hb5⟩
          have Hb5 := Lib.hid (bel_from Hb.out hb5); clear hb5
          have e0 : of0 = .agg #[.string ⟨#[]⟩, .slice none 0 0, .slice none 0 0] := rfl
          rw [e0]
          clear e0
          go_wp2_with fail
          go_roundg (2 - (j + 1))
          case measure => omega
          case rel => exact ⟨j + 1, by omega, by go_num, Hb5.out.alloc Hb5.out.size _⟩
    · go_wp2_with fail
      go_ret
      exact ⟨rfl, Hbw.out⟩
end Go.Proofs.YtidaopggidccmaaDoor
