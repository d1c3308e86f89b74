/- The walk of IsaBytes: it returns true, whatever the bytes. -/
import Derived.Test.YtidaopggidccmaaDoorIsaF
import Derived.Test.YtidaopggidccmaaDoorIsaD
import Derived.Test.YtidaopggidccmaaDoorArgs
namespace Go.Proofs.YtidaopggidccmaaDoor
open Go.RowKit
attribute [local irreducible] World.setCell World.alloc World.drew Calls Code.wp

theorem enc_decB (B : Nat → Int) (hB : ∀ j, 0 ≤ B j ∧ B j ≤ 255) : (decB B).enc = [B 0, B 1, B 2, B 3, B 4, B 5, B 6, B 7] := by
  have h4 := hB 4; have h5 := hB 5; have h6 := hB 6; have h7 := hB 7
  have hu : uns (sgn (numB B)) = numB B := uns_sgn _ (by unfold numB; omega) (by unfold numB; omega)
  unfold Ins.enc decB
  simp only [hu]
  unfold numB
  simp only [List.cons.injEq, and_true, true_and]
  omega

/-- Eight bytes that came in. -/
theorem row8 {w : World} {A : Option Addr} {len cap : Nat} {z : List Int} (h : IsRow .u8 w A len cap z) (h8 : len = 8) :
    ∃ b o, A = some ⟨b, o, none⟩ ∧ b < w.heap.size ∧ (∀ j, j < 8 → w.cell? ⟨b, o + j, none⟩ = some (.int .u8 (z.getD j 0))) ∧ ∀ j, 0 ≤ z.getD j 0 ∧ z.getD j 0 ≤ 255 := by
  have hwf := row_wf h
  rcases h with ⟨_, rfl, _, _⟩ | ⟨x, rfl, hl, _, hz, hc, _⟩
  · omega
  · have hc0 := hc 0 (by omega)
    have hsp := World.cell?_spot hc0
    have hlt := cell_lt hc0
    obtain ⟨b, o, sp⟩ := x
    simp only [Addr.add_zero'] at hsp hlt
    subst hsp
    refine ⟨b, o, rfl, hlt, fun j hj => ?_, fun j => wf_u8 (hwf j)⟩
    have := hc j (by omega)
    rwa [Addr.add_lit] at this
theorem row_le {w : World} {A : Option Addr} {len cap : Nat} {z : List Int} (h : IsRow .u8 w A len cap z) : len ≤ 9223372036854775807 := by
  rcases h with ⟨_, rfl, rfl, _⟩ | ⟨_, _, h, h2, _⟩
  · omega
  · unfold maxLen at h2; omega

/-- An instruction that lies in memory, loaded. -/
theorem load_ins {w : World} {b : Nat} {x : Ins} (h : ∀ i, w.cell? ⟨b, i, none⟩ = x.cells[i]?) : (Instr.loadAt 25 (.pointer (some ⟨b, 0, none⟩))).run Tryd.prog w = .ok x.v w := by
  have h0 : w.cell? ⟨b, 0, none⟩ = some (.int .i64 x.op) := h 0
  have h1 : w.cell? ⟨b, 1, none⟩ = some (.int .i64 x.a) := h 1
  have h2 : w.cell? ⟨b, 2, none⟩ = some (.int .i64 x.b) := h 2
  have h3 : w.cell? ⟨b, 3, none⟩ = some (.int .i64 x.c) := h 3
  have h4 : w.cell? ⟨b, 4, none⟩ = some (.int .i32 x.imm) := h 4
  clear h
  go_simp
  rfl
theorem ret_b {x : Bool} (h : x = true) : Ending.returned (.bool x) = .returned (.bool true) := by rw [h]
/-- In the midst of the last statement. -/
structure Y8 (w0 : World) (n3 : Nat) (X : Ins) (L : List Int) (b4 : Option Bool) (v55 : Value) (w : World) : Prop where
  blk : Blk w n3 X.cells 25
  bel : Below w0.heap.size w0 w
  g4 : b4 = some true → StrIn w v55 L

set_option maxRecDepth 100000 in
set_option maxHeartbeats 1000000 in
theorem bytes_walk (A : Option Addr) (len cap : Nat) (z : List Int) (w : World) (hz : IsRow .u8 w A len cap z) (hp : HasPow w) (hs : HasSp w) :
    Calls Tryd.prog 5 #[.slice A len cap] w fun e w' => e = .returned (.bool true) ∧ Below w.heap.size w w' := by
  have Hp := Lib.hid hp; have Hs := Lib.hid hs; clear hp hs
  have hlen := row_le hz
  have Hz := Lib.hid hz; clear hz
  by_cases h8 : len = 8
  · obtain ⟨b, o, rfl, hlt, hcell, hbd⟩ := row8 Hz.out h8
    subst h8
    obtain ⟨B, hB⟩ : ∃ B : Nat → Int, ∀ j, B j = z.getD j 0 := ⟨_, fun _ => rfl⟩
    have Hcell : Hid (∀ j, j < 8 → w.cell? ⟨b, o + j, none⟩ = some (.int .u8 (B j))) := fun j hj => by rw [hB]; exact hcell j hj
    have Hbd : Hid (∀ j, 0 ≤ B j ∧ B j ≤ 255) := fun j => by rw [hB]; exact hbd j
    clear hcell hbd hB
    go_enter Tryd.func5, Tryd.ntmps5
    go_wp2_with fail
    refine (fit04_any _ Hp.out Hs.out).mono ?_
    rintro e w1 ⟨rfl, hb1⟩
    have Hb1 := Lib.hid hb1; clear hb1
    go_wp2_with fail
    refine (dec8 b o cap B _ Hbd.out (fun j hj => by rw [Hb1.out.cell (p := ⟨b, o + j, none⟩) hlt]; exact Hcell.out j hj)).mono ?_
    rintro e w2 ⟨rfl, hb2⟩
    have Hb2 := Lib.hid (bel_from Hb1.out hb2); clear hb2
    have hc0 : w2.cell? ⟨b, o, none⟩ = some (.int .u8 (B 0)) := by rw [Hb2.out.cell (p := ⟨b, o, none⟩) hlt]; exact Hcell.out 0 (by omega)
    have hc1 : w2.cell? ⟨b, o + 1, none⟩ = some (.int .u8 (B 1)) := by rw [Hb2.out.cell (p := ⟨b, o + 1, none⟩) hlt]; exact Hcell.out 1 (by omega)
    have hc2 : w2.cell? ⟨b, o + 2, none⟩ = some (.int .u8 (B 2)) := by rw [Hb2.out.cell (p := ⟨b, o + 2, none⟩) hlt]; exact Hcell.out 2 (by omega)
    have hc3 : w2.cell? ⟨b, o + 3, none⟩ = some (.int .u8 (B 3)) := by rw [Hb2.out.cell (p := ⟨b, o + 3, none⟩) hlt]; exact Hcell.out 3 (by omega)
    have hlt2 : b < w2.heap.size := Nat.lt_of_lt_of_le hlt Hb2.out.size
    cases hr : (decB B).right
    · have e0 : (decB B).dec = .agg #[.int .i64 0, .int .i64 0, .int .i64 0, .int .i64 0, .int .i32 0] := by unfold Ins.dec; rw [hr]; rfl
      have hn : Hid (¬ ((1 ≤ B 0 ∧ B 0 ≤ 43) ∧ B 1 < 16 ∧ B 2 < 16 ∧ B 3 < 16)) := by
        have b1 := Hbd.out 1; have b2 := Hbd.out 2; have b3 := Hbd.out 3
        rintro ⟨⟨q1, q2⟩, q3, q4, q5⟩
        have : (decB B).right = true := by
          simp [Ins.right, decB, regB, q1, q2, q3, q4, q5, b1.1, b2.1, b3.1]
        rw [hr] at this; cases this
      rw [e0]
      clear e0 hr
      obtain ⟨b0l, b0u⟩ := Hbd.out 0
      obtain ⟨b1l, b1u⟩ := Hbd.out 1
      obtain ⟨b2l, b2u⟩ := Hbd.out 2
      obtain ⟨b3l, b3u⟩ := Hbd.out 3
      by_cases ho : 1 ≤ B 0 ∧ B 0 ≤ 43
      · obtain ⟨y, r, hyr⟩ := nameOf_yes ho
        have Hyr := Lib.hid hyr; clear hyr
        have Ho := Lib.hid ho; clear ho
        by_cases q1 : B 1 < 16
        · by_cases q2 : B 2 < 16
          · have q3 : 16 ≤ B 3 := by
              have := hn.out; have := Ho.out; omega
            go_wp2_with fail
            refine (name_any _ _).mono ?_
            rintro e w3 ⟨rfl, hb3⟩
            rw [Hyr.out]
            have Hb3 := Lib.hid ((Hb2.out.alloc Hb2.out.size _).trans (hb3.mono (by have := Hb2.out.size; simp; omega))); clear hb3
            have hd1 : w3.cell? ⟨b, o + 1, none⟩ = some (.int .u8 (B 1)) := by rw [Hb3.out.cell (p := ⟨b, o + 1, none⟩) hlt]; exact Hcell.out 1 (by omega)
            have hd2 : w3.cell? ⟨b, o + 2, none⟩ = some (.int .u8 (B 2)) := by rw [Hb3.out.cell (p := ⟨b, o + 2, none⟩) hlt]; exact Hcell.out 2 (by omega)
            have hd3 : w3.cell? ⟨b, o + 3, none⟩ = some (.int .u8 (B 3)) := by rw [Hb3.out.cell (p := ⟨b, o + 3, none⟩) hlt]; exact Hcell.out 3 (by omega)
            go_wp2_with fail
            go_ret
            exact ⟨ret_b (by first | rfl | (simp; omega)), Hb3.out⟩
          · have q2' : 16 ≤ B 2 := by omega
            go_wp2_with fail
            refine (name_any _ _).mono ?_
            rintro e w3 ⟨rfl, hb3⟩
            rw [Hyr.out]
            have Hb3 := Lib.hid ((Hb2.out.alloc Hb2.out.size _).trans (hb3.mono (by have := Hb2.out.size; simp; omega))); clear hb3
            have hd1 : w3.cell? ⟨b, o + 1, none⟩ = some (.int .u8 (B 1)) := by rw [Hb3.out.cell (p := ⟨b, o + 1, none⟩) hlt]; exact Hcell.out 1 (by omega)
            have hd2 : w3.cell? ⟨b, o + 2, none⟩ = some (.int .u8 (B 2)) := by rw [Hb3.out.cell (p := ⟨b, o + 2, none⟩) hlt]; exact Hcell.out 2 (by omega)
            go_wp2_with fail
            go_ret
            exact ⟨ret_b (by first | rfl | (simp; omega)), Hb3.out⟩
        · have q1' : 16 ≤ B 1 := by omega
          go_wp2_with fail
          refine (name_any _ _).mono ?_
          rintro e w3 ⟨rfl, hb3⟩
          rw [Hyr.out]
          have Hb3 := Lib.hid ((Hb2.out.alloc Hb2.out.size _).trans (hb3.mono (by have := Hb2.out.size; simp; omega))); clear hb3
          have hd1 : w3.cell? ⟨b, o + 1, none⟩ = some (.int .u8 (B 1)) := by rw [Hb3.out.cell (p := ⟨b, o + 1, none⟩) hlt]; exact Hcell.out 1 (by omega)
          go_wp2_with fail
          go_ret
          exact ⟨ret_b (by first | rfl | (simp; omega)), Hb3.out⟩
      · have Hn := Lib.hid (nameOf_no ho)
        go_wp2_with fail
        refine (name_any _ _).mono ?_
        rintro e w3 ⟨rfl, hb3⟩
        rw [Hn.out]
        have Hb3 := Lib.hid ((Hb2.out.alloc Hb2.out.size _).trans (hb3.mono (by have := Hb2.out.size; simp; omega))); clear hb3
        go_wp2_with fail
        go_ret
        exact ⟨rfl, Hb3.out⟩
    · obtain ⟨X, hX⟩ : ∃ X, decB B = X := ⟨_, rfl⟩
      have he := enc_decB B Hbd.out
      have hi : -2147483648 ≤ (decB B).imm ∧ (decB B).imm ≤ 2147483647 := by
        have h4 := Hbd.out 4; have h5 := Hbd.out 5; have h6 := Hbd.out 6; have h7 := Hbd.out 7
        exact sgn_bd _ (by unfold numB; omega) (by unfold numB; omega)
      have e0 : (decB B).dec = (decB B).v := by unfold Ins.dec; rw [hr]; rfl
      rw [e0, hX]
      rw [hX] at he hi hr
      obtain ⟨L, hL⟩ : ∃ L : List Int, [B 0, B 1, B 2, B 3, B 4, B 5, B 6, B 7] = L := ⟨_, rfl⟩
      have Hsrc : Hid (StrIn w (.slice (some ⟨b, o, none⟩) 8 cap) L) := by
        rw [← hL]
        refine ⟨_, _, rfl, .inr ⟨b, o, rfl, hlt, fun j hj => ?_⟩⟩
        have hj : j < 8 := hj
        rw [Hcell.out j hj]
        obtain rfl | rfl | rfl | rfl | rfl | rfl | rfl | rfl : j = 0 ∨ j = 1 ∨ j = 2 ∨ j = 3 ∨ j = 4 ∨ j = 5 ∨ j = 6 ∨ j = 7 := by omega
        all_goals rfl
      have Hr := Lib.hid hr; have Hi := Lib.hid hi
      have He : Hid (X.enc = L) := by rw [Hid, he, hL]
      clear hL e0 hX he hi hr hc0 hc1 hc2 hc3
      have hv : X.v = .agg #[.int .i64 X.op, .int .i64 X.a, .int .i64 X.b, .int .i64 X.c, .int .i32 X.imm] := rfl
      rw [hv]
      clear hv
      go_wp2_with fail
      refine wp_region_rinv (by kernel_rfl) (by kernel_rfl) (by kernel_rfl)
        (fun i v => match i with | 0 => v = X.v | 1 => v = .bool true | 2 => v = (.bool true) | 3 => v = X.v | 5 => v = .string (bs L) | 6 => v = (.slice (some ⟨b, o, none⟩) 8 cap) | 7 => v = .string (bs L) | 8 => v = .bool true | 9 => v = (.bool true) | 10 => v = (.bool true) | _ => True)
        (fun l a wx => Y8 w w2.heap.size X L l[4]? (a.tmps.getD 55 undef) wx) ?_ ?_ ?_
      · exact ⟨(Blk.new w2 X.cells 25).drew, (Hb2.out.alloc Hb2.out.size _).drew, fun h => by simp at h⟩
      · intro hu i l a wx hi hl hli hd hcl hR hW
        have hi27 : i = 0 ∨ i = 1 ∨ i = 2 ∨ i = 3 ∨ i = 4 ∨ i = 5 ∨ i = 6 ∨ i = 7 ∨ i = 8 ∨ i = 9 ∨ i = 10 := by have : i < 11 := hi; omega
        rcases hi27 with rfl | rfl | rfl | rfl | rfl | rfl | rfl | rfl | rfl | rfl | rfl
        · -- [0] load 25 t3
          have hc := hW.blk.cell
          refine wpOp_val rfl (d := 51) rfl (wanted_plain rfl _) (ex_load (hR.was 3 rfl) (load_ins hc)) ⟨hR.put hu (by rw [hl]; decide) (d := 51) rfl (of_decide_eq_true rfl) rfl, ?_⟩
          clear hc
          simpa only [set_other, put_other, ne_eq, not_false_eq_true, Nat.reduceEqDiff] using hW
        · -- [1] call f14 [t51]
          have hno : ¬ (l[1]? = some true) := by rw [hli]; simp
          refine wpOp_call rfl (d := 52) rfl (wanted_plain rfl _) (ex_call (vs := #[X.v]) (by rw [List.map_toArray]; simp only [List.map_cons, List.map_nil, show a.eval (.tmp 51) = X.v from (hR.slot 0 51 (hd 0 rfl) rfl)]) (enters_fn Tryd.func14 (by kernel_rfl) rfl)) (R := fun v w' => v = .bool true ∧ Below wx.heap.size wx w') ((lright_any X.op X.a X.b X.c X.imm wx).mono fun e w' ⟨h1, h2⟩ => ⟨_, h1, by rw [Hr.out], h2⟩) ?_
          rintro v w' ⟨rfl, h2⟩
          refine ⟨hR.put hu (by rw [hl]; decide) (d := 52) rfl (of_decide_eq_true rfl) rfl, ?_⟩
          simp only [set_other, put_other, ne_eq, not_false_eq_true, Nat.reduceEqDiff]
          exact ⟨hW.blk.below h2 hW.blk.lt, bel_from hW.bel h2, fun h => absurd (hcl.of 1 rfl (hcl.of 2 rfl h)) hno⟩
        · -- [2] move [t52]
          refine wpOp_val rfl (d := 53) rfl (wanted_plain rfl _) (ex_move (hR.slot 1 52 (hd 1 rfl) rfl)) ⟨hR.put hu (by rw [hl]; decide) (d := 53) rfl (of_decide_eq_true rfl) rfl, ?_⟩
          simpa only [set_other, put_other, ne_eq, not_false_eq_true, Nat.reduceEqDiff] using hW
        · -- [3] load 25 t3
          have hc := hW.blk.cell
          refine wpOp_val rfl (d := 54) rfl ((wanted_slot rfl (d := 53) rfl (hR.slot 2 53 (hd 2 rfl) rfl)).trans rfl) (ex_load (hR.was 3 rfl) (load_ins hc)) ⟨hR.put hu (by rw [hl]; decide) (d := 54) rfl (of_decide_eq_true rfl) rfl, ?_⟩
          clear hc
          simpa only [set_other, put_other, ne_eq, not_false_eq_true, Nat.reduceEqDiff] using hW
        · -- [4] call f15 [t54]
          refine wpOp_call rfl (d := 55) rfl ((wanted_slot rfl (d := 53) rfl (hR.slot 2 53 (hd 2 rfl) rfl)).trans rfl) (ex_call (vs := #[X.v]) (by rw [List.map_toArray]; simp only [List.map_cons, List.map_nil, show a.eval (.tmp 54) = X.v from (hR.slot 3 54 (hd 3 rfl) rfl)]) (enters_fn Tryd.func15 (by kernel_rfl) rfl)) (R := fun v w' => StrIn w' v L ∧ Below wx.heap.size wx w') ((enc_any X.op X.a X.b X.c X.imm wx Hr.out Hi.out).mono fun e w' ⟨v, h1, h2, h3⟩ => ⟨v, h1, He.out ▸ h2, h3⟩) ?_
          rintro v w' ⟨h1, h2⟩
          refine ⟨hR.put hu (by rw [hl]; decide) (d := 55) rfl (of_decide_eq_true rfl) trivial, ?_⟩
          rw [set_self (show 4 < l.size by rw [hl]; decide), put_self (show 55 < a.tmps.size by rw [hR.size]; exact of_decide_eq_true rfl)]
          exact ⟨hW.blk.below h2 hW.blk.lt, bel_from hW.bel h2, fun _ => h1⟩
        · -- [5] convert 29 9 t55
          refine wpOp_val rfl (d := 56) rfl ((wanted_slot rfl (d := 53) rfl (hR.slot 2 53 (hd 2 rfl) rfl)).trans rfl) (ex_convert rfl (hW.g4 (hd 4 rfl)).str) ⟨hR.put hu (by rw [hl]; decide) (d := 56) rfl (of_decide_eq_true rfl) rfl, ?_⟩
          simpa only [set_other, put_other, ne_eq, not_false_eq_true, Nat.reduceEqDiff] using hW
        · -- [6] move [t0]
          refine wpOp_val rfl (d := 57) rfl ((wanted_slot rfl (d := 53) rfl (hR.slot 2 53 (hd 2 rfl) rfl)).trans rfl) (ex_move (hR.was 0 rfl)) ⟨hR.put hu (by rw [hl]; decide) (d := 57) rfl (of_decide_eq_true rfl) rfl, ?_⟩
          simpa only [set_other, put_other, ne_eq, not_false_eq_true, Nat.reduceEqDiff] using hW
        · -- [7] convert 29 9 t57
          refine wpOp_val rfl (d := 58) rfl ((wanted_slot rfl (d := 53) rfl (hR.slot 2 53 (hd 2 rfl) rfl)).trans rfl) (ex_convert (hR.slot 6 57 (hd 6 rfl) rfl) (Hsrc.out.below hW.bel (Nat.le_refl _)).str) ⟨hR.put hu (by rw [hl]; decide) (d := 58) rfl (of_decide_eq_true rfl) rfl, ?_⟩
          simpa only [set_other, put_other, ne_eq, not_false_eq_true, Nat.reduceEqDiff] using hW
        · -- [8] binOp eql 9 t56 t58 9
          refine wpOp_val rfl (d := 59) rfl ((wanted_slot rfl (d := 53) rfl (hR.slot 2 53 (hd 2 rfl) rfl)).trans rfl) (ex_bin (hR.slot 5 56 (hd 5 rfl) rfl) (hR.slot 7 58 (hd 7 rfl) rfl) (fun w => by simp [eqGuard]) (eql_same _ _)) ⟨hR.put hu (by rw [hl]; decide) (d := 59) rfl (of_decide_eq_true rfl) rfl, ?_⟩
          simpa only [set_other, put_other, ne_eq, not_false_eq_true, Nat.reduceEqDiff] using hW
        · -- [9] pick [t53, t59, (.bool false)]
          refine wpOp_val rfl (d := 60) rfl (wanted_plain rfl _) (ex_pick_true (hR.slot 2 53 (hd 2 rfl) rfl) (hR.slot 8 59 (hd 8 rfl) rfl)) ⟨hR.put hu (by rw [hl]; decide) (d := 60) rfl (of_decide_eq_true rfl) rfl, ?_⟩
          simpa only [set_other, put_other, ne_eq, not_false_eq_true, Nat.reduceEqDiff] using hW
        · -- [10] assign [t60]
          refine wpOp_val rfl (d := 2) rfl (wanted_plain rfl _) (ex_assign (hR.slot 9 60 (hd 9 rfl) rfl)) ⟨hR.put hu (by rw [hl]; decide) (d := 2) rfl (of_decide_eq_true rfl) rfl, ?_⟩
          simpa only [set_other, put_other, ne_eq, not_false_eq_true, Nat.reduceEqDiff] using hW
-- END8
      · intro l a wx hl hR hW
        have Hb3 := Lib.hid hW.bel
        have e2 : a.tmps.getD 2 undef = .bool true := hR.slot 10 2 (hl 10 (by decide)) rfl
        rw [hR.fold [51, 52, 53, 54, 55, 56, 57, 58, 59, 60, 2] (by kernel_rfl)]
        simp only [List.foldl, e2]
        clear hW hR e2 hl
        generalize a.tmps.getD 51 undef = u51
        generalize a.tmps.getD 52 undef = u52
        generalize a.tmps.getD 53 undef = u53
        generalize a.tmps.getD 54 undef = u54
        generalize a.tmps.getD 55 undef = u55
        generalize a.tmps.getD 56 undef = u56
        generalize a.tmps.getD 57 undef = u57
        generalize a.tmps.getD 58 undef = u58
        generalize a.tmps.getD 59 undef = u59
        generalize a.tmps.getD 60 undef = u60
        go_simp
        clear a l
        go_wp2_with fail
        go_ret
        exact ⟨rfl, Hb3.out⟩
  · have h9 : ((len : Int) != 8) = true := by rw [bne_iff_ne]; omega
    by_cases hg : 100 < len
    · clear h8
      go_enter Tryd.func5, Tryd.ntmps5
      go_wp2_with fail
      refine (fit04_any _ Hp.out Hs.out).mono ?_
      rintro e w1 ⟨rfl, hb1⟩
      have Hb1 := Lib.hid hb1; clear hb1
      go_wp2_with fail
      go_ret
      exact ⟨rfl, Hb1.out⟩
    · go_enter Tryd.func5, Tryd.ntmps5
      go_wp2_with fail
      refine (fit04_any _ Hp.out Hs.out).mono ?_
      rintro e w1 ⟨rfl, hb1⟩
      have Hb1 := Lib.hid hb1; clear hb1
      go_wp2_with fail
      refine (dec_no A len cap _ h8).mono ?_
      rintro e w2 ⟨rfl, hb2⟩
      have Hb2 := Lib.hid (bel_from Hb1.out hb2); clear hb2 h8
      have e0 : ins0 = .agg #[.int .i64 0, .int .i64 0, .int .i64 0, .int .i64 0, .int .i32 0] := rfl
      rw [e0]
      clear e0
      go_wp2_with fail
      go_ret
      exact ⟨rfl, Hb2.out.alloc Hb2.out.size _⟩
end Go.Proofs.YtidaopggidccmaaDoor
