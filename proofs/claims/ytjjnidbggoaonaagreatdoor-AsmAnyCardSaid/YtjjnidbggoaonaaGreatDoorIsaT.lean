/- isa.Text: an instruction's text. -/
import Derived.Test.YtjjnidbggoaonaaGreatDoorIsaR
import Derived.Lib.ItoaLen
import Derived.Test.YtjjnidbggoaonaaGreatDoorBits
namespace Go.Proofs.YtjjnidbggoaonaaGreatDoor
open Go.RowKit
attribute [local irreducible] World.setCell World.alloc World.drew Calls Code.wp

theorem run_add {P : Program} {w : World} {t : TypeId} (l m : List UInt8) (h : l.length + m.length ≤ 9223372036854775807) : (binOp .add t (S l) (S m)).run P w = .ok (S (l ++ m)) w := by
  have e : (⟨l.toArray⟩ : ByteArray) ++ ⟨m.toArray⟩ = ⟨(l ++ m).toArray⟩ := by
    apply ByteArray.ext
    simp
  have h1 : ¬ (((⟨l.toArray⟩ : ByteArray).size + (⟨m.toArray⟩ : ByteArray).size : Nat) : Int) > IntKind.i64.max := by
    have e1 : (⟨l.toArray⟩ : ByteArray).size = l.length := by show l.toArray.size = _; simp
    have e2 : (⟨m.toArray⟩ : ByteArray).size = m.length := by show m.toArray.size = _; simp
    rw [e1, e2]
    have : IntKind.i64.max = 9223372036854775807 := rfl
    omega
  simp only [binOp_string_add, Op.stringOp, if_neg h1, e]
  rfl

theorem run_sadd {P : Program} (l m : List UInt8) (h : l.length + m.length ≤ 9223372036854775807) (w : World) : (Op.stringOp .add ⟨l.toArray⟩ ⟨m.toArray⟩).run P w = .ok (S (l ++ m)) w := by
  have := run_add (P := P) (w := w) (t := 0) l m h
  rwa [binOp_string_add] at this

/-- What an instruction's text is. -/
def Ins.text (x : Ins) : List UInt8 :=
  if x.right then nm (x.op.toNat - 1) ++ [32, 114] ++ Lib.itoa x.a ++ [32, 114] ++ Lib.itoa x.b ++ [32, 114] ++ Lib.itoa x.c ++ [32] ++ Lib.itoa x.imm else [63]

theorem nm_len (k : Nat) : (nm k).length ≤ 6 := by
  rcases Nat.lt_or_ge k 43 with h | h
  · have h1 : ∀ k, k < 43 → (nm k).length ≤ 6 := by decide +kernel
    exact h1 k h
  · have : nm k = [] := by
      unfold nm
      rw [List.getD, List.getElem?_eq_none (by rw [names_len]; exact h)]; rfl
    rw [this]; simp

/-- In the midst of the text's statement. -/
structure T3 (w0 : World) (w1 : World) (x : Ins) (b0 : Option Bool) (w : World) : Prop where
  blk : Blk w w0.heap.size x.cells 23
  bel : Below w0.heap.size w0 w
  pow : HasPow w
  sp : HasSp w
  fresh : ¬ (b0 = some true) → w.heap.size = w1.heap.size
  nmb : b0 = some true → Blk w w1.heap.size namesV 9

set_option maxRecDepth 100000 in
set_option maxHeartbeats 1000000 in
theorem text_yes (k : Nat) (xa xb xc xi : Int) (hk : k < 43) (ha : 0 ≤ xa ∧ xa < 16) (hb : 0 ≤ xb ∧ xb < 16) (hc : 0 ≤ xc ∧ xc < 16) (hi : -2147483648 ≤ xi ∧ xi ≤ 2147483647) (w : World) (hp : HasPow w) (hs : HasSp w) :
    Calls Tryz.prog 28 #[.agg #[.int .i64 ((k : Int) + 1), .int .i64 xa, .int .i64 xb, .int .i64 xc, .int .i32 xi]] w fun e w' => e = .returned (S (nm k ++ [32, 114] ++ Lib.itoa xa ++ [32, 114] ++ Lib.itoa xb ++ [32, 114] ++ Lib.itoa xc ++ [32] ++ Lib.itoa xi)) ∧ Below w.heap.size w w' := by
  obtain ⟨ha0, ha1⟩ := ha; obtain ⟨hb0, hb1⟩ := hb; obtain ⟨hc0, hc1⟩ := hc; obtain ⟨hi0, hi1⟩ := hi
  have hr : Ins.right ⟨(k : Int) + 1, xa, xb, xc, xi⟩ = true := by
    simp [Ins.right, regB, ha0, ha1, hb0, hb1, hc0, hc1]; omega
  have Hr := Lib.hid hr; clear hr
  have l1 := nm_len k
  have l2 := Lib.itoa_length_le (n := xa) (by omega) (by omega)
  have l3 := Lib.itoa_length_le (n := xb) (by omega) (by omega)
  have l4 := Lib.itoa_length_le (n := xc) (by omega) (by omega)
  have l5 := Lib.itoa_length_le (n := xi) (by omega) (by omega)
  have Hk := Lib.hid hk
  have hki : (k : Int) < 43 := by omega
  have Hp := Lib.hid hp; have Hs := Lib.hid hs; clear hp hs
  have hB0 := Below.alloc (Below.refl w.heap.size w) (Nat.le_refl _) (.cells #[.int .i64 ((k : Int) + 1), .int .i64 xa, .int .i64 xb, .int .i64 xc, .int .i32 xi] 23)
  have HB0 := Lib.hid hB0; clear hB0
  go_enter Tryz.func28, Tryz.ntmps28
  go_wp2_with fail
  refine (right_any _ _ _ _ _ _).mono ?_
  rintro e w1 ⟨rfl, hb1⟩
  rw [Hr.out]
  have HB1 := Lib.hid ((Blk.new w #[.int .i64 ((k : Int) + 1), .int .i64 xa, .int .i64 xb, .int .i64 xc, .int .i32 xi] 23).below hb1 (by simp))
  have Hbel := Lib.hid (HB0.out.trans (hb1.mono (by simp))); clear hb1
  go_wp2_with fail
  refine wp_region_rinv (by kernel_rfl) (by kernel_rfl) (by kernel_rfl)
    (fun i v => match i with | 0 => v = .slice (some ⟨w1.heap.size, 0, none⟩) 43 43 | 1 => v = .pointer (some ⟨w.heap.size, 0, none⟩) | 2 => v = .int .i64 ((k : Int) + 1) | 3 => v = .int .i64 k | 4 => v = .pointer (some ⟨w1.heap.size, k, none⟩) | 5 => v = S (nm k) | 6 => v = S (nm k ++ [32, 114]) | 7 => v = .pointer (some ⟨w.heap.size, 1, none⟩) | 8 => v = .int .i64 xa | 9 => v = S (Lib.itoa xa) | 10 => v = S (nm k ++ [32, 114] ++ Lib.itoa xa) | 11 => v = S (nm k ++ [32, 114] ++ Lib.itoa xa ++ [32, 114]) | 12 => v = .pointer (some ⟨w.heap.size, 2, none⟩) | 13 => v = .int .i64 xb | 14 => v = S (Lib.itoa xb) | 15 => v = S (nm k ++ [32, 114] ++ Lib.itoa xa ++ [32, 114] ++ Lib.itoa xb) | 16 => v = S (nm k ++ [32, 114] ++ Lib.itoa xa ++ [32, 114] ++ Lib.itoa xb ++ [32, 114]) | 17 => v = .pointer (some ⟨w.heap.size, 3, none⟩) | 18 => v = .int .i64 xc | 19 => v = S (Lib.itoa xc) | 20 => v = S (nm k ++ [32, 114] ++ Lib.itoa xa ++ [32, 114] ++ Lib.itoa xb ++ [32, 114] ++ Lib.itoa xc) | 21 => v = S (nm k ++ [32, 114] ++ Lib.itoa xa ++ [32, 114] ++ Lib.itoa xb ++ [32, 114] ++ Lib.itoa xc ++ [32]) | 22 => v = .pointer (some ⟨w.heap.size, 4, none⟩) | 23 => v = .int .i32 xi | 24 => v = .int .i64 xi | 25 => v = S (Lib.itoa xi) | 26 => v = S (nm k ++ [32, 114] ++ Lib.itoa xa ++ [32, 114] ++ Lib.itoa xb ++ [32, 114] ++ Lib.itoa xc ++ [32] ++ Lib.itoa xi) | 27 => v = (S (nm k ++ [32, 114] ++ Lib.itoa xa ++ [32, 114] ++ Lib.itoa xb ++ [32, 114] ++ Lib.itoa xc ++ [32] ++ Lib.itoa xi)) | _ => True)
    (fun l a wx => T3 w w1 ⟨(k : Int) + 1, xa, xb, xc, xi⟩ l[0]? wx) ?_ ?_ ?_
  · exact ⟨HB1.out.drew, Hbel.out.drew, Hp.out.below Hbel.out.drew, Hs.out.below Hbel.out.drew, fun _ => by simp, fun h => by simp at h⟩
  · intro hu i l a wx hi hl hli hd hcl hR hW
    have hi27 : i = 0 ∨ i = 1 ∨ i = 2 ∨ i = 3 ∨ i = 4 ∨ i = 5 ∨ i = 6 ∨ i = 7 ∨ i = 8 ∨ i = 9 ∨ i = 10 ∨ i = 11 ∨ i = 12 ∨ i = 13 ∨ i = 14 ∨ i = 15 ∨ i = 16 ∨ i = 17 ∨ i = 18 ∨ i = 19 ∨ i = 20 ∨ i = 21 ∨ i = 22 ∨ i = 23 ∨ i = 24 ∨ i = 25 ∨ i = 26 ∨ i = 27 := by have : i < 28 := hi; omega
    rcases hi27 with rfl | rfl | rfl | rfl | rfl | rfl | rfl | rfl | rfl | rfl | rfl | rfl | rfl | rfl | rfl | rfl | rfl | rfl | rfl | rfl | rfl | rfl | rfl | rfl | rfl | rfl | rfl | rfl
    · -- [0] call f24 [(.string ⟨#[104, 97, 108, 116, 32, 108, 105, 32, 104, 105, 32, 97, 100, 100, 32, 115, 117, 98, 32, 109, 117, 108, 32, 100, 105, 118, 32, 114, 101, 109, 32, 97, 110, 100, 32, 111, 114, 32, 120, 111, 114, 32, 115, 104, 108, 32, 115, 104, 114, 32, 115, 97, 114, 32, 115, 108, 116, 32, 115, 108, 116, 117, 32, 101, 113, 32, 97, 100, 100, 105, 32, 108, 100, 32, 108, 119, 32, 108, 98, 32, 115, 116, 32, 115, 119, 32, 115, 98, 32, 98, 101, 113, 32, 98, 110, 101, 32, 98, 108, 116, 32, 98, 108, 116, 117, 32, 106, 97, 108, 32, 106, 114, 32, 102, 97, 100, 100, 32, 102, 115, 117, 98, 32, 102, 109, 117, 108, 32, 102, 100, 105, 118, 32, 102, 109, 105, 110, 32, 102, 109, 97, 120, 32, 102, 108, 116, 32, 102, 101, 113, 32, 102, 115, 113, 114, 116, 32, 102, 116, 111, 105, 32, 105, 116, 111, 102, 32, 102, 99, 108, 97, 115, 115, 32, 116, 114, 97, 112]⟩)]
      have hno : ¬ (l[0]? = some true) := by rw [hli]; simp
      refine wpOp_call rfl (d := 6) rfl (wanted_plain rfl _) (ex_call (vs := #[S nameText]) (by kernel_rfl) (enters_fn Tryz.func58 (by kernel_rfl) rfl)) (R := fun v w' => v = .slice (some ⟨w1.heap.size, 0, none⟩) 43 43 ∧ Blk w' w1.heap.size namesV 9 ∧ Below wx.heap.size wx w') ((fields_names wx hW.sp).mono fun e w' ⟨h1, h2⟩ => ⟨_, h1, by rw [hW.fresh hno], by rw [h2, ← hW.fresh hno]; exact Blk.new _ _ _, by rw [h2]; exact (Below.refl _ _).alloc (Nat.le_refl _) _⟩) ?_
      rintro v w' ⟨rfl, h1, h2⟩
      refine ⟨hR.put hu (by rw [hl]; decide) (d := 6) rfl (of_decide_eq_true rfl) rfl, ?_⟩
      rw [set_self (show 0 < l.size by rw [hl]; decide)]
      exact ⟨hW.blk.below h2 hW.blk.lt, bel_from hW.bel h2, hW.pow.below h2, hW.sp.below h2, fun h => absurd rfl h, fun _ => h1⟩
    · -- [1] fieldAddr 25 t1 0
      refine wpOp_val rfl (d := 7) rfl (wanted_plain rfl _) (ex_fieldAddr (hR.was 1 rfl) (by go_simp; rfl)) ⟨hR.put hu (by rw [hl]; decide) (d := 7) rfl (of_decide_eq_true rfl) rfl, ?_⟩
      simpa only [set_other, ne_eq, not_false_eq_true, Nat.reduceEqDiff] using hW
    · -- [2] load 3 t7
      have hc := hW.blk.cell 0
      refine wpOp_val rfl (d := 8) rfl (wanted_plain rfl _) (ex_load (hR.slot 1 7 (hd 1 rfl) rfl) (by go_simp; rfl)) ⟨hR.put hu (by rw [hl]; decide) (d := 8) rfl (of_decide_eq_true rfl) rfl, ?_⟩
      clear hc
      simpa only [set_other, ne_eq, not_false_eq_true, Nat.reduceEqDiff] using hW
    · -- [3] binOp sub 3 t8 (.int .i64 1) 3
      refine wpOp_val rfl (d := 9) rfl (wanted_plain rfl _) (ex_bin (hR.slot 2 8 (hd 2 rfl) rfl) rfl (fun w => by simp [eqGuard]) (by go_simp; exact ⟨wrap_i64_small k (by omega), rfl⟩)) ⟨hR.put hu (by rw [hl]; decide) (d := 9) rfl (of_decide_eq_true rfl) rfl, ?_⟩
      simpa only [set_other, ne_eq, not_false_eq_true, Nat.reduceEqDiff] using hW
    · -- [4] indexAddr 53 t6 t9
      refine wpOp_val rfl (d := 10) rfl (wanted_plain rfl _) (ex_indexAddr (hR.slot 0 6 (hd 0 rfl) rfl) (hR.slot 3 9 (hd 3 rfl) rfl) (by go_simp; rfl)) ⟨hR.put hu (by rw [hl]; decide) (d := 10) rfl (of_decide_eq_true rfl) rfl, ?_⟩
      simpa only [set_other, ne_eq, not_false_eq_true, Nat.reduceEqDiff] using hW
    · -- [5] load 9 t10
      have hc := (hW.nmb (hcl.of 0 rfl (hd 4 rfl))).cell k
      rw [namesV_at k Hk.out] at hc
      refine wpOp_val rfl (d := 11) rfl (wanted_plain rfl _) (ex_load (hR.slot 4 10 (hd 4 rfl) rfl) (by go_simp; rfl)) ⟨hR.put hu (by rw [hl]; decide) (d := 11) rfl (of_decide_eq_true rfl) rfl, ?_⟩
      clear hc
      simpa only [set_other, ne_eq, not_false_eq_true, Nat.reduceEqDiff] using hW
    · -- [6] binOp add 9 t11 (.string ⟨#[32, 114]⟩) 9
      refine wpOp_val rfl (d := 12) rfl (wanted_plain rfl _) (ex_bin (hR.slot 5 11 (hd 5 rfl) rfl) rfl (fun w => by simp [eqGuard]) (run_add _ _ (by simp only [List.length_cons, List.length_nil]; omega))) ⟨hR.put hu (by rw [hl]; decide) (d := 12) rfl (of_decide_eq_true rfl) rfl, ?_⟩
      simpa only [set_other, ne_eq, not_false_eq_true, Nat.reduceEqDiff] using hW
    · -- [7] fieldAddr 25 t1 1
      refine wpOp_val rfl (d := 13) rfl (wanted_plain rfl _) (ex_fieldAddr (hR.was 1 rfl) (by go_simp; rfl)) ⟨hR.put hu (by rw [hl]; decide) (d := 13) rfl (of_decide_eq_true rfl) rfl, ?_⟩
      simpa only [set_other, ne_eq, not_false_eq_true, Nat.reduceEqDiff] using hW
    · -- [8] load 3 t13
      have hc := hW.blk.cell 1
      refine wpOp_val rfl (d := 14) rfl (wanted_plain rfl _) (ex_load (hR.slot 7 13 (hd 7 rfl) rfl) (by go_simp; rfl)) ⟨hR.put hu (by rw [hl]; decide) (d := 14) rfl (of_decide_eq_true rfl) rfl, ?_⟩
      clear hc
      simpa only [set_other, ne_eq, not_false_eq_true, Nat.reduceEqDiff] using hW
    · -- [9] call f25 [t14]
      refine wpOp_call rfl (d := 15) rfl (wanted_plain rfl _) (ex_call (vs := #[(.int .i64 xa)]) (by rw [List.map_toArray]; simp only [List.map_cons, List.map_nil, show a.eval (.tmp 14) = (.int .i64 xa) from (hR.slot 8 14 (hd 8 rfl) rfl)]) (enters_fn Tryz.func39 (by kernel_rfl) rfl)) (R := fun v w' => v = S (Lib.itoa xa) ∧ Below wx.heap.size wx w') ((itoa_any xa (by omega) (by omega) wx hW.pow).mono fun e w' ⟨h1, h2⟩ => ⟨_, h1, rfl, h2⟩) ?_
      rintro v w' ⟨rfl, h2⟩
      refine ⟨hR.put hu (by rw [hl]; decide) (d := 15) rfl (of_decide_eq_true rfl) rfl, ?_⟩
      simp only [set_other, ne_eq, not_false_eq_true, Nat.reduceEqDiff]
      exact ⟨hW.blk.below h2 hW.blk.lt, bel_from hW.bel h2, hW.pow.below h2, hW.sp.below h2, fun h => absurd (hd 0 rfl) h, fun h => (hW.nmb h).below h2 (hW.nmb h).lt⟩
    · -- [10] binOp add 9 t12 t15 9
      refine wpOp_val rfl (d := 16) rfl (wanted_plain rfl _) (ex_bin (hR.slot 6 12 (hd 6 rfl) rfl) (hR.slot 9 15 (hd 9 rfl) rfl) (fun w => by simp [eqGuard]) (run_add _ _ (by simp only [List.length_append, List.length_cons, List.length_nil]; omega))) ⟨hR.put hu (by rw [hl]; decide) (d := 16) rfl (of_decide_eq_true rfl) rfl, ?_⟩
      simpa only [set_other, ne_eq, not_false_eq_true, Nat.reduceEqDiff] using hW
    · -- [11] binOp add 9 t16 (.string ⟨#[32, 114]⟩) 9
      refine wpOp_val rfl (d := 17) rfl (wanted_plain rfl _) (ex_bin (hR.slot 10 16 (hd 10 rfl) rfl) rfl (fun w => by simp [eqGuard]) (run_add _ _ (by simp only [List.length_append, List.length_cons, List.length_nil]; omega))) ⟨hR.put hu (by rw [hl]; decide) (d := 17) rfl (of_decide_eq_true rfl) rfl, ?_⟩
      simpa only [set_other, ne_eq, not_false_eq_true, Nat.reduceEqDiff] using hW
    · -- [12] fieldAddr 25 t1 2
      refine wpOp_val rfl (d := 18) rfl (wanted_plain rfl _) (ex_fieldAddr (hR.was 1 rfl) (by go_simp; rfl)) ⟨hR.put hu (by rw [hl]; decide) (d := 18) rfl (of_decide_eq_true rfl) rfl, ?_⟩
      simpa only [set_other, ne_eq, not_false_eq_true, Nat.reduceEqDiff] using hW
    · -- [13] load 3 t18
      have hc := hW.blk.cell 2
      refine wpOp_val rfl (d := 19) rfl (wanted_plain rfl _) (ex_load (hR.slot 12 18 (hd 12 rfl) rfl) (by go_simp; rfl)) ⟨hR.put hu (by rw [hl]; decide) (d := 19) rfl (of_decide_eq_true rfl) rfl, ?_⟩
      clear hc
      simpa only [set_other, ne_eq, not_false_eq_true, Nat.reduceEqDiff] using hW
    · -- [14] call f25 [t19]
      refine wpOp_call rfl (d := 20) rfl (wanted_plain rfl _) (ex_call (vs := #[(.int .i64 xb)]) (by rw [List.map_toArray]; simp only [List.map_cons, List.map_nil, show a.eval (.tmp 19) = (.int .i64 xb) from (hR.slot 13 19 (hd 13 rfl) rfl)]) (enters_fn Tryz.func39 (by kernel_rfl) rfl)) (R := fun v w' => v = S (Lib.itoa xb) ∧ Below wx.heap.size wx w') ((itoa_any xb (by omega) (by omega) wx hW.pow).mono fun e w' ⟨h1, h2⟩ => ⟨_, h1, rfl, h2⟩) ?_
      rintro v w' ⟨rfl, h2⟩
      refine ⟨hR.put hu (by rw [hl]; decide) (d := 20) rfl (of_decide_eq_true rfl) rfl, ?_⟩
      simp only [set_other, ne_eq, not_false_eq_true, Nat.reduceEqDiff]
      exact ⟨hW.blk.below h2 hW.blk.lt, bel_from hW.bel h2, hW.pow.below h2, hW.sp.below h2, fun h => absurd (hcl.of 0 rfl (hd 9 rfl)) h, fun h => (hW.nmb h).below h2 (hW.nmb h).lt⟩
    · -- [15] binOp add 9 t17 t20 9
      refine wpOp_val rfl (d := 21) rfl (wanted_plain rfl _) (ex_bin (hR.slot 11 17 (hd 11 rfl) rfl) (hR.slot 14 20 (hd 14 rfl) rfl) (fun w => by simp [eqGuard]) (run_add _ _ (by simp only [List.length_append, List.length_cons, List.length_nil]; omega))) ⟨hR.put hu (by rw [hl]; decide) (d := 21) rfl (of_decide_eq_true rfl) rfl, ?_⟩
      simpa only [set_other, ne_eq, not_false_eq_true, Nat.reduceEqDiff] using hW
    · -- [16] binOp add 9 t21 (.string ⟨#[32, 114]⟩) 9
      refine wpOp_val rfl (d := 22) rfl (wanted_plain rfl _) (ex_bin (hR.slot 15 21 (hd 15 rfl) rfl) rfl (fun w => by simp [eqGuard]) (run_add _ _ (by simp only [List.length_append, List.length_cons, List.length_nil]; omega))) ⟨hR.put hu (by rw [hl]; decide) (d := 22) rfl (of_decide_eq_true rfl) rfl, ?_⟩
      simpa only [set_other, ne_eq, not_false_eq_true, Nat.reduceEqDiff] using hW
    · -- [17] fieldAddr 25 t1 3
      refine wpOp_val rfl (d := 23) rfl (wanted_plain rfl _) (ex_fieldAddr (hR.was 1 rfl) (by go_simp; rfl)) ⟨hR.put hu (by rw [hl]; decide) (d := 23) rfl (of_decide_eq_true rfl) rfl, ?_⟩
      simpa only [set_other, ne_eq, not_false_eq_true, Nat.reduceEqDiff] using hW
    · -- [18] load 3 t23
      have hc := hW.blk.cell 3
      refine wpOp_val rfl (d := 24) rfl (wanted_plain rfl _) (ex_load (hR.slot 17 23 (hd 17 rfl) rfl) (by go_simp; rfl)) ⟨hR.put hu (by rw [hl]; decide) (d := 24) rfl (of_decide_eq_true rfl) rfl, ?_⟩
      clear hc
      simpa only [set_other, ne_eq, not_false_eq_true, Nat.reduceEqDiff] using hW
    · -- [19] call f25 [t24]
      refine wpOp_call rfl (d := 25) rfl (wanted_plain rfl _) (ex_call (vs := #[(.int .i64 xc)]) (by rw [List.map_toArray]; simp only [List.map_cons, List.map_nil, show a.eval (.tmp 24) = (.int .i64 xc) from (hR.slot 18 24 (hd 18 rfl) rfl)]) (enters_fn Tryz.func39 (by kernel_rfl) rfl)) (R := fun v w' => v = S (Lib.itoa xc) ∧ Below wx.heap.size wx w') ((itoa_any xc (by omega) (by omega) wx hW.pow).mono fun e w' ⟨h1, h2⟩ => ⟨_, h1, rfl, h2⟩) ?_
      rintro v w' ⟨rfl, h2⟩
      refine ⟨hR.put hu (by rw [hl]; decide) (d := 25) rfl (of_decide_eq_true rfl) rfl, ?_⟩
      simp only [set_other, ne_eq, not_false_eq_true, Nat.reduceEqDiff]
      exact ⟨hW.blk.below h2 hW.blk.lt, bel_from hW.bel h2, hW.pow.below h2, hW.sp.below h2, fun h => absurd (hcl.of 0 rfl (hcl.of 9 rfl (hd 14 rfl))) h, fun h => (hW.nmb h).below h2 (hW.nmb h).lt⟩
    · -- [20] binOp add 9 t22 t25 9
      refine wpOp_val rfl (d := 26) rfl (wanted_plain rfl _) (ex_bin (hR.slot 16 22 (hd 16 rfl) rfl) (hR.slot 19 25 (hd 19 rfl) rfl) (fun w => by simp [eqGuard]) (run_add _ _ (by simp only [List.length_append, List.length_cons, List.length_nil]; omega))) ⟨hR.put hu (by rw [hl]; decide) (d := 26) rfl (of_decide_eq_true rfl) rfl, ?_⟩
      simpa only [set_other, ne_eq, not_false_eq_true, Nat.reduceEqDiff] using hW
    · -- [21] binOp add 9 t26 (.string ⟨#[32]⟩) 9
      refine wpOp_val rfl (d := 27) rfl (wanted_plain rfl _) (ex_bin (hR.slot 20 26 (hd 20 rfl) rfl) rfl (fun w => by simp [eqGuard]) (run_add _ _ (by simp only [List.length_append, List.length_cons, List.length_nil]; omega))) ⟨hR.put hu (by rw [hl]; decide) (d := 27) rfl (of_decide_eq_true rfl) rfl, ?_⟩
      simpa only [set_other, ne_eq, not_false_eq_true, Nat.reduceEqDiff] using hW
    · -- [22] fieldAddr 25 t1 4
      refine wpOp_val rfl (d := 28) rfl (wanted_plain rfl _) (ex_fieldAddr (hR.was 1 rfl) (by go_simp; rfl)) ⟨hR.put hu (by rw [hl]; decide) (d := 28) rfl (of_decide_eq_true rfl) rfl, ?_⟩
      simpa only [set_other, ne_eq, not_false_eq_true, Nat.reduceEqDiff] using hW
    · -- [23] load 21 t28
      have hc := hW.blk.cell 4
      refine wpOp_val rfl (d := 29) rfl (wanted_plain rfl _) (ex_load (hR.slot 22 28 (hd 22 rfl) rfl) (by go_simp; rfl)) ⟨hR.put hu (by rw [hl]; decide) (d := 29) rfl (of_decide_eq_true rfl) rfl, ?_⟩
      clear hc
      simpa only [set_other, ne_eq, not_false_eq_true, Nat.reduceEqDiff] using hW
    · -- [24] convert 21 3 t29
      refine wpOp_val rfl (d := 30) rfl (wanted_plain rfl _) (ex_convert (hR.slot 23 29 (hd 23 rfl) rfl) (by go_simp; exact ⟨IntWalk.i64_in _ (by omega), rfl⟩)) ⟨hR.put hu (by rw [hl]; decide) (d := 30) rfl (of_decide_eq_true rfl) rfl, ?_⟩
      simpa only [set_other, ne_eq, not_false_eq_true, Nat.reduceEqDiff] using hW
    · -- [25] call f25 [t30]
      refine wpOp_call rfl (d := 31) rfl (wanted_plain rfl _) (ex_call (vs := #[(.int .i64 xi)]) (by rw [List.map_toArray]; simp only [List.map_cons, List.map_nil, show a.eval (.tmp 30) = (.int .i64 xi) from (hR.slot 24 30 (hd 24 rfl) rfl)]) (enters_fn Tryz.func39 (by kernel_rfl) rfl)) (R := fun v w' => v = S (Lib.itoa xi) ∧ Below wx.heap.size wx w') ((itoa_any xi (by omega) (by omega) wx hW.pow).mono fun e w' ⟨h1, h2⟩ => ⟨_, h1, rfl, h2⟩) ?_
      rintro v w' ⟨rfl, h2⟩
      refine ⟨hR.put hu (by rw [hl]; decide) (d := 31) rfl (of_decide_eq_true rfl) rfl, ?_⟩
      simp only [set_other, ne_eq, not_false_eq_true, Nat.reduceEqDiff]
      exact ⟨hW.blk.below h2 hW.blk.lt, bel_from hW.bel h2, hW.pow.below h2, hW.sp.below h2, fun h => absurd (hcl.of 0 rfl (hcl.of 9 rfl (hcl.of 14 rfl (hd 19 rfl)))) h, fun h => (hW.nmb h).below h2 (hW.nmb h).lt⟩
    · -- [26] binOp add 9 t27 t31 9
      refine wpOp_val rfl (d := 32) rfl (wanted_plain rfl _) (ex_bin (hR.slot 21 27 (hd 21 rfl) rfl) (hR.slot 25 31 (hd 25 rfl) rfl) (fun w => by simp [eqGuard]) (run_add _ _ (by simp only [List.length_append, List.length_cons, List.length_nil]; omega))) ⟨hR.put hu (by rw [hl]; decide) (d := 32) rfl (of_decide_eq_true rfl) rfl, ?_⟩
      simpa only [set_other, ne_eq, not_false_eq_true, Nat.reduceEqDiff] using hW
    · -- [27] assign [t32]
      refine wpOp_val rfl (d := 2) rfl (wanted_plain rfl _) (ex_assign (hR.slot 26 32 (hd 26 rfl) rfl)) ⟨hR.put hu (by rw [hl]; decide) (d := 2) rfl (of_decide_eq_true rfl) rfl, ?_⟩
      simpa only [set_other, ne_eq, not_false_eq_true, Nat.reduceEqDiff] using hW
-- END3
  · intro l a wx hl hR hW
    have Hb3 := Lib.hid hW.bel
    have e2 : a.tmps.getD 2 undef = S (nm k ++ [32, 114] ++ Lib.itoa xa ++ [32, 114] ++ Lib.itoa xb ++ [32, 114] ++ Lib.itoa xc ++ [32] ++ Lib.itoa xi) := hR.slot 27 2 (hl 27 (by decide)) rfl
    rw [hR.fold [6, 7, 8, 9, 10, 11, 12, 13, 14, 15, 16, 17, 18, 19, 20, 21, 22, 23, 24, 25, 26, 27, 28, 29, 30, 31, 32, 2] (by kernel_rfl)]
    simp only [List.foldl, e2]
    clear hW hR e2 hl
    generalize a.tmps.getD 6 undef = u6
    generalize a.tmps.getD 7 undef = u7
    generalize a.tmps.getD 8 undef = u8
    generalize a.tmps.getD 9 undef = u9
    generalize a.tmps.getD 10 undef = u10
    generalize a.tmps.getD 11 undef = u11
    generalize a.tmps.getD 12 undef = u12
    generalize a.tmps.getD 13 undef = u13
    generalize a.tmps.getD 14 undef = u14
    generalize a.tmps.getD 15 undef = u15
    generalize a.tmps.getD 16 undef = u16
    generalize a.tmps.getD 17 undef = u17
    generalize a.tmps.getD 18 undef = u18
    generalize a.tmps.getD 19 undef = u19
    generalize a.tmps.getD 20 undef = u20
    generalize a.tmps.getD 21 undef = u21
    generalize a.tmps.getD 22 undef = u22
    generalize a.tmps.getD 23 undef = u23
    generalize a.tmps.getD 24 undef = u24
    generalize a.tmps.getD 25 undef = u25
    generalize a.tmps.getD 26 undef = u26
    generalize a.tmps.getD 27 undef = u27
    generalize a.tmps.getD 28 undef = u28
    generalize a.tmps.getD 29 undef = u29
    generalize a.tmps.getD 30 undef = u30
    generalize a.tmps.getD 31 undef = u31
    generalize a.tmps.getD 32 undef = u32
    go_simp
    clear a l
    go_wp2_with fail
    go_ret
    exact ⟨by show Ending.returned (S _) = Ending.returned (S _); simp, Hb3.out⟩

theorem text_no (op a b c imm : Int) (h : Ins.right ⟨op, a, b, c, imm⟩ = false) (w : World) :
    Calls Tryz.prog 28 #[.agg #[.int .i64 op, .int .i64 a, .int .i64 b, .int .i64 c, .int .i32 imm]] w fun e w' => e = .returned (S [63]) ∧ Below w.heap.size w w' := by
  have Hr := Lib.hid h; clear h
  have hB0 := Below.alloc (Below.refl w.heap.size w) (Nat.le_refl _) (.cells #[.int .i64 op, .int .i64 a, .int .i64 b, .int .i64 c, .int .i32 imm] 23)
  have HB0 := Lib.hid hB0; clear hB0
  go_enter Tryz.func28, Tryz.ntmps28
  go_wp2_with fail
  refine (right_any _ _ _ _ _ _).mono ?_
  rintro e w1 ⟨rfl, hb1⟩
  rw [Hr.out]
  have Hbel := Lib.hid (HB0.out.trans (hb1.mono (by simp))); clear hb1
  go_wp2_with fail
  go_ret
  exact ⟨rfl, Hbel.out⟩
theorem text_any (x : Ins) (hi : -2147483648 ≤ x.imm ∧ x.imm ≤ 2147483647) (w : World) (hp : HasPow w) (hs : HasSp w) :
    Calls Tryz.prog 28 #[.agg #[.int .i64 x.op, .int .i64 x.a, .int .i64 x.b, .int .i64 x.c, .int .i32 x.imm]] w fun e w' => e = .returned (S x.text) ∧ Below w.heap.size w w' := by
  unfold Ins.text
  cases h : x.right
  · obtain ⟨op, a, b, c, imm⟩ := x
    exact text_no op a b c imm h w
  · obtain ⟨h1, h2, h3, h4⟩ := Ins.right_spec h
    obtain ⟨op, a, b, c, imm⟩ := x
    obtain ⟨k, rfl⟩ : ∃ k : Nat, op = (k : Int) + 1 := ⟨(op - 1).toNat, by simp only at h1; omega⟩
    have e : ((k : Int) + 1).toNat - 1 = k := by omega
    simp only [if_true, e]
    exact text_yes k a b c imm (by simp only at h1; omega) h2 h3 h4 hi w hp hs
end Go.Proofs.YtjjnidbggoaonaaGreatDoor
