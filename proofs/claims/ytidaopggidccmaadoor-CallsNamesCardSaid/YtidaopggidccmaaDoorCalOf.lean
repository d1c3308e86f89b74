/- calls.Of. -/
import Derived.Test.YtidaopggidccmaaDoorCalB
namespace Go.Proofs.YtidaopggidccmaaDoor
open Go.RowKit
attribute [local irreducible] World.setCell World.alloc World.drew Calls Code.wp

/-- What Of gives: call k's name and registers. -/
def OfV (B : Nat) (w : World) (v : Value) (k : Nat) : Prop := ∃ a b, v = .tuple #[.agg #[S (cN k), a, b], .bool true] ∧ Dig B w a (cC k) ∧ Dig B w b (cR k)
def of0 : Value := .agg #[.string ⟨#[]⟩, .slice none 0 0, .slice none 0 0]

theorem run_spec (w : World) (s : ByteArray) (x y : Option Addr) (n c m d : Nat) :
    (Instr.build 41 #[(0, .string s), (1, .slice x n c), (2, .slice y m d)]).run Tryd.prog w = .ok (.agg #[.string s, .slice x n c, .slice y m d]) w := by
  simp [Instr.build, go_sem, Value.cells]
theorem ex_build3 {P : Program} {a : Act} {w w' : World} {d : Option Tmp} {t T : TypeId} {p : String} {e : Array Edge} {g : Option (Nat × Bool)} {x y z : Operand} {s v u r : Value} (hx : a.eval x = s) (hy : a.eval y = v) (hz : a.eval z = u)
    (hr : (Instr.build T #[(0, s), (1, v), (2, u)]).run P w = .ok r w') :
    (execOp a.eval ⟨d, .build T #[(0, x), (1, y), (2, z)], t, p, e, g⟩).run P w = .ok (.value r) w' := by
  have h : (#[(0, x), (1, y), (2, z)] : Array (Nat × Operand)).map (fun p => (p.1, a.eval p.2)) = #[(0, s), (1, v), (2, u)] := by
    rw [List.map_toArray]; simp only [List.map_cons, List.map_nil, hx, hy, hz]
  simp only [execOp]
  rw [h]
  simp [hr, Result.andThen]
theorem ex_store {P : Program} {a : Act} {w w' : World} {d : Option Tmp} {t : TypeId} {p : String} {e : Array Edge} {g : Option (Nat × Bool)} {T : TypeId} {x y : Operand} {u v : Value} (hx : a.eval x = u) (hy : a.eval y = v) (hr : (Instr.storeAt T u v).run P w = .ok () w') :
    (execOp a.eval ⟨d, .store T x y, t, p, e, g⟩).run P w = .ok .skip w' := by
  simp [execOp, hx, hy, hr, Result.andThen]
theorem store_row {P : Program} {w : World} {b : Nat} {T : TypeId} {old cells : Array Value} (h : Blk w b old T) (hi : (P.info? T).map (·.size) = some cells.size) (ho : old.size = cells.size) (h1 : cells.all (·.oneCell') = true) :
    (Instr.storeAt T (.pointer (some ⟨b, 0, none⟩)) (.agg cells)).run P w = .ok () (w.setRow b cells) := by
  simp only [Instr.storeAt, Instr.sureAddr, Sem.run_bind, Sem.run_pure, Result.andThen_ok, run_storeVar_row w b T T old cells h hi ho h1]
theorem Dig.one {B : Nat} {w : World} {v : Value} {l : List Nat} (h : Dig B w v l) : v.oneCell' = true := by
  obtain ⟨x, c, rfl, _⟩ := h
  rfl

theorem at3_0 (b : Nat) (w : World) : (Instr.indexAt 53 (.slice (some ⟨b, 0, none⟩) 3 3) (.int .i64 0)).run Tryd.prog w = .ok (.pointer (some ⟨b, 0, none⟩)) w := by go_simp; try rfl
theorem at3_1 (b : Nat) (w : World) : (Instr.indexAt 53 (.slice (some ⟨b, 0, none⟩) 3 3) (.int .i64 1)).run Tryd.prog w = .ok (.pointer (some ⟨b, 1, none⟩)) w := by go_simp; try rfl
theorem at3_2 (b : Nat) (w : World) : (Instr.indexAt 53 (.slice (some ⟨b, 0, none⟩) 3 3) (.int .i64 2)).run Tryd.prog w = .ok (.pointer (some ⟨b, 2, none⟩)) w := by go_simp; try rfl
theorem load_str {w : World} {p : Addr} {s : ByteArray} (h : w.cell? p = some (.string s)) : (Instr.loadAt 9 (.pointer (some p))).run Tryd.prog w = .ok (.string s) w := by go_simp; try rfl

theorem all3 {s : ByteArray} {v u : Value} (h1 : v.oneCell' = true) (h2 : u.oneCell' = true) : (#[Value.string s, v, u] : Array Value).all (·.oneCell') = true := by
  have : (#[Value.string s, v, u] : Array Value).all (·.oneCell') = [Value.string s, v, u].all (·.oneCell') := by simp
  rw [this]
  simp only [List.all_cons, List.all_nil, h1, h2]
  rfl

/-- In the midst of Of's last statement. -/
structure Yof (w0 : World) (n5 k : Nat) (b6 b10 b11 b12 : Option Bool) (v24 v28 v29 : Value) (w : World) : Prop where
  blk : Blk w n5 #[S (cN k), S (dgs (cC k)), S (dgs (cR k))] 9
  above : w0.heap.size < n5
  bel : Below w0.heap.size w0 w
  g6 : b6 = some true → Dig (n5 + 1) w v24 (cC k)
  g10 : b10 = some true → Dig (n5 + 1) w v28 (cR k)
  g11 : b11 = some true → v29 = .agg #[S (cN k), v24, v28]
  pre : b12 ≠ some true → Blk w w0.heap.size #[.string ⟨#[]⟩, .slice none 0 0, .slice none 0 0] 41
  post : b12 = some true → Blk w w0.heap.size #[S (cN k), v24, v28] 41

set_option maxRecDepth 100000 in
set_option maxHeartbeats 1000000 in
theorem of_yes (k : Nat) (hk : k < 40) (w : World) (hs : HasSp w) (hm : HasMax w) :
    Calls Tryd.prog 19 #[.int .u64 ((k : Int) + 1)] w fun e w' => ∃ v, e = .returned v ∧ OfV w.heap.size w' v k ∧ Below w.heap.size w w' := by
  have Hs := Lib.hid hs; have Hm := Lib.hid hm; clear hs hm
  have hk1 : (k : Int) < 40 := by omega
  have Hk := Lib.hid hk; clear hk
  go_enter Tryd.func19, Tryd.ntmps19
  go_wp2_with fail
  have hb0 : Below w.heap.size w (w.alloc (.cells #[.string ⟨#[]⟩, .slice none 0 0, .slice none 0 0] 41)) := (Below.refl _ _).alloc (Nat.le_refl _) _
  refine (fields_calls _ (Hs.out.below hb0)).mono ?_
  rintro e w1 ⟨he, hw1⟩
  have B0 : Hid (Blk w1 w.heap.size #[.string ⟨#[]⟩, .slice none 0 0, .slice none 0 0] 41) := by rw [hw1]; exact (Blk.new w _ _).alloc _
  have hc : w1.cell? ⟨w.heap.size + 1, k, none⟩ = some (S (cW k)) := by
    rw [hw1]
    have := (Blk.new (w.alloc (.cells #[.string ⟨#[]⟩, .slice none 0 0, .slice none 0 0] 41)) callsV 9).cell k
    rw [callsV_at k Hk.out] at this
    simpa using this
  have hs1 : w1.heap.size = w.heap.size + 2 := by rw [hw1]; simp
  have Hb1 : Hid (Below w.heap.size w w1) := by rw [hw1]; exact hb0.alloc hb0.size _
  rw [show (w.alloc (.cells #[.string ⟨#[]⟩, .slice none 0 0, .slice none 0 0] 41)).heap.size = w.heap.size + 1 by simp] at he
  clear hw1 hb0
  subst he
  go_wp2_with fail
  refine (split_calls k Hk.out _ (Hm.out.below Hb1.out)).mono ?_
  rintro e w2 ⟨he, hw2⟩
  have B1 : Hid (Blk w2 w.heap.size #[.string ⟨#[]⟩, .slice none 0 0, .slice none 0 0] 41) := by rw [hw2]; exact B0.out.alloc _
  have B2 : Hid (Blk w2 (w.heap.size + 2) #[S (cN k), S (dgs (cC k)), S (dgs (cR k))] 9) := by rw [hw2, ← hs1]; exact Blk.new _ _ _
  have Hb2 : Hid (Below w.heap.size w w2) := by rw [hw2]; exact Hb1.out.alloc Hb1.out.size _
  rw [hs1] at he
  clear hw2 hs1 hc B0 Hb1
  subst he
  have Hd := Lib.hid (call_digits k Hk.out)
  go_wp2_with fail
  refine wp_region_rinv (by kernel_rfl) (by kernel_rfl) (by kernel_rfl)
    (fun i v => match i with | 0 => v = (.slice (some ⟨w.heap.size + 2, 0, none⟩) 3 3) | 1 => v = .pointer (some ⟨w.heap.size + 2, 0, none⟩) | 2 => v = S (cN k) | 3 => v = (.slice (some ⟨w.heap.size + 2, 0, none⟩) 3 3) | 4 => v = .pointer (some ⟨w.heap.size + 2, 1, none⟩) | 5 => v = S (dgs (cC k)) | 7 => v = (.slice (some ⟨w.heap.size + 2, 0, none⟩) 3 3) | 8 => v = .pointer (some ⟨w.heap.size + 2, 2, none⟩) | 9 => v = S (dgs (cR k)) | 13 => v = (.bool true) | _ => True)
    (fun l a wx => Yof w (w.heap.size + 2) k l[6]? l[10]? l[11]? l[12]? (a.tmps.getD 24 undef) (a.tmps.getD 28 undef) (a.tmps.getD 29 undef) wx) ?_ ?_ ?_
  · exact ⟨B2.out.drew, by omega, Hb2.out.drew, fun h => by simp at h, fun h => by simp at h, fun h => by simp at h, fun _ => B1.out.drew, fun h => by simp at h⟩
  · intro hu i l a wx hi hl hli hd hcl hR hW
    have hi27 : i = 0 ∨ i = 1 ∨ i = 2 ∨ i = 3 ∨ i = 4 ∨ i = 5 ∨ i = 6 ∨ i = 7 ∨ i = 8 ∨ i = 9 ∨ i = 10 ∨ i = 11 ∨ i = 12 ∨ i = 13 := by have : i < 14 := hi; omega
    rcases hi27 with rfl | rfl | rfl | rfl | rfl | rfl | rfl | rfl | rfl | rfl | rfl | rfl | rfl | rfl
    · -- [0] move [t4]
      refine wpOp_val rfl (d := 18) rfl (wanted_plain rfl _) (ex_move (hR.was 4 rfl)) ⟨hR.put hu (by rw [hl]; decide) (d := 18) rfl (of_decide_eq_true rfl) rfl, ?_⟩
      simpa only [set_other, put_other, ne_eq, not_false_eq_true, Nat.reduceEqDiff] using hW
    · -- [1] indexAddr 53 t18 (.int .i64 0)
      refine wpOp_val rfl (d := 19) rfl (wanted_plain rfl _) (ex_indexAddr (hR.slot 0 18 (hd 0 rfl) rfl) rfl (at3_0 _ _)) ⟨hR.put hu (by rw [hl]; decide) (d := 19) rfl (of_decide_eq_true rfl) rfl, ?_⟩
      simpa only [set_other, put_other, ne_eq, not_false_eq_true, Nat.reduceEqDiff] using hW
    · -- [2] load 9 t19
      have hc := hW.blk.cell 0
      refine wpOp_val rfl (d := 20) rfl (wanted_plain rfl _) (ex_load (hR.slot 1 19 (hd 1 rfl) rfl) (load_str hc)) ⟨hR.put hu (by rw [hl]; decide) (d := 20) rfl (of_decide_eq_true rfl) rfl, ?_⟩
      clear hc
      simpa only [set_other, put_other, ne_eq, not_false_eq_true, Nat.reduceEqDiff] using hW
    · -- [3] move [t4]
      refine wpOp_val rfl (d := 21) rfl (wanted_plain rfl _) (ex_move (hR.was 4 rfl)) ⟨hR.put hu (by rw [hl]; decide) (d := 21) rfl (of_decide_eq_true rfl) rfl, ?_⟩
      simpa only [set_other, put_other, ne_eq, not_false_eq_true, Nat.reduceEqDiff] using hW
    · -- [4] indexAddr 53 t21 (.int .i64 1)
      refine wpOp_val rfl (d := 22) rfl (wanted_plain rfl _) (ex_indexAddr (hR.slot 3 21 (hd 3 rfl) rfl) rfl (at3_1 _ _)) ⟨hR.put hu (by rw [hl]; decide) (d := 22) rfl (of_decide_eq_true rfl) rfl, ?_⟩
      simpa only [set_other, put_other, ne_eq, not_false_eq_true, Nat.reduceEqDiff] using hW
    · -- [5] load 9 t22
      have hc := hW.blk.cell 1
      refine wpOp_val rfl (d := 23) rfl (wanted_plain rfl _) (ex_load (hR.slot 4 22 (hd 4 rfl) rfl) (load_str hc)) ⟨hR.put hu (by rw [hl]; decide) (d := 23) rfl (of_decide_eq_true rfl) rfl, ?_⟩
      clear hc
      simpa only [set_other, put_other, ne_eq, not_false_eq_true, Nat.reduceEqDiff] using hW
    · -- [6] call f27 [t23]
      have hno : ¬ (l[6]? = some true) := by rw [hli]; simp
      refine wpOp_call rfl (d := 24) rfl (wanted_plain rfl _) (ex_call (vs := #[(S (dgs (cC k)))]) (by rw [List.map_toArray]; simp only [List.map_cons, List.map_nil, show a.eval (.tmp 23) = (S (dgs (cC k))) from (hR.slot 5 23 (hd 5 rfl) rfl)]) (enters_fn Tryd.func27 (by kernel_rfl) rfl)) (R := fun v w' => Dig wx.heap.size w' v (cC k) ∧ Below wx.heap.size wx w') ((regs_any (cC k) Hd.out.1 Hd.out.2.1 wx).mono fun e w' ⟨v, h1, h2, h3⟩ => ⟨v, h1, h2, h3⟩) ?_
      rintro v w' ⟨h1, h2⟩
      refine ⟨hR.put hu (by rw [hl]; decide) (d := 24) rfl (of_decide_eq_true rfl) trivial, ?_⟩
      have hlt := hW.blk.lt
      simp only [set_other, put_other, ne_eq, not_false_eq_true, Nat.reduceEqDiff, set_self (show 6 < l.size by rw [hl]; decide), put_self (show 24 < a.tmps.size by rw [hR.size]; exact of_decide_eq_true rfl)]
      exact ⟨hW.blk.below h2 hW.blk.lt, hW.above, bel_from hW.bel h2, fun _ => h1.mono (by omega), fun h => absurd (hcl.of 6 rfl h) hno, fun h => absurd (hcl.of 6 rfl h) hno, fun h => (hW.pre h).below h2 (hW.pre h).lt, fun h => absurd (hcl.of 6 rfl h) hno⟩
    · -- [7] move [t4]
      refine wpOp_val rfl (d := 25) rfl (wanted_plain rfl _) (ex_move (hR.was 4 rfl)) ⟨hR.put hu (by rw [hl]; decide) (d := 25) rfl (of_decide_eq_true rfl) rfl, ?_⟩
      simpa only [set_other, put_other, ne_eq, not_false_eq_true, Nat.reduceEqDiff] using hW
    · -- [8] indexAddr 53 t25 (.int .i64 2)
      refine wpOp_val rfl (d := 26) rfl (wanted_plain rfl _) (ex_indexAddr (hR.slot 7 25 (hd 7 rfl) rfl) rfl (at3_2 _ _)) ⟨hR.put hu (by rw [hl]; decide) (d := 26) rfl (of_decide_eq_true rfl) rfl, ?_⟩
      simpa only [set_other, put_other, ne_eq, not_false_eq_true, Nat.reduceEqDiff] using hW
    · -- [9] load 9 t26
      have hc := hW.blk.cell 2
      refine wpOp_val rfl (d := 27) rfl (wanted_plain rfl _) (ex_load (hR.slot 8 26 (hd 8 rfl) rfl) (load_str hc)) ⟨hR.put hu (by rw [hl]; decide) (d := 27) rfl (of_decide_eq_true rfl) rfl, ?_⟩
      clear hc
      simpa only [set_other, put_other, ne_eq, not_false_eq_true, Nat.reduceEqDiff] using hW
    · -- [10] call f27 [t27]
      have hno : ¬ (l[10]? = some true) := by rw [hli]; simp
      refine wpOp_call rfl (d := 28) rfl (wanted_plain rfl _) (ex_call (vs := #[(S (dgs (cR k)))]) (by rw [List.map_toArray]; simp only [List.map_cons, List.map_nil, show a.eval (.tmp 27) = (S (dgs (cR k))) from (hR.slot 9 27 (hd 9 rfl) rfl)]) (enters_fn Tryd.func27 (by kernel_rfl) rfl)) (R := fun v w' => Dig wx.heap.size w' v (cR k) ∧ Below wx.heap.size wx w') ((regs_any (cR k) Hd.out.2.2.1 Hd.out.2.2.2 wx).mono fun e w' ⟨v, h1, h2, h3⟩ => ⟨v, h1, h2, h3⟩) ?_
      rintro v w' ⟨h1, h2⟩
      refine ⟨hR.put hu (by rw [hl]; decide) (d := 28) rfl (of_decide_eq_true rfl) trivial, ?_⟩
      have hlt := hW.blk.lt
      simp only [set_other, put_other, ne_eq, not_false_eq_true, Nat.reduceEqDiff, set_self (show 10 < l.size by rw [hl]; decide), put_self (show 28 < a.tmps.size by rw [hR.size]; exact of_decide_eq_true rfl)]
      exact ⟨hW.blk.below h2 hW.blk.lt, hW.above, bel_from hW.bel h2, fun h => (hW.g6 h).below h2, fun _ => h1.mono (by omega), fun h => absurd (hcl.of 10 rfl h) hno, fun h => (hW.pre h).below h2 (hW.pre h).lt, fun h => absurd (hcl.of 10 rfl h) hno⟩
    · -- [11] build 41 [0:t20, 1:t24, 2:t28]
      have hno : ¬ (l[11]? = some true) := by rw [hli]; simp
      have g6 := hW.g6 (hd 6 rfl)
      have g10 := hW.g10 (hd 10 rfl)
      obtain ⟨x, n, y, m, c, d, e24, e28⟩ : ∃ x n y m c d, a.tmps.getD 24 undef = .slice x n c ∧ a.tmps.getD 28 undef = .slice y m d := by
        obtain ⟨x, c, h, _⟩ := g6
        obtain ⟨y, d, h', _⟩ := g10
        exact ⟨x, _, y, _, c, d, h, h'⟩
      refine wpOp_val rfl (d := 29) rfl (wanted_plain rfl _) (ex_build3 (hR.slot 2 20 (hd 2 rfl) rfl) e24 e28 (run_spec _ _ _ _ _ _ _ _)) ⟨hR.put hu (by rw [hl]; decide) (d := 29) rfl (of_decide_eq_true rfl) trivial, ?_⟩
      simp only [set_other, put_other, ne_eq, not_false_eq_true, Nat.reduceEqDiff, set_self (show 11 < l.size by rw [hl]; decide), put_self (show 29 < a.tmps.size by rw [hR.size]; exact of_decide_eq_true rfl)]
      exact ⟨hW.blk, hW.above, hW.bel, hW.g6, hW.g10, fun _ => by rw [e24, e28], hW.pre, fun h => absurd (hcl.of 11 rfl h) hno⟩
    · -- [12] store 41 t2 t29
      have g6 := hW.g6 (hd 6 rfl)
      have g10 := hW.g10 (hd 10 rfl)
      have e29 := hW.g11 (hd 11 rfl)
      have hb := hW.pre (by rw [hli]; simp)
      have hne : w.heap.size ≠ w.heap.size + 2 := by omega
      refine wpOp_unit rfl rfl (wanted_plain rfl _) (ex_store (hR.was 2 rfl) e29 (store_row hb (by kernel_rfl) rfl (all3 g6.one g10.one))) ⟨hR.done rfl, ?_⟩
      have hK : Kept (· = w.heap.size) wx (wx.setRow w.heap.size #[S (cN k), a.tmps.getD 24 undef, a.tmps.getD 28 undef]) := (Kept.refl (· = w.heap.size) wx).setRow (.inr rfl) _
      simp only [set_other, ne_eq, not_false_eq_true, Nat.reduceEqDiff, set_self (show 12 < l.size by rw [hl]; decide)]
      exact ⟨hW.blk.setRow_other hne _, hW.above, hW.bel.trans (hK.below hW.bel.size (fun i hi e => by omega)), fun h => (hW.g6 h).kept hK (fun b hb e => by omega), fun h => (hW.g10 h).kept hK (fun b hb e => by omega), hW.g11, fun h => absurd rfl h, fun _ => hb.setRow _⟩
    · -- [13] assign [(.bool true)]
      refine wpOp_val rfl (d := 3) rfl (wanted_plain rfl _) (ex_assign rfl) ⟨hR.put hu (by rw [hl]; decide) (d := 3) rfl (of_decide_eq_true rfl) rfl, ?_⟩
      simpa only [set_other, put_other, ne_eq, not_false_eq_true, Nat.reduceEqDiff] using hW
-- ENDOF
  · intro l a wx hl hR hW
    have hg6 := hW.g6 (hl 6 (by decide))
    have hg10 := hW.g10 (hl 10 (by decide))
    have hpost := hW.post (hl 12 (by decide))
    have Hb3 := Lib.hid hW.bel
    obtain ⟨v24, h24⟩ : ∃ v, a.tmps.getD 24 undef = v := ⟨_, rfl⟩
    obtain ⟨v28, h28⟩ : ∃ v, a.tmps.getD 28 undef = v := ⟨_, rfl⟩
    rw [h24] at hg6 hpost
    rw [h28] at hg10 hpost
    have e3 : a.tmps.getD 3 undef = .bool true := hR.slot 13 3 (hl 13 (by decide)) rfl
    rw [hR.fold [18, 19, 20, 21, 22, 23, 24, 25, 26, 27, 28, 29, 3] (by kernel_rfl)]
    simp only [List.foldl, e3]
    clear hW hR e3 hl h24 h28
    generalize a.tmps.getD 18 undef = u18
    generalize a.tmps.getD 19 undef = u19
    generalize a.tmps.getD 20 undef = u20
    generalize a.tmps.getD 21 undef = u21
    generalize a.tmps.getD 22 undef = u22
    generalize a.tmps.getD 23 undef = u23
    generalize a.tmps.getD 24 undef = u24
    generalize a.tmps.getD 25 undef = u25
    generalize a.tmps.getD 26 undef = u26
    generalize a.tmps.getD 27 undef = u27
    generalize a.tmps.getD 28 undef = u28
    generalize a.tmps.getD 29 undef = u29
    generalize a.tmps.getD 3 undef = u3
    go_simp
    clear a l
    have Hg6 := Lib.hid hg6; have Hg10 := Lib.hid hg10
    have hAc : ∀ i, wx.cell? ⟨w.heap.size, i, none⟩ = (#[S (cN k), v24, v28] : Array Value)[i]? := hpost.cell
    clear hg6 hg10 hpost
    go_wp2_with fail
    exact bodyPost_ret (v := .tuple #[.agg #[S (cN k), v24, v28], .bool true]) (by simp [results, Tryd.results19, go_sem, hAc]) rfl ⟨_, rfl, ⟨_, _, rfl, Hg6.out.mono (by omega), Hg10.out.mono (by omega)⟩, Hb3.out⟩
theorem of_no (n : Int) (h : ¬ (1 ≤ n ∧ n ≤ 40)) (w : World) :
    Calls Tryd.prog 19 #[.int .u64 n] w fun e w' => e = .returned (.tuple #[of0, .bool false]) ∧ Below w.heap.size w w' := by
  have hb0 : Below w.heap.size w (w.alloc (.cells #[.string ⟨#[]⟩, .slice none 0 0, .slice none 0 0] 41)) := (Below.refl _ _).alloc (Nat.le_refl _) _
  have Hb0 := Lib.hid hb0; clear hb0
  by_cases h1 : n < 1
  · go_enter Tryd.func19, Tryd.ntmps19
    go_wp2_with fail
    exact bodyPost_ret (v := .tuple #[of0, .bool false]) (by simp [results, Tryd.results19, go_sem, of0]) rfl ⟨rfl, Hb0.out⟩
  · have h2 : 40 < n := by omega
    clear h
    go_enter Tryd.func19, Tryd.ntmps19
    go_wp2_with fail
    exact bodyPost_ret (v := .tuple #[of0, .bool false]) (by simp [results, Tryd.results19, go_sem, of0]) rfl ⟨rfl, Hb0.out⟩
end Go.Proofs.YtidaopggidccmaaDoor
