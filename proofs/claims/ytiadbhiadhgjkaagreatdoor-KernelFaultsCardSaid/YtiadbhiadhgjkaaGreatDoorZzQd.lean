/- Of the proof of this claim: a joined text. -/
import Derived.Test.YtiadbhiadhgjkaaGreatDoorZzNn
import Derived.Test.YtiadbhiadhgjkaaGreatDoorZzQe
import Derived.Test.YtiadbhiadhgjkaaGreatDoorZzStr
import Derived.Deep.AppendLies
import Derived.Test.YtiadbhiadhgjkaaGreatDoorZzWoHm
import Derived.Test.YtiadbhiadhgjkaaGreatDoorZzMp
import Derived.Test.YtiadbhiadhgjkaaGreatDoorZzMc
set_option maxRecDepth 100000
set_option maxHeartbeats 4000000
namespace Go.Proofs.YtiadbhiadhgjkaaGreatDoor
open Go.RowKit
attribute [local irreducible] World.setCell World.alloc World.drew World.setRow Calls Code.wp
def DoneP (w : World) : Option Km -> Ending -> World -> Prop
 | none, e, _ => e = .returned (.tuple #[.pointer none, .pointer none])
 | some K, e, w' => ∃ kb g, e = .returned (.tuple #[.pointer (some ⟨kb, 0, none⟩), obP g K.obj 6]) /\ ∃ lo, WorkK w lo kb K g w' /\ AllOk K /\ K.nc = 1
theorem th_told {w : World} {g : Gh} {o : Ob} (h : ObIn w g o) (hk : o.kind = 3) : w.cell? ⟨g.bl o.name, 19, none⟩ = some (.pointer (some ⟨g.tl o.name, 0, none⟩)) /\ w.cell? ⟨g.tl o.name, 20, none⟩ = some (.int .i64 o.th.state) /\ w.cell? ⟨g.tl o.name, 32, none⟩ = some (.int .i64 o.th.cont.phase) := by
 obtain ⟨s, T, hB, -, h3, -⟩ := h.ex;have h19 := hB.cell 19;rw [(h3 hk).1] at h19;obtain ⟨x, hT, -⟩ := (h3 hk).2.ex;exact ⟨h19.trans rfl, (hT.cell 20).trans rfl, (hT.cell 32).trans rfl⟩
theorem info_line : (Tryz.prog.info? 28).map (fun i => (i.zero, i.size, i.bytes)) = some (some (.agg #[.int .i64 0, .int .i32 0, .int .i32 0, .int .i32 0, .int .i32 0, .int .i32 0, .int .i64 0, .int .i64 0, .int .i64 0, .int .i64 0, .int .i32 0]), 11, 72) := by kernel_rfl
theorem lines_len : ∀ ls : List Line, (ls.flatMap lineV).length = ls.length * 11
 | [] => rfl
 | x :: l => by rw [List.flatMap_cons, List.length_append, lines_len l, List.length_cons]; show 11 + _ = _; omega
theorem lines_one {ls : List Line} {u : Value} (h : u ∈ ls.flatMap lineV) : u.oneCell' = true := by
 obtain ⟨l, -, hl⟩ := List.mem_flatMap.1 h;simp [lineV] at hl;rcases hl with rfl | rfl | rfl | rfl | rfl | rfl | rfl | rfl | rfl | rfl | rfl <;> rfl
theorem addr0 (b j : Nat) : (⟨b, 0, none⟩ : Addr).add j = ⟨b, j, none⟩ := by unfold Addr.add; split <;> simp_all
section
variable {P : Program} {ops : Array Oper} {Q : Exit -> Act -> World -> Prop} {i : Nat} {o : Oper} {a : Act} {w w' : World} {K : Act -> World -> Prop} {d : Option Tmp} {t : TypeId} {p : String} {e : Array Edge} {g : Option (Nat × Bool)} {x y : Operand} {u v s : Value}
theorem wpOp_step {f : Tmp} (ho : ops[i]? = some o) (hd : dstOf ops i = some f) (h : ∀ K' : Act -> World -> Prop, (∀ v w, K (a.put (some f) v) w -> K' (a.put o.dst v) w) -> if Region.wanted o (yielded ops a.tmps) = true then Oper.wp P o a w K' Q else K' (a.put o.dst undef) w) : wpOp P ops Q i K a w := by
 unfold dstOf at hd;rw [ho] at hd;have hd : o.dst = some f := hd;have h := h K (fun v w q => by rw [hd]; exact q);unfold wpOp;rw [ho];by_cases hw : Region.wanted o (yielded ops a.tmps) = true
 ·rw [if_pos hw] at h
  simp only [hw, if_true];exact .inl h
 ·rw [if_neg hw] at h
  simp only [hw];exact h
theorem ex_buildF1 {T : TypeId} {f : Nat} (hx : a.eval x = s) (hr : (Instr.build T #[(f, s)]).run P w = .ok v w') : (execOp a.eval ⟨d, .build T #[(f, x)], t, p, e, g⟩).run P w = .ok (.value v) w' := by
 simp [execOp, hx, hr, Result.andThen]
theorem ex_buildF2 {T : TypeId} {f f2 : Nat} (hx : a.eval x = s) (hy : a.eval y = u) (hr : (Instr.build T #[(f, s), (f2, u)]).run P w = .ok v w') : (execOp a.eval ⟨d, .build T #[(f, x), (f2, y)], t, p, e, g⟩).run P w = .ok (.value v) w' := by
 simp [execOp, hx, hy, hr, Result.andThen]
theorem ex_row1 {T : TypeId} {n : Nat} (hx : a.eval x = u) (hr : (Instr.buildSlice T n #[(0, u)]).run P w = .ok v w') : (execOp a.eval ⟨d, .buildSlice T n #[(0, x)], t, p, e, g⟩).run P w = .ok (.value v) w' := by
 simp [execOp, hx, hr, Result.andThen]
theorem ex_part {n : Nat} {vs : Array Value} (hx : a.eval x = .tuple vs) (hv : vs[n]? = some v) : (execOp a.eval ⟨d, .extract x n, t, p, e, g⟩).run P w = .ok (.value v) w := by
 simp [execOp, hx, Instr.extract, hv]
end
theorem halt_ok : haltL.ok := ⟨⟨by decide, by decide⟩, ⟨⟨by decide, by decide⟩, ⟨by decide, by decide⟩, ⟨by decide, by decide⟩, ⟨by decide, by decide⟩, ⟨by decide, by decide⟩⟩, fun _ => ⟨by decide, by decide, by decide⟩⟩
structure DoneR (w : World) (ls : List Line) (d : Int) (sv : Value) (sl : List Int) (K0 : Km) (b1 b4 b5 b7 b8 b9 b10 b11 b12 b13 b14 b15 : Option Bool) (v11 v14 v15 v17 v18 v19 v20 v9 v21 v22 v6 v7 : Value) (wx : World) : Prop where
 bel : Below w.heap.size w wx
 lt : w.heap.size < wx.heap.size
 box : b9 ≠ some true -> Blk wx w.heap.size #[.int .i64 d, sv] 36
 g1 : b1 = some true -> b5 ≠ some true -> wx.ownsRow (w.heap.size + 1) 28 11 v11 ls.length (ls.flatMap lineV)
 g4 : b4 = some true -> b5 ≠ some true -> ∃ hb, v14 = .slice (some ⟨hb, 0, none⟩) 1 1 /\ Blk wx hb (lineV haltL).toArray 28
 g5 : b5 = some true -> b9 ≠ some true -> ∃ a1 c1, v15 = .slice a1 (ls.length + 1) c1 /\ LinesIn wx v15 (ls ++ [haltL])
 g7 : b7 = some true -> b9 ≠ some true -> ∃ a1 c1, v15 = .slice a1 (ls.length + 1) c1 /\ ∃ a2 n2 c2, sv = .slice a2 n2 c2 /\ v17 = .agg #[.slice a1 (ls.length + 1) c1, .int .i64 d, sv, .int .i64 0]
 g8 : b8 = some true -> b9 ≠ some true -> ∃ Q, ProgsIn wx v18 [(⟨ls ++ [haltL], ⟨d, sl⟩, 0⟩ : PV)] Q
 g9 : b9 = some true -> b10 ≠ some true -> CfgIn wx v19 (worldK [(⟨ls ++ [haltL], ⟨d, sl⟩, 0⟩ : PV).plain] 0)
 g10 : b10 = some true -> ∃ kb lo g, v20 = .tuple #[.pointer (some ⟨kb, 0, none⟩), .int .i64 0] /\ WorkK w lo kb K0 g wx /\ (b11 = some true -> v9 = .tuple #[.pointer (some ⟨kb, 0, none⟩), .int .i64 0]) /\
  (b12 = some true -> v21 = .pointer (some ⟨kb, 0, none⟩)) /\ (b13 = some true -> v22 = .int .i64 0) /\ (b14 = some true -> v6 = .pointer (some ⟨kb, 0, none⟩)) /\ (b15 = some true -> v7 = .int .i64 0)
theorem build_halt (w : World) : (Instr.build 26 #[(0, .int .i64 1)]).run Tryz.prog w = .ok (.agg #[.int .i64 1, .int .i64 0, .int .i64 0, .int .i64 0, .int .i32 0]) w := by kernel_rfl
theorem build_line (w : World) : (Instr.build 28 #[(2, .agg #[.int .i64 1, .int .i64 0, .int .i64 0, .int .i64 0, .int .i32 0])]).run Tryz.prog w = .ok (.agg (lineV haltL).toArray) w := by kernel_rfl
theorem row_line (w : World) : (Instr.buildSlice 23 1 #[(0, .agg (lineV haltL).toArray)]).run Tryz.prog w = .ok (.slice (some ⟨w.heap.size, 0, none⟩) 1 1) (w.alloc (.cells (lineV haltL).toArray 28)) := by
 show (Instr.buildSlice 23 1 #[(0, .agg #[.int .i64 0, .int .i32 0, .int .i32 0, .int .i32 0, .int .i32 0, .int .i32 0, .int .i64 1, .int .i64 0, .int .i64 0, .int .i64 0, .int .i32 0])]).run Tryz.prog w = _
 go_simp; try rfl
theorem load_seed {w : World} {b : Nat} {x y : Value} (h : Blk w b #[x, y] 36) : (Instr.loadAt 36 (.pointer (some ⟨b, 0, none⟩))).run Tryz.prog w = .ok (.agg #[x, y]) w := by
 have h0 : w.cell? ⟨b, 0, none⟩ = some x := (h.cell 0).trans rfl;have h1 : w.cell? ⟨b, 1, none⟩ = some y := (h.cell 1).trans rfl;go_simp; try rfl
theorem build_prog (w : World) (a a2 : Option Addr) (n c n2 c2 : Nat) (d : Int) : (Instr.build 100 #[(0, .slice a n c), (1, .agg #[.int .i64 d, .slice a2 n2 c2])]).run Tryz.prog w = .ok (.agg #[.slice a n c, .int .i64 d, .slice a2 n2 c2, .int .i64 0]) w := by
 simp [Instr.build, go_sem, Value.cells]; try rfl
theorem row_prog (w : World) (a a2 : Option Addr) (n c n2 c2 : Nat) (d : Int) : (Instr.buildSlice 101 1 #[(0, .agg #[.slice a n c, .int .i64 d, .slice a2 n2 c2, .int .i64 0])]).run Tryz.prog w = .ok (.slice (some ⟨w.heap.size, 0, none⟩) 1 1) (w.alloc (.cells #[.slice a n c, .int .i64 d, .slice a2 n2 c2, .int .i64 0] 100)) := by
 go_simp; try rfl
theorem done_any (b lc : Nat) (ls : List Line) (d : Int) (sv : Value) (sl : List Int) (K0 : Km) (r : Option Km) (w : World) (hl : LinesIn w (.slice (some ⟨b, 0, none⟩) ls.length lc) ls) (hn : 0 < ls.length) (hls : ls.length <= 90) (hok : ∀ l ∈ ls, l.ok)
  (hs : GRow w sv sl.length (sl.map (Value.int .i64))) (hsl : ∀ n ∈ sl, I64 n) (hK0 : newK (worldK [(⟨ls ++ [haltL], ⟨d, sl⟩, 0⟩ : PV).plain] 0) = some K0) (hA : AllOk K0) (hnc : K0.nc = 1) (hr : doneK noMic noWt 600 K0 = some r) :
  Calls Tryz.prog 8 #[.slice (some ⟨b, 0, none⟩) ls.length lc, .agg #[.int .i64 d, sv]] w fun e w' => Below w.heap.size w w' /\ DoneP w r e w' := by
 go_enter Tryz.func8, Tryz.ntmps8
 go_upto_region 1 with fail
 go_cut [6, 7] (fun v6 v7 wx => v7 = .int .i64 0 /\ ∃ kb lo g, v6 = .pointer (some ⟨kb, 0, none⟩) /\ Hid (WorkK w lo kb K0 g wx))
 case first =>
  obtain ⟨i0, hi0, hz0, hz1, hz2⟩ := info_parts info_line;have hb90 : (0 + ls.length) * 72 <= 140737488355328 := by omega
  have hb91 : (ls.length + 1) * 72 <= 140737488355328 := by omega
  have h90 : 0 + ls.length <= maxLen := by unfold maxLen; omega
  have h91 : ls.length + 1 <= maxLen := by unfold maxLen; omega
  obtain ⟨sa, sc, rfl, -, -⟩ := hs.form
  have hnw : ∀ W, Below w.heap.size w W -> ∀ (j : Nat) (u : Value), (ls.flatMap lineV)[j]? = some u -> W.cell? ((⟨b, 0, none⟩ : Addr).add j) = some u := fun W hW j u hu => by
   obtain ⟨b', e, -, hc⟩ := RowAt.cells (RowAt.below hl hW (Nat.le_refl _)) hn
   cases e;rw [addr0]; exact hc j u hu
  have hbd := worldK_bd [(⟨ls ++ [haltL], ⟨d, sl⟩, 0⟩ : PV).plain] 0 (fun p hp => by simp at hp; subst hp; exact (PV.lab_good _).1)
  have hPok : ∀ p ∈ [(⟨ls ++ [haltL], ⟨d, sl⟩, 0⟩ : PV)], p.ok := fun p hp => by
   simp at hp; subst hp;refine ⟨by show (ls ++ [haltL]).length <= 100; rw [List.length_append, List.length_singleton]; omega, fun l hl => ?_, hsl⟩;rcases List.mem_append.1 hl with e | e
   ·exact hok l e
   ·rw [List.mem_singleton.1 e]; exact halt_ok
  refine wp_region_rinv (by kernel_rfl) (by kernel_rfl) (by kernel_rfl)
   (fun i v => match i with | 0 => v = .slice (some ⟨b, 0, none⟩) ls.length lc | 2 => v = .agg #[.int .i64 1, .int .i64 0, .int .i64 0, .int .i64 0, .int .i32 0] | 3 => v = .agg (lineV haltL).toArray | 6 => v = .agg #[.int .i64 d, .slice sa sl.length sc] | _ => True)
   (fun l a wx => DoneR w ls d (.slice sa sl.length sc) sl K0 l[1]? l[4]? l[5]? l[7]? l[8]? l[9]? l[10]? l[11]? l[12]? l[13]? l[14]? l[15]? (a.tmps.getD 11 undef) (a.tmps.getD 14 undef) (a.tmps.getD 15 undef) (a.tmps.getD 17 undef) (a.tmps.getD 18 undef) (a.tmps.getD 19 undef) (a.tmps.getD 20 undef) (a.tmps.getD 9 undef) (a.tmps.getD 21 undef) (a.tmps.getD 22 undef) (a.tmps.getD 6 undef) (a.tmps.getD 7 undef) wx) ?_ ?_ ?_
  ·exact ⟨((Below.refl _ w).alloc (Nat.le_refl _) _).drew, by simp, fun _ => (Blk.new _ _ _).drew, fun h => by simp at h, fun h => by simp at h, fun h => by simp at h, fun h => by simp at h, fun h => by simp at h, fun h => by simp at h, fun h => by simp at h⟩
  ·intro hu i l a wx hi hl hli hd hcl hR hW
   have hi16 : i = 0 \/ i = 1 \/ i = 2 \/ i = 3 \/ i = 4 \/ i = 5 \/ i = 6 \/ i = 7 \/ i = 8 \/ i = 9 \/ i = 10 \/ i = 11 \/ i = 12 \/ i = 13 \/ i = 14 \/ i = 15 := by have : i < 16 := hi; omega
   rcases hi16 with rfl | rfl | rfl | rfl | rfl | rfl | rfl | rfl | rfl | rfl | rfl | rfl | rfl | rfl | rfl | rfl
   ·refine wpOp_val rfl (d := 10) rfl (wanted_plain rfl _) (ex_move (hR.was 0 rfl)) ⟨hR.put hu (by rw [hl]; decide) (d := 10) rfl (of_decide_eq_true rfl) rfl, ?_⟩
    simpa only [set_other, put_other, ne_eq, not_false_eq_true, Nat.reduceEqDiff] using hW
   ·have hno : ¬ (l[1]? = some true) := by rw [hli]; simp
    have hno5 : ¬ (l[5]? = some true) := fun h => hno (hcl.of 1 rfl h)
    have hno7 : ¬ (l[7]? = some true) := fun h => hno5 (hcl.of 5 rfl h)
    have hno8 : ¬ (l[8]? = some true) := fun h => hno7 (hcl.of 7 rfl h)
    have hno9 : ¬ (l[9]? = some true) := fun h => hno8 (hcl.of 8 rfl h)
    have hno10 : ¬ (l[10]? = some true) := fun h => hno9 (hcl.of 9 rfl h)
    refine wpOp_step (i := 1) (f := 11) rfl rfl (fun K1 hK1 => step_append_lies _ (by rfl) (.const (.slice none 0 0)) (.tmp 10) 23 (by rfl) (w.heap.size + 1) 28 i0 _ 11 72 Tryz.underlying23 hi0 hz0 hz1 hz2 rfl (by decide) (.slice none 0 0) 0 [] ?_ (World.ownsRow_nil _ _ _ _) ⟨b, 0, none⟩ ls.length lc (ls.flatMap lineV) ?_ (lines_len ls) (hnw wx hW.bel) (fun u hu => lines_one hu) hn h90 hb90 hW.lt _ rfl ?_)
    ·rfl
    ·exact hR.slot 0 10 (hd 0 rfl) rfl
    intro g1 c1 w1 hown1 hgr1 hor1 hlt1;have hbe : Below wx.heap.size wx w1 := (Below.refl _ wx).grown hgr1 (Nat.le_refl _) (fun b e => by cases e);refine hK1 _ _ ⟨hR.put hu (by rw [hl]; decide) (d := 11) rfl (of_decide_eq_true rfl) trivial, ?_⟩;simp only [set_other, put_other, ne_eq, not_false_eq_true, Nat.reduceEqDiff, set_self (show 1 < l.size by rw [hl]; decide), put_self (show 11 < a.tmps.size by rw [hR.size]; exact of_decide_eq_true rfl)];refine ⟨bel_from hW.bel hbe, Nat.lt_of_lt_of_le hW.lt hbe.size, fun h => (hW.box h).below hbe (hW.box h).lt, fun _ _ => ?_, fun h h' => ?_, fun h => absurd h hno5, fun h => absurd h hno7, fun h => absurd h hno8, fun h => absurd h hno9, fun h => absurd h hno10⟩
    ·rw [Nat.zero_add, List.nil_append] at hown1; rw [Nat.zero_add]; exact hown1
    ·obtain ⟨hb, e1, e2⟩ := hW.g4 h h'
     exact ⟨hb, e1, e2.below hbe e2.lt⟩
   ·refine wpOp_val rfl (d := 12) rfl (wanted_plain rfl _) (ex_buildF1 rfl (build_halt _)) ⟨hR.put hu (by rw [hl]; decide) (d := 12) rfl (of_decide_eq_true rfl) rfl, ?_⟩
    simpa only [set_other, put_other, ne_eq, not_false_eq_true, Nat.reduceEqDiff] using hW
   ·refine wpOp_val rfl (d := 13) rfl (wanted_plain rfl _) (ex_buildF1 (hR.slot 2 12 (hd 2 rfl) rfl) (build_line _)) ⟨hR.put hu (by rw [hl]; decide) (d := 13) rfl (of_decide_eq_true rfl) rfl, ?_⟩
    simpa only [set_other, put_other, ne_eq, not_false_eq_true, Nat.reduceEqDiff] using hW
   ·have hno : ¬ (l[4]? = some true) := by rw [hli]; simp
    have hno5 : ¬ (l[5]? = some true) := fun h => hno (hcl.of 4 rfl h)
    have hno7 : ¬ (l[7]? = some true) := fun h => hno5 (hcl.of 5 rfl h)
    have hno8 : ¬ (l[8]? = some true) := fun h => hno7 (hcl.of 7 rfl h)
    have hno9 : ¬ (l[9]? = some true) := fun h => hno8 (hcl.of 8 rfl h)
    have hno10 : ¬ (l[10]? = some true) := fun h => hno9 (hcl.of 9 rfl h)
    refine wpOp_val rfl (d := 14) rfl (wanted_plain rfl _) (ex_row1 (hR.slot 3 13 (hd 3 rfl) rfl) (row_line _)) ⟨hR.put hu (by rw [hl]; decide) (d := 14) rfl (of_decide_eq_true rfl) trivial, ?_⟩;simp only [set_other, put_other, ne_eq, not_false_eq_true, Nat.reduceEqDiff, set_self (show 4 < l.size by rw [hl]; decide), put_self (show 14 < a.tmps.size by rw [hR.size]; exact of_decide_eq_true rfl)];have hbe : Below wx.heap.size wx (wx.alloc (.cells (lineV haltL).toArray 28)) := (Below.refl _ wx).alloc (Nat.le_refl _) _;exact ⟨bel_from hW.bel hbe, Nat.lt_of_lt_of_le hW.lt hbe.size, fun h => (hW.box h).below hbe (hW.box h).lt, fun h h' => (hW.g1 h h').alloc _, fun _ _ => ⟨_, rfl, Blk.new _ _ _⟩, fun h => absurd h hno5, fun h => absurd h hno7, fun h => absurd h hno8, fun h => absurd h hno9, fun h => absurd h hno10⟩
   ·have hno : ¬ (l[5]? = some true) := by rw [hli]; simp
    have hno7 : ¬ (l[7]? = some true) := fun h => hno (hcl.of 5 rfl h)
    have hno8 : ¬ (l[8]? = some true) := fun h => hno7 (hcl.of 7 rfl h)
    have hno9 : ¬ (l[9]? = some true) := fun h => hno8 (hcl.of 8 rfl h)
    have hno10 : ¬ (l[10]? = some true) := fun h => hno9 (hcl.of 9 rfl h)
    have hrow := hW.g1 (hd 1 rfl) hno;obtain ⟨hb, e14, hB⟩ := hW.g4 (hd 4 rfl) hno;refine wpOp_step (i := 5) (f := 15) rfl rfl (fun K1 hK1 => step_append_lies _ (by rfl) (.tmp 11) (.tmp 14) 23 (by rfl) (w.heap.size + 1) 28 i0 _ 11 72 Tryz.underlying23 hi0 hz0 hz1 hz2 rfl (by decide) _ ls.length _ ?_ hrow ⟨hb, 0, none⟩ 1 1 (lineV haltL) ?_ rfl (fun j u hu => by rw [addr0, hB.cell]; simpa using hu) (fun u hu => lines_one (ls := [haltL]) (by simpa using hu)) (by decide) h91 hb91 hW.lt _ rfl ?_)
    ·rfl
    ·exact e14
    intro g1 c1 w1 hown1 hgr1 hor1 hlt1;have hbe : Below (w.heap.size + 1) wx w1 := (Below.refl _ wx).grown hgr1 hW.lt (fun b e => (hrow.lt b e).1);refine hK1 _ _ ⟨hR.put hu (by rw [hl]; decide) (d := 15) rfl (of_decide_eq_true rfl) trivial, ?_⟩;simp only [set_other, put_other, ne_eq, not_false_eq_true, Nat.reduceEqDiff, set_self (show 5 < l.size by rw [hl]; decide), put_self (show 15 < a.tmps.size by rw [hR.size]; exact of_decide_eq_true rfl)];refine ⟨hW.bel.trans (hbe.mono (by omega)), Nat.lt_of_lt_of_le hW.lt hbe.size, fun h => (hW.box h).below hbe (by omega), fun _ h => absurd rfl h, fun _ h => absurd rfl h, fun _ _ => ⟨_, _, rfl, ?_⟩, fun h => absurd h hno7, fun h => absurd h hno8, fun h => absurd h hno9, fun h => absurd h hno10⟩;unfold LinesIn;rw [List.length_append, List.length_singleton, List.flatMap_append];exact RowAt.own (by simpa using hown1)
   ·have hno : ¬ (l[9]? = some true) := fun h => by have := hcl.of 6 rfl (hcl.of 7 rfl (hcl.of 8 rfl h)); rw [hli] at this; cases this
    refine wpOp_val rfl (d := 16) rfl (wanted_plain rfl _) (ex_load (hR.was 3 rfl) (load_seed (hW.box hno))) ⟨hR.put hu (by rw [hl]; decide) (d := 16) rfl (of_decide_eq_true rfl) rfl, ?_⟩;simpa only [set_other, put_other, ne_eq, not_false_eq_true, Nat.reduceEqDiff] using hW
   ·have hno : ¬ (l[7]? = some true) := by rw [hli]; simp
    have hno8 : ¬ (l[8]? = some true) := fun h => hno (hcl.of 7 rfl h)
    have hno9 : ¬ (l[9]? = some true) := fun h => hno8 (hcl.of 8 rfl h)
    have hno10 : ¬ (l[10]? = some true) := fun h => hno9 (hcl.of 9 rfl h)
    obtain ⟨a1, c1, e15, hL⟩ := hW.g5 (hd 5 rfl) hno9;refine wpOp_val rfl (d := 17) rfl (wanted_plain rfl _) (ex_buildF2 (show a.eval (.tmp 15) = _ from e15) (hR.slot 6 16 (hd 6 rfl) rfl) (build_prog _ _ _ _ _ _ _ _)) ⟨hR.put hu (by rw [hl]; decide) (d := 17) rfl (of_decide_eq_true rfl) trivial, ?_⟩;simp only [set_other, put_other, ne_eq, not_false_eq_true, Nat.reduceEqDiff, set_self (show 7 < l.size by rw [hl]; decide), put_self (show 17 < a.tmps.size by rw [hR.size]; exact of_decide_eq_true rfl)];exact ⟨hW.bel, hW.lt, hW.box, hW.g1, hW.g4, hW.g5, fun _ _ => ⟨_, _, e15, _, _, _, rfl, rfl⟩, fun h => absurd h hno8, fun h => absurd h hno9, fun h => absurd h hno10⟩
   ·have hno : ¬ (l[8]? = some true) := by rw [hli]; simp
    have hno9 : ¬ (l[9]? = some true) := fun h => hno (hcl.of 8 rfl h)
    have hno10 : ¬ (l[10]? = some true) := fun h => hno9 (hcl.of 9 rfl h)
    obtain ⟨a1, c1, e15, a2, n2, c2, e2, e17⟩ := hW.g7 (hd 7 rfl) hno9;obtain ⟨a1', c1', e15', hL⟩ := hW.g5 (hcl.of 5 rfl (hd 7 rfl)) hno9;rw [e15] at e15'
    cases e15';rw [e15] at hL;have hbe : Below wx.heap.size wx (wx.alloc (.cells #[.slice a1 (ls.length + 1) c1, .int .i64 d, .slice sa sl.length sc, .int .i64 0] 100)) := (Below.refl _ wx).alloc (Nat.le_refl _) _;have hBp := Blk.new wx #[.slice a1 (ls.length + 1) c1, .int .i64 d, .slice sa sl.length sc, .int .i64 0] 100
    have hPr : ProgsIn (wx.alloc (.cells #[.slice a1 (ls.length + 1) c1, .int .i64 d, .slice sa sl.length sc, .int .i64 0] 100)) (.slice (some ⟨wx.heap.size, 0, none⟩) 1 1) [(⟨ls ++ [haltL], ⟨d, sl⟩, 0⟩ : PV)] (fun _ => (.slice a1 (ls.length + 1) c1, .slice sa sl.length sc)) := by
     refine ⟨fun j p hj => ?_, _, 1, rfl, Nat.le_refl _, by unfold maxLen; decide, .inr ⟨_, 0, rfl, hBp.lt, fun j p hj i hi => ?_⟩⟩
     ·match j, hj with
      | 0, hj => cases hj; exact ⟨RowAt.below hL hbe (Nat.le_refl _), (hs.below hW.bel (Nat.le_refl _)).below hbe (Nat.le_refl _)⟩
     ·match j, hj with
      | 0, hj =>
       cases hj;rw [show 0 + 0 * 4 + i = i by omega];refine (hBp.cell i).trans ?_;match i, hi with
       | 0, _ => rfl
       | 1, _ => rfl
       | 2, _ => rfl
       | 3, _ => rfl
    refine wpOp_val rfl (d := 18) rfl (wanted_plain rfl _) (ex_row1 (show a.eval (.tmp 17) = _ from e17) (row_prog _ _ _ _ _ _ _ _)) ⟨hR.put hu (by rw [hl]; decide) (d := 18) rfl (of_decide_eq_true rfl) trivial, ?_⟩;simp only [set_other, put_other, ne_eq, not_false_eq_true, Nat.reduceEqDiff, set_self (show 8 < l.size by rw [hl]; decide), put_self (show 18 < a.tmps.size by rw [hR.size]; exact of_decide_eq_true rfl)];exact ⟨bel_from hW.bel hbe, Nat.lt_of_lt_of_le hW.lt hbe.size, fun h => (hW.box h).below hbe (hW.box h).lt, fun h h' => (hW.g1 h h').alloc _, fun h h' => absurd (hcl.of 5 rfl (hd 7 rfl)) h', fun h h' => ⟨_, _, e15, by rw [e15]; exact RowAt.below hL hbe (Nat.le_refl _)⟩, fun _ _ => ⟨_, _, e15, _, _, _, rfl, e17⟩, fun _ _ => ⟨_, hPr⟩, fun h => absurd h hno9, fun h => absurd h hno10⟩
   ·have hno : ¬ (l[9]? = some true) := by rw [hli]; simp
    have hno10 : ¬ (l[10]? = some true) := fun h => hno (hcl.of 9 rfl h)
    obtain ⟨Q, hPr⟩ := hW.g8 (hd 8 rfl) hno;refine wpOp_call rfl (d := 19) rfl (wanted_plain rfl _) (ex_call (vs := #[a.tmps.getD 18 undef, .int .i64 0]) (by simp [Act.eval]) (enters_fn Tryz.func12 (by kernel_rfl) rfl)) (R := fun v w' => CfgIn w' v (worldK [(⟨ls ++ [haltL], ⟨d, sl⟩, 0⟩ : PV).plain] 0) /\ Below wx.heap.size wx w') ((world_any _ _ Q 0 wx hPr hPok (by omega)).mono fun e w' ⟨v, h1, h2, h3⟩ => ⟨v, h1, h2, h3⟩) ?_;rintro v w' ⟨h1, hbe⟩;refine ⟨hR.put hu (by rw [hl]; decide) (d := 19) rfl (of_decide_eq_true rfl) trivial, ?_⟩;simp only [set_other, put_other, ne_eq, not_false_eq_true, Nat.reduceEqDiff, set_self (show 9 < l.size by rw [hl]; decide), put_self (show 19 < a.tmps.size by rw [hR.size]; exact of_decide_eq_true rfl)];exact ⟨bel_from hW.bel hbe, Nat.lt_of_lt_of_le hW.lt hbe.size, fun h => absurd rfl h, fun h h' => absurd (hcl.of 5 rfl (hcl.of 7 rfl (hd 8 rfl))) h', fun h h' => absurd (hcl.of 5 rfl (hcl.of 7 rfl (hd 8 rfl))) h', fun _ h => absurd rfl h, fun _ h => absurd rfl h, fun _ h => absurd rfl h, fun _ _ => h1, fun h => absurd h hno10⟩
   ·have hno : ¬ (l[10]? = some true) := by rw [hli]; simp
    have hno11 : ¬ (l[11]? = some true) := fun h => hno (hcl.of 10 rfl h)
    have hno12 : ¬ (l[12]? = some true) := fun h => hno11 (hcl.of 11 rfl h)
    have hno13 : ¬ (l[13]? = some true) := fun h => hno11 (hcl.of 11 rfl h)
    have hno14 : ¬ (l[14]? = some true) := fun h => hno12 (hcl.of 12 rfl h)
    have hno15 : ¬ (l[15]? = some true) := fun h => hno14 (hcl.of 14 rfl h)
    have hC := hW.g9 (hd 9 rfl) hno;refine wpOp_call rfl (d := 20) rfl (wanted_plain rfl _) (ex_call (vs := #[a.tmps.getD 19 undef]) (by simp [Act.eval]) (enters_fn Tryz.func17 (by kernel_rfl) rfl)) (R := fun v w' => ∃ kb lo g, v = .tuple #[.pointer (some ⟨kb, 0, none⟩), .int .i64 0] /\ WorkK w lo kb K0 g w' /\ Below wx.heap.size wx w') ((knew_any wx _ _ K0 hC hbd hK0).mono fun e w' ⟨kb, h1, h2, g, h3, h4, h5, h6⟩ => ⟨_, h1, kb, wx.heap.size, g, rfl, ⟨bel_from hW.bel h2, hW.bel.size, h3, h4, h5, h6, h2.size⟩, h2⟩) ?_;rintro v w' ⟨kb, lo, g, rfl, h1, hbe⟩;refine ⟨hR.put hu (by rw [hl]; decide) (d := 20) rfl (of_decide_eq_true rfl) trivial, ?_⟩;simp only [set_other, put_other, ne_eq, not_false_eq_true, Nat.reduceEqDiff, set_self (show 10 < l.size by rw [hl]; decide), put_self (show 20 < a.tmps.size by rw [hR.size]; exact of_decide_eq_true rfl)];exact ⟨bel_from hW.bel hbe, Nat.lt_of_lt_of_le hW.lt hbe.size, fun h => absurd (hd 9 rfl) h, fun h h' => absurd (hcl.of 5 rfl (hcl.of 7 rfl (hcl.of 8 rfl (hd 9 rfl)))) h', fun h h' => absurd (hcl.of 5 rfl (hcl.of 7 rfl (hcl.of 8 rfl (hd 9 rfl)))) h', fun _ h => absurd (hd 9 rfl) h, fun _ h => absurd (hd 9 rfl) h, fun _ h => absurd (hd 9 rfl) h, fun _ h => absurd rfl h, fun _ => ⟨kb, lo, g, rfl, h1, fun h => absurd h hno11, fun h => absurd h hno12, fun h => absurd h hno13, fun h => absurd h hno14, fun h => absurd h hno15⟩⟩
   ·have hno : ¬ (l[11]? = some true) := by rw [hli]; simp
    obtain ⟨kb, lo, g, e20, hK, q11, q12, q13, q14, q15⟩ := hW.g10 (hd 10 rfl);refine wpOp_val rfl (d := 9) rfl (wanted_plain rfl _) (ex_move (show a.eval (.tmp 20) = _ from e20)) ⟨hR.put hu (by rw [hl]; decide) (d := 9) rfl (of_decide_eq_true rfl) trivial, ?_⟩;simp only [set_other, put_other, ne_eq, not_false_eq_true, Nat.reduceEqDiff, set_self (show 11 < l.size by rw [hl]; decide), put_self (show 9 < a.tmps.size by rw [hR.size]; exact of_decide_eq_true rfl)];exact ⟨hW.bel, hW.lt, hW.box, hW.g1, hW.g4, hW.g5, hW.g7, hW.g8, hW.g9, fun _ => ⟨kb, lo, g, e20, hK, fun _ => rfl, q12, q13, q14, q15⟩⟩
   ·have hno : ¬ (l[12]? = some true) := by rw [hli]; simp
    obtain ⟨kb, lo, g, e20, hK, q11, q12, q13, q14, q15⟩ := hW.g10 (hcl.of 10 rfl (hd 11 rfl));refine wpOp_val rfl (d := 21) rfl (wanted_plain rfl _) (ex_part (show a.eval (.tmp 9) = _ from q11 (hd 11 rfl)) rfl) ⟨hR.put hu (by rw [hl]; decide) (d := 21) rfl (of_decide_eq_true rfl) trivial, ?_⟩;simp only [set_other, put_other, ne_eq, not_false_eq_true, Nat.reduceEqDiff, set_self (show 12 < l.size by rw [hl]; decide), put_self (show 21 < a.tmps.size by rw [hR.size]; exact of_decide_eq_true rfl)];exact ⟨hW.bel, hW.lt, hW.box, hW.g1, hW.g4, hW.g5, hW.g7, hW.g8, hW.g9, fun _ => ⟨kb, lo, g, e20, hK, q11, fun _ => rfl, q13, q14, q15⟩⟩
   ·have hno : ¬ (l[13]? = some true) := by rw [hli]; simp
    obtain ⟨kb, lo, g, e20, hK, q11, q12, q13, q14, q15⟩ := hW.g10 (hcl.of 10 rfl (hd 11 rfl));refine wpOp_val rfl (d := 22) rfl (wanted_plain rfl _) (ex_part (show a.eval (.tmp 9) = _ from q11 (hd 11 rfl)) rfl) ⟨hR.put hu (by rw [hl]; decide) (d := 22) rfl (of_decide_eq_true rfl) trivial, ?_⟩;simp only [set_other, put_other, ne_eq, not_false_eq_true, Nat.reduceEqDiff, set_self (show 13 < l.size by rw [hl]; decide), put_self (show 22 < a.tmps.size by rw [hR.size]; exact of_decide_eq_true rfl)];exact ⟨hW.bel, hW.lt, hW.box, hW.g1, hW.g4, hW.g5, hW.g7, hW.g8, hW.g9, fun _ => ⟨kb, lo, g, e20, hK, q11, q12, fun _ => rfl, q14, q15⟩⟩
   ·have hno : ¬ (l[14]? = some true) := by rw [hli]; simp
    obtain ⟨kb, lo, g, e20, hK, q11, q12, q13, q14, q15⟩ := hW.g10 (hd 10 rfl);refine wpOp_val rfl (d := 6) rfl (wanted_plain rfl _) (ex_assign (show a.eval (.tmp 21) = _ from q12 (hd 12 rfl))) ⟨hR.put hu (by rw [hl]; decide) (d := 6) rfl (of_decide_eq_true rfl) trivial, ?_⟩;simp only [set_other, put_other, ne_eq, not_false_eq_true, Nat.reduceEqDiff, set_self (show 14 < l.size by rw [hl]; decide), put_self (show 6 < a.tmps.size by rw [hR.size]; exact of_decide_eq_true rfl)];exact ⟨hW.bel, hW.lt, hW.box, hW.g1, hW.g4, hW.g5, hW.g7, hW.g8, hW.g9, fun _ => ⟨kb, lo, g, e20, hK, q11, q12, q13, fun _ => rfl, q15⟩⟩
   ·have hno : ¬ (l[15]? = some true) := by rw [hli]; simp
    obtain ⟨kb, lo, g, e20, hK, q11, q12, q13, q14, q15⟩ := hW.g10 (hcl.of 10 rfl (hd 14 rfl));refine wpOp_val rfl (d := 7) rfl (wanted_plain rfl _) (ex_assign (show a.eval (.tmp 22) = _ from q13 (hd 13 rfl))) ⟨hR.put hu (by rw [hl]; decide) (d := 7) rfl (of_decide_eq_true rfl) trivial, ?_⟩;simp only [set_other, put_other, ne_eq, not_false_eq_true, Nat.reduceEqDiff, set_self (show 15 < l.size by rw [hl]; decide), put_self (show 7 < a.tmps.size by rw [hR.size]; exact of_decide_eq_true rfl)];exact ⟨hW.bel, hW.lt, hW.box, hW.g1, hW.g4, hW.g5, hW.g7, hW.g8, hW.g9, fun _ => ⟨kb, lo, g, e20, hK, q11, q12, q13, q14, fun _ => rfl⟩⟩
  ·intro l a wx hl hR hW
   obtain ⟨kb, lo, g, e20, hK, q11, q12, q13, q14, q15⟩ := hW.g10 (hl 10 (of_decide_eq_true rfl));have e6 := q14 (hl 14 (of_decide_eq_true rfl));have e7 := q15 (hl 15 (of_decide_eq_true rfl));rw [hR.fold [10, 11, 12, 13, 14, 15, 16, 17, 18, 19, 20, 9, 21, 22, 6, 7] (by kernel_rfl)];simp only [List.foldl, e6, e7];clear hR hW e6 e7 q11 q12 q13 q14 q15 e20 hl;generalize a.tmps.getD 10 undef = u10;generalize a.tmps.getD 11 undef = u11;generalize a.tmps.getD 12 undef = u12;generalize a.tmps.getD 13 undef = u13;generalize a.tmps.getD 14 undef = u14;generalize a.tmps.getD 15 undef = u15;generalize a.tmps.getD 16 undef = u16;generalize a.tmps.getD 17 undef = u17;generalize a.tmps.getD 18 undef = u18;generalize a.tmps.getD 19 undef = u19;generalize a.tmps.getD 20 undef = u20;generalize a.tmps.getD 9 undef = u9;generalize a.tmps.getD 21 undef = u21;generalize a.tmps.getD 22 undef = u22;simp only [List.setIfInBounds_toArray, List.set_cons_zero, List.set_cons_succ];go_step
   go_step
   go_meet;exact ⟨rfl, kb, lo, g, rfl, Lib.hid hK⟩
 case rest =>
  obtain ⟨rfl, kb, lo, g0, rfl, HW⟩ := hcut;have HA := Lib.hid hA; have Hr := Lib.hid hr; have Hnc := Lib.hid hnc;clear hl hs hK0 hA hr hnc;go_wp2_with fail
  go_loopg [8, 25] 600 (fun gg _ v25 wq => ∃ (k : Nat) (K : Km) (g : Gh), k + gg = 600 /\ v25 = .int .i64 k /\ Hid (WorkK w lo kb K g wq /\ AllOk K /\ K.nc = 1 /\ doneK noMic noWt (600 - k) K = some r))
  case atStart => exact ⟨0, K0, g0, by omega, rfl, Lib.hid ⟨HW.out, HA.out, Hnc.out, Hr.out⟩⟩
  case round =>
   obtain ⟨k, K, g, hk, rfl, HK⟩ := hrel;by_cases hlt : k < 600
   ·have hlt' : (k : Int) < 600 := by omega
    obtain ⟨m, hm⟩ : ∃ m, 600 - k = m + 1 := ⟨600 - k - 1, by omega⟩;have hd := HK.out.2.2.2;rw [hm] at hd;unfold doneK at hd;split at hd
    ·cases hd
    ·rename_i p hp
     obtain ⟨K', ev⟩ := p
     have HSt : Hid (Calls Tryz.prog 18 #[.pointer (some ⟨kb, 0, none⟩), .agg #[.int .i64 0, .int .i64 0, .slice none 0 0]] wr fun e w' => e = .returned (evV ev) /\ ∃ g', WorkK w lo kb K' g' w' /\ AllOk K') := Lib.hid (by
      have hst := step_pick (Q := fun _ _ => True) (fun _ _ _ _ _ _ => trivial) noMic_ok noWt_ok wr g K K' 0 0 ev none 0 0 HK.out.1.kin HK.out.1.inv HK.out.2.1.kok trivial (by rw [HK.out.2.2.1]; omega) (by decide) (by decide) (by rw [Int.zero_emod]; exact hp);rw [HK.out.1.kb] at hst;refine hst.mono ?_;rintro e w' ⟨h1, g', h2⟩;exact ⟨h1, g', (HK.out.1.step h2).1, AllOk.pickT (fun _ _ _ _ _ _ h => (by cases h)) (fun _ _ _ _ _ _ _ h => (by cases h)) HK.out.2.1 hp⟩)
     have Hd := Lib.hid hd;clear hd hp;unfold evV at HSt;go_wp2_with fail
     refine HSt.out.mono ?_;rintro e w2 ⟨rfl, g2, hW2, hA2⟩;have H2 := Lib.hid (And.intro hW2 hA2)
     have k0 : w2.cell? ⟨kb, 0, none⟩ = some (.pointer (some ⟨g2.tb, 0, none⟩)) := by
      obtain ⟨cv, s', dv, -, hB, -, -⟩ := hW2.kin.kern.ex;have := hB.cell 0;rw [hW2.kb] at this;exact this.trans rfl
     have HGt : Hid (Calls Tryz.prog 15 #[.pointer (some ⟨g2.tb, 0, none⟩), .int .u64 6] w2 fun e w' => e = .returned (obP g2 K'.obj 6) /\ w2 = w') := Lib.hid (get_any w2 g2 K'.obj 6 hW2.kin.tab);clear hW2 hA2 HSt;go_wp2_with fail
     refine HGt.out.mono ?_;rintro e w3 ⟨rfl, rfl⟩;clear HGt k0
     cases hi : isDone K' with
     | none => have := Hd.out; rw [hi] at this; cases this
     | some t =>
      obtain ⟨hnc2, hob⟩ := isDone_spec hi;rcases hob with ⟨ho, rfl⟩ | ⟨o, ho, hk3, rfl⟩
      ·have hp0 := obP_none (g := g2) ho
       have hr2 : r = some K' := by have := Hd.out; rw [hi] at this; cases this; rfl
       subst hr2;have HN := Lib.hid hnc2;rw [hp0];clear hnc2 ho hi Hd;go_wp2_with fail
       go_ret2
       exact ⟨H2.out.1.bel, kb, g2, (by rw [hp0]; rfl), lo, H2.out.1, H2.out.2, HN.out⟩
      ·have hp1 : obP g2 K'.obj 6 = .pointer (some ⟨g2.bl 6, 0, none⟩) := by unfold obP; rw [ho]; rfl
       have HO := (H2.out.1.kin.objs 6 o ho);have hnm := HO.1;obtain ⟨x19, x20, x32⟩ := th_told HO.2 hk3;rw [hnm] at x19 x20 x32;obtain ⟨st, hst⟩ : ∃ st, o.th.state = st := ⟨_, rfl⟩;obtain ⟨ph, hph⟩ : ∃ ph, o.th.cont.phase = ph := ⟨_, rfl⟩;rw [hst] at x20 hi;rw [hph] at x32 hi;rw [hp1];have HN := Lib.hid hnc2;have HP1 := Lib.hid hp1;by_cases hs0 : st = 0
       ·have hb0 : (st == 0) = true := by simp [hs0]
        by_cases hp0 : ph = 0
        ·have hb1 : (ph == 0) = true := by simp [hp0]
         have hr2 : r = some K' := by have := Hd.out; rw [hi] at this; simp [hs0, hp0] at this; exact this.symm
         subst hr2;clear hnc2 ho hi Hd hp1 HO hnm hst hph hs0 hp0 hk3;go_wp2_with fail
         go_ret2
         exact ⟨H2.out.1.bel, kb, g2, (by rw [HP1.out]; rfl), lo, H2.out.1, H2.out.2, HN.out⟩
        ·have hb1 : (ph == 0) = false := by simp [hp0]
         have Hnx : Hid (doneK noMic noWt m K' = some r) := Lib.hid (by have := Hd.out; rw [hi] at this; simp [hp0] at this; exact this);clear hnc2 ho hi Hd hp1 HO hnm hst hph hs0 hp0 hk3;go_wp2_with fail
         go_roundg (600 - (k + 1))
         case measure => omega
         case rel => exact ⟨k + 1, K', g2, by omega, by go_num, Lib.hid ⟨H2.out.1, H2.out.2, HN.out, by rw [show 600 - (k + 1) = m by omega]; exact Hnx.out⟩⟩
       ·have hb0 : (st == 0) = false := by simp [hs0]
        have Hnx : Hid (doneK noMic noWt m K' = some r) := Lib.hid (by have := Hd.out; rw [hi] at this; simp [hs0] at this; exact this);clear hnc2 ho hi Hd hp1 HO hnm hst hph hs0 hk3 x32;go_wp2_with fail
        go_roundg (600 - (k + 1))
        case measure => omega
        case rel => exact ⟨k + 1, K', g2, by omega, by go_num, Lib.hid ⟨H2.out.1, H2.out.2, HN.out, by rw [show 600 - (k + 1) = m by omega]; exact Hnx.out⟩⟩
   ·have hlt' : ¬ (k : Int) < 600 := by omega
    have hr0 : r = none := by have := HK.out.2.2.2; rw [show 600 - k = 0 by omega] at this; unfold doneK at this; cases this; rfl
    subst hr0;go_wp2_with fail
    go_ret2
    exact ⟨HK.out.1.bel, rfl⟩
end Go.Proofs.YtiadbhiadhgjkaaGreatDoor
namespace Go.Proofs.YtiadbhiadhgjkaaGreatDoor
open Go.RowKit
attribute [local irreducible] World.setCell World.alloc World.drew World.setRow Calls Code.wp
theorem content_any (w : World) (g : Gh) (K : Km) (o : Ob) (h : KIn w g K) (hI : Inv g K) (ho : K.obj o.name = some o) (hk : o.kind = 2) (hnc : 0 < K.nc) :
  Calls Tryz.prog 14 #[.pointer (some ⟨g.kb, 0, none⟩), .pointer (some ⟨g.bl o.name, 16, none⟩)] w fun e w' =>
   ∃ r, e = .returned r /\ w'.ownsRow w.heap.size 5 1 r (o.pages * 64) ((List.range (o.pages * 64)).map fun j => Value.int .u8 (o.data j)) /\ Below w.heap.size w w' := by
 obtain ⟨s, T, hS, hl, h16⟩ := h.seg hI ho hk;obtain ⟨sb, sc, cc, hV⟩ := h.kerV hnc;have hs := hI.seg _ o ho hk;have k0 := hV.pb;have k1 := cell_drew hV.pb
 have hw : segW (g.fr o.name) ((0 : Nat) : Int) ((o.pages * 64 : Nat) : Int) = true := by
  rw [segW_iff];unfold segS;rw [hl];exact ⟨by omega, by omega, by omega, by omega⟩
 have hd : segC g.P (g.fr o.name) 0 (o.pages * 64) = (List.range (o.pages * 64)).map fun j => Value.int .u8 (o.data j) := by
  unfold segC;refine List.map_congr_left fun j hj => ?_
  rw [Nat.zero_add, hs.data j (List.mem_range.1 hj)]
 have HSz : Hid (Calls Tryz.prog 30 #[.pointer (some ⟨g.bl o.name, 16, none⟩)] w.drew fun e w' => ∃ v, e = .returned v /\ (v = .int .i64 (((o.pages * 64 : Nat)) : Int) /\ w.drew = w')) := Lib.hid (by
  refine (size_any _ 16 _ _ _ _ w.drew (hS.below ((Below.refl _ w).drew))).mono ?_;rintro e w' ⟨rfl, rfl⟩;refine ⟨_, rfl, ?_, rfl⟩;unfold segS;rw [hl];norm_cast)
 have HRd : Hid (Calls Tryz.prog 29 #[.pointer (some ⟨g.bl o.name, 16, none⟩), .pointer (some ⟨g.pb, 0, none⟩), .int .i64 0, .int .i64 (((o.pages * 64 : Nat)) : Int)] w.drew fun e w' => ∃ v, e = .returned v /\ (∃ r, v = .tuple #[r, .bool true] /\ w'.ownsRow w.heap.size 5 1 r (o.pages * 64) ((List.range (o.pages * 64)).map fun j => Value.int .u8 (o.data j)) /\ Below w.heap.size w w')) := Lib.hid (by
  refine (sread_yes _ 16 g.pb g.db g.ob _ _ _ _ g.P o.name 0 (o.pages * 64) w.drew (hS.below ((Below.refl _ w).drew)) h.drew.pool hs.inn hw).mono ?_;rintro e w' ⟨r, rfl, h1, h2⟩;rw [World.size_drew] at h1 h2;rw [hd] at h1;exact ⟨_, rfl, r, rfl, h1, (Below.refl _ w).drew.trans h2⟩)
 obtain ⟨m, hm⟩ : ∃ m, o.pages * 64 = m := ⟨_, rfl⟩;rw [hm] at HSz HRd;rw [hm];clear hS hl h16 hV hs hw hd h hI ho hk hnc hm;go_enter Tryz.func14, Tryz.ntmps14
 go_upto_region 1 with fail
 first
 | go_region_held3 (fun W => W.cell? ⟨g.kb, 1, none⟩ = some (.pointer (some ⟨g.pb, 0, none⟩))) (first | exact k1 | exact hk3)
   (first
   | (refine HSz.out.mono ?_; rintro e w3 ⟨v, rfl, rfl, rfl⟩)
   | (refine HRd.out.mono ?_; rintro e w3 ⟨v, rfl, r, rfl, h3, h4⟩; have hk3 := (h4.cell (p := ⟨g.kb, 1, none⟩) (World.block_lt_of_cell? w ⟨g.kb, 1, none⟩ k0)).trans k0))
 | fail
 all_goals
  go_wp2_with fail
  go_ret;exact ⟨_, rfl, h3, h4⟩
end Go.Proofs.YtiadbhiadhgjkaaGreatDoor
