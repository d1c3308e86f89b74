/- Of the proof of this claim: a joined text. -/
import Derived.Test.YtiadbhiadhgjkaaGreatDoorZzQd
import Derived.Test.YtiadbhiadhgjkaaGreatDoorZzNn
set_option maxRecDepth 100000
set_option maxHeartbeats 8000000
namespace Go.Proofs.YtiadbhiadhgjkaaGreatDoor
open Go.RowKit
attribute [local irreducible] World.setCell World.alloc World.drew World.setRow Calls Code.wp
theorem wrap_i32 {x : Int} (h : -2147483648 <= x /\ x <= 2147483647) : IntKind.i32.wrap x = x := by
 simp [IntKind.wrap, IntKind.bits, IntKind.signed]; omega
theorem and7_i32 (x : Int) : bits .and .i32 x 7 = x % 8 := by
 have e1 : (BitVec.ofInt 32 x).toNat = (x % 4294967296).toNat := by rw [BitVec.toNat_ofInt]; rfl
 have e2 : (BitVec.ofInt 32 (7 : Int)).toNat = 7 := by rfl
 have key : bits .and .i32 x 7 = IntKind.i32.wrap (((x % 4294967296).toNat % 8 : Nat) : Int) := by
  show IntKind.i32.wrap _ = _
  congr 1
  show (((BitVec.ofInt 32 x &&& BitVec.ofInt 32 (7 : Int)).toNat : Nat) : Int) = _
  rw [BitVec.toNat_and, e1, e2, show (7 : Nat) = 2 ^ 3 - 1 from rfl, Nat.and_two_pow_sub_one_eq_mod]
 rw [key, wrap_i32 (by omega)];omega
theorem th_fault {w : World} {g : Gh} {o : Ob} (h : ObIn w g o) (hk : o.kind = 3) : w.cell? ⟨g.tl o.name, 25, none⟩ = some (.int .i64 o.th.fault) := by
 obtain ⟨s, T, hB, -, h3, -⟩ := h.ex;obtain ⟨x, hT, -⟩ := (h3 hk).2.ex;exact (hT.cell 25).trans rfl
theorem str_bytes {w : World} {v : Value} {l : List UInt8} (h : DataIn w v l) : (convert 63 9 v).run Tryz.prog w = .ok (.string (bs (l.map fun b => (b.toNat : Int)))) w := by
 obtain ⟨a, c, rfl, -, -⟩ := RowAt.form h;by_cases h0 : l.length = 0
 ·obtain rfl : l = [] := List.eq_nil_of_length_eq_zero h0
  rcases a with _ | a
  ·exact run_str_nil Tryz.underlying63 Tryz.underlying5 Tryz.underlying9 0 c
  ·exact run_str Tryz.underlying63 Tryz.underlying5 Tryz.underlying9 a [] c (fun j hj => absurd hj (Nat.not_lt_zero _))
 ·obtain ⟨b, e, -, hc⟩ := RowAt.cells h (by omega)
  cases e
  have := run_str (w := w) Tryz.underlying63 Tryz.underlying5 Tryz.underlying9 ⟨b, 0, none⟩ (l.map fun b => (b.toNat : Int)) c (fun j hj => by
   rw [List.length_map] at hj;obtain ⟨x, hx⟩ : ∃ x, l[j]? = some x := ⟨_, List.getElem?_eq_getElem hj⟩;rw [addr0, hc j (byteV x) (by rw [List.getElem?_map, hx]; rfl), List.getD_eq_getElem?_getD, List.getElem?_map, hx];rfl)
  rw [List.length_map] at this;exact this
def insV (x : Ins) : List Value := [.int .i64 x.op, .int .i64 x.a, .int .i64 x.b, .int .i64 x.c, .int .i32 x.imm]
theorem one_line {W : World} {b : Nat} {x : Ins} (h : Blk W b (lineV (insL x)).toArray 28) : LinesIn W (.slice (some ⟨b, 0, none⟩) 1 1) [insL x] :=
 ⟨_, 1, rfl, Nat.le_refl _, by unfold maxLen; decide, .inr ⟨b, _, _, rfl, h, fun j u hj => by simpa using hj⟩⟩
theorem done_fault (i y : Nat) (hi : i < 6) (hy : y < 8) (hn : ¬ (i = 3 /\ y = 7)) : ∃ r, ((i = 4 /\ r = none) \/ (i ≠ 4 /\ ∃ K o6 o3, r = some K /\ K.obj 6 = some o6 /\ o6.kind = 3 /\ o6.th.fault = faultW i /\ o6.th.state = 0 /\ K.obj 3 = some o3 /\ o3.kind = 2 /\ o3.pages = 2 /\ (List.range 128).map o3.data = labelsB.map fun b => (b.toNat : Int))) /\
  ∀ (W : World) (b : Nat), Blk W b (lineV (insL (faultI i y))).toArray 28 -> Calls Tryz.prog 8 #[.slice (some ⟨b, 0, none⟩) 1 1, .agg #[.int .i64 1, .slice none 0 0]] W fun e w' => Below W.heap.size W w' /\ DoneP W r e w' := by
 obtain ⟨K0, r, h1, h2, h3, h4, h5⟩ := fault_all i y hi hy hn
 have hp : (⟨[insL (faultI i y)] ++ [haltL], ⟨1, []⟩, 0⟩ : PV).plain = ⟨[insL (faultI i y), haltL], labOne, 0⟩ := by
  have : (⟨[insL (faultI i y)] ++ [haltL], ⟨1, []⟩, 0⟩ : PV).lab = labOne := by rw [PV.lab_eq]; split <;> rfl
  unfold PV.plain;rw [this]; rfl
 refine ⟨r, h5, fun W b hB => ?_⟩;exact done_any b 1 [insL (faultI i y)] 1 (.slice none 0 0) [] K0 r W (one_line hB) (by show 0 < 1; decide) (by show 1 <= 90; decide) (fun l hl => by rw [List.mem_singleton.1 hl]; exact fault_line_ok i y hi hy) ⟨none, 0, rfl, Nat.le_refl _, Nat.zero_le _, .inl rfl⟩ (fun n hn => by cases hn) (by rw [hp]; exact h1) h2 h3 h4
def faultsA (y : Nat) : Array Value := #[.int .i64 19, .int .i64 1, .int .i64 15, .int .i64 0, .int .i32 ((y : Int) * 8 + 8192), .int .i64 22, .int .i64 1, .int .i64 15, .int .i64 0, .int .i32 0, .int .i64 7, .int .i64 1, .int .i64 2, .int .i64 3, .int .i32 0, .int .i64 19, .int .i64 1, .int .i64 15, .int .i64 0, .int .i32 ((y : Int) + 1), .int .i64 30, .int .i64 14, .int .i64 0, .int .i64 0, .int .i32 0, .int .i64 29, .int .i64 14, .int .i64 0, .int .i64 0, .int .i32 1000]
def wantsA : Array Value := #[.int .i64 3, .int .i64 3, .int .i64 5, .int .i64 6, .int .i64 0, .int .i64 3]
structure FaultEnd (W : World) (i kb : Nat) (lo : Nat) (K : Km) (g : Gh) (o6 o3 : Ob) (w' : World) : Prop where
 wk : WorkK W lo kb K g w'
 e6 : K.obj 6 = some o6
 k6 : o6.kind = 3
 f6 : o6.th.fault = faultW i
 s6 : o6.th.state = 0
 e3 : K.obj 3 = some o3
 k3 : o3.kind = 2
 p3 : o3.pages = 2
 d3 : (List.range 128).map o3.data = labelsB.map fun b => (b.toNat : Int)
 nc : 0 < K.nc
theorem fa_obj_13 (b : Nat) (w : World) : (Instr.fieldAt 68 (.pointer (some ⟨b, 0, none⟩)) 13).run Tryz.prog w = .ok (.pointer (some ⟨b, 19, none⟩)) w := by go_simp; try rfl
theorem fa_obj_10 (b : Nat) (w : World) : (Instr.fieldAt 68 (.pointer (some ⟨b, 0, none⟩)) 10).run Tryz.prog w = .ok (.pointer (some ⟨b, 16, none⟩)) w := by go_simp; try rfl
theorem fa_thr_8 (b : Nat) (w : World) : (Instr.fieldAt 52 (.pointer (some ⟨b, 0, none⟩)) 8).run Tryz.prog w = .ok (.pointer (some ⟨b, 25, none⟩)) w := by go_simp; try rfl
theorem fa_thr_3 (b : Nat) (w : World) : (Instr.fieldAt 52 (.pointer (some ⟨b, 0, none⟩)) 3).run Tryz.prog w = .ok (.pointer (some ⟨b, 20, none⟩)) w := by go_simp; try rfl
theorem fa_ker_0 (b : Nat) (w : World) : (Instr.fieldAt 88 (.pointer (some ⟨b, 0, none⟩)) 0).run Tryz.prog w = .ok (.pointer (some ⟨b, 0, none⟩)) w := by go_simp; try rfl
theorem ld_th {w : World} {q : Addr} {x : Addr} (h : w.cell? q = some (.pointer (some x))) : (Instr.loadAt 62 (.pointer (some q))).run Tryz.prog w = .ok (.pointer (some x)) w := by go_simp; try rfl
theorem ld_tb {w : World} {q : Addr} {x : Addr} (h : w.cell? q = some (.pointer (some x))) : (Instr.loadAt 84 (.pointer (some q))).run Tryz.prog w = .ok (.pointer (some x)) w := by go_simp; try rfl
theorem ld_int {w : World} {q : Addr} {x : Int} (h : w.cell? q = some (.int .i64 x)) : (Instr.loadAt 3 (.pointer (some q))).run Tryz.prog w = .ok (.int .i64 x) w := by go_simp; try rfl
theorem at6 (b i : Nat) (hi : i < 6) (w : World) : (Instr.indexAt 34 (.slice (some ⟨b, 0, none⟩) 6 6) (.int .i64 i)).run Tryz.prog w = .ok (.pointer (some ⟨b, i, none⟩)) w := by
 have h1 : (i : Int) < 6 := by omega
 go_simp; try rfl
theorem neq_ptr (q : Addr) (w : World) : (binOp .neq 31 (.pointer (some q)) (.pointer none)).run Tryz.prog w = .ok (.bool true) w := by kernel_rfl
theorem eq_int (x : Int) (w : World) : (binOp .eql 3 (.int .i64 x) (.int .i64 x)).run Tryz.prog w = .ok (.bool true) w := by go_simp; try rfl
theorem eq_str (x : ByteArray) (w : World) : (binOp .eql 9 (.string x) (.string x)).run Tryz.prog w = .ok (.bool true) w := by go_simp; try rfl
structure FaultR (wc : World) (str : ByteArray) (b35 b37 : Option Bool) (v92 v94 : Value) (wx : World) : Prop where
 bel : Below wc.heap.size wc wx
 g35 : b35 = some true -> ∃ ra rc, v92 = .slice ra 128 rc /\ ∀ W, Below wx.heap.size wx W -> (convert 63 9 (.slice ra 128 rc)).run Tryz.prog W = .ok (.string str) W
 g37 : b37 = some true -> ∃ ra rc, v94 = .slice ra 128 rc /\ ∀ W, Below wx.heap.size wx W -> (convert 63 9 (.slice ra 128 rc)).run Tryz.prog W = .ok (.string str) W
theorem faults_walk (how x : Int) (w : World) : Calls Tryz.prog 5 #[.int .i64 how, .int .i32 x] w fun e w' => e = .returned (.bool true) /\ Below w.heap.size w w' := by
 obtain ⟨y, hy⟩ : ∃ y : Nat, x % 8 = (y : Int) := ⟨(x % 8).toNat, by omega⟩;have hy8 : y < 8 := by omega
 have hb1 : bits .and .i32 x 7 = (y : Int) := by rw [and7_i32, hy]
 have hw1 : IntKind.i32.wrap ((y : Int) * 8) = (y : Int) * 8 := wrap_i32 (by omega);have hw2 : IntKind.i32.wrap ((y : Int) * 8 + 8192) = (y : Int) * 8 + 8192 := wrap_i32 (by omega);have hw3 : IntKind.i32.wrap ((y : Int) + 1) = (y : Int) + 1 := wrap_i32 (by omega);have hr1 := tmod_bd how 6 (by omega);have hw4 : IntKind.i64.wrap (how.tmod 6 + 6) = how.tmod 6 + 6 := IntWalk.i64_in _ (by omega)
 obtain ⟨i, hi⟩ : ∃ i : Nat, (how.tmod 6 + 6).tmod 6 = (i : Int) := ⟨((how.tmod 6 + 6).tmod 6).toNat, by
  have : 0 <= (how.tmod 6 + 6).tmod 6 := Int.tmod_nonneg _ (by omega)
  omega⟩
 have hi6 : i < 6 := by
  have := (tmod_bd (how.tmod 6 + 6) 6 (by omega)).2;omega
 have HFit := Lib.hid (fit22_any w);clear hy hr1;go_enter Tryz.func5, Tryz.ntmps5
 go_wp2_with fail
 refine HFit.out.mono ?_;rintro e w1 ⟨rfl, hb1'⟩;have HB1 := Lib.hid hb1';clear hb1' HFit;go_upto_region 6 with fail
 obtain ⟨w2, hw2⟩ : ∃ w2, w2 = (w1.alloc (.cells (faultsA y) 26)).alloc (.cells wantsA 3) := ⟨_, rfl⟩;have hBI : Blk w2 w1.heap.size (faultsA y) 26 := by rw [hw2]; exact (Blk.new _ _ _).alloc _
 have hBW : Blk w2 (w1.heap.size + 1) wantsA 3 := by rw [hw2]; exact blk_new2 _ _ _ _
 have hb2 : Below w.heap.size w w2 := by rw [hw2]; exact (HB1.out.alloc HB1.out.size _).alloc (by rw [World.size_alloc]; have := HB1.out.size; omega) _
 unfold faultsA wantsA at hw2;rw [<- hw2];obtain ⟨ib, hib⟩ : ∃ ib, ib = w1.heap.size := ⟨_, rfl⟩;rw [<- hib] at hBI hBW;rw [<- hib];have HB2 := Lib.hid hb2;clear hw2 hb2 hib HB1;obtain ⟨X, hX⟩ : ∃ X, faultI i y = X := ⟨_, rfl⟩
 have hc5 : ∀ k, k < 5 -> w2.cell? ⟨ib, i * 5 + k, none⟩ = (insV X)[k]? := fun k hk => by
  rw [hBI.cell, <- hX];have hk5 : k = 0 \/ k = 1 \/ k = 2 \/ k = 3 \/ k = 4 := by omega
  obtain rfl | rfl | rfl | rfl | rfl | rfl : i = 0 \/ i = 1 \/ i = 2 \/ i = 3 \/ i = 4 \/ i = 5 := by omega
  all_goals (rcases hk5 with rfl | rfl | rfl | rfl | rfl <;> rfl)
 have x0 : w2.cell? ⟨ib, i * 5, none⟩ = some (.int .i64 X.op) := hc5 0 (by omega);have x1 : w2.cell? ⟨ib, i * 5 + 1, none⟩ = some (.int .i64 X.a) := hc5 1 (by omega);have x2 : w2.cell? ⟨ib, i * 5 + 2, none⟩ = some (.int .i64 X.b) := hc5 2 (by omega);have x3 : w2.cell? ⟨ib, i * 5 + 3, none⟩ = some (.int .i64 X.c) := hc5 3 (by omega);have x4 : w2.cell? ⟨ib, i * 5 + 4, none⟩ = some (.int .i32 X.imm) := hc5 4 (by omega)
 have xw : w2.cell? ⟨ib + 1, i, none⟩ = some (.int .i64 (faultW i)) := by
  rw [hBW.cell];obtain rfl | rfl | rfl | rfl | rfl | rfl : i = 0 \/ i = 1 \/ i = 2 \/ i = 3 \/ i = 4 \/ i = 5 := by omega
  all_goals rfl
 have hlw := hBW.lt;have HXW := Lib.hid xw;clear hBI hBW hc5 xw;have hi6' : (i : Int) < 6 := by omega
 by_cases hn : i = 3 /\ y = 7
 ·obtain ⟨rfl, rfl⟩ := hn
  go_wp2_with fail
  go_ret;exact ⟨rfl, HB2.out⟩
 ·obtain ⟨r, hr, hd⟩ := done_fault i y hi6 hy8 hn
  rw [hX] at hd;have HR := Lib.hid hr;have HD : Hid (Calls Tryz.prog 8 #[.slice (some ⟨w2.heap.size, 0, none⟩) 1 1, .agg #[.int .i64 1, .slice none 0 0]] (w2.alloc (.cells #[.int .i64 0, .int .i32 0, .int .i32 0, .int .i32 0, .int .i32 0, .int .i32 0, .int .i64 X.op, .int .i64 X.a, .int .i64 X.b, .int .i64 X.c, .int .i32 X.imm] 28)) fun e w' => Below (w2.alloc (.cells (lineV (insL X)).toArray 28)).heap.size (w2.alloc (.cells (lineV (insL X)).toArray 28)) w' /\ DoneP (w2.alloc (.cells (lineV (insL X)).toArray 28)) r e w') := Lib.hid (hd _ _ (Blk.new _ _ _));clear hr hd hX;go_cut [37] (fun v37 wx => v37 = .bool false /\ w2 = wx)
  case first =>
   by_cases h3 : i = 3
   ·have hb3 : ((i : Int) == 3) = true := by simp; omega
    have hb7 : ((y : Int) == 7) = false := by
     have : ¬ y = 7 := fun e => hn ⟨h3, e⟩
     simp only [beq_eq_false_iff_ne, ne_eq]; omega
    clear HD HR h3 hn;go_wp2_with fail
    go_meet;exact ⟨rfl, rfl⟩
   ·have hb3 : ((i : Int) == 3) = false := by simp only [beq_eq_false_iff_ne, ne_eq]; omega
    clear HD HR h3 hn;go_wp2_with fail
    go_meet;exact ⟨rfl, rfl⟩
  case rest =>
  obtain ⟨rfl, hwc⟩ := hcut;subst hwc;go_upto_region 8 with fail
  go_cut [8, 9] (fun v8 v9 wx => (i = 4 /\ v8 = .pointer none /\ v9 = .pointer none /\ Hid (Below w.heap.size w wx)) \/ (i ≠ 4 /\ ∃ kb lo K g o6 o3, v8 = .pointer (some ⟨kb, 0, none⟩) /\ v9 = .pointer (some ⟨g.bl 6, 0, none⟩) /\ Hid (FaultEnd w i kb lo K g o6 o3 wx) /\ Hid (wx.cell? ⟨ib + 1, i, none⟩ = some (.int .i64 (faultW i)))))
  case first =>
   go_wp2_with fail
   refine HD.out.mono ?_;rintro e w3 ⟨hb3, hP⟩;have hba : Below w.heap.size w (w2.alloc (.cells (lineV (insL X)).toArray 28)) := HB2.out.alloc HB2.out.size _;have hbb := bel_from hba hb3;obtain ⟨h4, rfl⟩ | ⟨h4, K, o6, o3, rfl, hE⟩ := HR.out
   ·have he : e = .returned (.tuple #[.pointer none, .pointer none]) := hP
    subst he;have HBB := Lib.hid hbb;have H4 := Lib.hid h4;clear hP hba hb3 hbb HD HR x0 x1 x2 x3 x4 h4;go_wp2_with fail
    go_meet;exact .inl ⟨H4.out, rfl, rfl, HBB⟩
   ·obtain ⟨kb, g, he, lo, hW, -, hnc⟩ := hP
    have hob : obP g K.obj 6 = .pointer (some ⟨g.bl 6, 0, none⟩) := obP_some hE.1;rw [hob] at he;subst he;have HW : Hid (FaultEnd w i kb lo K g o6 o3 w3) := Lib.hid ⟨⟨hbb, Nat.le_trans hba.size hW.le0, hW.kin, hW.inv, hW.kb, hW.free, hW.le⟩, hE.1, hE.2.1, hE.2.2.1, hE.2.2.2.1, hE.2.2.2.2.1, hE.2.2.2.2.2.1, hE.2.2.2.2.2.2.1, hE.2.2.2.2.2.2.2, by rw [hnc]; decide⟩
    have HC : Hid (w3.cell? ⟨ib + 1, i, none⟩ = some (.int .i64 (faultW i))) := Lib.hid (by
     have h1 : w3.cell? ⟨ib + 1, i, none⟩ = (w2.alloc (.cells (lineV (insL X)).toArray 28)).cell? ⟨ib + 1, i, none⟩ := hb3.cell (p := ⟨ib + 1, i, none⟩) (by rw [World.size_alloc]; show ib + 1 < _; omega);rw [h1, (((Below.refl w2.heap.size w2).alloc (Nat.le_refl _) (.cells (lineV (insL X)).toArray 28)).cell (p := ⟨ib + 1, i, none⟩) hlw)];exact HXW.out)
    clear hW hE hba hb3 hbb HD HR x0 x1 x2 x3 x4 hob;go_wp2_with fail
    go_meet;exact .inr ⟨h4, kb, lo, K, g, o6, o3, rfl, rfl, HW, HC⟩
  case rest =>
   clear HD HR x0 x1 x2 x3 x4 HXW hlw;rcases hcut with ⟨rfl, rfl, rfl, HBB⟩ | ⟨h4, kb, lo, K, g, o6, o3, rfl, rfl, HE, HC⟩
   ·go_wp2_with fail
    go_ret;exact ⟨rfl, HBB.out⟩
   ·have hb4 : ((i : Int) == 4) = false := by simp only [beq_eq_false_iff_ne, ne_eq]; omega
    obtain ⟨hE⟩ : Nonempty (FaultEnd w i kb lo K g o6 o3 wc) := ⟨HE.out⟩;have hO6 := hE.wk.kin.objs 6 o6 hE.e6;have hO3 := hE.wk.kin.objs 3 o3 hE.e3;obtain ⟨y19, y20, -⟩ := th_told hO6.2 hE.k6;have y25 := th_fault hO6.2 hE.k6;rw [hO6.1] at y19 y20 y25;rw [hE.s6] at y20;rw [hE.f6] at y25
    have k0 : wc.cell? ⟨kb, 0, none⟩ = some (.pointer (some ⟨g.tb, 0, none⟩)) := by
     obtain ⟨cv, s', dv, -, hB, -, -⟩ := hE.wk.kin.kern.ex;have := hB.cell 0;rw [hE.wk.kb] at this;exact this.trans rfl
    obtain ⟨str, hstr⟩ : ∃ str, bs (labelsB.map fun b => (b.toNat : Int)) = str := ⟨_, rfl⟩
    have HGt : Hid (∀ wx, Below wc.heap.size wc wx -> Calls Tryz.prog 15 #[.pointer (some ⟨g.tb, 0, none⟩), .int .u64 3] wx fun e w' => ∃ v, e = .returned v /\ (v = .pointer (some ⟨g.bl 3, 0, none⟩) /\ wx = w')) := Lib.hid (fun wx hb => by
     have := get_any wx g K.obj 3 (hE.wk.kin.below hb).tab;rw [obP_some hE.e3] at this;exact this.mono (fun e w' q => ⟨_, q.1, rfl, q.2⟩))
    have HCn : Hid (∀ wx, Below wc.heap.size wc wx -> Calls Tryz.prog 14 #[.pointer (some ⟨kb, 0, none⟩), .pointer (some ⟨g.bl 3, 16, none⟩)] wx fun e w' => ∃ v, e = .returned v /\ ((∃ ra rc, v = .slice ra 128 rc /\ ∀ W, Below w'.heap.size w' W -> (convert 63 9 (.slice ra 128 rc)).run Tryz.prog W = .ok (.string str) W) /\ Below wx.heap.size wx w')) := Lib.hid (fun wx hb => by
     have := content_any wx g K o3 (hE.wk.kin.below hb) hE.wk.inv (by rw [hO3.1]; exact hE.e3) hE.k3 hE.nc;rw [hO3.1, hE.wk.kb] at this;refine this.mono ?_;rintro e w' ⟨rv, rfl, h1, h2⟩;rw [hE.p3] at h1;obtain ⟨ra, rc, rfl, -, -⟩ := RowAt.form (RowAt.own h1);refine ⟨_, rfl, ⟨ra, rc, rfl, fun W hW => ?_⟩, h2⟩;have h3 : W.ownsRow wx.heap.size 5 1 (.slice ra 128 rc) 128 ((List.range 128).map fun j => Value.int .u8 (o3.data j)) := row_kept h1 (Kept.of_below hW) (fun _ _ q => q) (T := fun _ => False);have h4 := run_str_own (P := Tryz.prog) (l := (List.range 128).map o3.data) Tryz.underlying63 Tryz.underlying5 Tryz.underlying9 (base := wx.heap.size) (E := 5) (w := W) (v := .slice ra 128 rc) (by rw [List.length_map, List.length_range]; unfold bytesV; rw [List.map_map]; exact h3);rw [hE.d3, hstr] at h4;exact h4)
    have HLb : Hid (∀ W, Calls Tryz.prog 16 #[] W fun e w' => ∃ v, e = .returned v /\ ((∃ ra rc, v = .slice ra 128 rc /\ ∀ W', Below w'.heap.size w' W' -> (convert 63 9 (.slice ra 128 rc)).run Tryz.prog W' = .ok (.string str) W') /\ Below W.heap.size W w')) := Lib.hid (fun W => by
     refine (labels_any W).mono ?_;rintro e w' ⟨v, rfl, h1, h2⟩;obtain ⟨ra, rc, rfl, -, -⟩ := RowAt.form h1;refine ⟨_, rfl, ⟨ra, rc, rfl, fun W' hb => ?_⟩, h2⟩;have h3 := str_bytes (RowAt.below h1 hb (Nat.le_refl _));rw [hstr] at h3;exact h3)
    have HBw := Lib.hid hE.wk.bel;clear hE hO6 hO3 hstr HE;go_upto_region 11 with fail
    refine wp_region_rinv (by kernel_rfl) (by kernel_rfl) (by kernel_rfl)
     (fun k_ v => match k_ with | 0 => v = (.pointer (some ⟨g.bl 6, 0, none⟩)) | 1 => v = .bool true | 2 => v = (.bool true) | 3 => v = (.pointer (some ⟨g.bl 6, 0, none⟩)) | 4 => v = .pointer (some ⟨g.bl 6, 0, none⟩) | 5 => v = .pointer (some ⟨g.bl 6, 19, none⟩) | 6 => v = .pointer (some ⟨g.tl 6, 0, none⟩) | 7 => v = .pointer (some ⟨g.tl 6, 0, none⟩) | 8 => v = .pointer (some ⟨g.tl 6, 25, none⟩) | 9 => v = .int .i64 (faultW i) | 10 => v = (.slice (some ⟨ib + 1, 0, none⟩) 6 6) | 11 => v = (.int .i64 i) | 12 => v = .pointer (some ⟨ib + 1, i, none⟩) | 13 => v = .int .i64 (faultW i) | 14 => v = .bool true | 15 => v = (.bool true) | 16 => v = (.bool true) | 17 => v = (.pointer (some ⟨g.bl 6, 0, none⟩)) | 18 => v = .pointer (some ⟨g.bl 6, 0, none⟩) | 19 => v = .pointer (some ⟨g.bl 6, 19, none⟩) | 20 => v = .pointer (some ⟨g.tl 6, 0, none⟩) | 21 => v = .pointer (some ⟨g.tl 6, 0, none⟩) | 22 => v = .pointer (some ⟨g.tl 6, 20, none⟩) | 23 => v = .int .i64 0 | 24 => v = .bool true | 25 => v = (.bool true) | 26 => v = (.bool true) | 27 => v = (.pointer (some ⟨kb, 0, none⟩)) | 28 => v = (.pointer (some ⟨kb, 0, none⟩)) | 29 => v = .pointer (some ⟨kb, 0, none⟩) | 30 => v = .pointer (some ⟨kb, 0, none⟩) | 31 => v = .pointer (some ⟨g.tb, 0, none⟩) | 32 => v = .pointer (some ⟨g.bl 3, 0, none⟩) | 33 => v = .pointer (some ⟨g.bl 3, 0, none⟩) | 34 => v = .pointer (some ⟨g.bl 3, 16, none⟩) | 36 => v = .string str | 38 => v = .string str | 39 => v = .bool true | 40 => v = (.bool true) | 41 => v = (.bool true) | _ => True)
     (fun l a wx => FaultR wc str l[35]? l[37]? (a.tmps.getD 92 undef) (a.tmps.getD 94 undef) wx) ?_ ?_ ?_
    ·exact ⟨(Below.refl _ wc).drew, fun h => by simp at h, fun h => by simp at h⟩
    ·intro hu i_ l a wx hi hl hli hd hcl hR hW
     have hi27 : i_ = 0 \/ i_ = 1 \/ i_ = 2 \/ i_ = 3 \/ i_ = 4 \/ i_ = 5 \/ i_ = 6 \/ i_ = 7 \/ i_ = 8 \/ i_ = 9 \/ i_ = 10 \/ i_ = 11 \/ i_ = 12 \/ i_ = 13 \/ i_ = 14 \/ i_ = 15 \/ i_ = 16 \/ i_ = 17 \/ i_ = 18 \/ i_ = 19 \/ i_ = 20 \/ i_ = 21 \/ i_ = 22 \/ i_ = 23 \/ i_ = 24 \/ i_ = 25 \/ i_ = 26 \/ i_ = 27 \/ i_ = 28 \/ i_ = 29 \/ i_ = 30 \/ i_ = 31 \/ i_ = 32 \/ i_ = 33 \/ i_ = 34 \/ i_ = 35 \/ i_ = 36 \/ i_ = 37 \/ i_ = 38 \/ i_ = 39 \/ i_ = 40 \/ i_ = 41 := by have : i_ < 42 := hi; omega
     rcases hi27 with rfl | rfl | rfl | rfl | rfl | rfl | rfl | rfl | rfl | rfl | rfl | rfl | rfl | rfl | rfl | rfl | rfl | rfl | rfl | rfl | rfl | rfl | rfl | rfl | rfl | rfl | rfl | rfl | rfl | rfl | rfl | rfl | rfl | rfl | rfl | rfl | rfl | rfl | rfl | rfl | rfl | rfl
     ·
      refine wpOp_val rfl (d := 57) rfl (wanted_plain rfl _) (ex_move (hR.was 9 rfl)) ⟨hR.put hu (by rw [hl]; decide) (d := 57) rfl (of_decide_eq_true rfl) rfl, ?_⟩;simpa only [set_other, put_other, ne_eq, not_false_eq_true, Nat.reduceEqDiff] using hW
     ·
      refine wpOp_val rfl (d := 58) rfl (wanted_plain rfl _) (ex_bin (hR.slot 0 57 (hd 0 rfl) rfl) rfl (fun w => by simp [eqGuard]) (neq_ptr _ _)) ⟨hR.put hu (by rw [hl]; decide) (d := 58) rfl (of_decide_eq_true rfl) rfl, ?_⟩;simpa only [set_other, put_other, ne_eq, not_false_eq_true, Nat.reduceEqDiff] using hW
     ·
      refine wpOp_val rfl (d := 59) rfl (wanted_plain rfl _) (ex_move (hR.slot 1 58 (hd 1 rfl) rfl)) ⟨hR.put hu (by rw [hl]; decide) (d := 59) rfl (of_decide_eq_true rfl) rfl, ?_⟩;simpa only [set_other, put_other, ne_eq, not_false_eq_true, Nat.reduceEqDiff] using hW
     ·
      refine wpOp_val rfl (d := 60) rfl ((wanted_slot rfl (d := 59) rfl (hR.slot 2 59 (hd 2 rfl) rfl)).trans rfl) (ex_move (hR.was 9 rfl)) ⟨hR.put hu (by rw [hl]; decide) (d := 60) rfl (of_decide_eq_true rfl) rfl, ?_⟩;simpa only [set_other, put_other, ne_eq, not_false_eq_true, Nat.reduceEqDiff] using hW
     ·
      refine wpOp_val rfl (d := 61) rfl ((wanted_slot rfl (d := 59) rfl (hR.slot 2 59 (hd 2 rfl) rfl)).trans rfl) (ex_nilCheck (hR.slot 3 60 (hd 3 rfl) rfl) rfl) ⟨hR.put hu (by rw [hl]; decide) (d := 61) rfl (of_decide_eq_true rfl) rfl, ?_⟩;simpa only [set_other, put_other, ne_eq, not_false_eq_true, Nat.reduceEqDiff] using hW
     ·
      refine wpOp_val rfl (d := 62) rfl ((wanted_slot rfl (d := 59) rfl (hR.slot 2 59 (hd 2 rfl) rfl)).trans rfl) (ex_fieldAddr (hR.slot 4 61 (hd 4 rfl) rfl) (fa_obj_13 _ _)) ⟨hR.put hu (by rw [hl]; decide) (d := 62) rfl (of_decide_eq_true rfl) rfl, ?_⟩;simpa only [set_other, put_other, ne_eq, not_false_eq_true, Nat.reduceEqDiff] using hW
     ·
      refine wpOp_val rfl (d := 63) rfl ((wanted_slot rfl (d := 59) rfl (hR.slot 2 59 (hd 2 rfl) rfl)).trans rfl) (ex_load (hR.slot 5 62 (hd 5 rfl) rfl) (ld_th ((hW.bel.cell (World.block_lt_of_cell? wc _ y19)).trans y19))) ⟨hR.put hu (by rw [hl]; decide) (d := 63) rfl (of_decide_eq_true rfl) rfl, ?_⟩;simpa only [set_other, put_other, ne_eq, not_false_eq_true, Nat.reduceEqDiff] using hW
     ·
      refine wpOp_val rfl (d := 64) rfl ((wanted_slot rfl (d := 59) rfl (hR.slot 2 59 (hd 2 rfl) rfl)).trans rfl) (ex_nilCheck (hR.slot 6 63 (hd 6 rfl) rfl) rfl) ⟨hR.put hu (by rw [hl]; decide) (d := 64) rfl (of_decide_eq_true rfl) rfl, ?_⟩;simpa only [set_other, put_other, ne_eq, not_false_eq_true, Nat.reduceEqDiff] using hW
     ·
      refine wpOp_val rfl (d := 65) rfl ((wanted_slot rfl (d := 59) rfl (hR.slot 2 59 (hd 2 rfl) rfl)).trans rfl) (ex_fieldAddr (hR.slot 7 64 (hd 7 rfl) rfl) (fa_thr_8 _ _)) ⟨hR.put hu (by rw [hl]; decide) (d := 65) rfl (of_decide_eq_true rfl) rfl, ?_⟩;simpa only [set_other, put_other, ne_eq, not_false_eq_true, Nat.reduceEqDiff] using hW
     ·
      refine wpOp_val rfl (d := 66) rfl ((wanted_slot rfl (d := 59) rfl (hR.slot 2 59 (hd 2 rfl) rfl)).trans rfl) (ex_load (hR.slot 8 65 (hd 8 rfl) rfl) (ld_int ((hW.bel.cell (World.block_lt_of_cell? wc _ y25)).trans y25))) ⟨hR.put hu (by rw [hl]; decide) (d := 66) rfl (of_decide_eq_true rfl) rfl, ?_⟩;simpa only [set_other, put_other, ne_eq, not_false_eq_true, Nat.reduceEqDiff] using hW
     ·
      refine wpOp_val rfl (d := 67) rfl ((wanted_slot rfl (d := 59) rfl (hR.slot 2 59 (hd 2 rfl) rfl)).trans rfl) (ex_move (hR.was 6 rfl)) ⟨hR.put hu (by rw [hl]; decide) (d := 67) rfl (of_decide_eq_true rfl) rfl, ?_⟩;simpa only [set_other, put_other, ne_eq, not_false_eq_true, Nat.reduceEqDiff] using hW
     ·
      refine wpOp_val rfl (d := 68) rfl ((wanted_slot rfl (d := 59) rfl (hR.slot 2 59 (hd 2 rfl) rfl)).trans rfl) (ex_move (hR.was 7 rfl)) ⟨hR.put hu (by rw [hl]; decide) (d := 68) rfl (of_decide_eq_true rfl) rfl, ?_⟩;simpa only [set_other, put_other, ne_eq, not_false_eq_true, Nat.reduceEqDiff] using hW
     ·
      refine wpOp_val rfl (d := 69) rfl ((wanted_slot rfl (d := 59) rfl (hR.slot 2 59 (hd 2 rfl) rfl)).trans rfl) (ex_indexAddr (hR.slot 10 67 (hd 10 rfl) rfl) (hR.slot 11 68 (hd 11 rfl) rfl) (at6 _ i hi6 _)) ⟨hR.put hu (by rw [hl]; decide) (d := 69) rfl (of_decide_eq_true rfl) rfl, ?_⟩;simpa only [set_other, put_other, ne_eq, not_false_eq_true, Nat.reduceEqDiff] using hW
     ·
      refine wpOp_val rfl (d := 70) rfl ((wanted_slot rfl (d := 59) rfl (hR.slot 2 59 (hd 2 rfl) rfl)).trans rfl) (ex_load (hR.slot 12 69 (hd 12 rfl) rfl) (ld_int ((hW.bel.cell (World.block_lt_of_cell? wc _ HC.out)).trans HC.out))) ⟨hR.put hu (by rw [hl]; decide) (d := 70) rfl (of_decide_eq_true rfl) rfl, ?_⟩;simpa only [set_other, put_other, ne_eq, not_false_eq_true, Nat.reduceEqDiff] using hW
     ·
      refine wpOp_val rfl (d := 71) rfl ((wanted_slot rfl (d := 59) rfl (hR.slot 2 59 (hd 2 rfl) rfl)).trans rfl) (ex_bin (hR.slot 9 66 (hd 9 rfl) rfl) (hR.slot 13 70 (hd 13 rfl) rfl) (fun w => by simp [eqGuard]) (eq_int _ _)) ⟨hR.put hu (by rw [hl]; decide) (d := 71) rfl (of_decide_eq_true rfl) rfl, ?_⟩;simpa only [set_other, put_other, ne_eq, not_false_eq_true, Nat.reduceEqDiff] using hW
     ·
      refine wpOp_val rfl (d := 72) rfl (wanted_plain rfl _) (ex_pick_true (hR.slot 2 59 (hd 2 rfl) rfl) (hR.slot 14 71 (hd 14 rfl) rfl)) ⟨hR.put hu (by rw [hl]; decide) (d := 72) rfl (of_decide_eq_true rfl) rfl, ?_⟩;simpa only [set_other, put_other, ne_eq, not_false_eq_true, Nat.reduceEqDiff] using hW
     ·
      refine wpOp_val rfl (d := 73) rfl (wanted_plain rfl _) (ex_move (hR.slot 15 72 (hd 15 rfl) rfl)) ⟨hR.put hu (by rw [hl]; decide) (d := 73) rfl (of_decide_eq_true rfl) rfl, ?_⟩;simpa only [set_other, put_other, ne_eq, not_false_eq_true, Nat.reduceEqDiff] using hW
     ·
      refine wpOp_val rfl (d := 74) rfl ((wanted_slot rfl (d := 73) rfl (hR.slot 16 73 (hd 16 rfl) rfl)).trans rfl) (ex_move (hR.was 9 rfl)) ⟨hR.put hu (by rw [hl]; decide) (d := 74) rfl (of_decide_eq_true rfl) rfl, ?_⟩;simpa only [set_other, put_other, ne_eq, not_false_eq_true, Nat.reduceEqDiff] using hW
     ·
      refine wpOp_val rfl (d := 75) rfl ((wanted_slot rfl (d := 73) rfl (hR.slot 16 73 (hd 16 rfl) rfl)).trans rfl) (ex_nilCheck (hR.slot 17 74 (hd 17 rfl) rfl) rfl) ⟨hR.put hu (by rw [hl]; decide) (d := 75) rfl (of_decide_eq_true rfl) rfl, ?_⟩;simpa only [set_other, put_other, ne_eq, not_false_eq_true, Nat.reduceEqDiff] using hW
     ·
      refine wpOp_val rfl (d := 76) rfl ((wanted_slot rfl (d := 73) rfl (hR.slot 16 73 (hd 16 rfl) rfl)).trans rfl) (ex_fieldAddr (hR.slot 18 75 (hd 18 rfl) rfl) (fa_obj_13 _ _)) ⟨hR.put hu (by rw [hl]; decide) (d := 76) rfl (of_decide_eq_true rfl) rfl, ?_⟩;simpa only [set_other, put_other, ne_eq, not_false_eq_true, Nat.reduceEqDiff] using hW
     ·
      refine wpOp_val rfl (d := 77) rfl ((wanted_slot rfl (d := 73) rfl (hR.slot 16 73 (hd 16 rfl) rfl)).trans rfl) (ex_load (hR.slot 19 76 (hd 19 rfl) rfl) (ld_th ((hW.bel.cell (World.block_lt_of_cell? wc _ y19)).trans y19))) ⟨hR.put hu (by rw [hl]; decide) (d := 77) rfl (of_decide_eq_true rfl) rfl, ?_⟩;simpa only [set_other, put_other, ne_eq, not_false_eq_true, Nat.reduceEqDiff] using hW
     ·
      refine wpOp_val rfl (d := 78) rfl ((wanted_slot rfl (d := 73) rfl (hR.slot 16 73 (hd 16 rfl) rfl)).trans rfl) (ex_nilCheck (hR.slot 20 77 (hd 20 rfl) rfl) rfl) ⟨hR.put hu (by rw [hl]; decide) (d := 78) rfl (of_decide_eq_true rfl) rfl, ?_⟩;simpa only [set_other, put_other, ne_eq, not_false_eq_true, Nat.reduceEqDiff] using hW
     ·
      refine wpOp_val rfl (d := 79) rfl ((wanted_slot rfl (d := 73) rfl (hR.slot 16 73 (hd 16 rfl) rfl)).trans rfl) (ex_fieldAddr (hR.slot 21 78 (hd 21 rfl) rfl) (fa_thr_3 _ _)) ⟨hR.put hu (by rw [hl]; decide) (d := 79) rfl (of_decide_eq_true rfl) rfl, ?_⟩;simpa only [set_other, put_other, ne_eq, not_false_eq_true, Nat.reduceEqDiff] using hW
     ·
      refine wpOp_val rfl (d := 80) rfl ((wanted_slot rfl (d := 73) rfl (hR.slot 16 73 (hd 16 rfl) rfl)).trans rfl) (ex_load (hR.slot 22 79 (hd 22 rfl) rfl) (ld_int ((hW.bel.cell (World.block_lt_of_cell? wc _ y20)).trans y20))) ⟨hR.put hu (by rw [hl]; decide) (d := 80) rfl (of_decide_eq_true rfl) rfl, ?_⟩;simpa only [set_other, put_other, ne_eq, not_false_eq_true, Nat.reduceEqDiff] using hW
     ·
      refine wpOp_val rfl (d := 81) rfl ((wanted_slot rfl (d := 73) rfl (hR.slot 16 73 (hd 16 rfl) rfl)).trans rfl) (ex_bin (hR.slot 23 80 (hd 23 rfl) rfl) rfl (fun w => by simp [eqGuard]) (eq_int _ _)) ⟨hR.put hu (by rw [hl]; decide) (d := 81) rfl (of_decide_eq_true rfl) rfl, ?_⟩;simpa only [set_other, put_other, ne_eq, not_false_eq_true, Nat.reduceEqDiff] using hW
     ·
      refine wpOp_val rfl (d := 82) rfl (wanted_plain rfl _) (ex_pick_true (hR.slot 16 73 (hd 16 rfl) rfl) (hR.slot 24 81 (hd 24 rfl) rfl)) ⟨hR.put hu (by rw [hl]; decide) (d := 82) rfl (of_decide_eq_true rfl) rfl, ?_⟩;simpa only [set_other, put_other, ne_eq, not_false_eq_true, Nat.reduceEqDiff] using hW
     ·
      refine wpOp_val rfl (d := 83) rfl (wanted_plain rfl _) (ex_move (hR.slot 25 82 (hd 25 rfl) rfl)) ⟨hR.put hu (by rw [hl]; decide) (d := 83) rfl (of_decide_eq_true rfl) rfl, ?_⟩;simpa only [set_other, put_other, ne_eq, not_false_eq_true, Nat.reduceEqDiff] using hW
     ·
      refine wpOp_val rfl (d := 84) rfl ((wanted_slot rfl (d := 83) rfl (hR.slot 26 83 (hd 26 rfl) rfl)).trans rfl) (ex_move (hR.was 8 rfl)) ⟨hR.put hu (by rw [hl]; decide) (d := 84) rfl (of_decide_eq_true rfl) rfl, ?_⟩;simpa only [set_other, put_other, ne_eq, not_false_eq_true, Nat.reduceEqDiff] using hW
     ·
      refine wpOp_val rfl (d := 85) rfl ((wanted_slot rfl (d := 83) rfl (hR.slot 26 83 (hd 26 rfl) rfl)).trans rfl) (ex_move (hR.was 8 rfl)) ⟨hR.put hu (by rw [hl]; decide) (d := 85) rfl (of_decide_eq_true rfl) rfl, ?_⟩;simpa only [set_other, put_other, ne_eq, not_false_eq_true, Nat.reduceEqDiff] using hW
     ·
      refine wpOp_val rfl (d := 86) rfl ((wanted_slot rfl (d := 83) rfl (hR.slot 26 83 (hd 26 rfl) rfl)).trans rfl) (ex_nilCheck (hR.slot 28 85 (hd 28 rfl) rfl) rfl) ⟨hR.put hu (by rw [hl]; decide) (d := 86) rfl (of_decide_eq_true rfl) rfl, ?_⟩;simpa only [set_other, put_other, ne_eq, not_false_eq_true, Nat.reduceEqDiff] using hW
     ·
      refine wpOp_val rfl (d := 87) rfl ((wanted_slot rfl (d := 83) rfl (hR.slot 26 83 (hd 26 rfl) rfl)).trans rfl) (ex_fieldAddr (hR.slot 29 86 (hd 29 rfl) rfl) (fa_ker_0 _ _)) ⟨hR.put hu (by rw [hl]; decide) (d := 87) rfl (of_decide_eq_true rfl) rfl, ?_⟩;simpa only [set_other, put_other, ne_eq, not_false_eq_true, Nat.reduceEqDiff] using hW
     ·
      refine wpOp_val rfl (d := 88) rfl ((wanted_slot rfl (d := 83) rfl (hR.slot 26 83 (hd 26 rfl) rfl)).trans rfl) (ex_load (hR.slot 30 87 (hd 30 rfl) rfl) (ld_tb ((hW.bel.cell (World.block_lt_of_cell? wc _ k0)).trans k0))) ⟨hR.put hu (by rw [hl]; decide) (d := 88) rfl (of_decide_eq_true rfl) rfl, ?_⟩;simpa only [set_other, put_other, ne_eq, not_false_eq_true, Nat.reduceEqDiff] using hW
     ·
      refine wpOp_call rfl (d := 89) rfl ((wanted_slot rfl (d := 83) rfl (hR.slot 26 83 (hd 26 rfl) rfl)).trans rfl) (ex_call (vs := #[(.pointer (some ⟨g.tb, 0, none⟩)), (.int .u64 3)]) (by rw [List.map_toArray]; simp only [List.map_cons, List.map_nil, show a.eval (.tmp 88) = (.pointer (some ⟨g.tb, 0, none⟩)) from (hR.slot 31 88 (hd 31 rfl) rfl), show a.eval (.const (.int .u64 3)) = (.int .u64 3) from rfl]) (enters_fn Tryz.func15 (by kernel_rfl) rfl)) (R := fun v w' => v = .pointer (some ⟨g.bl 3, 0, none⟩) /\ wx = w') (HGt.out wx hW.bel) ?_;rintro v w' ⟨rfl, rfl⟩;refine ⟨hR.put hu (by rw [hl]; decide) (d := 89) rfl (of_decide_eq_true rfl) rfl, ?_⟩;simpa only [set_other, put_other, ne_eq, not_false_eq_true, Nat.reduceEqDiff] using hW
     ·
      refine wpOp_val rfl (d := 90) rfl ((wanted_slot rfl (d := 83) rfl (hR.slot 26 83 (hd 26 rfl) rfl)).trans rfl) (ex_nilCheck (hR.slot 32 89 (hd 32 rfl) rfl) rfl) ⟨hR.put hu (by rw [hl]; decide) (d := 90) rfl (of_decide_eq_true rfl) rfl, ?_⟩;simpa only [set_other, put_other, ne_eq, not_false_eq_true, Nat.reduceEqDiff] using hW
     ·
      refine wpOp_val rfl (d := 91) rfl ((wanted_slot rfl (d := 83) rfl (hR.slot 26 83 (hd 26 rfl) rfl)).trans rfl) (ex_fieldAddr (hR.slot 33 90 (hd 33 rfl) rfl) (fa_obj_10 _ _)) ⟨hR.put hu (by rw [hl]; decide) (d := 91) rfl (of_decide_eq_true rfl) rfl, ?_⟩;simpa only [set_other, put_other, ne_eq, not_false_eq_true, Nat.reduceEqDiff] using hW
     ·
      have hno : ¬ (l[35]? = some true) := by rw [hli]; simp
      have hno37 : ¬ (l[37]? = some true) := fun h => hno (hcl.of 35 rfl h)
      refine wpOp_call rfl (d := 92) rfl ((wanted_slot rfl (d := 83) rfl (hR.slot 26 83 (hd 26 rfl) rfl)).trans rfl) (ex_call (vs := #[(.pointer (some ⟨kb, 0, none⟩)), (.pointer (some ⟨g.bl 3, 16, none⟩))]) (by rw [List.map_toArray]; simp only [List.map_cons, List.map_nil, show a.eval (.tmp 84) = (.pointer (some ⟨kb, 0, none⟩)) from (hR.slot 27 84 (hd 27 rfl) rfl), show a.eval (.tmp 91) = (.pointer (some ⟨g.bl 3, 16, none⟩)) from (hR.slot 34 91 (hd 34 rfl) rfl)]) (enters_fn Tryz.func14 (by kernel_rfl) rfl)) (R := fun v w' => (∃ ra rc, v = .slice ra 128 rc /\ ∀ W, Below w'.heap.size w' W -> (convert 63 9 (.slice ra 128 rc)).run Tryz.prog W = .ok (.string str) W) /\ Below wx.heap.size wx w') (HCn.out wx hW.bel) ?_;rintro v w' ⟨h1, h2⟩;refine ⟨hR.put hu (by rw [hl]; decide) (d := 92) rfl (of_decide_eq_true rfl) trivial, ?_⟩;simp only [set_other, put_other, ne_eq, not_false_eq_true, Nat.reduceEqDiff, set_self (show 35 < l.size by rw [hl]; decide), put_self (show 92 < a.tmps.size by rw [hR.size]; exact of_decide_eq_true rfl)];exact ⟨bel_from hW.bel h2, fun _ => h1, fun h => absurd h hno37⟩
     ·
      obtain ⟨ra, rc, e92, hcv⟩ := hW.g35 (hd 35 rfl);refine wpOp_val rfl (d := 93) rfl ((wanted_slot rfl (d := 83) rfl (hR.slot 26 83 (hd 26 rfl) rfl)).trans rfl) (ex_convert (show a.eval (.tmp 92) = _ from e92) (hcv wx (Below.refl _ wx))) ⟨hR.put hu (by rw [hl]; decide) (d := 93) rfl (of_decide_eq_true rfl) rfl, ?_⟩;simpa only [set_other, put_other, ne_eq, not_false_eq_true, Nat.reduceEqDiff] using hW
     ·
      refine wpOp_call rfl (d := 94) rfl ((wanted_slot rfl (d := 83) rfl (hR.slot 26 83 (hd 26 rfl) rfl)).trans rfl) (ex_call (vs := #[]) (by simp) (enters_fn Tryz.func16 (by kernel_rfl) rfl)) (R := fun v w' => (∃ ra rc, v = .slice ra 128 rc /\ ∀ W, Below w'.heap.size w' W -> (convert 63 9 (.slice ra 128 rc)).run Tryz.prog W = .ok (.string str) W) /\ Below wx.heap.size wx w') (HLb.out wx) ?_;rintro v w' ⟨h1, h2⟩;refine ⟨hR.put hu (by rw [hl]; decide) (d := 94) rfl (of_decide_eq_true rfl) trivial, ?_⟩;simp only [set_other, put_other, ne_eq, not_false_eq_true, Nat.reduceEqDiff, set_self (show 37 < l.size by rw [hl]; decide), put_self (show 94 < a.tmps.size by rw [hR.size]; exact of_decide_eq_true rfl)]
      exact ⟨bel_from hW.bel h2, fun h => by
       obtain ⟨ra, rc, e, hcv⟩ := hW.g35 h;exact ⟨ra, rc, e, fun W hb => hcv W (bel_from h2 hb)⟩, fun _ => h1⟩
     ·
      obtain ⟨ra, rc, e94, hcv⟩ := hW.g37 (hd 37 rfl);refine wpOp_val rfl (d := 95) rfl ((wanted_slot rfl (d := 83) rfl (hR.slot 26 83 (hd 26 rfl) rfl)).trans rfl) (ex_convert (show a.eval (.tmp 94) = _ from e94) (hcv wx (Below.refl _ wx))) ⟨hR.put hu (by rw [hl]; decide) (d := 95) rfl (of_decide_eq_true rfl) rfl, ?_⟩;simpa only [set_other, put_other, ne_eq, not_false_eq_true, Nat.reduceEqDiff] using hW
     ·
      refine wpOp_val rfl (d := 96) rfl ((wanted_slot rfl (d := 83) rfl (hR.slot 26 83 (hd 26 rfl) rfl)).trans rfl) (ex_bin (hR.slot 36 93 (hd 36 rfl) rfl) (hR.slot 38 95 (hd 38 rfl) rfl) (fun w => by simp [eqGuard]) (eq_str _ _)) ⟨hR.put hu (by rw [hl]; decide) (d := 96) rfl (of_decide_eq_true rfl) rfl, ?_⟩;simpa only [set_other, put_other, ne_eq, not_false_eq_true, Nat.reduceEqDiff] using hW
     ·
      refine wpOp_val rfl (d := 97) rfl (wanted_plain rfl _) (ex_pick_true (hR.slot 26 83 (hd 26 rfl) rfl) (hR.slot 39 96 (hd 39 rfl) rfl)) ⟨hR.put hu (by rw [hl]; decide) (d := 97) rfl (of_decide_eq_true rfl) rfl, ?_⟩;simpa only [set_other, put_other, ne_eq, not_false_eq_true, Nat.reduceEqDiff] using hW
     ·
      refine wpOp_val rfl (d := 4) rfl (wanted_plain rfl _) (ex_assign (hR.slot 40 97 (hd 40 rfl) rfl)) ⟨hR.put hu (by rw [hl]; decide) (d := 4) rfl (of_decide_eq_true rfl) rfl, ?_⟩;simpa only [set_other, put_other, ne_eq, not_false_eq_true, Nat.reduceEqDiff] using hW
    ·intro l a wx hl hR hW
     have e4 : a.tmps.getD 4 undef = .bool true := hR.slot 41 4 (hl 41 (of_decide_eq_true rfl)) rfl;rw [hR.fold [57, 58, 59, 60, 61, 62, 63, 64, 65, 66, 67, 68, 69, 70, 71, 72, 73, 74, 75, 76, 77, 78, 79, 80, 81, 82, 83, 84, 85, 86, 87, 88, 89, 90, 91, 92, 93, 94, 95, 96, 97, 4] (by kernel_rfl)];simp only [List.foldl, e4];have HWb := Lib.hid hW.bel;clear hR hW e4 hl;generalize a.tmps.getD 57 undef = u57;generalize a.tmps.getD 58 undef = u58;generalize a.tmps.getD 59 undef = u59;generalize a.tmps.getD 60 undef = u60;generalize a.tmps.getD 61 undef = u61;generalize a.tmps.getD 62 undef = u62;generalize a.tmps.getD 63 undef = u63;generalize a.tmps.getD 64 undef = u64;generalize a.tmps.getD 65 undef = u65;generalize a.tmps.getD 66 undef = u66;generalize a.tmps.getD 67 undef = u67;generalize a.tmps.getD 68 undef = u68;generalize a.tmps.getD 69 undef = u69;generalize a.tmps.getD 70 undef = u70;generalize a.tmps.getD 71 undef = u71;generalize a.tmps.getD 72 undef = u72;generalize a.tmps.getD 73 undef = u73;generalize a.tmps.getD 74 undef = u74;generalize a.tmps.getD 75 undef = u75;generalize a.tmps.getD 76 undef = u76;generalize a.tmps.getD 77 undef = u77;generalize a.tmps.getD 78 undef = u78;generalize a.tmps.getD 79 undef = u79;generalize a.tmps.getD 80 undef = u80;generalize a.tmps.getD 81 undef = u81;generalize a.tmps.getD 82 undef = u82;generalize a.tmps.getD 83 undef = u83;generalize a.tmps.getD 84 undef = u84;generalize a.tmps.getD 85 undef = u85
     generalize a.tmps.getD 86 undef = u86;generalize a.tmps.getD 87 undef = u87;generalize a.tmps.getD 88 undef = u88;generalize a.tmps.getD 89 undef = u89;generalize a.tmps.getD 90 undef = u90;generalize a.tmps.getD 91 undef = u91;generalize a.tmps.getD 92 undef = u92;generalize a.tmps.getD 93 undef = u93;generalize a.tmps.getD 94 undef = u94;generalize a.tmps.getD 95 undef = u95;generalize a.tmps.getD 96 undef = u96;generalize a.tmps.getD 97 undef = u97;simp only [List.setIfInBounds_toArray, List.set_cons_zero, List.set_cons_succ];go_wp2_with fail
     go_ret;exact ⟨rfl, HBw.out.trans (HWb.out.mono HBw.out.size)⟩
end Go.Proofs.YtiadbhiadhgjkaaGreatDoor
