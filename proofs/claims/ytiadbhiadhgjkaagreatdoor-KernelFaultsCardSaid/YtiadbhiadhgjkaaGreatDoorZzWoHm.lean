/- Of the proof of this claim: a joined text. -/
import Derived.Test.YtiadbhiadhgjkaaGreatDoorZzWoMr
import Derived.Test.YtiadbhiadhgjkaaGreatDoorZzFrB
import Derived.Test.YtiadbhiadhgjkaaGreatDoorZzWoE
import Derived.Laws.AppendOwnNone
set_option maxRecDepth 100000
set_option maxHeartbeats 4000000
namespace Go.Proofs.YtiadbhiadhgjkaaGreatDoor
open Go.RowKit
attribute [local irreducible] World.setCell World.alloc World.drew World.setRow Calls Code.wp
attribute [local go_sem] Oper.semAt_some
theorem results_ct {fn : Func} {t p : Tmp} {ty : TypeId} (h : fn.results = #[.cell p ty, .tmp t]) (tmps : Array Value) (w : World) (ad : Addr) (v : Value)
  (hp : tmps.getD p undef = .pointer (some ad)) (hL : (loadVar ty ad).run Tryz.prog w = .ok v w) :
  (results fn tmps).run Tryz.prog w = .ok (.tuple #[v, tmps.getD t undef]) w := by
 have hp' : tmps[p]?.getD undef = .pointer (some ad) := by simpa using hp
 simp [results, h, hp', asAddr, hL, Result.andThen]
theorem load_label (w : World) (lb : Nat) (cs : Array Value) (hs : cs.size = 2) (h : Blk w lb cs 43) : (loadVar 43 ⟨lb, 0, none⟩).run Tryz.prog w = .ok (.agg cs) w :=
 run_loadVar_row w lb 43 43 cs (0, 0) _ h Tryz.underlying43 rfl (by rw [hs]; kernel_rfl)
theorem ObjsIn.at {w : World} {a : Option Addr} {c : Nat} {os : List WObj} (h : ObjsIn w (.slice a os.length c) os) {k : Nat} {o : WObj} (hk : os[k]? = some o) :
  ∃ (b : Nat) (s : OSl), a = some ⟨b, 0, none⟩ /\ b < w.heap.size /\ ObjV w o s.ls s.lc s.vd s.vm /\ ∀ i, i < 12 -> w.cell? ⟨b, k * 12 + i, none⟩ = (objC o s.ls s.lc s.vd s.vm)[i]? := by
 obtain ⟨ss, h1, h2, h3⟩ := h;have hlt := (List.getElem?_eq_some_iff.1 hk).1;obtain ⟨s, hs⟩ : ∃ s, ss[k]? = some s := ⟨_, List.getElem?_eq_getElem (by omega)⟩;obtain ⟨b, rfl, hb, hc⟩ := RowAt.cells h3 (by omega);refine ⟨b, s, rfl, hb, h2 k o s hk hs, fun i hi => ?_⟩;have e := objsC_at os ss h1 k o s hk hs i hi;have hl : i < (objC o s.ls s.lc s.vd s.vm).length := hi;rw [List.getElem?_eq_getElem hl] at e ⊢;exact hc _ _ e
structure WObj.bd (o : WObj) : Prop where
 k : I64 o.kind
 p : I64 o.parent
 pg : I64 o.pages
 nm : I64 o.names
 sp : I64 o.space
 pc : I64 o.pc
 ms : ∀ m ∈ o.maps, m.bd
 lab : o.lab.d <= 1000 /\ o.lab.ps.length <= 1000 /\ ∀ q ∈ o.lab.ps, q.1 < 4294967296 /\ q.2 <= 1000
 clr : o.clr.d <= 1000 /\ o.clr.ps.length <= 1000 /\ ∀ q ∈ o.clr.ps, q.1 < 4294967296 /\ q.2 <= 1000
 ln : o.data.length <= 100000 /\ o.maps.length <= 100000
theorem segs_any (x y z : Int) (sv : Value) (oa : Option Addr) (n oc : Nat) (hn : n <= 100000) (ms : List WMap) (v : Value) (w : World) (h : MapsIn w v ms) (hb : ∀ m ∈ ms, m.bd) (hl : ms.length <= 100000) :
  Calls Tryz.prog 83 #[.agg #[.int .i64 x, .int .i64 y, .int .i64 z, sv, .slice oa n oc], v] w fun e w' => e = .returned (.bool (ms.all fun m => decide (m.seg <= (n : Int)))) /\ Below w.heap.size w w' := by
 obtain ⟨a, c, rfl, hc1, hc2⟩ := RowAt.form h;obtain ⟨wa, hwa⟩ : ∃ wa : World, wa = w.alloc (.cells #[.int .i64 x, .int .i64 y, .int .i64 z, sv, .slice oa n oc] 81) := ⟨_, rfl⟩;obtain ⟨xb, hxb⟩ : ∃ xb, xb = w.heap.size := ⟨_, rfl⟩;have HX : Hid (Blk wa xb #[.int .i64 x, .int .i64 y, .int .i64 z, sv, .slice oa n oc] 81) := by rw [hwa, hxb]; exact Blk.new _ _ _
 have HBa : Hid (Below w.heap.size w wa) := by rw [hwa]; exact (Below.refl _ w).alloc (Nat.le_refl _) _
 have HS := Lib.hid (fun w' (k : Below w.heap.size w w') => (RowAt.below h k (Nat.le_refl _) : MapsIn w' _ ms));have Hb := Lib.hid hb;have Hxb := Lib.hid hxb;have hw : IntKind.u64.wrap (n : Int) = n := IntWalk.u64_in _ (by omega);clear h hb;go_enter Tryz.func83, Tryz.ntmps83
 go_wp2_with fail
 rw [<- hwa, <- hxb];clear hwa hxb;go_loopg [6, 9] ms.length (fun g _ vi wx => ∃ k : Nat, k + g = ms.length /\ vi = .int .i64 k /\ Hid (Below w.heap.size w wx) /\ Hid (Blk wx xb #[.int .i64 x, .int .i64 y, .int .i64 z, sv, .slice oa n oc] 81) /\ Hid ((ms.take k).all (fun m => decide (m.seg <= (n : Int))) = true))
 case atStart => exact ⟨0, by omega, rfl, HBa, HX, Lib.hid rfl⟩
 case round =>
  obtain ⟨k, hk, rfl, HB, HX, HA⟩ := hrel;by_cases hlt : k < ms.length
  ·have hlt' : (k : Int) < ms.length := by omega
   obtain ⟨m, hm⟩ : ∃ m, ms[k]? = some m := ⟨_, List.getElem?_eq_getElem hlt⟩;obtain ⟨b, rfl, -, m0, m1, m2, m3, m4⟩ := MapsIn.at (HS.out _ HB.out) hm;have hbd := (Hb.out m (List.mem_of_getElem? hm)).s;have HBn : Hid (Below w.heap.size w (wr.alloc (.cells #[.int .i64 m.at_, .int .u64 m.seg, .int .i64 m.from_, .int .i64 m.n, .bool m.wr] 125))) := HB.out.alloc HB.out.size _;have HXn : Hid (Blk (wr.alloc (.cells #[.int .i64 m.at_, .int .u64 m.seg, .int .i64 m.from_, .int .i64 m.n, .bool m.wr] 125)) xb #[.int .i64 x, .int .i64 y, .int .i64 z, sv, .slice oa n oc] 81) := HX.out.alloc _;have hcx := HXn.out.cell;have hcz := (Blk.new wr #[.int .i64 m.at_, .int .u64 m.seg, .int .i64 m.from_, .int .i64 m.n, .bool m.wr] 125).cell;by_cases c1 : (n : Int) < m.seg
   ·have Hd : Hid ((ms.all fun m => decide (m.seg <= (n : Int))) = false) := all_not (fun m : WMap => decide (m.seg <= (n : Int))) hm (decide_eq_false (by omega))
    clear hm;go_wp2_with fail
    go_ret;exact ⟨by rw [Hd.out]; rfl, HBn.out⟩
   ·have HA2 := Lib.hid (take_all (fun m : WMap => decide (m.seg <= (n : Int))) hm HA.out (decide_eq_true (by omega)))
    clear hm;go_wp2_with fail
    go_roundg (ms.length - (k + 1))
    case measure => omega
    case rel => exact ⟨k + 1, by omega, by go_num, HBn, HXn, HA2⟩
  ·obtain rfl : k = ms.length := by omega
   rw [List.take_length] at HA;go_wp2_with fail
   go_ret;exact ⟨by rw [HA.out]; rfl, HB.out⟩
theorem lab_of_any (d : Nat) (w : World) :
  Calls Tryz.prog 22 #[.int .i64 (d : Int)] w fun e w' => e = .returned (.agg #[.int .i64 (d : Int), .slice none 0 0]) /\ Below w.heap.size w w' := by
 have HB : Hid (Below w.heap.size w (w.alloc (.cells #[.int .i64 (d : Int), .slice none 0 0] 43))) := (Below.refl _ w).alloc (Nat.le_refl _) _;have HF : Hid (Blk (w.alloc (.cells #[.int .i64 (d : Int), .slice none 0 0] 43)) w.heap.size #[.int .i64 (d : Int), .slice none 0 0] 43) := Blk.new _ _ _;go_enter Tryz.func22, Tryz.ntmps22
 go_wp2_with fail
 refine bodyPost_ret (results_cell_row rfl _ _ w.heap.size _ _ (0, 0) _ rfl HF.out Tryz.underlying43 rfl (by kernel_rfl)) rfl ?_;exact ⟨rfl, HB.out⟩
theorem merge_any (f : Nat -> Nat -> Nat) (a b : Lab) (va vb lv : Value) (w : World) (ha : LabOk a) (hb : LabOk b) (hA : LabIn w va a) (hB : LabIn w vb b) (hlv : ∃ lid caps, lv = .func (.func lid) #[] caps) (hF : ∀ W', Below w.heap.size w W' -> LevF lv f W') :
  Calls Tryz.prog 77 #[va, vb, lv] w fun e w' => ∃ v, e = .returned v /\ LabIn w' v (Lab.merge f a b) /\ Below w.heap.size w w' := by
 obtain ⟨lid, caps, rfl⟩ := hlv;obtain ⟨sa, rfl, ha1⟩ := hA;obtain ⟨sb, rfl, hb1⟩ := hB;obtain ⟨ra, ca, rfl, -, -⟩ := RowAt.form ha1;obtain ⟨rb, cb, rfl, -, -⟩ := RowAt.form hb1;obtain ⟨h0, hh0⟩ : ∃ h0, h0 = w.heap.size := ⟨_, rfl⟩;obtain ⟨wa, hwa⟩ : ∃ wa : World, wa = ((w.alloc (.cells #[.int .i64 (a.d : Nat), .slice ra a.ps.length ca] 43)).alloc (.cells #[.int .i64 (b.d : Nat), .slice rb b.ps.length cb] 43)).alloc (.cells #[.func (.func lid) #[] caps] 163) := ⟨_, rfl⟩;obtain ⟨wb, hwb⟩ : ∃ wb : World, wb = wa.alloc (.cells #[.int .i64 0, .slice none 0 0] 43) := ⟨_, rfl⟩;obtain ⟨w5, hw5⟩ : ∃ w5 : World, w5 = wb.alloc (.cells #[.int .i64 0, .slice none 0 0] 43) := ⟨_, rfl⟩;have hza : wa.heap.size = h0 + 1 + 1 + 1 := by rw [hwa, hh0]; simp
 have hzb : wb.heap.size = h0 + 1 + 1 + 1 + 1 := by rw [hwb, World.size_alloc, hza]
 have hz5 : w5.heap.size = h0 + 1 + 1 + 1 + 1 + 1 := by rw [hw5, World.size_alloc, hzb]
 have hBa : Below w.heap.size w wa := by rw [hwa]; exact (((Below.refl _ w).alloc (Nat.le_refl _) _).alloc (by simp) _).alloc (by simp; omega) _
 have hBb : Below w.heap.size w wb := by rw [hwb]; exact hBa.alloc hBa.size _
 have hB5 : Below w.heap.size w w5 := by rw [hw5]; exact hBb.alloc hBb.size _
 have hXl : Blk w5 (h0 + 1 + 1) #[.func (.func lid) #[] caps] 163 := by
  rw [hw5, hwb];refine Blk.alloc (Blk.alloc ?_ _) _;rw [hwa, hh0];have := Blk.new ((w.alloc (.cells #[.int .i64 (a.d : Nat), .slice ra a.ps.length ca] 43)).alloc (.cells #[.int .i64 (b.d : Nat), .slice rb b.ps.length cb] 43)) #[.func (.func lid) #[] caps] 163;rw [World.size_alloc, World.size_alloc] at this;exact this
 have hXr : Blk w5 (h0 + 1 + 1 + 1) #[.int .i64 0, .slice none 0 0] 43 := by
  rw [hw5, hwb, <- hza]; exact (Blk.new _ _ _).alloc _
 have hXo : Blk w5 (h0 + 1 + 1 + 1 + 1) #[.int .i64 0, .slice none 0 0] 43 := by
  rw [hw5, <- hzb]; exact Blk.new _ _ _
 have hA0 : Blk w5 h0 #[.int .i64 (a.d : Nat), .slice ra a.ps.length ca] 43 := by
  rw [hw5, hwb, hwa, hh0]; exact ((((Blk.new _ _ _).alloc _).alloc _).alloc _).alloc _
 have hB0 : Blk w5 (h0 + 1) #[.int .i64 (b.d : Nat), .slice rb b.ps.length cb] 43 := by
  rw [hw5, hwb, hwa, hh0];refine Blk.alloc (Blk.alloc (Blk.alloc ?_ _) _) _;have := Blk.new (w.alloc (.cells #[.int .i64 (a.d : Nat), .slice ra a.ps.length ca] 43)) #[.int .i64 (b.d : Nat), .slice rb b.ps.length cb] 43;rw [World.size_alloc] at this;exact this
 have Hm := Lib.hid (both_made a.d b.d (.slice ra a.ps.length ca) (.slice rb b.ps.length cb) w5);have htwo := labBox_two a.d b.d (.slice ra a.ps.length ca) (.slice rb b.ps.length cb) w5 a b ⟨_, rfl, RowAt.below ha1 hB5 (Nat.le_refl _)⟩ ⟨_, rfl, RowAt.below hb1 hB5 (Nat.le_refl _)⟩;obtain ⟨W2, hW2⟩ : ∃ W2 : World, W2 = (w5.alloc (labBoxV a.d (.slice ra a.ps.length ca))).alloc (labBoxV b.d (.slice rb b.ps.length cb)) := ⟨_, rfl⟩;rw [<- hW2] at htwo;have hb2 : Below w5.heap.size w5 W2 := by rw [hW2]; exact ((Below.refl _ w5).alloc (Nat.le_refl _) _).alloc (by simp) _
 have hz2 : w5.heap.size <= W2.heap.size := hb2.size;have hb02 : Below w.heap.size w W2 := bel_from hB5 hb2
 have Hmb := Lib.hid (merge_both f a b w5.heap.size (w5.heap.size + 1) (h0 + 1 + 1) (h0 + 1 + 1 + 1 + 1) W2.heap.size 163 (.func (.func lid) #[] caps) W2 ha hb htwo.1 htwo.2
  (Blk.below hXl hb2 hXl.lt) rfl (Blk.below hXo hb2 hXo.lt) (by rw [hz5]; omega) (fun W' k => hF W' (hb02.trans (k.below hb02.size (fun i hi e => by rcases e with e | e <;> omega)))))
 have HXr2 := Lib.hid (Blk.below hXr hb2 hXr.lt)
 have Hfin : Hid (∀ W3, Kept (fun b => b = h0 + 1 + 1 + 1 + 1 \/ W2.heap.size <= b) W2 W3 -> Below w.heap.size w W3 /\ Blk W3 (h0 + 1 + 1 + 1) #[.int .i64 0, .slice none 0 0] 43) := fun W3 k =>
  ⟨hb02.trans (k.below hb02.size (fun i hi e => by rcases e with e | e <;> omega)), HXr2.out.below' k (fun e => by have := HXr2.out.lt; rcases e with e | e <;> omega)⟩
 have ca0 : w5.cell? ⟨h0, 0, none⟩ = some (.int .i64 (a.d : Nat)) := by rw [hA0.cell]; rfl
 have ca1 : w5.cell? ⟨h0, 1, none⟩ = some (.slice ra a.ps.length ca) := by rw [hA0.cell]; rfl
 have cb0 : w5.cell? ⟨h0 + 1, 0, none⟩ = some (.int .i64 (b.d : Nat)) := by rw [hB0.cell]; rfl
 have cb1 : w5.cell? ⟨h0 + 1, 1, none⟩ = some (.slice rb b.ps.length cb) := by rw [hB0.cell]; rfl
 have HW2 := Lib.hid hW2; have Hh0 := Lib.hid hh0;have HW5 : Hid (w5 = ((((w.alloc (.cells #[.int .i64 (a.d : Nat), .slice ra a.ps.length ca] 43)).alloc (.cells #[.int .i64 (b.d : Nat), .slice rb b.ps.length cb] 43)).alloc (.cells #[.func (.func lid) #[] caps] 163)).alloc (.cells #[.int .i64 0, .slice none 0 0] 43)).alloc (.cells #[.int .i64 0, .slice none 0 0] 43)) := by show _ = _; rw [hw5, hwb, hwa]
 clear ha1 hb1 hF hwa hwb hw5 hza hzb hz5 hBa hBb hB5 hXl hXr hXo hA0 hB0 htwo hW2 hb2 hb02 hh0;go_enter Tryz.func77, Tryz.ntmps77
 go_upto_region 2 with fail
 rw [<- HW5.out, <- Hh0.out];go_wp2_with fail
 refine Hm.out.mono ?_;rintro e W2' ⟨rfl, rfl⟩;rw [<- HW2.out];clear ca0 ca1 cb0 cb1;go_wp2_with fail
 refine Hmb.out.mono ?_;rintro e W3 ⟨rfl, ho, hk⟩;obtain ⟨s, h1, h2⟩ := ho.row;obtain ⟨av, cv, rfl, -, -⟩ := RowAt.form (RowAt.own h2);obtain ⟨hb3, hr3⟩ := Hfin.out W3 hk;have hc1 := h1.cell;have hcr := hr3.cell;have hfr := hr3.free
 have HR := Lib.hid (show LabIn ((W3.setCell ⟨h0 + 1 + 1 + 1, 0, none⟩ (.int .i64 ((Lab.merge f a b).d : Nat))).setCell ⟨h0 + 1 + 1 + 1, 1, none⟩ (.slice av (Lab.merge f a b).ps.length cv)) (.agg #[.int .i64 ((Lab.merge f a b).d : Nat), .slice av (Lab.merge f a b).ps.length cv]) (Lab.merge f a b) from
  ⟨_, rfl, RowAt.kept (RowAt.own h2) (((Kept.refl (· = h0 + 1 + 1 + 1) W3).setIn (h0 + 1 + 1 + 1) 0 _ rfl).setIn (h0 + 1 + 1 + 1) 1 _ rfl) (fun b cs fz e hh => by
   unfold Blk at hr3;rw [e, hr3] at hh;simp at hh)⟩)
 have HX : Hid (Blk ((W3.setCell ⟨h0 + 1 + 1 + 1, 0, none⟩ (.int .i64 ((Lab.merge f a b).d : Nat))).setCell ⟨h0 + 1 + 1 + 1, 1, none⟩ (.slice av (Lab.merge f a b).ps.length cv)) (h0 + 1 + 1 + 1) #[.int .i64 ((Lab.merge f a b).d : Nat), .slice av (Lab.merge f a b).ps.length cv] 43) := ((hr3.set 0 _).set 1 _).cells rfl;have HB : Hid (Below w.heap.size w ((W3.setCell ⟨h0 + 1 + 1 + 1, 0, none⟩ (.int .i64 ((Lab.merge f a b).d : Nat))).setCell ⟨h0 + 1 + 1 + 1, 1, none⟩ (.slice av (Lab.merge f a b).ps.length cv))) := (hb3.setCell (p := ⟨h0 + 1 + 1 + 1, 0, none⟩) (by have := Hh0.out; show w.heap.size <= h0 + 1 + 1 + 1; omega) _).setCell (p := ⟨h0 + 1 + 1 + 1, 1, none⟩) (by have := Hh0.out; show w.heap.size <= h0 + 1 + 1 + 1; omega) _;clear ho hk h1 h2 hb3 hr3;go_wp2_with fail
 refine bodyPost_ret (results_cell_row rfl _ _ (h0 + 1 + 1 + 1) _ _ (0, 0) _ rfl HX.out Tryz.underlying43 rfl (by kernel_rfl)) rfl ?_;exact ⟨_, rfl, HR.out, HB.out⟩
def turnF (fr tv x _y : Nat) : Nat := if x = fr then tv else x
theorem turn1_any (fb tb fr tv x y : Nat) (W : World) (hf : W.cell? ⟨fb, 0, none⟩ = some (.int .i64 (fr : Nat))) (ht : W.cell? ⟨tb, 0, none⟩ = some (.int .i64 (tv : Nat))) :
  Calls Tryz.prog 78 #[.int .i64 (x : Nat), .int .i64 (y : Nat), .pointer (some ⟨fb, 0, none⟩), .pointer (some ⟨tb, 0, none⟩)] W fun e W' => e = .returned (.int .i64 (turnF fr tv x y : Nat)) /\ W' = W := by
 by_cases h : x = fr
 ·have hb : ((x : Int) == fr) = true := by simp [h]
  have hT : Hid (turnF fr tv x y = tv) := by show _ = _; unfold turnF; rw [if_pos h]
  clear h;go_enter Tryz.func78, Tryz.ntmps78
  go_wp2_with fail
  go_ret;exact ⟨by rw [hT.out]; rfl, rfl⟩
 ·have hb : ((x : Int) == fr) = false := by simp; omega
  have hT : Hid (turnF fr tv x y = x) := by show _ = _; unfold turnF; rw [if_neg h]
  clear h;go_enter Tryz.func78, Tryz.ntmps78
  go_wp2_with fail
  go_ret;exact ⟨by rw [hT.out]; rfl, rfl⟩
theorem turned_any (l : Lab) (fr tv : Nat) (v : Value) (w : World) (hok : LabOk l) (h : LabIn w v l) :
  Calls Tryz.prog 52 #[v, .int .i64 (fr : Nat), .int .i64 (tv : Nat)] w fun e w' => ∃ v, e = .returned v /\ LabIn w' v (Lab.merge (turnF fr tv) l l) /\ Below w.heap.size w w' := by
 obtain ⟨s, rfl, h1⟩ := h;obtain ⟨a, c, rfl, -, -⟩ := RowAt.form h1;obtain ⟨h0, hh0⟩ : ∃ h0, h0 = w.heap.size := ⟨_, rfl⟩;obtain ⟨w4, hw4⟩ : ∃ w4 : World, w4 = (((w.alloc (.cells #[.int .i64 (l.d : Nat), .slice a l.ps.length c] 43)).alloc (.cells #[.int .i64 (fr : Nat)] 3)).alloc (.cells #[.int .i64 (tv : Nat)] 3)).alloc (.cells #[.int .i64 0, .slice none 0 0] 43) := ⟨_, rfl⟩;have hB4 : Below w.heap.size w w4 := by rw [hw4]; exact ((((Below.refl _ w).alloc (Nat.le_refl _) _).alloc (by simp) _).alloc (by simp; omega) _).alloc (by simp; omega) _
 have hL : Blk w4 h0 #[.int .i64 (l.d : Nat), .slice a l.ps.length c] 43 := by rw [hw4, hh0]; exact (((Blk.new _ _ _).alloc _).alloc _).alloc _
 have hFb : Blk w4 (h0 + 1) #[.int .i64 (fr : Nat)] 3 := by
  rw [hw4, hh0];refine Blk.alloc (Blk.alloc ?_ _) _;have := Blk.new (w.alloc (.cells #[.int .i64 (l.d : Nat), .slice a l.ps.length c] 43)) #[.int .i64 (fr : Nat)] 3;rw [World.size_alloc] at this; exact this
 have hTb : Blk w4 (h0 + 1 + 1) #[.int .i64 (tv : Nat)] 3 := by
  rw [hw4, hh0];refine Blk.alloc ?_ _;have := Blk.new ((w.alloc (.cells #[.int .i64 (l.d : Nat), .slice a l.ps.length c] 43)).alloc (.cells #[.int .i64 (fr : Nat)] 3)) #[.int .i64 (tv : Nat)] 3;rw [World.size_alloc, World.size_alloc] at this; exact this
 have hRb : Blk w4 (h0 + 1 + 1 + 1) #[.int .i64 0, .slice none 0 0] 43 := by
  rw [hw4, hh0];have := Blk.new (((w.alloc (.cells #[.int .i64 (l.d : Nat), .slice a l.ps.length c] 43)).alloc (.cells #[.int .i64 (fr : Nat)] 3)).alloc (.cells #[.int .i64 (tv : Nat)] 3)) #[.int .i64 0, .slice none 0 0] 43;rw [World.size_alloc, World.size_alloc, World.size_alloc] at this; exact this
 have hLi : LabIn w4 (.agg #[.int .i64 (l.d : Nat), .slice a l.ps.length c]) l := ⟨_, rfl, RowAt.below h1 hB4 (Nat.le_refl _)⟩
 have Hm := Lib.hid (merge_any (turnF fr tv) l l _ _ (.func (.func 78) #[] #[.pointer (some ⟨h0 + 1, 0, none⟩), .pointer (some ⟨h0 + 1 + 1, 0, none⟩)]) w4 hok hok hLi hLi ⟨_, _, rfl⟩ (fun W' k =>
  ⟨_, _, rfl, enters_of Tryz.func78 (by kernel_rfl) rfl, fun x y _ _ => turn1_any (h0 + 1) (h0 + 1 + 1) fr tv x y W' (by rw [(Blk.below hFb k hFb.lt).cell]; rfl) (by rw [(Blk.below hTb k hTb.lt).cell]; rfl)⟩))
 have HR := Lib.hid hRb;have HB4 := Lib.hid hB4;have HW4 := Lib.hid hw4; have Hh0 := Lib.hid hh0;have cl0 : w4.cell? ⟨h0, 0, none⟩ = some (.int .i64 (l.d : Nat)) := by rw [hL.cell]; rfl
 have cl1 : w4.cell? ⟨h0, 1, none⟩ = some (.slice a l.ps.length c) := by rw [hL.cell]; rfl
 clear h1 hw4 hh0 hB4 hL hFb hTb hRb hLi;go_enter Tryz.func52, Tryz.ntmps52
 go_upto_region 1 with fail
 rw [<- HW4.out, <- Hh0.out];go_wp2_with fail
 refine Hm.out.mono ?_;rintro e W3 ⟨v, rfl, hv, hb⟩;obtain ⟨s, rfl, hs⟩ := hv;obtain ⟨av, cv, rfl, -, -⟩ := RowAt.form hs;have hr3 := Blk.below HR.out hb HR.out.lt;have hcr := hr3.cell;have hfr := hr3.free
 have HRf := Lib.hid (show LabIn ((W3.setCell ⟨h0 + 1 + 1 + 1, 0, none⟩ (.int .i64 ((Lab.merge (turnF fr tv) l l).d : Nat))).setCell ⟨h0 + 1 + 1 + 1, 1, none⟩ (.slice av (Lab.merge (turnF fr tv) l l).ps.length cv)) (.agg #[.int .i64 ((Lab.merge (turnF fr tv) l l).d : Nat), .slice av (Lab.merge (turnF fr tv) l l).ps.length cv]) (Lab.merge (turnF fr tv) l l) from
  ⟨_, rfl, RowAt.kept hs (((Kept.refl (· = h0 + 1 + 1 + 1) W3).setIn (h0 + 1 + 1 + 1) 0 _ rfl).setIn (h0 + 1 + 1 + 1) 1 _ rfl) (fun b cs fz e hh => by
   unfold Blk at hr3;rw [e, hr3] at hh;simp at hh)⟩)
 have HX : Hid (Blk ((W3.setCell ⟨h0 + 1 + 1 + 1, 0, none⟩ (.int .i64 ((Lab.merge (turnF fr tv) l l).d : Nat))).setCell ⟨h0 + 1 + 1 + 1, 1, none⟩ (.slice av (Lab.merge (turnF fr tv) l l).ps.length cv)) (h0 + 1 + 1 + 1) #[.int .i64 ((Lab.merge (turnF fr tv) l l).d : Nat), .slice av (Lab.merge (turnF fr tv) l l).ps.length cv] 43) := ((hr3.set 0 _).set 1 _).cells rfl;have HB : Hid (Below w.heap.size w ((W3.setCell ⟨h0 + 1 + 1 + 1, 0, none⟩ (.int .i64 ((Lab.merge (turnF fr tv) l l).d : Nat))).setCell ⟨h0 + 1 + 1 + 1, 1, none⟩ (.slice av (Lab.merge (turnF fr tv) l l).ps.length cv))) := ((bel_from HB4.out hb).setCell (p := ⟨h0 + 1 + 1 + 1, 0, none⟩) (by have := Hh0.out; show w.heap.size <= h0 + 1 + 1 + 1; omega) _).setCell (p := ⟨h0 + 1 + 1 + 1, 1, none⟩) (by have := Hh0.out; show w.heap.size <= h0 + 1 + 1 + 1; omega) _;clear hs hb hr3 cl0 cl1;go_wp2_with fail
 refine bodyPost_ret (results_cell_row rfl _ _ (h0 + 1 + 1 + 1) _ _ (0, 0) _ rfl HX.out Tryz.underlying43 rfl (by kernel_rfl)) rfl ?_;exact ⟨_, rfl, HRf.out, HB.out⟩
theorem rest_lab_any (l : Lab) (v : Value) (w : World) (hok : LabOk l) (h : LabIn w v l) :
  Calls Tryz.prog 27 #[v] w fun e w' => ∃ v, e = .returned v /\ LabIn w' v l.rest /\ Below w.heap.size w w' := by
 obtain ⟨s, rfl, h1⟩ := h;obtain ⟨a, c, rfl, -, -⟩ := RowAt.form h1;obtain ⟨h0, hh0⟩ : ∃ h0, h0 = w.heap.size := ⟨_, rfl⟩;obtain ⟨w2, hw2⟩ : ∃ w2 : World, w2 = (w.alloc (.cells #[.int .i64 (l.d : Nat), .slice a l.ps.length c] 43)).alloc (.cells #[.int .i64 0, .slice none 0 0] 43) := ⟨_, rfl⟩;have hB2 : Below w.heap.size w w2 := by rw [hw2]; exact ((Below.refl _ w).alloc (Nat.le_refl _) _).alloc (by simp) _
 have hL : Blk w2 h0 #[.int .i64 (l.d : Nat), .slice a l.ps.length c] 43 := by rw [hw2, hh0]; exact (Blk.new _ _ _).alloc _
 have hRb : Blk w2 (h0 + 1) #[.int .i64 0, .slice none 0 0] 43 := by
  rw [hw2, hh0];have := Blk.new (w.alloc (.cells #[.int .i64 (l.d : Nat), .slice a l.ps.length c] 43)) #[.int .i64 0, .slice none 0 0] 43;rw [World.size_alloc] at this; exact this
 have Hm := Lib.hid (turned_any l 0 2 (.agg #[.int .i64 (l.d : Nat), .slice a l.ps.length c]) w2 hok ⟨_, rfl, RowAt.below h1 hB2 (Nat.le_refl _)⟩);have hrest : Lab.merge (turnF 0 2) l l = l.rest := rfl;rw [hrest] at Hm;obtain ⟨L, hLr⟩ : ∃ L, l.rest = L := ⟨_, rfl⟩;rw [hLr] at Hm ⊢;have HR := Lib.hid hRb;have HB2 := Lib.hid hB2;have HW2 := Lib.hid hw2; have Hh0 := Lib.hid hh0;have cl0 : w2.cell? ⟨h0, 0, none⟩ = some (.int .i64 (l.d : Nat)) := by rw [hL.cell]; rfl
 have cl1 : w2.cell? ⟨h0, 1, none⟩ = some (.slice a l.ps.length c) := by rw [hL.cell]; rfl
 clear h1 hw2 hh0 hB2 hL hRb hrest hLr;go_enter Tryz.func27, Tryz.ntmps27
 go_upto_region 1 with fail
 rw [<- HW2.out, <- Hh0.out];go_wp2_with fail
 refine Hm.out.mono ?_;rintro e W3 ⟨v, rfl, hv, hb⟩;obtain ⟨s, rfl, hs⟩ := hv;obtain ⟨av, cv, rfl, -, -⟩ := RowAt.form hs;have hr3 := Blk.below HR.out hb HR.out.lt;have hcr := hr3.cell;have hfr := hr3.free
 have HRf := Lib.hid (show LabIn ((W3.setCell ⟨h0 + 1, 0, none⟩ (.int .i64 (L.d : Nat))).setCell ⟨h0 + 1, 1, none⟩ (.slice av L.ps.length cv)) (.agg #[.int .i64 (L.d : Nat), .slice av L.ps.length cv]) L from
  ⟨_, rfl, RowAt.kept hs (((Kept.refl (· = h0 + 1) W3).setIn (h0 + 1) 0 _ rfl).setIn (h0 + 1) 1 _ rfl) (fun b cs fz e hh => by
   unfold Blk at hr3;rw [e, hr3] at hh;simp at hh)⟩)
 have HX : Hid (Blk ((W3.setCell ⟨h0 + 1, 0, none⟩ (.int .i64 (L.d : Nat))).setCell ⟨h0 + 1, 1, none⟩ (.slice av L.ps.length cv)) (h0 + 1) #[.int .i64 (L.d : Nat), .slice av L.ps.length cv] 43) := ((hr3.set 0 _).set 1 _).cells rfl;have HB : Hid (Below w.heap.size w ((W3.setCell ⟨h0 + 1, 0, none⟩ (.int .i64 (L.d : Nat))).setCell ⟨h0 + 1, 1, none⟩ (.slice av L.ps.length cv))) := ((bel_from HB2.out hb).setCell (p := ⟨h0 + 1, 0, none⟩) (by have := Hh0.out; show w.heap.size <= h0 + 1; omega) _).setCell (p := ⟨h0 + 1, 1, none⟩) (by have := Hh0.out; show w.heap.size <= h0 + 1; omega) _;clear hs hb hr3 cl0 cl1;go_wp2_with fail
 refine bodyPost_ret (results_cell_row rfl _ _ (h0 + 1) _ _ (0, 0) _ rfl HX.out Tryz.underlying43 rfl (by kernel_rfl)) rfl ?_;exact ⟨_, rfl, HRf.out, HB.out⟩
end Go.Proofs.YtiadbhiadhgjkaaGreatDoor
namespace Go.Proofs.YtiadbhiadhgjkaaGreatDoor
open Go.RowKit
attribute [local irreducible] World.setCell World.alloc World.drew World.setRow Calls Code.wp row
theorem cell_one_new' (w : World) (v : Value) (t : TypeId) : ∀ (j : Nat) (u : Value), [v][j]? = some u -> (w.alloc (.cells #[v] t)).cell? ((⟨w.heap.size, 0, none⟩ : Addr).add j) = some u := by
 intro j u h
 have hj : j = 0 := by
  rcases Nat.eq_zero_or_pos j with e | e
  ·exact e
  ·rw [List.getElem?_eq_none (by simp; omega)] at h; cases h
 subst hj;rw [Addr.add_lit, (Blk.new w #[v] t).cell];simpa using h
theorem put_any (n : Nat) (x : Int) (w : World) (h8 : n <= 8) (h0 : 0 <= x) (h1 : x <= 18446744073709551615) :
  Calls Tryz.prog 58 #[.slice none 0 0, .int .i64 n, .int .u64 x] w fun e w' =>
   ∃ v, e = .returned v /\ w'.ownsRow w.heap.size 5 1 v n ((List.range n).map fun j => Value.int .u8 (byN n x j)) /\ Below w.heap.size w w' := by
 obtain ⟨i0, hi, hz0, hz1, hz2⟩ := info_parts info5;have Hi := Lib.hid hi; have Hz0 := Lib.hid hz0; have Hz1 := Lib.hid hz1; have Hz2 := Lib.hid hz2;clear hi hz0 hz1 hz2;have H0 := Lib.hid h0; have H1 := Lib.hid h1;clear h1;go_enter Tryz.func58, Tryz.ntmps58
 go_wp2_with (at_builtin; refine wpList_append_own_none rfl _ _ 63 rfl w.heap.size 5 i0 1 Tryz.underlying63 Hi.out _ 0 [] rfl (World.ownsRow_nil _ _ _ _) rfl ?_)
 go_loopg [7, 8] n (fun g v i wx => ∃ k : Nat, k = g /\ k <= n /\ i = .int .i64 k /\ wx.ownsRow w.heap.size 5 1 v (n - k) ((List.range (n - k)).map fun j => Value.int .u8 (byN n x j)) /\ Below w.heap.size w wx)
 case atStart => exact ⟨n, rfl, Nat.le_refl _, rfl, by rw [Nat.sub_self]; exact World.ownsRow_nil _ _ _ _, Below.refl _ _⟩
 case round =>
  obtain ⟨k, rfl, hk, rfl, hown, hb⟩ := hrel;have Hown := Lib.hid hown; have Hb := Lib.hid hb;clear hown hb;by_cases hlt : 0 < k
  ·obtain ⟨q, rfl⟩ : ∃ q, k = q + 1 := ⟨k - 1, by omega⟩
   have e1 : ((q + 1 : Nat) : Int) = (q : Int) + 1 := by omega
   rw [e1];clear e1;have hq8 : q < 8 := by omega
   have hby : x / 2 ^ (8 * q) % 256 = byN n x (n - (q + 1)) := by
    unfold byN;rw [show n - 1 - (n - (q + 1)) = q by omega, Int.pow_mul]; rfl
   have Hby := Lib.hid hby; clear hby;have hsz := Hb.out.size;go_wp2_with (at_builtin; refine wpList_append_own _ rfl _ _ 63 rfl w.heap.size 5 i0 (.int .u8 0) 1 1 Tryz.underlying63 Hi.out Hz0.out Hz1.out Hz2.out rfl (by decide) _ _ _ rfl (Hown.out.alloc _) ⟨wr.heap.size, 0, none⟩ 1 1 [.int .u8 (x / 2 ^ (8 * q) % 256)] rfl rfl (cell_one_new' _ _ _) (fun u hu => by simp at hu; subst hu; rfl) (by unfold maxLen; omega) (by omega) (by simp; omega) ?_; intro v' w6 hown6 hgrow6 _)
   go_roundg q
   case measure => omega
   case rel =>
    refine ⟨q, rfl, by omega, by go_num, ?_, (Hb.out.alloc hsz _).grown hgrow6 (by simp; omega) (fun k hk => (Hown.out.lt k hk).1)⟩;rw [Hby.out] at hown6;have e1 : n - q = (n - (q + 1)) + 1 := by omega
    rw [e1, List.range_succ, List.map_append];exact hown6
  ·obtain rfl : k = 0 := by omega
   go_wp2_with fail
   go_ret;exact ⟨_, rfl, Hown.out, Hb.out⟩
end Go.Proofs.YtiadbhiadhgjkaaGreatDoor
namespace Go.Proofs.YtiadbhiadhgjkaaGreatDoor
open Go.RowKit
structure SegIn (P : Pool) (o : Int) (L : List Int) : Prop where
 nd : L.Nodup
 own : ∀ f ∈ L, P.owner f = o
 o0 : o ≠ 0
 cnt : countTo P.O o P.n = L.length + 1
def segD (P : Pool) (L : List Int) (j : Nat) : Int := P.D (((L.getD (j / 64) 0).toNat - 1) * 64 + j % 64)
def segS (L : List Int) : Int := (L.length : Int) * 64
def segW (L : List Int) (off n : Int) : Bool := decide (0 <= n) && decide (0 <= off) && decide (off <= segS L) && decide (n <= segS L - off)
theorem segW_iff (L : List Int) (off n : Int) : segW L off n = true ↔ 0 <= n /\ 0 <= off /\ off <= segS L /\ n <= segS L - off := by simp [segW, and_assoc]
theorem SegIn.there {P : Pool} {o : Int} {L : List Int} (h : SegIn P o L) {f : Int} (hf : f ∈ L) : 1 <= f /\ f <= P.n := by
 have h1 := h.own f hf;have h2 := h.o0;exact (P.there_iff f).1 (P.owner_there f (by rw [h1]; exact h2))
theorem SegIn.at {P : Pool} {o : Int} {L : List Int} (h : SegIn P o L) {f : Int} (hf : f ∈ L) : P.O (f.toNat - 1) = o := by
 have h1 := h.own f hf;unfold Pool.owner at h1;rw [if_pos ((P.there_iff f).2 (h.there hf))] at h1;exact h1
theorem getD_mem {L : List Int} {i : Nat} (h : i < L.length) : L.getD i 0 ∈ L := by
 have e : L.getD i 0 = L[i] := by simp [List.getD, h]
 rw [e]; exact List.getElem_mem h
def FrIn (w : World) (lo : Nat) (v : Value) (L : List Int) : Prop :=
 (v = .slice none 0 0 /\ L = []) \/
 ∃ g cap cur, v = .slice (some ⟨g, 0, none⟩) L.length cap /\ lo <= g /\ w.heap[g]? = some (.cells cur 3 (0, 0)) /\ L.length <= cap /\ cap <= maxLen /\ (cap = cur.size \/ cap = L.length) /\ cap <= cur.size /\
  ∀ j, j < L.length -> cur[j]? = some (.int .i64 (L.getD j 0))
theorem FrIn.kept {S : Nat -> Prop} {w w' : World} {lo : Nat} {v : Value} {L : List Int} (h : FrIn w lo v L) (k : Kept S w w') (hs : ∀ g, v.ownBlock = some g -> ¬ S g) : FrIn w' lo v L := by
 rcases h with h | ⟨g, cap, cur, rfl, h1, h2, h3⟩
 ·exact .inl h
 ·exact .inr ⟨g, cap, cur, rfl, h1, k.blk (b := g) h2 (hs g rfl), h3⟩
theorem FrIn.lt {w : World} {lo : Nat} {v : Value} {L : List Int} (h : FrIn w lo v L) : ∀ g, v.ownBlock = some g -> lo <= g /\ g < w.heap.size := by
 intro g hg;rcases h with ⟨rfl, _⟩ | ⟨g', cap, cur, rfl, h1, h2, _⟩
 ·cases hg
 ·injection hg with hg; subst hg
  exact ⟨h1, (Array.getElem?_eq_some_iff.1 h2).1⟩
theorem FrIn.open {w : World} {lo : Nat} {v : Value} {L : List Int} (h : FrIn w lo v L) :
  ∃ a cap g, v = .slice a L.length cap /\ L.length <= cap /\ cap <= maxLen /\ (0 < L.length -> a = some ⟨g, 0, none⟩) /\ ∀ j, j < L.length -> w.cell? ⟨g, j, none⟩ = some (.int .i64 (L.getD j 0)) := by
 rcases h with ⟨rfl, rfl⟩ | ⟨g, cap, cur, rfl, h1, h2, h3, h4, h5, h6, h7⟩
 ·exact ⟨none, 0, 0, rfl, Nat.le_refl _, by unfold maxLen; omega, fun h => absurd h (by simp), fun j hj => absurd hj (by simp)⟩
 ·exact ⟨_, cap, g, rfl, h3, h4, fun _ => rfl, fun j hj => by rw [Blk.cell (b := g) h2]; exact h7 j hj⟩
structure SegAt (w : World) (sb si : Nat) (cs : Array Value) (lo : Nat) (v : Value) (L : List Int) : Prop where
 hb : Blk w sb cs 68
 hc : cs[si]? = some v
 hv : FrIn w lo v L
 hl : sb < lo
 h16 : L.length <= 16
theorem SegAt.kept {S : Nat -> Prop} {w w' : World} {sb si : Nat} {cs : Array Value} {lo : Nat} {v : Value} {L : List Int} (h : SegAt w sb si cs lo v L) (k : Kept S w w') (h1 : ¬ S sb) (hs : ∀ g, v.ownBlock = some g -> ¬ S g) : SegAt w' sb si cs lo v L :=
 ⟨k.blk h.hb h1, h.hc, h.hv.kept k hs, h.hl, h.h16⟩
theorem SegAt.below {w w' : World} {sb si : Nat} {cs : Array Value} {lo : Nat} {v : Value} {L : List Int} (h : SegAt w sb si cs lo v L) (k : Below w.heap.size w w') : SegAt w' sb si cs lo v L :=
 h.kept (S := fun _ => False) (Kept.of_below k) (fun h => h) (fun _ _ h => h)
theorem SegAt.cell {w : World} {sb si : Nat} {cs : Array Value} {lo : Nat} {v : Value} {L : List Int} (h : SegAt w sb si cs lo v L) : w.cell? ⟨sb, si, none⟩ = some v := by rw [h.hb.cell]; exact h.hc
attribute [local irreducible] World.setCell World.alloc World.drew World.setRow Calls Code.wp row
theorem pages_any (sb si : Nat) (cs : Array Value) (lo : Nat) (v : Value) (L : List Int) (w : World) (hS : SegAt w sb si cs lo v L) :
  Calls Tryz.prog 57 #[.pointer (some ⟨sb, si, none⟩)] w fun e w' => e = .returned (.int .i64 L.length) /\ w = w' := by
 obtain ⟨a, cap, g, rfl, h1, h2, h3, h4⟩ := hS.hv.open;have hc := hS.cell;clear hS h4;go_enter Tryz.func57, Tryz.ntmps57
 go_wp2
 go_ret;exact ⟨rfl, rfl⟩
theorem size_any (sb si : Nat) (cs : Array Value) (lo : Nat) (v : Value) (L : List Int) (w : World) (hS : SegAt w sb si cs lo v L) :
  Calls Tryz.prog 30 #[.pointer (some ⟨sb, si, none⟩)] w fun e w' => e = .returned (.int .i64 (segS L)) /\ w = w' := by
 have h16 := hS.h16;have HS := Lib.hid hS; clear hS;go_enter Tryz.func30, Tryz.ntmps30
 go_wp2_with (go_at_call 57; refine (pages_any sb si cs lo v L _ HS.out).mono ?_; rintro e w' ⟨rfl, rfl⟩)
 go_ret;exact ⟨rfl, rfl⟩
theorem within_any (sb si : Nat) (cs : Array Value) (lo : Nat) (v : Value) (L : List Int) (off n : Int) (w : World) (hS : SegAt w sb si cs lo v L) :
  Calls Tryz.prog 55 #[.pointer (some ⟨sb, si, none⟩), .int .i64 off, .int .i64 n] w fun e w' => e = .returned (.bool (segW L off n)) /\ w = w' := by
 have hw : segW L off n = (decide (0 <= n) && decide (0 <= off) && decide (off <= segS L) && decide (n <= segS L - off)) := rfl;have Hw := Lib.hid hw; clear hw;have h16 := hS.h16;have hs0 : 0 <= segS L /\ segS L <= 1024 := by unfold segS; omega
 obtain ⟨s0, s1⟩ := hs0;have HS := Lib.hid hS; clear hS h16;have K := Lib.hid (fun w (h : SegAt w sb si cs lo v L) => size_any sb si cs lo v L w h);by_cases h2 : 0 <= n
 ·by_cases h4 : 0 <= off
  ·by_cases h5 : off <= segS L
   ·generalize hS : segS L = S at *
    clear hS;go_enter Tryz.func55, Tryz.ntmps55
    go_wp2_with (go_at_call 30; refine (K.out _ HS.out).mono ?_; rintro e w' ⟨rfl, rfl⟩)
    go_ret;exact ⟨by rw [Hw.out]; simp [h2, h4, h5], rfl⟩
   ·generalize hS : segS L = S at *
    clear hS;go_enter Tryz.func55, Tryz.ntmps55
    go_wp2_with (go_at_call 30; refine (K.out _ HS.out).mono ?_; rintro e w' ⟨rfl, rfl⟩)
    go_ret;exact ⟨by rw [Hw.out]; simp; omega, rfl⟩
  ·go_enter Tryz.func55, Tryz.ntmps55
   go_wp2_with fail
   go_ret;exact ⟨by rw [Hw.out]; simp; omega, rfl⟩
 ·go_enter Tryz.func55, Tryz.ntmps55
  go_wp2_with fail
  go_ret;exact ⟨by rw [Hw.out]; simp; omega, rfl⟩
end Go.Proofs.YtiadbhiadhgjkaaGreatDoor
namespace Go.Proofs.YtiadbhiadhgjkaaGreatDoor
open Go.RowKit
attribute [local irreducible] World.setCell World.alloc World.drew World.setRow Calls Code.wp row
def segC (P : Pool) (L : List Int) (off n : Nat) : List Value := (List.range n).map fun j => Value.int .u8 (segD P L (off + j))
theorem segC_add (P : Pool) (L : List Int) (q d k : Nat) : segC P L q (d + k) = segC P L q d ++ (List.range k).map fun j => Value.int .u8 (segD P L (q + d + j)) := by
 unfold segC;rw [List.range_add, List.map_append, List.map_map];congr 1
 refine List.map_congr_left fun j _ => ?_
 simp [Nat.add_assoc]
theorem sread_yes (sb si pb db ob : Nat) (cs : Array Value) (lo : Nat) (v : Value) (L : List Int) (P : Pool) (o : Int) (q m : Nat) (w : World) (hS : SegAt w sb si cs lo v L) (hP : PoolAt w pb db ob P) (hI : SegIn P o L) (hf : segW L q m = true) :
  Calls Tryz.prog 29 #[.pointer (some ⟨sb, si, none⟩), .pointer (some ⟨pb, 0, none⟩), .int .i64 q, .int .i64 m] w fun e w' =>
   ∃ r, e = .returned (.tuple #[r, .bool true]) /\ w'.ownsRow w.heap.size 5 1 r m (segC P L q m) /\ Below w.heap.size w w' := by
 obtain ⟨f1, f2, f3, f4⟩ := (segW_iff _ _ _).1 hf;have hqm : q + m <= L.length * 64 := by unfold segS at f3 f4; omega
 have h16 := hS.h16;obtain ⟨i0, hi, hz0, hz1, hz2⟩ := info_parts info5;have Hi := Lib.hid hi; have Hz0 := Lib.hid hz0; have Hz1 := Lib.hid hz1; have Hz2 := Lib.hid hz2;have HS := Lib.hid hS; have HP := Lib.hid hP; have HI := Lib.hid hI; have Hf := Lib.hid hf;clear hS hP hI hf hi hz0 hz1 hz2 f1 f2 f3 f4;go_enter Tryz.func29, Tryz.ntmps29
 go_wp2_with fail
 refine (within_any sb si cs lo v L _ _ _ HS.out).mono ?_;rintro e w' ⟨rfl, rfl⟩;rw [Hf.out];go_wp2_with fail
 go_loopg [2, 3, 10, 11] m (fun g so sn u _ wx => ∃ d : Nat, d + g = m /\ so = .int .i64 ((q + d : Nat) : Int) /\ sn = .int .i64 ((m - d : Nat) : Int) /\ wx.ownsRow w.heap.size 5 1 u d (segC P L q d) /\ Below w.heap.size w wx)
 case atStart => exact ⟨0, by omega, by simp, by simp, World.ownsRow_nil _ _ _ _, Below.refl _ _⟩
 case round =>
  obtain ⟨d, hd, rfl, rfl, hown, hb⟩ := hrel;have Hown := Lib.hid hown; have Hb := Lib.hid hb;clear hown hb;by_cases hlt : d < m
  ·obtain ⟨p, hp⟩ : ∃ p, q + d = p := ⟨_, rfl⟩
   obtain ⟨r, hr⟩ : ∃ r, m - d = r := ⟨_, rfl⟩;obtain ⟨k, hk⟩ : ∃ k, min r (64 - p % 64) = k := ⟨_, rfl⟩;have hk1 : 1 <= k := by omega
   have hk2 : k <= r := by omega
   have hk3 : p % 64 + k <= 64 := by omega
   have hpl : p / 64 < L.length := by omega
   have hmin : min ((r : Nat) : Int) (64 - ((p : Nat) : Int) % 64) = k := by omega
   rw [hp, hr];have hSr := HS.out.below Hb.out;have hPr := HP.out.below Hb.out;obtain ⟨a, cap, g, hv, g1, g2, g3, g4⟩ := hSr.hv.open;have ha := g3 (by omega);subst ha;have hcl := g4 (p / 64) hpl;have hcs := hSr.cell;rw [hv] at hcs;obtain ⟨fr, hfr⟩ : ∃ fr, L.getD (p / 64) 0 = fr := ⟨_, rfl⟩;rw [hfr] at hcl;have hmem : fr ∈ L := by rw [<- hfr]; exact getD_mem hpl
   obtain ⟨t1, t2⟩ := HI.out.there hmem
   have hfit : P.fits fr ((p % 64 : Nat) : Int) ((k : Nat) : Int) = true := by
    rw [P.fits_iff, HI.out.own fr hmem];exact ⟨HI.out.o0, by omega, by omega, by omega, by omega⟩
   have HPr := Lib.hid hPr; have Hfr := Lib.hid hfr; have Hfit := Lib.hid hfit; have Hp := Lib.hid hp; have Hr := Lib.hid hr;have hszr := Hb.out.size;have hkc : (r : Int) <= 64 - (p : Int) % 64 /\ k = r \/ ¬ (r : Int) <= 64 - (p : Int) % 64 /\ k = 64 - p % 64 := by omega
   have e64 : ((p % 64 : Nat) : Int) = (p : Int) % 64 := by omega
   rw [e64] at hfit;have Hfit := Lib.hid hfit;have hpn : p <= 1024 := by omega
   have hrn : r <= 1024 := by omega
   have E64 := Lib.hid e64;have hk64 : k <= 64 := by omega
   have HK : Hid (((k : Nat) : Int) = if (r : Int) <= 64 - (p : Int) % 64 then (r : Int) else 64 - (p : Int) % 64) := by
    unfold Hid; split <;> omega
   clear hSr hPr g4 g3 hv hfr hmem hfit hk hmin e64
   have key : ∀ kk : Int, kk = (k : Int) -> Calls Tryz.prog 56 #[.pointer (some ⟨pb, 0, none⟩), .int .i64 fr, .int .i64 ((p : Int) % 64), .int .i64 kk] wr fun e w' =>
     ∃ g' cap', e = .returned (.slice (some ⟨g', 0, none⟩) k cap') /\ (∀ j, j < k -> w'.cell? ⟨g', j, none⟩ = some (.int .u8 (segD P L (p + j)))) /\ Below wr.heap.size wr w' /\ wr.heap.size <= g' := by
    rintro kk rfl;refine (read_yes pb db ob P _ _ _ _ HPr.out Hfit.out).mono ?_;rintro e w5 ⟨r', rfl, ho, hb5⟩;rw [Int.toNat_natCast] at ho;obtain ⟨g', cap', cur, rfl, hg, _, _⟩ := ho.2.resolve_left (by rintro ⟨_, h0⟩; omega);refine ⟨g', cap', rfl, fun j hj => ?_, hb5, hg⟩;rw [ho.cellAt j (by omega)];have e1 : ((p : Int) % 64).toNat = p % 64 := by omega
    have e2 : (p + j) / 64 = p / 64 := by omega
    have e3 : (p + j) % 64 = p % 64 + j := by omega
    simp only [Pool.cells, segD, e1, e2, e3, Hfr.out];rw [List.getElem?_map, List.getElem?_range hj];simp [Nat.add_assoc]
   have Key := Lib.hid key; clear key;rcases hkc with ⟨hc, hkr⟩ | ⟨hc, hkr⟩
   all_goals
    have Hkr := Lib.hid hkr; clear hkr;go_wp2_with fail
    refine (Key.out _ (by have := Hkr.out; omega)).mono ?_;rintro e w5 ⟨g', cap', rfl, hcell, hb5, hg'⟩;have Hcell := Lib.hid hcell; have Hb5 := Lib.hid (Hb.out.trans (hb5.mono hszr));have Hown5 : Hid (w5.ownsRow w.heap.size 5 1 u10 d (segC P L q d)) := Hown.out.kept (row := none) ⟨hb5.os, hb5.tape, hb5.output, hb5.size, fun b hb _ => hb5.block b hb⟩ (by by_cases h : u10.ownBlock = none; exact .inl h; exact .inr h);have hs5 := hb5.size;clear hcell hb5;go_wp2_with (at_builtin; refine wpList_append_own _ rfl _ _ 63 rfl w.heap.size 5 i0 (.int .u8 0) 1 1 Tryz.underlying63 Hi.out Hz0.out Hz1.out Hz2.out rfl (by decide) _ _ _ rfl Hown5.out ⟨g', 0, none⟩ k cap' ((List.range k).map fun j => Value.int .u8 (segD P L (p + j))) rfl (by simp) (copy_src (o := 0) (by simpa using Hcell.out)) (fun v hv => by obtain ⟨j, _, rfl⟩ := List.mem_map.1 hv; rfl) (by unfold maxLen; omega) (by omega) (by omega) ?_; intro v' w6 hown6 hgrow6 _)
    go_roundg (m - (d + k))
    case measure => have := Hkr.out; omega
    case rel =>
     refine ⟨d + k, by have := Hkr.out; omega, by have := Hkr.out; have := Hp.out; congr 1; omega, by have := Hkr.out; have := Hr.out; congr 1; omega, ?_, Hb5.out.grown hgrow6 (by omega) (fun k hk => (Hown.out.lt k hk).1)⟩;rw [segC_add, Hp.out];exact hown6
  ·obtain rfl : d = m := by omega
   go_wp2_with fail
   go_ret2
   exact ⟨_, rfl, Hown.out, Hb.out⟩
end Go.Proofs.YtiadbhiadhgjkaaGreatDoor
