/- Labels merged, turned, at rest. -/
import Derived.Test.YtjjnidbggoaonaaGreatDoorWoMg
import Derived.Test.YtjjnidbggoaonaaGreatDoorZaD
namespace Go.Proofs.YtjjnidbggoaonaaGreatDoor
open Go.RowKit
attribute [local irreducible] World.setCell World.alloc World.drew World.setRow Calls Code.wp
attribute [local go_sem] Oper.semAt_some

set_option maxRecDepth 100000 in
set_option maxHeartbeats 4000000 in
theorem merge_any (f : Nat → Nat → Nat) (a b : Lab) (va vb lv : Value) (w : World) (ha : LabOk a) (hb : LabOk b) (hA : LabIn w va a) (hB : LabIn w vb b) (hlv : ∃ lid caps, lv = .func (.func lid) #[] caps) (hF : ∀ W', Below w.heap.size w W' → LevF lv f W') :
    Calls Tryz.prog 154 #[va, vb, lv] w fun e w' => ∃ v, e = .returned v ∧ LabIn w' v (Lab.merge f a b) ∧ Below w.heap.size w w' := by
  obtain ⟨lid, caps, rfl⟩ := hlv
  obtain ⟨sa, rfl, ha1⟩ := hA
  obtain ⟨sb, rfl, hb1⟩ := hB
  obtain ⟨ra, ca, rfl, -, -⟩ := RowAt.form ha1
  obtain ⟨rb, cb, rfl, -, -⟩ := RowAt.form hb1
  obtain ⟨h0, hh0⟩ : ∃ h0, h0 = w.heap.size := ⟨_, rfl⟩
  obtain ⟨wa, hwa⟩ : ∃ wa : World, wa = ((w.alloc (.cells #[.int .i64 (a.d : Nat), .slice ra a.ps.length ca] 104)).alloc (.cells #[.int .i64 (b.d : Nat), .slice rb b.ps.length cb] 104)).alloc (.cells #[.func (.func lid) #[] caps] 221) := ⟨_, rfl⟩
  obtain ⟨wb, hwb⟩ : ∃ wb : World, wb = wa.alloc (.cells #[.int .i64 0, .slice none 0 0] 104) := ⟨_, rfl⟩
  obtain ⟨w5, hw5⟩ : ∃ w5 : World, w5 = wb.alloc (.cells #[.int .i64 0, .slice none 0 0] 104) := ⟨_, rfl⟩
  have hza : wa.heap.size = h0 + 1 + 1 + 1 := by rw [hwa, hh0]; simp
  have hzb : wb.heap.size = h0 + 1 + 1 + 1 + 1 := by rw [hwb, World.size_alloc, hza]
  have hz5 : w5.heap.size = h0 + 1 + 1 + 1 + 1 + 1 := by rw [hw5, World.size_alloc, hzb]
  have hBa : Below w.heap.size w wa := by rw [hwa]; exact (((Below.refl _ w).alloc (Nat.le_refl _) _).alloc (by simp) _).alloc (by simp; omega) _
  have hBb : Below w.heap.size w wb := by rw [hwb]; exact hBa.alloc hBa.size _
  have hB5 : Below w.heap.size w w5 := by rw [hw5]; exact hBb.alloc hBb.size _
  have hXl : Blk w5 (h0 + 1 + 1) #[.func (.func lid) #[] caps] 221 := by
    rw [hw5, hwb]
    refine Blk.alloc (Blk.alloc ?_ _) _
    rw [hwa, hh0]
    have := Blk.new ((w.alloc (.cells #[.int .i64 (a.d : Nat), .slice ra a.ps.length ca] 104)).alloc (.cells #[.int .i64 (b.d : Nat), .slice rb b.ps.length cb] 104)) #[.func (.func lid) #[] caps] 221
    rw [World.size_alloc, World.size_alloc] at this
    exact this
  have hXr : Blk w5 (h0 + 1 + 1 + 1) #[.int .i64 0, .slice none 0 0] 104 := by
    rw [hw5, hwb, ← hza]; exact (Blk.new _ _ _).alloc _
  have hXo : Blk w5 (h0 + 1 + 1 + 1 + 1) #[.int .i64 0, .slice none 0 0] 104 := by
    rw [hw5, ← hzb]; exact Blk.new _ _ _
  have hA0 : Blk w5 h0 #[.int .i64 (a.d : Nat), .slice ra a.ps.length ca] 104 := by
    rw [hw5, hwb, hwa, hh0]; exact ((((Blk.new _ _ _).alloc _).alloc _).alloc _).alloc _
  have hB0 : Blk w5 (h0 + 1) #[.int .i64 (b.d : Nat), .slice rb b.ps.length cb] 104 := by
    rw [hw5, hwb, hwa, hh0]
    refine Blk.alloc (Blk.alloc (Blk.alloc ?_ _) _) _
    have := Blk.new (w.alloc (.cells #[.int .i64 (a.d : Nat), .slice ra a.ps.length ca] 104)) #[.int .i64 (b.d : Nat), .slice rb b.ps.length cb] 104
    rw [World.size_alloc] at this
    exact this
  have Hm := Lib.hid (both_made a.d b.d (.slice ra a.ps.length ca) (.slice rb b.ps.length cb) w5)
  have htwo := labBox_two a.d b.d (.slice ra a.ps.length ca) (.slice rb b.ps.length cb) w5 a b ⟨_, rfl, RowAt.below ha1 hB5 (Nat.le_refl _)⟩ ⟨_, rfl, RowAt.below hb1 hB5 (Nat.le_refl _)⟩
  obtain ⟨W2, hW2⟩ : ∃ W2 : World, W2 = (w5.alloc (labBoxV a.d (.slice ra a.ps.length ca))).alloc (labBoxV b.d (.slice rb b.ps.length cb)) := ⟨_, rfl⟩
  rw [← hW2] at htwo
  have hb2 : Below w5.heap.size w5 W2 := by rw [hW2]; exact ((Below.refl _ w5).alloc (Nat.le_refl _) _).alloc (by simp) _
  have hz2 : w5.heap.size ≤ W2.heap.size := hb2.size
  have hb02 : Below w.heap.size w W2 := bel_from hB5 hb2
  have Hmb := Lib.hid (merge_both f a b w5.heap.size (w5.heap.size + 1) (h0 + 1 + 1) (h0 + 1 + 1 + 1 + 1) W2.heap.size 221 (.func (.func lid) #[] caps) W2 ha hb htwo.1 htwo.2
    (Blk.below hXl hb2 hXl.lt) rfl (Blk.below hXo hb2 hXo.lt) (by rw [hz5]; omega) (fun W' k => hF W' (hb02.trans (k.below hb02.size (fun i hi e => by rcases e with e | e <;> omega)))))
  have HXr2 := Lib.hid (Blk.below hXr hb2 hXr.lt)
  have Hfin : Hid (∀ W3, Kept (fun b => b = h0 + 1 + 1 + 1 + 1 ∨ W2.heap.size ≤ b) W2 W3 → Below w.heap.size w W3 ∧ Blk W3 (h0 + 1 + 1 + 1) #[.int .i64 0, .slice none 0 0] 104) := fun W3 k =>
    ⟨hb02.trans (k.below hb02.size (fun i hi e => by rcases e with e | e <;> omega)), HXr2.out.below' k (fun e => by have := HXr2.out.lt; rcases e with e | e <;> omega)⟩
  have ca0 : w5.cell? ⟨h0, 0, none⟩ = some (.int .i64 (a.d : Nat)) := by rw [hA0.cell]; rfl
  have ca1 : w5.cell? ⟨h0, 1, none⟩ = some (.slice ra a.ps.length ca) := by rw [hA0.cell]; rfl
  have cb0 : w5.cell? ⟨h0 + 1, 0, none⟩ = some (.int .i64 (b.d : Nat)) := by rw [hB0.cell]; rfl
  have cb1 : w5.cell? ⟨h0 + 1, 1, none⟩ = some (.slice rb b.ps.length cb) := by rw [hB0.cell]; rfl
  have HW2 := Lib.hid hW2; have Hh0 := Lib.hid hh0
  have HW5 : Hid (w5 = ((((w.alloc (.cells #[.int .i64 (a.d : Nat), .slice ra a.ps.length ca] 104)).alloc (.cells #[.int .i64 (b.d : Nat), .slice rb b.ps.length cb] 104)).alloc (.cells #[.func (.func lid) #[] caps] 221)).alloc (.cells #[.int .i64 0, .slice none 0 0] 104)).alloc (.cells #[.int .i64 0, .slice none 0 0] 104)) := by show _ = _; rw [hw5, hwb, hwa]
  clear ha1 hb1 hF hwa hwb hw5 hza hzb hz5 hBa hBb hB5 hXl hXr hXo hA0 hB0 htwo hW2 hb2 hb02 hh0
  go_enter Tryz.func154, Tryz.ntmps154
  go_upto_region 2 with fail
  rw [← HW5.out, ← Hh0.out]
  go_wp2_with fail
  refine Hm.out.mono ?_
  rintro e W2' ⟨rfl, rfl⟩
  rw [← HW2.out]
  clear ca0 ca1 cb0 cb1
  go_wp2_with fail
  refine Hmb.out.mono ?_
  rintro e W3 ⟨rfl, ho, hk⟩
  obtain ⟨s, h1, h2⟩ := ho.row
  obtain ⟨av, cv, rfl, -, -⟩ := RowAt.form (RowAt.own h2)
  obtain ⟨hb3, hr3⟩ := Hfin.out W3 hk
  have hc1 := h1.cell
  have hcr := hr3.cell
  have hfr := hr3.free
  have HR := Lib.hid (show LabIn ((W3.setCell ⟨h0 + 1 + 1 + 1, 0, none⟩ (.int .i64 ((Lab.merge f a b).d : Nat))).setCell ⟨h0 + 1 + 1 + 1, 1, none⟩ (.slice av (Lab.merge f a b).ps.length cv)) (.agg #[.int .i64 ((Lab.merge f a b).d : Nat), .slice av (Lab.merge f a b).ps.length cv]) (Lab.merge f a b) from
    ⟨_, rfl, RowAt.kept (RowAt.own h2) (((Kept.refl (· = h0 + 1 + 1 + 1) W3).setIn (h0 + 1 + 1 + 1) 0 _ rfl).setIn (h0 + 1 + 1 + 1) 1 _ rfl) (fun b cs fz e hh => by
      unfold Blk at hr3
      rw [e, hr3] at hh
      simp at hh)⟩)
  have HX : Hid (Blk ((W3.setCell ⟨h0 + 1 + 1 + 1, 0, none⟩ (.int .i64 ((Lab.merge f a b).d : Nat))).setCell ⟨h0 + 1 + 1 + 1, 1, none⟩ (.slice av (Lab.merge f a b).ps.length cv)) (h0 + 1 + 1 + 1) #[.int .i64 ((Lab.merge f a b).d : Nat), .slice av (Lab.merge f a b).ps.length cv] 104) := ((hr3.set 0 _).set 1 _).cells rfl
  have HB : Hid (Below w.heap.size w ((W3.setCell ⟨h0 + 1 + 1 + 1, 0, none⟩ (.int .i64 ((Lab.merge f a b).d : Nat))).setCell ⟨h0 + 1 + 1 + 1, 1, none⟩ (.slice av (Lab.merge f a b).ps.length cv))) := (hb3.setCell (p := ⟨h0 + 1 + 1 + 1, 0, none⟩) (by have := Hh0.out; show w.heap.size ≤ h0 + 1 + 1 + 1; omega) _).setCell (p := ⟨h0 + 1 + 1 + 1, 1, none⟩) (by have := Hh0.out; show w.heap.size ≤ h0 + 1 + 1 + 1; omega) _
  clear ho hk h1 h2 hb3 hr3
  go_wp2_with fail
  refine bodyPost_ret (results_cell_row rfl _ _ (h0 + 1 + 1 + 1) _ _ (0, 0) _ rfl HX.out Tryz.underlying104 rfl (by kernel_rfl)) rfl ?_
  exact ⟨_, rfl, HR.out, HB.out⟩
/-- One level put for another one. -/
def turnF (fr tv x _y : Nat) : Nat := if x = fr then tv else x
theorem turn1_any (fb tb fr tv x y : Nat) (W : World) (hf : W.cell? ⟨fb, 0, none⟩ = some (.int .i64 (fr : Nat))) (ht : W.cell? ⟨tb, 0, none⟩ = some (.int .i64 (tv : Nat))) :
    Calls Tryz.prog 155 #[.int .i64 (x : Nat), .int .i64 (y : Nat), .pointer (some ⟨fb, 0, none⟩), .pointer (some ⟨tb, 0, none⟩)] W fun e W' => e = .returned (.int .i64 (turnF fr tv x y : Nat)) ∧ W' = W := by
  by_cases h : x = fr
  · have hb : ((x : Int) == fr) = true := by simp [h]
    have hT : Hid (turnF fr tv x y = tv) := by show _ = _; unfold turnF; rw [if_pos h]
    clear h
    go_enter Tryz.func155, Tryz.ntmps155
    go_wp2_with fail
    go_ret
    exact ⟨by rw [hT.out]; rfl, rfl⟩
  · have hb : ((x : Int) == fr) = false := by simp; omega
    have hT : Hid (turnF fr tv x y = x) := by show _ = _; unfold turnF; rw [if_neg h]
    clear h
    go_enter Tryz.func155, Tryz.ntmps155
    go_wp2_with fail
    go_ret
    exact ⟨by rw [hT.out]; rfl, rfl⟩
set_option maxRecDepth 100000 in
set_option maxHeartbeats 4000000 in
theorem turned_any (l : Lab) (fr tv : Nat) (v : Value) (w : World) (hok : LabOk l) (h : LabIn w v l) :
    Calls Tryz.prog 119 #[v, .int .i64 (fr : Nat), .int .i64 (tv : Nat)] w fun e w' => ∃ v, e = .returned v ∧ LabIn w' v (Lab.merge (turnF fr tv) l l) ∧ Below w.heap.size w w' := by
  obtain ⟨s, rfl, h1⟩ := h
  obtain ⟨a, c, rfl, -, -⟩ := RowAt.form h1
  obtain ⟨h0, hh0⟩ : ∃ h0, h0 = w.heap.size := ⟨_, rfl⟩
  obtain ⟨w4, hw4⟩ : ∃ w4 : World, w4 = (((w.alloc (.cells #[.int .i64 (l.d : Nat), .slice a l.ps.length c] 104)).alloc (.cells #[.int .i64 (fr : Nat)] 3)).alloc (.cells #[.int .i64 (tv : Nat)] 3)).alloc (.cells #[.int .i64 0, .slice none 0 0] 104) := ⟨_, rfl⟩
  have hB4 : Below w.heap.size w w4 := by rw [hw4]; exact ((((Below.refl _ w).alloc (Nat.le_refl _) _).alloc (by simp) _).alloc (by simp; omega) _).alloc (by simp; omega) _
  have hL : Blk w4 h0 #[.int .i64 (l.d : Nat), .slice a l.ps.length c] 104 := by rw [hw4, hh0]; exact (((Blk.new _ _ _).alloc _).alloc _).alloc _
  have hFb : Blk w4 (h0 + 1) #[.int .i64 (fr : Nat)] 3 := by
    rw [hw4, hh0]
    refine Blk.alloc (Blk.alloc ?_ _) _
    have := Blk.new (w.alloc (.cells #[.int .i64 (l.d : Nat), .slice a l.ps.length c] 104)) #[.int .i64 (fr : Nat)] 3
    rw [World.size_alloc] at this; exact this
  have hTb : Blk w4 (h0 + 1 + 1) #[.int .i64 (tv : Nat)] 3 := by
    rw [hw4, hh0]
    refine Blk.alloc ?_ _
    have := Blk.new ((w.alloc (.cells #[.int .i64 (l.d : Nat), .slice a l.ps.length c] 104)).alloc (.cells #[.int .i64 (fr : Nat)] 3)) #[.int .i64 (tv : Nat)] 3
    rw [World.size_alloc, World.size_alloc] at this; exact this
  have hRb : Blk w4 (h0 + 1 + 1 + 1) #[.int .i64 0, .slice none 0 0] 104 := by
    rw [hw4, hh0]
    have := Blk.new (((w.alloc (.cells #[.int .i64 (l.d : Nat), .slice a l.ps.length c] 104)).alloc (.cells #[.int .i64 (fr : Nat)] 3)).alloc (.cells #[.int .i64 (tv : Nat)] 3)) #[.int .i64 0, .slice none 0 0] 104
    rw [World.size_alloc, World.size_alloc, World.size_alloc] at this; exact this
  have hLi : LabIn w4 (.agg #[.int .i64 (l.d : Nat), .slice a l.ps.length c]) l := ⟨_, rfl, RowAt.below h1 hB4 (Nat.le_refl _)⟩
  have Hm := Lib.hid (merge_any (turnF fr tv) l l _ _ (.func (.func 155) #[] #[.pointer (some ⟨h0 + 1, 0, none⟩), .pointer (some ⟨h0 + 1 + 1, 0, none⟩)]) w4 hok hok hLi hLi ⟨_, _, rfl⟩ (fun W' k =>
    ⟨_, _, rfl, enters_of Tryz.func155 (by kernel_rfl) rfl, fun x y _ _ => turn1_any (h0 + 1) (h0 + 1 + 1) fr tv x y W' (by rw [(Blk.below hFb k hFb.lt).cell]; rfl) (by rw [(Blk.below hTb k hTb.lt).cell]; rfl)⟩))
  have HR := Lib.hid hRb
  have HB4 := Lib.hid hB4
  have HW4 := Lib.hid hw4; have Hh0 := Lib.hid hh0
  have cl0 : w4.cell? ⟨h0, 0, none⟩ = some (.int .i64 (l.d : Nat)) := by rw [hL.cell]; rfl
  have cl1 : w4.cell? ⟨h0, 1, none⟩ = some (.slice a l.ps.length c) := by rw [hL.cell]; rfl
  clear h1 hw4 hh0 hB4 hL hFb hTb hRb hLi
  go_enter Tryz.func119, Tryz.ntmps119
  go_upto_region 1 with fail
  rw [← HW4.out, ← Hh0.out]
  go_wp2_with fail
  refine Hm.out.mono ?_
  rintro e W3 ⟨v, rfl, hv, hb⟩
  obtain ⟨s, rfl, hs⟩ := hv
  obtain ⟨av, cv, rfl, -, -⟩ := RowAt.form hs
  have hr3 := Blk.below HR.out hb HR.out.lt
  have hcr := hr3.cell
  have hfr := hr3.free
  have HRf := Lib.hid (show LabIn ((W3.setCell ⟨h0 + 1 + 1 + 1, 0, none⟩ (.int .i64 ((Lab.merge (turnF fr tv) l l).d : Nat))).setCell ⟨h0 + 1 + 1 + 1, 1, none⟩ (.slice av (Lab.merge (turnF fr tv) l l).ps.length cv)) (.agg #[.int .i64 ((Lab.merge (turnF fr tv) l l).d : Nat), .slice av (Lab.merge (turnF fr tv) l l).ps.length cv]) (Lab.merge (turnF fr tv) l l) from
    ⟨_, rfl, RowAt.kept hs (((Kept.refl (· = h0 + 1 + 1 + 1) W3).setIn (h0 + 1 + 1 + 1) 0 _ rfl).setIn (h0 + 1 + 1 + 1) 1 _ rfl) (fun b cs fz e hh => by
      unfold Blk at hr3
      rw [e, hr3] at hh
      simp at hh)⟩)
  have HX : Hid (Blk ((W3.setCell ⟨h0 + 1 + 1 + 1, 0, none⟩ (.int .i64 ((Lab.merge (turnF fr tv) l l).d : Nat))).setCell ⟨h0 + 1 + 1 + 1, 1, none⟩ (.slice av (Lab.merge (turnF fr tv) l l).ps.length cv)) (h0 + 1 + 1 + 1) #[.int .i64 ((Lab.merge (turnF fr tv) l l).d : Nat), .slice av (Lab.merge (turnF fr tv) l l).ps.length cv] 104) := ((hr3.set 0 _).set 1 _).cells rfl
  have HB : Hid (Below w.heap.size w ((W3.setCell ⟨h0 + 1 + 1 + 1, 0, none⟩ (.int .i64 ((Lab.merge (turnF fr tv) l l).d : Nat))).setCell ⟨h0 + 1 + 1 + 1, 1, none⟩ (.slice av (Lab.merge (turnF fr tv) l l).ps.length cv))) := ((bel_from HB4.out hb).setCell (p := ⟨h0 + 1 + 1 + 1, 0, none⟩) (by have := Hh0.out; show w.heap.size ≤ h0 + 1 + 1 + 1; omega) _).setCell (p := ⟨h0 + 1 + 1 + 1, 1, none⟩) (by have := Hh0.out; show w.heap.size ≤ h0 + 1 + 1 + 1; omega) _
  clear hs hb hr3 cl0 cl1
  go_wp2_with fail
  refine bodyPost_ret (results_cell_row rfl _ _ (h0 + 1 + 1 + 1) _ _ (0, 0) _ rfl HX.out Tryz.underlying104 rfl (by kernel_rfl)) rfl ?_
  exact ⟨_, rfl, HRf.out, HB.out⟩
set_option maxRecDepth 100000 in
set_option maxHeartbeats 4000000 in
theorem rest_lab_any (l : Lab) (v : Value) (w : World) (hok : LabOk l) (h : LabIn w v l) :
    Calls Tryz.prog 78 #[v] w fun e w' => ∃ v, e = .returned v ∧ LabIn w' v l.rest ∧ Below w.heap.size w w' := by
  obtain ⟨s, rfl, h1⟩ := h
  obtain ⟨a, c, rfl, -, -⟩ := RowAt.form h1
  obtain ⟨h0, hh0⟩ : ∃ h0, h0 = w.heap.size := ⟨_, rfl⟩
  obtain ⟨w2, hw2⟩ : ∃ w2 : World, w2 = (w.alloc (.cells #[.int .i64 (l.d : Nat), .slice a l.ps.length c] 104)).alloc (.cells #[.int .i64 0, .slice none 0 0] 104) := ⟨_, rfl⟩
  have hB2 : Below w.heap.size w w2 := by rw [hw2]; exact ((Below.refl _ w).alloc (Nat.le_refl _) _).alloc (by simp) _
  have hL : Blk w2 h0 #[.int .i64 (l.d : Nat), .slice a l.ps.length c] 104 := by rw [hw2, hh0]; exact (Blk.new _ _ _).alloc _
  have hRb : Blk w2 (h0 + 1) #[.int .i64 0, .slice none 0 0] 104 := by
    rw [hw2, hh0]
    have := Blk.new (w.alloc (.cells #[.int .i64 (l.d : Nat), .slice a l.ps.length c] 104)) #[.int .i64 0, .slice none 0 0] 104
    rw [World.size_alloc] at this; exact this
  have Hm := Lib.hid (turned_any l 0 2 (.agg #[.int .i64 (l.d : Nat), .slice a l.ps.length c]) w2 hok ⟨_, rfl, RowAt.below h1 hB2 (Nat.le_refl _)⟩)
  have hrest : Lab.merge (turnF 0 2) l l = l.rest := rfl
  rw [hrest] at Hm
  obtain ⟨L, hLr⟩ : ∃ L, l.rest = L := ⟨_, rfl⟩
  rw [hLr] at Hm ⊢
  have HR := Lib.hid hRb
  have HB2 := Lib.hid hB2
  have HW2 := Lib.hid hw2; have Hh0 := Lib.hid hh0
  have cl0 : w2.cell? ⟨h0, 0, none⟩ = some (.int .i64 (l.d : Nat)) := by rw [hL.cell]; rfl
  have cl1 : w2.cell? ⟨h0, 1, none⟩ = some (.slice a l.ps.length c) := by rw [hL.cell]; rfl
  clear h1 hw2 hh0 hB2 hL hRb hrest hLr
  go_enter Tryz.func78, Tryz.ntmps78
  go_upto_region 1 with fail
  rw [← HW2.out, ← Hh0.out]
  go_wp2_with fail
  refine Hm.out.mono ?_
  rintro e W3 ⟨v, rfl, hv, hb⟩
  obtain ⟨s, rfl, hs⟩ := hv
  obtain ⟨av, cv, rfl, -, -⟩ := RowAt.form hs
  have hr3 := Blk.below HR.out hb HR.out.lt
  have hcr := hr3.cell
  have hfr := hr3.free
  have HRf := Lib.hid (show LabIn ((W3.setCell ⟨h0 + 1, 0, none⟩ (.int .i64 (L.d : Nat))).setCell ⟨h0 + 1, 1, none⟩ (.slice av L.ps.length cv)) (.agg #[.int .i64 (L.d : Nat), .slice av L.ps.length cv]) L from
    ⟨_, rfl, RowAt.kept hs (((Kept.refl (· = h0 + 1) W3).setIn (h0 + 1) 0 _ rfl).setIn (h0 + 1) 1 _ rfl) (fun b cs fz e hh => by
      unfold Blk at hr3
      rw [e, hr3] at hh
      simp at hh)⟩)
  have HX : Hid (Blk ((W3.setCell ⟨h0 + 1, 0, none⟩ (.int .i64 (L.d : Nat))).setCell ⟨h0 + 1, 1, none⟩ (.slice av L.ps.length cv)) (h0 + 1) #[.int .i64 (L.d : Nat), .slice av L.ps.length cv] 104) := ((hr3.set 0 _).set 1 _).cells rfl
  have HB : Hid (Below w.heap.size w ((W3.setCell ⟨h0 + 1, 0, none⟩ (.int .i64 (L.d : Nat))).setCell ⟨h0 + 1, 1, none⟩ (.slice av L.ps.length cv))) := ((bel_from HB2.out hb).setCell (p := ⟨h0 + 1, 0, none⟩) (by have := Hh0.out; show w.heap.size ≤ h0 + 1; omega) _).setCell (p := ⟨h0 + 1, 1, none⟩) (by have := Hh0.out; show w.heap.size ≤ h0 + 1; omega) _
  clear hs hb hr3 cl0 cl1
  go_wp2_with fail
  refine bodyPost_ret (results_cell_row rfl _ _ (h0 + 1) _ _ (0, 0) _ rfl HX.out Tryz.underlying104 rfl (by kernel_rfl)) rfl ?_
  exact ⟨_, rfl, HRf.out, HB.out⟩
end Go.Proofs.YtjjnidbggoaonaaGreatDoor
