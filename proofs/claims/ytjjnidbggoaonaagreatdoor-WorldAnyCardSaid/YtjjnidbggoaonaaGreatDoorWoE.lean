/- Whether a label is at most another one, category by category: the iterator pairs. -/
import Derived.Test.YtjjnidbggoaonaaGreatDoorWoB
import Derived.RangeFuncNested
import Derived.RangeFuncBound
import Derived.RangeFuncCalls
import Derived.RangeFuncLeaves
import Derived.RangeFuncFrom
import Derived.RangeFuncWrites
import Derived.Shelf.Abstract
import Derived.Shelf.RegionOpen
import Derived.OwnWalkIn
import Derived.TacticsInMore
namespace Go.Proofs.YtjjnidbggoaonaaGreatDoor
open Go.RowKit Go.Shelf
attribute [local irreducible] World.setCell World.alloc World.drew World.setRow Calls Code.wp
attribute [local go_sem] Oper.semAt_some

/-- All blocks of cells stand as they stood. -/
structure CK (w w' : World) : Prop where
  size : w.heap.size ≤ w'.heap.size
  cells : ∀ (k : Nat) (c : Array Value) (t : TypeId) (fz : Nat × Nat), w.heap[k]? = some (.cells c t fz) → w'.heap[k]? = some (.cells c t fz)
theorem CK.refl (w : World) : CK w w := ⟨Nat.le_refl _, fun _ _ _ _ h => h⟩
theorem CK.trans {a b c : World} (h : CK a b) (k : CK b c) : CK a c := ⟨Nat.le_trans h.size k.size, fun i c t fz e => k.cells i c t fz (h.cells i c t fz e)⟩
theorem CK.blk {w w' : World} (h : CK w w') {b t : Nat} {c : Array Value} (hb : Blk w b c t) : Blk w' b c t := h.cells b c t _ hb
theorem CK.row {w w' : World} (h : CK w w') {ty n : Nat} {v : Value} {cells : List Value} (hr : RowAt w ty v n cells) : RowAt w' ty v n cells := by
  obtain ⟨a, c, rfl, h1, h2, h3⟩ := hr
  refine ⟨a, c, rfl, h1, h2, h3.imp id ?_⟩
  rintro ⟨b, cs, fz, rfl, hh, hc⟩
  exact ⟨b, cs, fz, rfl, h.cells b cs _ fz hh, hc⟩
theorem CK.box {w w' : World} (h : CK w w') {b : Nat} {l : Lab} (hb : LabBox w b l) : LabBox w' b l := by
  obtain ⟨s, h1, h2⟩ := hb
  exact ⟨s, h.blk h1, h.row h2⟩
theorem CK.of {w w' : World} (h : Below w.heap.size w w') : CK w w' := ⟨h.size, fun k c t fz e => by rw [h.block k (Array.getElem?_eq_some_iff.1 e).1]; exact e⟩
theorem ck_put {w : World} (W : World) (l : Nat) (o o' : Obj) (_ : w.heap.size ≤ l) (h : W.heap[l]? = some o) (hc : o.isCells = false) (_ : o.isWalk = false) : CK W (W.putObj l o') := by
  refine ⟨by simp, fun k c t fz e => ?_⟩
  by_cases hk : k = l
  · subst hk
    rw [h] at e
    cases e
    cases hc
  · rw [World.putObj_heap_other (fun e => hk e)]; exact e
theorem below_gr {w w' : World} (h : Below w.heap.size w w') : w.grownBy w' none := ⟨h.os, h.tape, h.output, h.size, fun k hk _ => h.block k hk⟩
/-- A category, and whether its first level is at most the second one. -/
def okP (x : Nat × Nat × Nat) : Nat × Bool := (x.1, decide (x.2.1 ≤ x.2.2))
/-- What pairs yields: each category, and whether the first level is at most the second one. -/
def pairsY (a b : Lab) : List (Nat × Bool) := (bothY a b).map okP
def labBoxV (d : Nat) (s : Value) : Obj := .cells #[.int .i64 (d : Nat), s] 104
theorem both_made (d1 d2 : Nat) (s1 s2 : Value) (w : World) :
    Calls Tryz.prog 152 #[.agg #[.int .i64 (d1 : Nat), s1], .agg #[.int .i64 (d2 : Nat), s2]] w fun e w' => e = .returned (.func (.func 174) #[] #[.pointer (some ⟨w.heap.size, 0, none⟩), .pointer (some ⟨w.heap.size + 1, 0, none⟩)]) ∧ w' = (w.alloc (labBoxV d1 s1)).alloc (labBoxV d2 s2) := by
  go_enter Tryz.func152, Tryz.ntmps152
  go_wp2_with fail
  go_ret
  exact ⟨rfl, rfl⟩
theorem pairs_made (d1 d2 : Nat) (s1 s2 : Value) (w : World) :
    Calls Tryz.prog 118 #[.agg #[.int .i64 (d1 : Nat), s1], .agg #[.int .i64 (d2 : Nat), s2]] w fun e w' => e = .returned (.func (.func 151) #[] #[.pointer (some ⟨w.heap.size, 0, none⟩), .pointer (some ⟨w.heap.size + 1, 0, none⟩)]) ∧ w' = (w.alloc (labBoxV d1 s1)).alloc (labBoxV d2 s2) := by
  go_enter Tryz.func118, Tryz.ntmps118
  go_wp2_with fail
  go_ret
  exact ⟨rfl, rfl⟩
theorem labBox_two (d1 d2 : Nat) (s1 s2 : Value) (w : World) (l1 l2 : Lab) (h1 : LabIn w (.agg #[.int .i64 (d1 : Nat), s1]) l1) (h2 : LabIn w (.agg #[.int .i64 (d2 : Nat), s2]) l2) :
    LabBox ((w.alloc (labBoxV d1 s1)).alloc (labBoxV d2 s2)) w.heap.size l1 ∧ LabBox ((w.alloc (labBoxV d1 s1)).alloc (labBoxV d2 s2)) (w.heap.size + 1) l2 := by
  have hB : Below w.heap.size w ((w.alloc (labBoxV d1 s1)).alloc (labBoxV d2 s2)) := ((Below.refl _ w).alloc (Nat.le_refl _) _).alloc (by simp) _
  obtain ⟨t1, e1, r1⟩ := h1
  obtain ⟨t2, e2, r2⟩ := h2
  have z1 : (d1 : Int) = l1.d ∧ s1 = t1 := by simpa using e1
  have z2 : (d2 : Int) = l2.d ∧ s2 = t2 := by simpa using e2
  obtain ⟨y1, rfl⟩ := z1
  obtain ⟨y2, rfl⟩ := z2
  obtain rfl : d1 = l1.d := by omega
  obtain rfl : d2 = l2.d := by omega
  refine ⟨⟨s1, (Blk.new _ _ _).alloc _, RowAt.below r1 hB (Nat.le_refl _)⟩, ⟨s2, ?_, RowAt.below r2 hB (Nat.le_refl _)⟩⟩
  have := Blk.new (w.alloc (labBoxV l1.d s1)) #[.int .i64 (l2.d : Nat), s2] 104
  rw [World.size_alloc] at this
  exact this
set_option maxRecDepth 100000 in
set_option maxHeartbeats 2000000 in
theorem pp_in (lp yb c x y : Nat) (ty : TypeId) (W : World) (R : Ending → World → Prop) (hyb : Blk W yb #[.func (.yield lp) #[] #[]] ty)
    (hY : YieldAt Fence.wide 3 Tryz.prog lp #[.int .u32 (c : Nat), .bool (decide (x ≤ y))] W fun e W' => ∃ v, e = .returned (.bool v) ∧ R (.returned (.bool v)) W') :
    Calls Tryz.prog 153 #[.int .u32 (c : Nat), .int .i64 (x : Nat), .int .i64 (y : Nat), .pointer (some ⟨yb, 0, none⟩)] W R := by
  have hc := hyb.cell
  have hdd : ∀ k : Nat, (Fence.wide.depth.isSome = true → 1 ≤ k) := fun k h => by cases h
  obtain ⟨fn, tmps, assign, body, hy, hR⟩ := hY
  refine (callsIn_wide (n := 4)).1 ?_
  refine callsIn_of_wp Tryz.func153 rfl trivial ?_ rfl
  simp only [Tryz.ntmps153, List.size_toArray, List.length_cons, List.length_nil, Nat.reduceAdd, Nat.reduceSub, Array.replicate_succ, Array.replicate_zero, List.push_toArray, List.append_toArray, List.nil_append, List.cons_append]
  clear hyb
  gi_wp2_with ((try refine ⟨hdd _, ?_⟩); refine hR.mono ?_; clear hR; rintro e W3 ⟨v, rfl, hv⟩)
  exact hv
theorem bothY_pre {a b : Lab} {pre : List (Nat × Nat × Nat)} (h : pre <+: bothY a b) : pre.map okP <+: pairsY a b := h.map _
set_option maxRecDepth 100000 in
set_option maxHeartbeats 4000000 in
theorem pairs_stops (a b : Lab) (A B : Nat) (w : World) (hA : LabBox w A a) (hB : LabBox w B b) (hbd : a.ps.length ≤ 1000 ∧ b.ps.length ≤ 1000) :
    SeqStopsK Fence.wide 4 Tryz.prog 151 #[.pointer (some ⟨A, 0, none⟩), .pointer (some ⟨B, 0, none⟩)] (fun x : Nat × Bool => #[.int .u32 (x.1 : Nat), .bool x.2]) CK (fun ys => ys = pairsY a b) (fun pre => pre <+: pairsY a b) (pairsY a b).length w := by
  intro l J Jx W hW hJ hJx hY h0
  have hAW := (CK.of hW).box hA
  have hBW := (CK.of hW).box hB
  refine callsIn_wide.2 ?_
  obtain ⟨yb, hyb⟩ : ∃ yb, yb = W.heap.size := ⟨_, rfl⟩
  obtain ⟨W1, hW1⟩ : ∃ W1 : World, W1 = W.alloc (.cells #[.func (.yield l) #[] #[]] 216) := ⟨_, rfl⟩
  have HY1 : Hid (Blk W1 yb #[.func (.yield l) #[] #[]] 216) := by rw [hW1, hyb]; exact Blk.new _ _ _
  have hC1 : CK W W1 := by rw [hW1]; exact CK.of ((Below.refl _ W).alloc (Nat.le_refl _) _)
  obtain ⟨sa, ha1, ha2⟩ := hC1.box hAW
  obtain ⟨sb, hb1, hb2⟩ := hC1.box hBW
  obtain ⟨ra, ca, rfl, -, -⟩ := RowAt.form ha2
  obtain ⟨rb, cb, rfl, -, -⟩ := RowAt.form hb2
  have hJ1 : J [] W1 := by rw [hW1]; exact hJ _ _ _ none h0 (below_gr ((Below.refl _ W).alloc (Nat.le_refl _) _)) (fun _ e => by cases e)
  have htwo := labBox_two a.d b.d (.slice ra a.ps.length ca) (.slice rb b.ps.length cb) W1 a b ⟨_, rfl, ha2⟩ ⟨_, rfl, hb2⟩
  obtain ⟨W2, hW2⟩ : ∃ W2 : World, W2 = (W1.alloc (labBoxV a.d (.slice ra a.ps.length ca))).alloc (labBoxV b.d (.slice rb b.ps.length cb)) := ⟨_, rfl⟩
  have hb12 : Below W1.heap.size W1 W2 := by rw [hW2]; exact ((Below.refl _ W1).alloc (Nat.le_refl _) _).alloc (by simp) _
  have hJ2 : J [] W2 := hJ _ _ _ none hJ1 (below_gr hb12) (fun _ e => by cases e)
  have Hm := Lib.hid (both_made a.d b.d (.slice ra a.ps.length ca) (.slice rb b.ps.length cb) W1)
  have HYb := Lib.hid ((CK.of hb12).blk HY1.out)
  rw [← hW2] at htwo
  have Hcall : Hid (Calls Tryz.prog 174 #[.func (.func 153) #[] #[.pointer (some ⟨yb, 0, none⟩)], .pointer (some ⟨W1.heap.size, 0, none⟩), .pointer (some ⟨W1.heap.size + 1, 0, none⟩)] W2 fun e W' =>
      e = .returned (.tuple #[]) ∧ ((J (pairsY a b) W' ∧ CK W2 W') ∨ ∃ pre, pre <+: bothY a b ∧ Jx (pre.map okP) W')) := by
    refine (both_in a b W1.heap.size (W1.heap.size + 1) 153 #[.pointer (some ⟨yb, 0, none⟩)]
      (fun pre W' => J (pre.map okP) W' ∧ CK W2 W') (fun pre W' => Jx (pre.map okP) W') W2
      (enters_of Tryz.func153 (by kernel_rfl) rfl) hbd (fun pre W' h => ⟨h.2.box htwo.1, h.2.box htwo.2⟩)
      (fun pre W' n h => ⟨hJ _ _ _ none h.1 (below_gr (below_dr W' n)) (fun _ e => by cases e), h.2.trans (CK.of (below_dr W' n))⟩) ?_ ⟨hJ2, CK.refl _⟩).mono ?_
    · rintro pre ⟨c, x, y⟩ W' ⟨hj, hc⟩ hpre
      have hlen : (pre.map okP).length < (pairsY a b).length := by
        have := hpre.length_le
        unfold pairsY
        simp only [List.length_map, List.length_append, List.length_cons, List.length_nil] at this ⊢
        omega
      refine (pp_in l yb c x y 216 W' _ (hc.blk HYb.out) ?_)
      obtain ⟨fn, tmps, assign, body, hy, hR⟩ := hY _ (c, decide (x ≤ y)) W' hj hlen
      refine ⟨fn, tmps, assign, body, hy, hR.mono ?_⟩
      rintro e W3 (⟨rfl, hj3, hk3⟩ | ⟨rfl, hx3⟩)
      · exact ⟨true, rfl, .inl ⟨rfl, by rw [List.map_append]; exact hj3, hc.trans hk3⟩⟩
      · exact ⟨false, rfl, .inr ⟨rfl, by rw [List.map_append]; exact hx3⟩⟩
    · rintro e W' ⟨rfl, h | ⟨pre, h1, h2⟩⟩
      · exact ⟨rfl, .inl h⟩
      · exact ⟨rfl, .inr ⟨pre, h1, h2⟩⟩
  have ha0 : W1.cell? ⟨A, 0, none⟩ = some (.int .i64 (a.d : Nat)) := by rw [ha1.cell]; rfl
  have ha1c : W1.cell? ⟨A, 1, none⟩ = some (.slice ra a.ps.length ca) := by rw [ha1.cell]; rfl
  have hb0 : W1.cell? ⟨B, 0, none⟩ = some (.int .i64 (b.d : Nat)) := by rw [hb1.cell]; rfl
  have hb1c : W1.cell? ⟨B, 1, none⟩ = some (.slice rb b.ps.length cb) := by rw [hb1.cell]; rfl
  clear hA hB hAW hBW hC1 ha1 ha2 hb1 hb2 hJ1 htwo hb12 hJ2 hY h0 hJ hJx hW
  go_enter Tryz.func151, Tryz.ntmps151
  go_upto_region 1 with fail
  rw [← hW1, ← hyb]
  have HW2 := Lib.hid hW2
  clear hW1 hW2 hyb
  go_wp2_with fail
  refine Hm.out.mono ?_
  rintro e W2' ⟨rfl, rfl⟩
  rw [← HW2.out]
  clear ha0 ha1c hb0 hb1c
  go_wp2_with fail
  refine Hcall.out.mono ?_
  rintro e W3 ⟨rfl, h3⟩
  have H3 := Lib.hid h3
  clear h3
  go_wp2_with fail
  first | (refine bodyPost_end (results_none rfl _ _ _) rfl ?_) | (refine bodyPost_ret (results_none rfl _ _ _) rfl ?_)
  refine ⟨⟨_, rfl⟩, ?_⟩
  rcases H3.out with ⟨h, _⟩ | ⟨pre, h1, h2⟩
  · exact .inl ⟨_, rfl, h⟩
  · exact .inr ⟨_, bothY_pre h1, h2⟩
section
variable {P : Program} {fn : Func} {R : Ending → World → Prop} {n : Nat} {tmps : Array Value} {v : Value} {w : World}
/-- A function that holds a range over a function, opened. -/
theorem calls_marks {f : FuncId} {c : Code} {args : Array Value} (hf : P.funcs[f]? = some fn) (hb : fn.body = some c)
    (h : c.wp P (bodyPostM Fence.wide 5 P fn R) { tmps := args ++ Array.replicate (fn.ntmps - args.size) undef, defers := [] } w) : Calls P f args w R :=
  (callsIn_wide (n := 5)).1 (callsIn_of_wp_marks hf hb trivial (wpIn_wide.2 h) rfl)
/-- .. its end, no such statement having been met. -/
theorem marks_ret0 (h : (results fn tmps).run P w = .ok v w) (hR : R (.returned v) w) : bodyPostM Fence.wide n P fn R .ret ⟨tmps, []⟩ w :=
  ⟨v, h, hR⟩
theorem marks_ret1 {D : Nat} (hK : w.heap[D]? = some (.deferred (some []))) (h : ∀ w, (results fn tmps).run P w = .ok v w) (hR : R (.returned v) (w.putObj D (.deferred none))) :
    bodyPostM Fence.wide n P fn R .ret ⟨tmps, [{ target := .collected D, args := #[] }]⟩ w :=
  ⟨by simp, .inl ⟨D, _, rfl, run_takeDeferred hK, v, h _, hR⟩⟩
end
theorem putObj_k (w : World) (D : Nat) (o : Obj) : Kept (· = D) w (w.putObj D o) :=
  ⟨rfl, rfl, rfl, by simp [World.putObj], fun k _ h => World.putObj_heap_other h⟩
theorem all_pairs (a b : Lab) : ((pairsY a b).all fun x => x.2) = a.leq b := by
  unfold pairsY bothY Lab.leq
  rw [List.map_cons, List.all_cons, List.all_map]
  rfl
theorem ck_own {rb : Nat} (v : Value) (ty : TypeId) {β : Type} (_ : List β) (A B : World) (row : Option Nat) (h : Blk A rb #[v] ty) (hg : A.grownBy B row) (hr : ∀ r, row = some r → ∃ o : Obj, A.heap[r]? = some o ∧ o.isCells = false) : Blk B rb #[v] ty := by
  have hlt := h.lt
  unfold Blk at h ⊢
  rw [hg.block rb hlt (fun e => by obtain ⟨o, ho, hc⟩ := hr rb e.symm; rw [h] at ho; cases ho; cases hc)]
  exact h
set_option maxRecDepth 100000 in
set_option maxHeartbeats 4000000 in
theorem leq_any (a b : Lab) (va vb : Value) (w : World) (hA : LabIn w va a) (hB : LabIn w vb b) (hbd : a.ps.length ≤ 1000 ∧ b.ps.length ≤ 1000) :
    Calls Tryz.prog 77 #[va, vb] w fun e w' => e = .returned (.bool (a.leq b)) ∧ Below w.heap.size w w' := by
  obtain ⟨sa, rfl, ha⟩ := hA
  obtain ⟨sb, rfl, hb⟩ := hB
  obtain ⟨ra, ca, rfl, -, -⟩ := RowAt.form ha
  obtain ⟨rb, cb, rfl, -, -⟩ := RowAt.form hb
  obtain ⟨h0, hh0⟩ : ∃ h0, h0 = w.heap.size := ⟨_, rfl⟩
  obtain ⟨w3, hw3⟩ : ∃ w3 : World, w3 = ((w.alloc (.cells #[.int .i64 (a.d : Nat), .slice ra a.ps.length ca] 104)).alloc (.cells #[.int .i64 (b.d : Nat), .slice rb b.ps.length cb] 104)).alloc (.cells #[.bool false] 4) := ⟨_, rfl⟩
  have hB3 : Below w.heap.size w w3 := by rw [hw3]; exact ((((Below.refl _ w).alloc (Nat.le_refl _) _).alloc (by simp) _).alloc (by simp; omega) _)
  have HA3 : Hid (LabIn w3 (.agg #[.int .i64 (a.d : Nat), .slice ra a.ps.length ca]) a) := ⟨_, rfl, RowAt.below ha hB3 (Nat.le_refl _)⟩
  have HB3 : Hid (LabIn w3 (.agg #[.int .i64 (b.d : Nat), .slice rb b.ps.length cb]) b) := ⟨_, rfl, RowAt.below hb hB3 (Nat.le_refl _)⟩
  have HX : Hid (Blk w3 (h0 + 1 + 1) #[.bool false] 4) := by
    rw [hw3, hh0]
    have := Blk.new ((w.alloc (.cells #[.int .i64 (a.d : Nat), .slice ra a.ps.length ca] 104)).alloc (.cells #[.int .i64 (b.d : Nat), .slice rb b.ps.length cb] 104)) #[.bool false] 4
    rw [World.size_alloc, World.size_alloc] at this
    exact this
  have HB3' := Lib.hid hB3
  have Hpm := Lib.hid (pairs_made a.d b.d (.slice ra a.ps.length ca) (.slice rb b.ps.length cb) w3)
  have Hh0 := Lib.hid hh0
  have htwo := labBox_two a.d b.d (.slice ra a.ps.length ca) (.slice rb b.ps.length cb) w3 a b HA3.out HB3.out
  obtain ⟨w5, hw5⟩ : ∃ w5 : World, w5 = (w3.alloc (labBoxV a.d (.slice ra a.ps.length ca))).alloc (labBoxV b.d (.slice rb b.ps.length cb)) := ⟨_, rfl⟩
  rw [← hw5] at htwo
  have hseq := pairs_stops a b w3.heap.size (w3.heap.size + 1) w5 htwo.1 htwo.2 hbd
  have Hseq := Lib.hid hseq
  have HX5 : Hid (Blk w5 (h0 + 1 + 1) #[.bool false] 4) := by rw [hw5]; exact (HX.out.alloc _).alloc _
  have HB5 : Hid (Below w.heap.size w w5) := by rw [hw5]; exact (HB3'.out.alloc HB3'.out.size _).alloc (by have := HB3'.out.size; simp; omega) _
  have Hw5 := Lib.hid hw5
  clear ha hb hB3 htwo hseq hw5 HA3 HB3
  refine calls_marks Tryz.func77 rfl ?_
  simp only [Tryz.ntmps77, List.size_toArray, List.length_cons, List.length_nil, Nat.reduceAdd, Nat.reduceSub, Array.replicate_succ, Array.replicate_zero, List.push_toArray, List.append_toArray, List.nil_append, List.cons_append]
  go_wp2_with fail
  rw [← hw3, ← hh0]
  clear hw3 hh0
  refine Hpm.out.mono ?_
  rintro e w5' ⟨rfl, rfl⟩
  rw [← Hw5.out]
  go_wp2_with fail
  have hz5 : h0 + 1 + 1 < w5.heap.size := HX5.out.lt
  refine (wpIn_wide (n := 5)).1 ?_
  refine' wpIn_rangeFunc_ownF (F := Fence.wide) (n := 5) rfl (by omega) (gf := 151) (lb := #[.pointer (some ⟨w3.heap.size, 0, none⟩), .pointer (some ⟨w3.heap.size + 1, 0, none⟩)]) rfl trivial (enters_of Tryz.func151 (by kernel_rfl) rfl)
    Hseq.out (fun h k => h.trans k) (fun W l o o' h1 h2 h3 h4 => ck_put (w := w5) W l o o' h1 h2 h3 h4) (Below.refl _ _) (fun _ => rfl)
    (fun pre W => ((pre.all fun x => x.2) = true ∧ Blk W (h0 + 1 + 1) #[.bool false] 4) ∧ Below h0 w5 W)
    (fun c pre W => (c = Code.ret ∧ (pre.all fun x => x.2) = false ∧ Blk W (h0 + 1 + 1) #[.bool false] 4) ∧ Below h0 w5 W)
    (OwnFrom.and (Own.from (fun s A B row hs hg hr => ⟨hs.1, ck_own _ _ s A B row hs.2 hg hr⟩) _) (ownFrom_below (by omega) (by omega)))
    (fun c => OwnFrom.and (Own.from (fun s A B row hs hg hr => ⟨hs.1, hs.2.1, ck_own _ _ s A B row hs.2.2 hg hr⟩) _) (ownFrom_below (by omega) (by omega)))
    ⟨⟨rfl, HX5.out⟩, Below.refl _ _⟩ _ ?assign ?body ?done ?stop
  case assign =>
    intro l x W K hK
    gi_wp2
    exact hK
  case body =>
    rintro l pre ⟨c, ok⟩ W ⟨⟨hall, hX⟩, hB⟩ hlt
    have hcx := hX.cell
    have hfx := hX.free
    have HXb := Lib.hid hX; have HBb := Lib.hid hB; have Hall := Lib.hid hall
    clear hX hB hall
    cases ok with
    | true =>
      gi_wp2
      exact ⟨KeepsOthers.refl _, CK.refl _, ⟨by rw [List.all_append, Hall.out]; rfl, HXb.out⟩, HBb.out⟩
    | false =>
      have hX2 : Blk (W.setCell ⟨h0 + 1 + 1, 0, none⟩ (.bool false)) (h0 + 1 + 1) #[.bool false] 4 := (HXb.out.set 0 _).cells rfl
      gi_wp2
      exact ⟨KeepsOthers.setCell _ _ _, ⟨rfl, by rw [List.all_append]; simp, hX2⟩, HBb.out.setCell (p := ⟨h0 + 1 + 1, 0, none⟩) (by show h0 ≤ h0 + 1 + 1; omega) _⟩
  case stop =>
    rintro D c pre W hD hS ⟨⟨rfl, hall, hX⟩, hB⟩ hK
    have hres : a.leq b = false := by
      rw [← all_pairs]
      obtain ⟨r, hr⟩ := hS
      rw [← hr, List.all_append, hall, Bool.false_and]
    have hDz := (Array.getElem?_eq_some_iff.1 hK).1
    have hDX : D ≠ h0 + 1 + 1 := fun e => by
      unfold Blk at hX
      rw [e, hX] at hK
      cases hK
    have hcx : (W.putObj D (.deferred none)).cell? ⟨h0 + 1 + 1, 0, none⟩ = some (.bool false) := by
      rw [World.cell?_of_block (w := W) ((putObj_k W D _).block (h0 + 1 + 1) hX.lt (Ne.symm hDX))]
      rw [hX.cell]; rfl
    have HD := Lib.hid hK; have HB := Lib.hid hB; have Hres := Lib.hid hres; have hDh : h0 ≤ D := by have := hD; omega
    clear hK hB hX hres hall hS
    refine wpIn_wide.2 ?_
    go_wp2_with fail
    exact ⟨by simp, .inl ⟨D, _, rfl, run_takeDeferred HD.out, .bool false, by simp [results, Tryz.results77, hcx, go_sem], by rw [Hres.out], by
      have h1 := (HB5.out).trans (HB.out.mono (by rw [Hh0.out]; exact Nat.le_refl _))
      exact h1.trans ((putObj_k W D _).below (B := w.heap.size) (by have := HB.out.size; have := HB5.out.size; omega) (fun k hk e => by have := Hh0.out; omega))⟩⟩
  case done =>
    rintro D ys W hD hys ⟨⟨hall, hX⟩, hB⟩ hK
    have hres : a.leq b = true := by rw [← all_pairs, ← hys]; exact hall
    have hcx := hX.cell
    have hfx := hX.free
    have hX2 : Blk (W.setCell ⟨h0 + 1 + 1, 0, none⟩ (.bool true)) (h0 + 1 + 1) #[.bool true] 4 := (hX.set 0 _).cells rfl
    have hDX : D ≠ h0 + 1 + 1 := fun e => by
      unfold Blk at hX
      rw [e, hX] at hK
      cases hK
    have HDx : Hid ((W.setCell ⟨h0 + 1 + 1, 0, none⟩ (.bool true)).heap[D]? = some (.deferred (some []))) := by
      show _ = _
      rw [Below.heap_setCell _ _ _ _ (by show D ≠ h0 + 1 + 1; exact hDX)]; exact hK
    have hcy : ((W.setCell ⟨h0 + 1 + 1, 0, none⟩ (.bool true)).putObj D (.deferred none)).cell? ⟨h0 + 1 + 1, 0, none⟩ = some (.bool true) := by
      rw [World.cell?_of_block (w := W.setCell ⟨h0 + 1 + 1, 0, none⟩ (.bool true)) ((putObj_k _ D _).block (h0 + 1 + 1) hX2.lt (Ne.symm hDX))]
      rw [hX2.cell]; rfl
    have HB := Lib.hid hB; have Hres := Lib.hid hres; have hDh : h0 ≤ D := by have := hD; omega
    clear hK hB hX hres hall hys hX2
    go_wp2_with fail
    exact ⟨by simp, .inl ⟨D, _, rfl, run_takeDeferred HDx.out, .bool true, by simp [results, Tryz.results77, hcy, go_sem], by rw [Hres.out], by
      have h1 := (HB5.out).trans (HB.out.mono (by rw [Hh0.out]; exact Nat.le_refl _))
      have h2 := h1.setCell (p := ⟨h0 + 1 + 1, 0, none⟩) (by show w.heap.size ≤ h0 + 1 + 1; have := Hh0.out; omega) (.bool true)
      exact h2.trans ((putObj_k _ D _).below (B := w.heap.size) (by have := h2.size; omega) (fun k hk e => by have := Hh0.out; omega))⟩⟩
end Go.Proofs.YtjjnidbggoaonaaGreatDoor
