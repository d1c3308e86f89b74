/- Reading a configuration: the lines so far, and the memory. -/
import Derived.Test.YtjjnidbggoaonaaGreatDoorWoRo
import Derived.Test.YtjjnidbggoaonaaGreatDoorWoRr
import Derived.Test.YtjjnidbggoaonaaGreatDoorWoKi
namespace Go.Proofs.YtjjnidbggoaonaaGreatDoor
open Go.RowKit
attribute [local irreducible] World.setCell World.alloc World.drew World.setRow Calls Code.wp

theorem num_nn (r : Rd) : N31 r.num.2 := by
  unfold Rd.num
  cases e : numW r.word.2 with
  | none => exact ⟨by simp, by simp⟩
  | some n =>
    have := (numW_itoa' e).2
    exact ⟨by simp, by simp only; omega⟩
/-- The lines read so far. -/
structure ParSt (LS : List (List UInt8)) (b0 : Bool) (c0 : WCfg) (k : Nat) (bd : Bool) (cm : WCfg) (os : List WObj) : Prop where
  eq : readLines LS b0 c0 = readLines (LS.drop k) bd cm
  len : os.length = cm.objs.length
  good : bd = false → os = cm.objs
  ln : cm.slots.length + os.length ≤ k
  sl : ∀ s ∈ cm.slots, N31 s.1 ∧ N31 s.2
  hd : cm.cores = c0.cores ∧ cm.frames = c0.frames ∧ cm.names = c0.names
theorem ParSt.begin (LS : List (List UInt8)) (b0 : Bool) (x y z : Int) : ParSt LS b0 ⟨x, y, z, [], []⟩ 0 b0 ⟨x, y, z, [], []⟩ [] :=
  ⟨rfl, rfl, fun _ => rfl, Nat.le_refl _, (fun s hs => by cases hs), ⟨rfl, rfl, rfl⟩⟩
theorem objs_nil {cm : WCfg} {os : List WObj} (h : os.length = cm.objs.length) : os = [] ↔ cm.objs = [] := by
  rw [← List.length_eq_zero_iff, h, List.length_eq_zero_iff]
theorem ParSt.slot {LS : List (List UInt8)} {b0 bd : Bool} {c0 cm : WCfg} {k : Nat} {os : List WObj} (h : ParSt LS b0 c0 k bd cm os) {s : List UInt8} (hs : LS[k]? = some s) {r1 a b : Rd} {x y : Int} (hw : Rd.word ⟨s, false⟩ = (r1, slotW)) (ho : os = []) (ha : r1.num = (a, x)) (hb : a.num = (b, y)) :
    ParSt LS b0 c0 (k + 1) (bd || (b.bad || !b.over)) { cm with slots := cm.slots ++ [(x, y)] } os := by
  have hx := num_nn r1
  have hy := num_nn a
  rw [ha] at hx
  rw [hb] at hy
  refine ⟨?_, h.len, fun e => ?_, ?_, ?_, h.hd⟩
  · rw [h.eq, drop_at hs]
    conv => lhs; unfold readLines
    simp only [hw]
    rw [if_pos (by simpa using (objs_nil h.len).1 ho)]
    simp only [ha, hb]
  · rw [Bool.or_eq_false_iff] at e
    exact h.good e.1
  · have := h.ln
    simp only [List.length_append, List.length_singleton]; omega
  · intro q hq
    rcases List.mem_append.1 hq with hq | hq
    · exact h.sl q hq
    · rw [List.mem_singleton] at hq
      subst hq
      exact ⟨hx, hy⟩
theorem ParSt.obj {LS : List (List UInt8)} {b0 bd : Bool} {c0 cm : WCfg} {k : Nat} {os : List WObj} (h : ParSt LS b0 c0 k bd cm os) {s wd : List UInt8} (hs : LS[k]? = some s) {r1 : Rd} (hw : Rd.word ⟨s, false⟩ = (r1, wd)) (hn : ¬ (wd = slotW ∧ os = [])) {b : Rd} {om : WObj} (hb : r1.object (kindOf wd) = (b, om)) {o : WObj} (ho : b.bad = false → o = om) :
    ParSt LS b0 c0 (k + 1) ((bd || decide (kindOf wd = 0)) || (b.bad || !b.over)) { cm with objs := cm.objs ++ [om] } (os ++ [o]) := by
  refine ⟨?_, by simp [h.len], fun e => ?_, ?_, h.sl, h.hd⟩
  · rw [h.eq, drop_at hs]
    conv => lhs; unfold readLines
    simp only [hw]
    rw [if_neg (fun hh => hn ⟨hh.1, (objs_nil h.len).2 hh.2⟩)]
    simp only [hb]
  · rw [Bool.or_eq_false_iff, Bool.or_eq_false_iff, Bool.or_eq_false_iff] at e
    rw [h.good e.1.1, ho e.2.1]
  · have := h.ln
    simp only [List.length_append, List.length_singleton]; omega
/-! ### The memory -/
structure PMem (w wx : World) (cb xb : Nat) (lv : Value) (LS0 : List (List UInt8)) (x y z : Int) (sv ov : Value) (ss : List (Int × Int)) (os : List WObj) : Prop where
  cfg : Blk wx cb #[.int .i64 x, .int .i64 y, .int .i64 z, sv, ov] 57
  zero : Blk wx xb #[.int .i64 0, .int .i64 0, .int .i64 0, .slice none 0 0, .slice none 0 0] 57
  lines : StrsIn wx lv LS0
  slots : wx.ownsRow w.heap.size 110 2 sv ss.length (ss.flatMap slotV)
  objs : ∃ sl : List OSl, sl.length = os.length ∧ (∀ (j : Nat) (o : WObj) (s : OSl), os[j]? = some o → sl[j]? = some s → ObjV wx o s.ls s.lc s.vd s.vm) ∧ wx.ownsRow w.heap.size 107 12 ov os.length (objsC os sl)
  kept : Kept (fun _ => False) w wx
def OkTy (ty : TypeId) : Prop := ty ≠ 57 ∧ ty ≠ 9 ∧ ty ≠ 110 ∧ ty ≠ 107 ∧ ty ≠ 144 ∧ ty ≠ 157 ∧ ty ≠ 5
theorem PMem.tr {w wx w' : World} {cb xb : Nat} {lv : Value} {LS0 : List (List UInt8)} {x y z : Int} {sv ov : Value} {ss : List (Int × Int)} {os : List WObj} (h : PMem w wx cb xb lv LS0 x y z sv ov ss os) {T : Nat → Prop} (k : Kept T wx w') (hg : ∀ b, T b → w.heap.size ≤ b) (hT : ∀ b cs ty fz, T b → wx.heap[b]? = some (.cells cs ty fz) → OkTy ty) : PMem w w' cb xb lv LS0 x y z sv ov ss os := by
  obtain ⟨sl, h1, h2, h3⟩ := h.objs
  refine ⟨Blk.below' h.cfg k (fun hb => (hT _ _ _ _ hb h.cfg).1 rfl), Blk.below' h.zero k (fun hb => (hT _ _ _ _ hb h.zero).1 rfl), RowAt.kept h.lines k (fun b cs fz hb hh => (hT _ _ _ _ hb hh).2.1 rfl), row_kept h.slots k (fun b hb ht => ?_), ⟨sl, h1, fun j o s hj hs => (h2 j o s hj hs).tame k (fun b cs ty fz hb hh => (hT _ _ _ _ hb hh).2.2.2.2), row_kept h3 k (fun b hb ht => ?_)⟩, h.kept.then k (fun i hi ht => absurd (hg i ht) (by omega))⟩
  · obtain ⟨cur, e, -⟩ := row_type h.slots hb
    exact (hT _ _ _ _ ht e).2.2.1 rfl
  · obtain ⟨cur, e, -⟩ := row_type h3 hb
    exact (hT _ _ _ _ ht e).2.2.2.1 rfl
theorem PMem.below {w wx w' : World} {cb xb : Nat} {lv : Value} {LS0 : List (List UInt8)} {x y z : Int} {sv ov : Value} {ss : List (Int × Int)} {os : List WObj} (h : PMem w wx cb xb lv LS0 x y z sv ov ss os) (k : Below wx.heap.size wx w') : PMem w w' cb xb lv LS0 x y z sv ov ss os :=
  h.tr (T := fun _ => False) (Kept.of_below k) (fun _ f => f.elim) (fun _ _ _ _ f _ => f.elim)
theorem PMem.reader {w wx w' : World} {cb xb : Nat} {lv : Value} {LS0 : List (List UInt8)} {x y z : Int} {sv ov : Value} {ss : List (Int × Int)} {os : List WObj} (h : PMem w wx cb xb lv LS0 x y z sv ov ss os) {rb : Nat} {r : Rd} (hr : RdW wx rb r) (hb : w.heap.size ≤ rb) (k : Kept (· = rb) wx w') : PMem w w' cb xb lv LS0 x y z sv ov ss os :=
  h.tr k (fun b e => by rw [e]; exact hb) (fun b cs ty fz e hh => by
    subst e
    unfold RdW Blk at hr
    rw [hr] at hh
    simp only [Option.some.injEq, Obj.cells.injEq] at hh
    rw [← hh.2.1]
    unfold OkTy
    decide)
theorem PMem.in {w wx : World} {cb xb : Nat} {lv : Value} {LS0 : List (List UInt8)} {x y z : Int} {sv ov : Value} {ss : List (Int × Int)} {os : List WObj} (h : PMem w wx cb xb lv LS0 x y z sv ov ss os) (hw : HasWo w) : WoIn w.heap.size wx := (WoIn.start hw).kept h.kept (fun _ f => f.elim)
theorem PMem.bel {w wx : World} {cb xb : Nat} {lv : Value} {LS0 : List (List UInt8)} {x y z : Int} {sv ov : Value} {ss : List (Int × Int)} {os : List WObj} (h : PMem w wx cb xb lv LS0 x y z sv ov ss os) : Below w.heap.size w wx := h.kept.below (Nat.le_refl _) (fun _ _ f => f)
theorem PMem.value {w wx : World} {cb xb : Nat} {lv : Value} {LS0 : List (List UInt8)} {x y z : Int} {sv ov : Value} {ss : List (Int × Int)} {os : List WObj} (h : PMem w wx cb xb lv LS0 x y z sv ov ss os) : CfgIn wx (.agg #[.int .i64 x, .int .i64 y, .int .i64 z, sv, ov]) ⟨x, y, z, ss, os⟩ := by
  obtain ⟨sl, h1, h2, h3⟩ := h.objs
  exact ⟨sv, ov, rfl, RowAt.own h.slots, sl, h1, h2, RowAt.own h3⟩
theorem row_far {w w' : World} {base e size n : Nat} {v : Value} {xs : List Value} (h : w.ownsRow base e size v n xs) {T : Nat → Prop} {ty : TypeId} (k : Kept T w w') (hT : ∀ b, T b → ∃ cs fz, w.heap[b]? = some (.cells cs ty fz)) (hne : ty ≠ e) : w'.ownsRow base e size v n xs :=
  row_kept h k (fun b hb ht => by
    obtain ⟨cur, e1, -⟩ := row_type h hb
    obtain ⟨cs, fz, e2⟩ := hT b ht
    rw [e1] at e2
    simp only [Option.some.injEq, Obj.cells.injEq] at e2
    exact hne e2.2.1.symm)
theorem blk_far {w w' : World} {b ty : Nat} {cs : Array Value} (h : Blk w b cs ty) {T : Nat → Prop} {ty2 : TypeId} (k : Kept T w w') (hT : ∀ b, T b → ∃ cs fz, w.heap[b]? = some (.cells cs ty2 fz)) (hne : ty2 ≠ ty) : Blk w' b cs ty :=
  h.below' k (fun ht => by
    obtain ⟨cs', fz, e2⟩ := hT b ht
    unfold Blk at h
    rw [h] at e2
    simp only [Option.some.injEq, Obj.cells.injEq] at e2
    exact hne e2.2.1.symm)
theorem rowat_far {w w' : World} {ty n : Nat} {v : Value} {cells : List Value} (h : RowAt w ty v n cells) {T : Nat → Prop} {ty2 : TypeId} (k : Kept T w w') (hT : ∀ b, T b → ∃ cs fz, w.heap[b]? = some (.cells cs ty2 fz)) (hne : ty2 ≠ ty) : RowAt w' ty v n cells :=
  RowAt.kept h k (fun b cs fz ht hh => by
    obtain ⟨cs', fz', e2⟩ := hT b ht
    rw [hh] at e2
    simp only [Option.some.injEq, Obj.cells.injEq] at e2
    exact hne e2.2.1.symm)
theorem objv_far {w w' : World} {o : WObj} {ls lc vd vm : Value} (h : ObjV w o ls lc vd vm) {T : Nat → Prop} {ty2 : TypeId} (k : Kept T w w') (hT : ∀ b, T b → ∃ cs fz, w.heap[b]? = some (.cells cs ty2 fz)) (hne : ty2 ≠ 144 ∧ ty2 ≠ 157 ∧ ty2 ≠ 5) : ObjV w' o ls lc vd vm :=
  h.tame k (fun b cs ty fz ht hh => by
    obtain ⟨cs', fz', e2⟩ := hT b ht
    rw [hh] at e2
    simp only [Option.some.injEq, Obj.cells.injEq] at e2
    rw [e2.2.1]; exact hne)
theorem blk_T {w : World} {b ty : Nat} {cs : Array Value} (h : Blk w b cs ty) : ∀ b', b' = b → ∃ cs fz, w.heap[b']? = some (.cells cs ty fz) := fun b' e => by
  subst e
  exact ⟨cs, _, h⟩
theorem row_T {w : World} {base e size n : Nat} {v : Value} {xs : List Value} (h : w.ownsRow base e size v n xs) : ∀ b', v.ownBlock = some b' → ∃ cs fz, w.heap[b']? = some (.cells cs e fz) := fun b' hb => by
  obtain ⟨cur, e1, -⟩ := row_type h hb
  exact ⟨_, _, e1⟩
/-- A slot more. -/
theorem PMem.addSlot {w wy w5 : World} {cb xb : Nat} {lv : Value} {LS0 : List (List UInt8)} {x y z : Int} {sv ov : Value} {ss : List (Int × Int)} {os : List WObj} (h : PMem w wy cb xb lv LS0 x y z sv ov ss os) (hn : cb ≠ xb) (hcb : w.heap.size ≤ cb) {sv' : Value} {s : Int × Int} (hg : wy.grownBy w5 sv.ownBlock) (ho : w5.ownsRow w.heap.size 110 2 sv' (ss ++ [s]).length ((ss ++ [s]).flatMap slotV)) :
    PMem w (w5.setCell ⟨cb, 3, none⟩ sv') cb xb lv LS0 x y z sv' ov (ss ++ [s]) os ∧ Blk w5 cb #[.int .i64 x, .int .i64 y, .int .i64 z, sv, ov] 57 := by
  have k5 := kept_grown hg
  have hT := row_T h.slots
  obtain ⟨sl, h1, h2, h3⟩ := h.objs
  have hc := blk_far h.cfg k5 hT (by decide)
  have kc : Kept (· = cb) w5 (w5.setCell ⟨cb, 3, none⟩ sv') := (Kept.refl (· = cb) w5).setIn cb 3 _ rfl
  have hTc := blk_T hc
  exact ⟨⟨(hc.set 3 sv').cells rfl, (blk_far h.zero k5 hT (by decide)).below' kc (fun e => hn e.symm), rowat_far (rowat_far h.lines k5 hT (by decide)) kc hTc (by decide), row_far ho kc hTc (by decide),
    ⟨sl, h1, fun j o s hj hs => objv_far (objv_far (h2 j o s hj hs) k5 hT (by decide)) kc hTc (by decide), row_far (row_far h3 k5 hT (by decide)) kc hTc (by decide)⟩,
    (h.kept.then k5 (fun i hi e => by
      have := (row_type h.slots e).choose_spec.2
      omega)).setNew cb 3 _ hcb⟩, hc⟩
/-- An object more. -/
theorem PMem.addObj {w wy w5 : World} {cb xb : Nat} {lv : Value} {LS0 : List (List UInt8)} {x y z : Int} {sv ov : Value} {ss : List (Int × Int)} {os : List WObj} (h : PMem w wy cb xb lv LS0 x y z sv ov ss os) (hn : cb ≠ xb) (hcb : w.heap.size ≤ cb) {o : WObj} {q : OSl} (hV : ObjV wy o q.ls q.lc q.vd q.vm) {sl : List OSl} (h1 : sl.length = os.length) (h2 : ∀ (j : Nat) (o : WObj) (s : OSl), os[j]? = some o → sl[j]? = some s → ObjV wy o s.ls s.lc s.vd s.vm) (h3 : wy.ownsRow w.heap.size 107 12 ov os.length (objsC os sl))
    {ov' : Value} (hg : wy.grownBy w5 ov.ownBlock) (ho : w5.ownsRow w.heap.size 107 12 ov' (os ++ [o]).length (objsC (os ++ [o]) (sl ++ [q]))) :
    PMem w (w5.setCell ⟨cb, 4, none⟩ ov') cb xb lv LS0 x y z sv ov' ss (os ++ [o]) ∧ Blk w5 cb #[.int .i64 x, .int .i64 y, .int .i64 z, sv, ov] 57 := by
  have k5 := kept_grown hg
  have hT := row_T h3
  have hc := blk_far h.cfg k5 hT (by decide)
  have kc : Kept (· = cb) w5 (w5.setCell ⟨cb, 4, none⟩ ov') := (Kept.refl (· = cb) w5).setIn cb 4 _ rfl
  have hTc := blk_T hc
  refine ⟨⟨(hc.set 4 ov').cells rfl, (blk_far h.zero k5 hT (by decide)).below' kc (fun e => hn e.symm), rowat_far (rowat_far h.lines k5 hT (by decide)) kc hTc (by decide), row_far (row_far h.slots k5 hT (by decide)) kc hTc (by decide),
    ⟨sl ++ [q], by simp [h1], fun j o' s hj hs => ?_, row_far ho kc hTc (by decide)⟩,
    (h.kept.then k5 (fun i hi e => by
      have := (row_type h3 e).choose_spec.2
      omega)).setNew cb 4 _ hcb⟩, hc⟩
  refine objv_far (objv_far ?_ k5 hT (by decide)) kc hTc (by decide)
  rcases Nat.lt_or_ge j os.length with hj' | hj'
  · rw [List.getElem?_append_left hj'] at hj
    rw [List.getElem?_append_left (by omega)] at hs
    exact h2 j o' s hj hs
  · rw [List.getElem?_append_right hj'] at hj
    rw [List.getElem?_append_right (by omega)] at hs
    have h0 : j - os.length = 0 := by
      rcases Nat.eq_zero_or_pos (j - os.length) with h | h
      · exact h
      · rw [List.getElem?_eq_none (by simp only [List.length_singleton]; omega)] at hj; cases hj
    rw [h0] at hj
    rw [h1, h0] at hs
    simp at hj hs
    rw [← hj, ← hs]
    exact hV
end Go.Proofs.YtjjnidbggoaonaaGreatDoor
