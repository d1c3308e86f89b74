/- An instruction that came in; an instruction that lies in memory, loaded. -/
import Derived.Test.YtjjnidbggoaonaaGreatDoorIsaR
import Derived.Test.YtjjnidbggoaonaaGreatDoorArgs
import Derived.Deep.Fields
import Derived.Lib.SmallJoins
namespace Go.Proofs.YtjjnidbggoaonaaGreatDoor
open Go.RowKit Go.ChangeShapes Go.WideShapes Go.Deep

def Ins.wf (x : Ins) : Prop := ((Lit.int .i64 x.op).wf = true ∧ (Lit.int .i64 x.a).wf = true ∧ (Lit.int .i64 x.b).wf = true ∧ (Lit.int .i64 x.c).wf = true) ∧ -2147483648 ≤ x.imm ∧ x.imm ≤ 2147483647
theorem wf_i32 {x : Int} (h : (Lit.int .i32 x).wf = true) : -2147483648 ≤ x ∧ x ≤ 2147483647 := by
  simpa [Lit.wf, IntKind.min, IntKind.max, IntKind.signed, IntKind.bits] using h

section
variable {H : Type} {enc : TypeId × Value → H} {P : Program} {w : World} {base : Nat} {spare : Nat → Bool} {held : Bool}
/-- Cells of a struct whose fields have one cell each: each field's cell, and its reading. -/
theorem struct_cells {fuel : Nat} {t : TypeId} {fs : Array Field} {l : List Value} {x : DataW H × List MemPlace} (hs : P.underlying t = some (.struct fs)) (hone : oneCellFields P fs = true)
    (h : DataW.trod enc P w base spare held fuel t l = some x) (hl : l.length = fs.size) : ∃ m : Nat, ∀ (j : Nat) (f : Field), fs[j]? = some f → ∃ c y, l[j]? = some c ∧ DataW.trod enc P w base spare held m f.type [c] = some y := by
  obtain ⟨ys, n, _, _, _, hyl, hg⟩ := DataW.trod_struct hs h
  refine ⟨n, fun j f hj => ?_⟩
  have hjl := (Array.getElem?_eq_some_iff.1 hj).1
  obtain ⟨o, k⟩ := hone_of hone j f hj
  have h1 := hg j f hj
  rw [o, k] at h1
  have h2 : (l.drop j).take 1 = [l[j]'(by omega)] := by
    rw [List.drop_eq_getElem_cons (by omega)]; rfl
  rw [h2] at h1
  exact ⟨_, _, List.getElem?_eq_getElem (by omega), h1.trans (List.getElem?_eq_getElem (by omega))⟩
/-- A struct by value whose fields have one cell each. -/
theorem struct_open {r : Reach} {b0 : Nat} {t : TypeId} {fs : Array Field} {v : Value} {d : DataW H} {p : List MemPlace} (hs : P.underlying t = some (.struct fs)) (hone : oneCellFields P fs = true) {k : Nat} (hC : P.cellsOf t = k) (hk : fs.size = k)
    (hv : Value.okWide P w r b0 t v) (h : DataW.Trod enc P w base spare held t v d p) : ∃ (l : List Value) (m : Nat), v = .agg l.toArray ∧ l.length = fs.size ∧ ∀ (j : Nat) (f : Field), fs[j]? = some f → ∃ c y, l[j]? = some c ∧ DataW.trod enc P w base spare held m f.type [c] = some y := by
  obtain ⟨cs, rfl, hsz⟩ := okWide_struct hs hv
  obtain ⟨l⟩ := cs
  have hl : l.length = fs.size := hsz.trans (hC.trans hk.symm)
  obtain ⟨fuel, hf⟩ := h
  obtain ⟨m, hm⟩ := struct_cells hs hone hf hl
  exact ⟨l, m, rfl, hl, hm⟩
end

set_option maxRecDepth 100000 in
/-- An instruction that came in by value. -/
theorem open_ins {H : Type} {enc : TypeId × Value → H} {w : World} {base b0 : Nat} {r : Reach} {v : Value} {d : DataW H} {p : List MemPlace}
    (hv : Value.okWide Tryz.prog w r b0 23 v) (h : DataW.Trod enc Tryz.prog w base (fun _ => true) true 23 v d p) : ∃ x : Ins, v = x.v ∧ x.wf := by
  obtain ⟨l, m, rfl, hl, hf⟩ := struct_open (k := 5) Tryz.underlying23 (by kernel_rfl) (by kernel_rfl) rfl hv h
  obtain ⟨c0, y0, e0, g0⟩ := hf 0 _ rfl
  obtain ⟨c1, y1, e1, g1⟩ := hf 1 _ rfl
  obtain ⟨c2, y2, e2, g2⟩ := hf 2 _ rfl
  obtain ⟨c3, y3, e3, g3⟩ := hf 3 _ rfl
  obtain ⟨c4, y4, e4, g4⟩ := hf 4 _ rfl
  have hl : l.length = 5 := hl
  match l, hl with
  | [d0, d1, d2, d3, d4], _ =>
    simp only [List.getElem?_cons_zero, List.getElem?_cons_succ, Option.some.injEq] at e0 e1 e2 e3 e4
    subst e0 e1 e2 e3 e4
    obtain ⟨n0, q0, _, w0⟩ := DataW.trod_int Tryz.underlying3 (show DataW.trod enc Tryz.prog w base _ true m 3 [d0] = some y0 from g0)
    obtain ⟨n1, q1, _, w1⟩ := DataW.trod_int Tryz.underlying3 (show DataW.trod enc Tryz.prog w base _ true m 3 [d1] = some y1 from g1)
    obtain ⟨n2, q2, _, w2⟩ := DataW.trod_int Tryz.underlying3 (show DataW.trod enc Tryz.prog w base _ true m 3 [d2] = some y2 from g2)
    obtain ⟨n3, q3, _, w3⟩ := DataW.trod_int Tryz.underlying3 (show DataW.trod enc Tryz.prog w base _ true m 3 [d3] = some y3 from g3)
    obtain ⟨n4, q4, _, w4⟩ := DataW.trod_int Tryz.underlying21 (show DataW.trod enc Tryz.prog w base _ true m 21 [d4] = some y4 from g4)
    simp only [List.cons.injEq, and_true] at q0 q1 q2 q3 q4
    subst q0 q1 q2 q3 q4
    exact ⟨⟨n0, n1, n2, n3, n4⟩, rfl, ⟨w0, w1, w2, w3⟩, wf_i32 w4⟩
end Go.Proofs.YtjjnidbggoaonaaGreatDoor
