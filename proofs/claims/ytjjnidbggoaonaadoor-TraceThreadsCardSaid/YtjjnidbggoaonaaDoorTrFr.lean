/- TraceEvents as its frame calls it: an event that came in, a string that came in. -/
import Derived.Test.YtjjnidbggoaonaaDoorTrL
import Derived.Deep.Fields
import Derived.Lib.SmallJoins
namespace Go.Proofs.YtjjnidbggoaonaaDoor
open Go.RowKit Go.ChangeShapes Go.WideShapes Go.Deep

section
variable {H : Type} {enc : TypeId × Value → H} {P : Program} {w : World} {base : Nat} {spare : Nat → Bool} {held : Bool}
/-- Cells of a struct whose fields have one cell each: each field's cell, and its reading. -/
theorem struct_cells {fuel : Nat} {t : TypeId} {fs : Array Field} {l : List Value} {x : DataW H × List MemPlace} (hs : P.underlying t = some (.struct fs)) (hone : oneCellFields P fs = true)
    (h : DataW.trod enc P w base spare held fuel t l = some x) (hl : l.length = fs.size) : ∃ m : Nat, ∀ (j : Nat) (f : Field), fs[j]? = some f → ∃ c y, l[j]? = some c ∧ DataW.trod enc P w base spare held m f.type [c] = some y := by
  obtain ⟨ys, n, _, _, _, hyl, hg⟩ := DataW.trod_struct hs h
  refine ⟨n, fun j f hj => ?_⟩
  have hjl := (Array.getElem?_eq_some_iff.1 hj).1
  obtain ⟨o, k⟩ := hone_of hone j f hj
  have h1 := hg j f hj
  rw [o, k] at h1
  have h2 : (l.drop j).take 1 = [l[j]'(by omega)] := by
    rw [List.drop_eq_getElem_cons (by omega)]; rfl
  rw [h2] at h1
  exact ⟨_, _, List.getElem?_eq_getElem (by omega), h1.trans (List.getElem?_eq_getElem (by omega))⟩
/-- A struct by value whose fields have one cell each. -/
theorem struct_open {r : Reach} {b0 : Nat} {t : TypeId} {fs : Array Field} {v : Value} {d : DataW H} {p : List MemPlace} (hs : P.underlying t = some (.struct fs)) (hone : oneCellFields P fs = true) {k : Nat} (hC : P.cellsOf t = k) (hk : fs.size = k)
    (hv : Value.okWide P w r b0 t v) (h : DataW.Trod enc P w base spare held t v d p) : ∃ (l : List Value) (m : Nat), v = .agg l.toArray ∧ l.length = fs.size ∧ ∀ (j : Nat) (f : Field), fs[j]? = some f → ∃ c y, l[j]? = some c ∧ DataW.trod enc P w base spare held m f.type [c] = some y := by
  obtain ⟨cs, rfl, hsz⟩ := okWide_struct hs hv
  obtain ⟨l⟩ := cs
  have hl : l.length = fs.size := hsz.trans (hC.trans hk.symm)
  obtain ⟨fuel, hf⟩ := h
  obtain ⟨m, hm⟩ := struct_cells hs hone hf hl
  exact ⟨l, m, rfl, hl, hm⟩
end

/-- An event that came in by value. -/
def IsEv (v : Value) : Prop := ∃ (core : Int) (th : Nat) (what : Int), v = .agg #[.int .i64 core, .int .u64 th, .int .i64 what] ∧ -9223372036854775808 ≤ core ∧ core ≤ 9223372036854775807 ∧ th < 18446744073709551616
set_option maxRecDepth 100000 in
theorem open_evt {H : Type} {enc : TypeId × Value → H} {w : World} {base b0 : Nat} {r : Reach} {v : Value} {d : DataW H} {p : List MemPlace}
    (hv : Value.okWide Tryd.prog w r b0 24 v) (h : DataW.Trod enc Tryd.prog w base (fun _ => true) true 24 v d p) : IsEv v := by
  obtain ⟨l, m, rfl, hl, hf⟩ := struct_open (k := 3) Tryd.underlying24 (by kernel_rfl) (by kernel_rfl) rfl hv h
  obtain ⟨c0, y0, e0, g0⟩ := hf 0 _ rfl
  obtain ⟨c1, y1, e1, g1⟩ := hf 1 _ rfl
  obtain ⟨c2, y2, e2, g2⟩ := hf 2 _ rfl
  have hl : l.length = 3 := hl
  match l, hl with
  | [d0, d1, d2], _ =>
    simp only [List.getElem?_cons_zero, List.getElem?_cons_succ, Option.some.injEq] at e0 e1 e2
    subst e0 e1 e2
    obtain ⟨n0, q0, _, w0⟩ := DataW.trod_int Tryd.underlying3 (show DataW.trod enc Tryd.prog w base _ true m 3 [d0] = some y0 from g0)
    obtain ⟨n1, q1, _, w1⟩ := DataW.trod_int Tryd.underlying22 (show DataW.trod enc Tryd.prog w base _ true m 22 [d1] = some y1 from g1)
    obtain ⟨n2, q2, _, w2⟩ := DataW.trod_int Tryd.underlying3 (show DataW.trod enc Tryd.prog w base _ true m 3 [d2] = some y2 from g2)
    simp only [List.cons.injEq, and_true] at q0 q1 q2
    subst q0 q1 q2
    have b0 := wf_i64 w0
    have b1 := wf_u64 w1
    refine ⟨n0, n1.toNat, n2, ?_, b0.1, b0.2, by omega⟩
    rw [Int.toNat_of_nonneg b1.1]
theorem events_law (v : Value) (s : ByteArray) (W : World) (hv : IsEv v) (_ : s.size ≤ maxLen) (h : HasTr W) :
    Calls Tryd.prog 3 #[v, .string s] W fun e w' => e = .returned (.bool true) ∧ Below W.heap.size W w' := by
  obtain ⟨core, th, what, rfl, h1, h2, h3⟩ := hv
  have := events_walk core th what h1 h2 h3 s.data.toList W h
  have e : S s.data.toList = .string s := by show Value.string ⟨s.data.toList.toArray⟩ = _; simp
  rwa [e] at this
end Go.Proofs.YtjjnidbggoaonaaDoor
