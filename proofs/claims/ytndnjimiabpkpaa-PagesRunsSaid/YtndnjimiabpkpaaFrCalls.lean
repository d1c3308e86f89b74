/- The calls of the laws of layers 6, 7 and 14 as they come in: slices of structs, opened. -/
import Derived.Test.YtndnjimiabpkpaaArgs
import Derived.Deep.Fields
namespace Go.Proofs.Ytndnjimiabpkpaa
open Go.RowKit Go.ChangeShapes Go.WideShapes Go.Deep

section
variable {H : Type} {enc : TypeId × Value → H} {P : Program} {w : World} {base : Nat} {spare : Nat → Bool} {held : Bool}
/-- Cells of a struct whose fields have one cell each: each field's cell, and its reading. -/
theorem struct_cells {fuel : Nat} {t : TypeId} {fs : Array Field} {l : List Value} {x : DataW H × List MemPlace} (hs : P.underlying t = some (.struct fs)) (hone : oneCellFields P fs = true)
    (h : DataW.trod enc P w base spare held fuel t l = some x) (hl : l.length = fs.size) : ∃ m : Nat, ∀ (j : Nat) (f : Field), fs[j]? = some f → ∃ c y, l[j]? = some c ∧ DataW.trod enc P w base spare held m f.type [c] = some y := by
  obtain ⟨ys, n, _, _, _, hyl, hg⟩ := DataW.trod_struct hs h
  refine ⟨n, fun j f hj => ?_⟩
  have hjl := (Array.getElem?_eq_some_iff.1 hj).1
  obtain ⟨o, k⟩ := hone_of hone j f hj
  have h1 := hg j f hj
  rw [o, k] at h1
  have h2 : (l.drop j).take 1 = [l[j]'(by omega)] := by
    rw [List.drop_eq_getElem_cons (by omega)]; rfl
  rw [h2] at h1
  exact ⟨_, _, List.getElem?_eq_getElem (by omega), h1.trans (List.getElem?_eq_getElem (by omega))⟩
end

/-- Bytes that came in: a slice of length m, its bytes B 0, B 1, .. -/
def DataIn (w : World) (v : Value) (a : Option Addr) (m c : Nat) (B : Nat → Int) : Prop :=
  v = .slice a m c ∧ m ≤ c ∧ c ≤ maxLen ∧ (m = 0 ∨ ∃ b o, a = some ⟨b, o, none⟩ ∧ b < w.heap.size ∧ ∀ j, j < m → w.cell? ⟨b, o + j, none⟩ = some (.int .u8 (B j))) ∧ ∀ j, 0 ≤ B j ∧ B j ≤ 255

theorem data_in {H : Type} {enc : TypeId × Value → H} {P : Program} {w : World} {T E m : Nat} {v : Value} {y : DataW H × List MemPlace} (ht : P.underlying T = some (.slice E)) (he : P.underlying E = some (.int .u8)) (hc : P.cellsOf E = 1)
    (h : DataW.trod enc P w 0 (fun _ => true) true m T [v] = some y) : ∃ a n c B, DataIn w v a n c B := by
  rcases open_ints ht he hc h with ⟨hcs, _⟩ | ⟨x, l, c, zs, hcs, _, hl, hm, hz, _, hcell, hwz⟩
  · obtain rfl : v = .slice none 0 0 := by injection hcs
    exact ⟨none, 0, 0, fun _ => 0, rfl, Nat.le_refl _, by unfold maxLen; omega, .inl rfl, fun _ => ⟨by simp, by simp⟩⟩
  · obtain rfl : v = .slice (some x) l c := by injection hcs
    have hz : zs.length = c := by simpa using hz
    refine ⟨some x, l, c, fun j => zs.getD j 0, rfl, hl, hm, ?_, fun j => ?_⟩
    · by_cases h0 : l = 0
      · exact .inl h0
      · right
        have hc0 := hcell 0 (by omega)
        have hsp := World.cell?_spot hc0
        have hlt := cell_lt hc0
        obtain ⟨b, off, sp⟩ := x
        simp only [Addr.add_zero'] at hsp hlt
        subst hsp
        refine ⟨b, off, rfl, hlt, fun j hj => ?_⟩
        have := hcell j (by omega)
        rwa [Addr.add_lit] at this
    · have : (Lit.int .u8 (zs.getD j 0)).wf = true := by
        by_cases hj : j < zs.length
        · have e : zs.getD j 0 = zs[j] := by simp [List.getD, hj]
          rw [e]; exact hwz _ (List.getElem_mem hj)
        · have e : zs.getD j 0 = 0 := by simp [List.getD, Nat.le_of_not_lt hj]
          rw [e]; decide
      exact wf_u8 this

/-- A call of a pool. -/
structure Call06 where
  (kd f off nn ow : Int) (v : Value) (a : Option Addr) (m c : Nat) (B : Nat → Int)
instance : Inhabited Call06 := ⟨⟨0, 0, 0, 0, 0, .bool false, none, 0, 0, fun _ => 0⟩⟩
def Call06.wf (x : Call06) : Prop := (Lit.int .i64 x.kd).wf = true ∧ (Lit.int .i64 x.f).wf = true ∧ (Lit.int .i64 x.off).wf = true ∧ (Lit.int .i64 x.nn).wf = true ∧ (Lit.int .u64 x.ow).wf = true
def Calls06 (w : World) (a : Option Addr) (len cap : Nat) (X : Nat → Call06) : Prop :=
  ∃ b off, IdxAt Try.prog 42 6 a len cap b off ∧ (0 < len → b < w.heap.size) ∧ len ≤ maxLen ∧
    ∀ j, j < len → (w.cell? ⟨b, off + j * 6, none⟩ = some (.int .i64 (X j).kd) ∧ w.cell? ⟨b, off + j * 6 + 1, none⟩ = some (.int .i64 (X j).f) ∧ w.cell? ⟨b, off + j * 6 + 2, none⟩ = some (.int .i64 (X j).off) ∧
      w.cell? ⟨b, off + j * 6 + 3, none⟩ = some (.int .i64 (X j).nn) ∧ w.cell? ⟨b, off + j * 6 + 4, none⟩ = some (.int .u64 (X j).ow) ∧ w.cell? ⟨b, off + j * 6 + 5, none⟩ = some (X j).v) ∧ (X j).wf ∧ DataIn w (X j).v (X j).a (X j).m (X j).c (X j).B

theorem call06_cells {H : Type} {enc : TypeId × Value → H} {w : World} {cs : List Value} {m : Nat} {y : DataW H × List MemPlace} (hl : cs.length = 6)
    (h : DataW.trod enc Try.prog w 0 (fun _ => true) true m 49 cs = some y) :
    ∃ x : Call06, cs = [.int .i64 x.kd, .int .i64 x.f, .int .i64 x.off, .int .i64 x.nn, .int .u64 x.ow, x.v] ∧ x.wf ∧ DataIn w x.v x.a x.m x.c x.B := by
  obtain ⟨n, hf⟩ := struct_cells Try.underlying49 (by kernel_rfl) h (hl.trans rfl)
  obtain ⟨c0, y0, e0, g0⟩ := hf 0 _ rfl
  obtain ⟨c1, y1, e1, g1⟩ := hf 1 _ rfl
  obtain ⟨c2, y2, e2, g2⟩ := hf 2 _ rfl
  obtain ⟨c3, y3, e3, g3⟩ := hf 3 _ rfl
  obtain ⟨c4, y4, e4, g4⟩ := hf 4 _ rfl
  obtain ⟨c5, y5, e5, g5⟩ := hf 5 _ rfl
  match cs, hl with
  | [d0, d1, d2, d3, d4, d5], _ =>
    simp only [List.getElem?_cons_zero, List.getElem?_cons_succ, Option.some.injEq] at e0 e1 e2 e3 e4 e5
    subst e0 e1 e2 e3 e4 e5
    obtain ⟨n0, q0, _, w0⟩ := DataW.trod_int Try.underlying3 (show DataW.trod enc Try.prog w 0 _ true n 3 [d0] = some y0 from g0)
    obtain ⟨n1, q1, _, w1⟩ := DataW.trod_int Try.underlying3 (show DataW.trod enc Try.prog w 0 _ true n 3 [d1] = some y1 from g1)
    obtain ⟨n2, q2, _, w2⟩ := DataW.trod_int Try.underlying3 (show DataW.trod enc Try.prog w 0 _ true n 3 [d2] = some y2 from g2)
    obtain ⟨n3, q3, _, w3⟩ := DataW.trod_int Try.underlying3 (show DataW.trod enc Try.prog w 0 _ true n 3 [d3] = some y3 from g3)
    obtain ⟨n4, q4, _, w4⟩ := DataW.trod_int Try.underlying27 (show DataW.trod enc Try.prog w 0 _ true n 27 [d4] = some y4 from g4)
    obtain ⟨a, k, c, B, hd⟩ := data_in Try.underlying32 Try.underlying5 (by kernel_rfl) (show DataW.trod enc Try.prog w 0 _ true n 32 [d5] = some y5 from g5)
    simp only [List.cons.injEq, and_true] at q0 q1 q2 q3 q4
    subst q0 q1 q2 q3 q4
    exact ⟨⟨n0, n1, n2, n3, n4, d5, a, k, c, B⟩, rfl, ⟨w0, w1, w2, w3, w4⟩, hd⟩

theorem calls06_in {H : Type} {enc : TypeId × Value → H} {w : World} {a : Option Addr} {len cap : Nat} {d : DataW H} {p : List MemPlace}
    (h : DataW.Trod enc Try.prog w 0 (fun _ => true) true 42 (.slice a len cap) d p) : ∃ X, Calls06 w a len cap X := by
  obtain ⟨b, off, hix, hlt, hl, hm, hel⟩ := slice_open (n := 6) Try.underlying42 (by kernel_rfl) (by omega) (fun w => by kernel_rfl) h
  obtain ⟨X, hX⟩ := Go.Deep.choose_lt (α := Call06) (p := fun j x => (w.cell? ⟨b, off + j * 6, none⟩ = some (.int .i64 x.kd) ∧ w.cell? ⟨b, off + j * 6 + 1, none⟩ = some (.int .i64 x.f) ∧ w.cell? ⟨b, off + j * 6 + 2, none⟩ = some (.int .i64 x.off) ∧
      w.cell? ⟨b, off + j * 6 + 3, none⟩ = some (.int .i64 x.nn) ∧ w.cell? ⟨b, off + j * 6 + 4, none⟩ = some (.int .u64 x.ow) ∧ w.cell? ⟨b, off + j * 6 + 5, none⟩ = some x.v) ∧ x.wf ∧ DataIn w x.v x.a x.m x.c x.B) (n := len) (fun j hj => by
    obtain ⟨cs, hcl, hc, m, y, ht⟩ := hel j hj
    obtain ⟨x, rfl, hw, hd⟩ := call06_cells hcl ht
    exact ⟨x, ⟨hc 0 (by omega), hc 1 (by omega), hc 2 (by omega), hc 3 (by omega), hc 4 (by omega), hc 5 (by omega)⟩, hw, hd⟩)
  exact ⟨X, b, off, hix, hlt, by omega, hX⟩
end Go.Proofs.Ytndnjimiabpkpaa
