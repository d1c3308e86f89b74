/- The calls of the laws of layers 14 and 7 as they come in. Printed by a program of this claim's author. -/
import Derived.Test.YtndnjimiabpkpaaFrCalls
namespace Go.Proofs.Ytndnjimiabpkpaa
open Go.RowKit Go.ChangeShapes Go.WideShapes Go.Deep

/-- A call of glacislaw14.Call. -/
structure Call14 where
  (kd wh off nn at_ xx : Int) (v : Value) (a : Option Addr) (m c : Nat) (B : Nat → Int)
instance : Inhabited Call14 := ⟨⟨0, 0, 0, 0, 0, 0, .bool false, none, 0, 0, fun _ => 0⟩⟩
def Call14.wf (x : Call14) : Prop := (Lit.int .i64 x.kd).wf = true ∧ (Lit.int .i64 x.wh).wf = true ∧ (Lit.int .i64 x.off).wf = true ∧ (Lit.int .i64 x.nn).wf = true ∧ (Lit.int .i64 x.at_).wf = true ∧ (Lit.int .u64 x.xx).wf = true
def Call14s (w : World) (a : Option Addr) (len cap : Nat) (X : Nat → Call14) : Prop :=
  ∃ b off, IdxAt Try.prog 70 7 a len cap b off ∧ (0 < len → b < w.heap.size) ∧ len ≤ maxLen ∧
    ∀ j, j < len → (w.cell? ⟨b, off + j * 7, none⟩ = some (.int .i64 (X j).kd) ∧ w.cell? ⟨b, off + j * 7 + 1, none⟩ = some (.int .i64 (X j).wh) ∧ w.cell? ⟨b, off + j * 7 + 2, none⟩ = some (.int .i64 (X j).off) ∧ w.cell? ⟨b, off + j * 7 + 3, none⟩ = some (.int .i64 (X j).nn) ∧ w.cell? ⟨b, off + j * 7 + 4, none⟩ = some (.int .i64 (X j).at_) ∧ w.cell? ⟨b, off + j * 7 + 5, none⟩ = some (.int .u64 (X j).xx) ∧ w.cell? ⟨b, off + j * 7 + 6, none⟩ = some ((X j).v)) ∧ (X j).wf ∧ DataIn w (X j).v (X j).a (X j).m (X j).c (X j).B
theorem call14_cells {H : Type} {enc : TypeId × Value → H} {w : World} {cs : List Value} {m : Nat} {y : DataW H × List MemPlace} (hl : cs.length = 7)
    (h : DataW.trod enc Try.prog w 0 (fun _ => true) true m 74 cs = some y) :
    ∃ x : Call14, cs = [.int .i64 x.kd, .int .i64 x.wh, .int .i64 x.off, .int .i64 x.nn, .int .i64 x.at_, .int .u64 x.xx, x.v] ∧ x.wf ∧ DataIn w x.v x.a x.m x.c x.B := by
  obtain ⟨n, hf⟩ := struct_cells Try.underlying74 (by kernel_rfl) h (hl.trans rfl)
  obtain ⟨c0, y0, e0, g0⟩ := hf 0 _ rfl
  obtain ⟨c1, y1, e1, g1⟩ := hf 1 _ rfl
  obtain ⟨c2, y2, e2, g2⟩ := hf 2 _ rfl
  obtain ⟨c3, y3, e3, g3⟩ := hf 3 _ rfl
  obtain ⟨c4, y4, e4, g4⟩ := hf 4 _ rfl
  obtain ⟨c5, y5, e5, g5⟩ := hf 5 _ rfl
  obtain ⟨c6, y6, e6, g6⟩ := hf 6 _ rfl
  match cs, hl with
  | [d0, d1, d2, d3, d4, d5, d6], _ =>
    simp only [List.getElem?_cons_zero, List.getElem?_cons_succ, Option.some.injEq] at e0 e1 e2 e3 e4 e5 e6
    subst e0 e1 e2 e3 e4 e5 e6
    obtain ⟨n0, q0, _, w0⟩ := DataW.trod_int Try.underlying3 (show DataW.trod enc Try.prog w 0 _ true n 3 [d0] = some y0 from g0)
    obtain ⟨n1, q1, _, w1⟩ := DataW.trod_int Try.underlying3 (show DataW.trod enc Try.prog w 0 _ true n 3 [d1] = some y1 from g1)
    obtain ⟨n2, q2, _, w2⟩ := DataW.trod_int Try.underlying3 (show DataW.trod enc Try.prog w 0 _ true n 3 [d2] = some y2 from g2)
    obtain ⟨n3, q3, _, w3⟩ := DataW.trod_int Try.underlying3 (show DataW.trod enc Try.prog w 0 _ true n 3 [d3] = some y3 from g3)
    obtain ⟨n4, q4, _, w4⟩ := DataW.trod_int Try.underlying3 (show DataW.trod enc Try.prog w 0 _ true n 3 [d4] = some y4 from g4)
    obtain ⟨n5, q5, _, w5⟩ := DataW.trod_int Try.underlying27 (show DataW.trod enc Try.prog w 0 _ true n 27 [d5] = some y5 from g5)
    obtain ⟨a, k, c, B, hd⟩ := data_in Try.underlying32 Try.underlying5 (by kernel_rfl) (show DataW.trod enc Try.prog w 0 _ true n 32 [d6] = some y6 from g6)
    simp only [List.cons.injEq, and_true] at q0 q1 q2 q3 q4 q5
    subst q0 q1 q2 q3 q4 q5
    exact ⟨⟨n0, n1, n2, n3, n4, n5, d6, a, k, c, B⟩, rfl, ⟨w0, w1, w2, w3, w4, w5⟩, hd⟩
theorem call14s_in {H : Type} {enc : TypeId × Value → H} {w : World} {a : Option Addr} {len cap : Nat} {d : DataW H} {p : List MemPlace}
    (h : DataW.Trod enc Try.prog w 0 (fun _ => true) true 70 (.slice a len cap) d p) : ∃ X, Call14s w a len cap X := by
  obtain ⟨b, off, hix, hlt, hl, hm, hel⟩ := slice_open (n := 7) Try.underlying70 (by kernel_rfl) (by omega) (fun w => by kernel_rfl) h
  obtain ⟨X, hX⟩ := Go.Deep.choose_lt (α := Call14) (p := fun j x => (w.cell? ⟨b, off + j * 7, none⟩ = some (.int .i64 x.kd) ∧ w.cell? ⟨b, off + j * 7 + 1, none⟩ = some (.int .i64 x.wh) ∧ w.cell? ⟨b, off + j * 7 + 2, none⟩ = some (.int .i64 x.off) ∧ w.cell? ⟨b, off + j * 7 + 3, none⟩ = some (.int .i64 x.nn) ∧ w.cell? ⟨b, off + j * 7 + 4, none⟩ = some (.int .i64 x.at_) ∧ w.cell? ⟨b, off + j * 7 + 5, none⟩ = some (.int .u64 x.xx) ∧ w.cell? ⟨b, off + j * 7 + 6, none⟩ = some (x.v)) ∧ x.wf ∧ DataIn w x.v x.a x.m x.c x.B) (n := len) (fun j hj => by
    obtain ⟨cs, hcl, hc, m, y, ht⟩ := hel j hj
    obtain ⟨x, rfl, hw, hd⟩ := call14_cells hcl ht
    exact ⟨x, ⟨hc 0 (by omega), hc 1 (by omega), hc 2 (by omega), hc 3 (by omega), hc 4 (by omega), hc 5 (by omega), hc 6 (by omega)⟩, hw, hd⟩)
  exact ⟨X, b, off, hix, hlt, by omega, hX⟩

/-- A call of glacislaw07.Call. -/
structure Call07 where
  (kd pg fr mo : Int) (may : Bool)
instance : Inhabited Call07 := ⟨⟨0, 0, 0, 0, false⟩⟩
def Call07.wf (x : Call07) : Prop := (Lit.int .i64 x.kd).wf = true ∧ (Lit.int .i64 x.pg).wf = true ∧ (Lit.int .i64 x.fr).wf = true ∧ (Lit.int .i64 x.mo).wf = true
def Call07s (w : World) (a : Option Addr) (len cap : Nat) (X : Nat → Call07) : Prop :=
  ∃ b off, IdxAt Try.prog 83 5 a len cap b off ∧ (0 < len → b < w.heap.size) ∧ len ≤ maxLen ∧
    ∀ j, j < len → (w.cell? ⟨b, off + j * 5, none⟩ = some (.int .i64 (X j).kd) ∧ w.cell? ⟨b, off + j * 5 + 1, none⟩ = some (.int .i64 (X j).pg) ∧ w.cell? ⟨b, off + j * 5 + 2, none⟩ = some (.int .i64 (X j).fr) ∧ w.cell? ⟨b, off + j * 5 + 3, none⟩ = some (.int .i64 (X j).mo) ∧ w.cell? ⟨b, off + j * 5 + 4, none⟩ = some (.bool (X j).may)) ∧ (X j).wf
theorem call07_cells {H : Type} {enc : TypeId × Value → H} {w : World} {cs : List Value} {m : Nat} {y : DataW H × List MemPlace} (hl : cs.length = 5)
    (h : DataW.trod enc Try.prog w 0 (fun _ => true) true m 86 cs = some y) :
    ∃ x : Call07, cs = [.int .i64 x.kd, .int .i64 x.pg, .int .i64 x.fr, .int .i64 x.mo, .bool x.may] ∧ x.wf := by
  obtain ⟨n, hf⟩ := struct_cells Try.underlying86 (by kernel_rfl) h (hl.trans rfl)
  obtain ⟨c0, y0, e0, g0⟩ := hf 0 _ rfl
  obtain ⟨c1, y1, e1, g1⟩ := hf 1 _ rfl
  obtain ⟨c2, y2, e2, g2⟩ := hf 2 _ rfl
  obtain ⟨c3, y3, e3, g3⟩ := hf 3 _ rfl
  obtain ⟨c4, y4, e4, g4⟩ := hf 4 _ rfl
  match cs, hl with
  | [d0, d1, d2, d3, d4], _ =>
    simp only [List.getElem?_cons_zero, List.getElem?_cons_succ, Option.some.injEq] at e0 e1 e2 e3 e4
    subst e0 e1 e2 e3 e4
    obtain ⟨n0, q0, _, w0⟩ := DataW.trod_int Try.underlying3 (show DataW.trod enc Try.prog w 0 _ true n 3 [d0] = some y0 from g0)
    obtain ⟨n1, q1, _, w1⟩ := DataW.trod_int Try.underlying3 (show DataW.trod enc Try.prog w 0 _ true n 3 [d1] = some y1 from g1)
    obtain ⟨n2, q2, _, w2⟩ := DataW.trod_int Try.underlying3 (show DataW.trod enc Try.prog w 0 _ true n 3 [d2] = some y2 from g2)
    obtain ⟨n3, q3, _, w3⟩ := DataW.trod_int Try.underlying3 (show DataW.trod enc Try.prog w 0 _ true n 3 [d3] = some y3 from g3)
    obtain ⟨bb, qb, _⟩ := DataW.trod_bool Try.underlying4 (show DataW.trod enc Try.prog w 0 _ true n 4 [d4] = some y4 from g4)
    simp only [List.cons.injEq, and_true] at q0 q1 q2 q3 qb
    subst q0 q1 q2 q3 qb
    exact ⟨⟨n0, n1, n2, n3, bb⟩, rfl, ⟨w0, w1, w2, w3⟩⟩
theorem call07s_in {H : Type} {enc : TypeId × Value → H} {w : World} {a : Option Addr} {len cap : Nat} {d : DataW H} {p : List MemPlace}
    (h : DataW.Trod enc Try.prog w 0 (fun _ => true) true 83 (.slice a len cap) d p) : ∃ X, Call07s w a len cap X := by
  obtain ⟨b, off, hix, hlt, hl, hm, hel⟩ := slice_open (n := 5) Try.underlying83 (by kernel_rfl) (by omega) (fun w => by kernel_rfl) h
  obtain ⟨X, hX⟩ := Go.Deep.choose_lt (α := Call07) (p := fun j x => (w.cell? ⟨b, off + j * 5, none⟩ = some (.int .i64 x.kd) ∧ w.cell? ⟨b, off + j * 5 + 1, none⟩ = some (.int .i64 x.pg) ∧ w.cell? ⟨b, off + j * 5 + 2, none⟩ = some (.int .i64 x.fr) ∧ w.cell? ⟨b, off + j * 5 + 3, none⟩ = some (.int .i64 x.mo) ∧ w.cell? ⟨b, off + j * 5 + 4, none⟩ = some (.bool x.may)) ∧ x.wf) (n := len) (fun j hj => by
    obtain ⟨cs, hcl, hc, m, y, ht⟩ := hel j hj
    obtain ⟨x, rfl, hw⟩ := call07_cells hcl ht
    exact ⟨x, ⟨hc 0 (by omega), hc 1 (by omega), hc 2 (by omega), hc 3 (by omega), hc 4 (by omega)⟩, hw⟩)
  exact ⟨X, b, off, hix, hlt, by omega, hX⟩
end Go.Proofs.Ytndnjimiabpkpaa
