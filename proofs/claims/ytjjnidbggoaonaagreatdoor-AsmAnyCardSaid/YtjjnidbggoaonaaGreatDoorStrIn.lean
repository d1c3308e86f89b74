/- A slice that holds bytes, as a string sees it. -/
import Derived.Test.YtjjnidbggoaonaaGreatDoorStr
namespace Go.Proofs.YtjjnidbggoaonaaGreatDoor
open Go.RowKit

/-- Bytes that lie somewhere below the heap's end: the slice v holds l. -/
def StrIn (w : World) (v : Value) (l : List Int) : Prop :=
  ∃ x c, v = .slice x l.length c ∧ (l.length ≤ c ∧ c ≤ maxLen) ∧ (l = [] ∨ ∃ b o, x = some ⟨b, o, none⟩ ∧ b < w.heap.size ∧ ∀ j, j < l.length → w.cell? ⟨b, o + j, none⟩ = some (.int .u8 (l.getD j 0)))
theorem StrIn.below {w w' : World} {v : Value} {l : List Int} (h : StrIn w v l) {B : Nat} (hb : Below B w w') (hB : w.heap.size ≤ B) : StrIn w' v l := by
  obtain ⟨x, c, rfl, hc, h⟩ := h
  refine ⟨x, c, rfl, hc, h.imp id ?_⟩
  rintro ⟨b, o, rfl, h1, h2⟩
  refine ⟨b, o, rfl, Nat.lt_of_lt_of_le h1 hb.size, fun j hj => ?_⟩
  rw [← h2 j hj]
  exact hb.cell (p := ⟨b, o + j, none⟩) (Nat.lt_of_lt_of_le h1 hB)
theorem StrIn.str {w : World} {v : Value} {l : List Int} (h : StrIn w v l) : (convert 27 9 v).run Tryz.prog w = .ok (.string (bs l)) w := by
  obtain ⟨x, c, rfl, _, h⟩ := h
  rcases h with rfl | ⟨b, o, rfl, _, h⟩
  · cases x
    · exact run_str_nil Tryz.underlying27 Tryz.underlying5 Tryz.underlying9 _ _
    · exact run_str Tryz.underlying27 Tryz.underlying5 Tryz.underlying9 _ [] c (fun j hj => absurd hj (by simp))
  · exact run_str Tryz.underlying27 Tryz.underlying5 Tryz.underlying9 _ l c (fun j hj => by rw [Addr.add_lit]; exact h j hj)
theorem own_str {w : World} {base E : Nat} {v : Value} {l : List Int} (h : w.ownsRow base E 1 v l.length (bytesV l)) : StrIn w v l := by
  rcases h.2 with ⟨rfl, h0⟩ | ⟨g, cap, cur, rfl, _, hh, h3, h4, _⟩
  · obtain rfl : l = [] := List.eq_nil_of_length_eq_zero h0
    exact ⟨_, _, rfl, ⟨Nat.le_refl _, Nat.zero_le _⟩, .inl rfl⟩
  · refine ⟨_, _, rfl, ⟨h3, h4⟩, .inr ⟨g, 0, rfl, (Array.getElem?_eq_some_iff.1 hh).1, fun j hj => ?_⟩⟩
    rw [Nat.zero_add, h.cellAt j (by omega)]
    simp [bytesV, hj, List.getD]
theorem neq_same {P : Program} {w : World} (t : TypeId) (s : ByteArray) : (binOp .neq t (.string s) (.string s)).run P w = .ok (.bool false) w := by
  simp [binOp_string_neq]
theorem eql_same {P : Program} {w : World} (t : TypeId) (s : ByteArray) : (binOp .eql t (.string s) (.string s)).run P w = .ok (.bool true) w := by
  simp [binOp_string_eql]
theorem StrIn.of_blk {w : World} {b t c : Nat} {l : List Int} {cs : Array Value} (h : Blk w b cs t) (hc : ∀ j, j < l.length → cs[j]? = some (.int .u8 (l.getD j 0))) (h1 : l.length ≤ c := by first | exact Nat.le_refl _ | simp) (h2 : c ≤ maxLen := by first | decide | (unfold maxLen; omega)) : StrIn w (.slice (some ⟨b, 0, none⟩) l.length c) l :=
  ⟨_, c, rfl, ⟨h1, h2⟩, .inr ⟨b, 0, rfl, h.lt, fun j hj => by rw [Nat.zero_add, h.cell, hc j hj]⟩⟩
theorem StrIn.drew {w : World} {v : Value} {l : List Int} (h : StrIn w v l) : StrIn w.drew v l := h
end Go.Proofs.YtjjnidbggoaonaaGreatDoor
