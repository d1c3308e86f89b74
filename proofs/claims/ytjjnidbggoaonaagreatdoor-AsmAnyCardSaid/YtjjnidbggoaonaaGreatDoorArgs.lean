/- Slices that came in, as a walk wants them: the address of each element, and what its cells hold. -/
import Derived.Test.YtjjnidbggoaonaaGreatDoorLib
import Derived.Lib.SmallJoins
namespace Go.Proofs.YtjjnidbggoaonaaGreatDoor
open Go.RowKit

/-- A slice of integers that came in: nil, or a row of 'cap' cells. -/
def IsRow (k : IntKind) (w : World) (a : Option Addr) (len cap : Nat) (zs : List Int) : Prop :=
  (a = none ∧ len = 0 ∧ cap = 0 ∧ zs = []) ∨
  ∃ x, a = some x ∧ len ≤ cap ∧ cap ≤ maxLen ∧ zs.length = cap ∧ (∀ i, i < zs.length → w.cell? (x.add i) = some (.int k (zs.getD i 0))) ∧ ∀ n ∈ zs, (Lit.int k n).wf = true

/-- Element j of the slice lies at block b, offset off + j * sz. -/
def IdxAt (P : Program) (T sz : Nat) (a : Option Addr) (len cap b off : Nat) : Prop :=
  ∀ j, j < len → ∀ w, (Instr.indexAt T (.slice a len cap) (.int .i64 j)).run P w = .ok (.pointer (some ⟨b, off + j * sz, none⟩)) w

theorem cell_lt {w : World} {x : Addr} {v : Value} (h : w.cell? x = some v) : x.block < w.heap.size := by
  unfold World.cell? at h
  split at h
  · rename_i hb; exact (Array.getElem?_eq_some_iff.1 hb).1
  · cases h

theorem idx_some {P : Program} {T E sz : Nat} (hT : P.underlying T = some (.slice E)) (hs : ∀ w, (sizeOf E).run P w = .ok sz w) (b off len cap : Nat) :
    IdxAt P T sz (some ⟨b, off, none⟩) len cap b off := by
  intro j hj w
  have e : P.elem T = E := by simp [Program.elem, hT]
  rw [run_indexAt_slice w T ⟨b, off, none⟩ len cap .i64 j (by rw [e]; exact hT), if_pos ⟨by omega, by omega⟩, e, hs]
  simp [Result.andThen, Addr.add_lit]

theorem row_facts {P : Program} {T E : Nat} {k : IntKind} (hT : P.underlying T = some (.slice E)) (hs : ∀ w, (sizeOf E).run P w = .ok 1 w)
    {w : World} {a : Option Addr} {len cap : Nat} {zs : List Int} (h : IsRow k w a len cap zs) :
    ∃ b off, IdxAt P T 1 a len cap b off ∧ (∀ j, j < len → w.cell? ⟨b, off + j, none⟩ = some (.int k (zs.getD j 0))) ∧ (0 < len → b < w.heap.size) ∧ len ≤ maxLen := by
  rcases h with ⟨rfl, rfl, rfl, rfl⟩ | ⟨x, rfl, hl, hm, hz, hc, hw⟩
  · exact ⟨0, 0, fun j hj => absurd hj (by omega), fun j hj => absurd hj (by omega), fun h => absurd h (by omega), by unfold maxLen; omega⟩
  · by_cases h0 : len = 0
    · subst h0
      exact ⟨0, 0, fun j hj => absurd hj (by omega), fun j hj => absurd hj (by omega), fun h => absurd h (by omega), by unfold maxLen; omega⟩
    · have hc0 := hc 0 (by omega)
      have hsp := World.cell?_spot hc0
      have hlt := cell_lt hc0
      obtain ⟨b, off, sp⟩ := x
      simp only [Addr.add_zero'] at hsp hlt
      subst hsp
      refine ⟨b, off, idx_some hT hs b off len cap, fun j hj => ?_, fun _ => hlt, by omega⟩
      have := hc j (by omega)
      rwa [Addr.add_lit] at this

theorem row_wf {k : IntKind} {w : World} {a : Option Addr} {len cap : Nat} {zs : List Int} (h : IsRow k w a len cap zs) (j : Nat) : (Lit.int k (zs.getD j 0)).wf = true := by
  have hz : (Lit.int k 0).wf = true := by cases k <;> decide
  rcases h with ⟨rfl, rfl, rfl, rfl⟩ | ⟨x, rfl, hl, hm, hz', hc, hw⟩
  · simpa using hz
  · by_cases hj : j < zs.length
    · have : zs.getD j 0 ∈ zs := by
        have e : zs.getD j 0 = zs[j] := by simp [List.getD, hj]
        rw [e]; exact List.getElem_mem hj
      exact hw _ this
    · have e : zs.getD j 0 = 0 := by simp [List.getD, Nat.le_of_not_lt hj]
      rw [e]; exact hz

/-- All that a walk wants of a slice of integers that came in: its elements are xs. -/
theorem row_open {P : Program} {T E : Nat} {k : IntKind} (hT : P.underlying T = some (.slice E)) (hs : ∀ w, (sizeOf E).run P w = .ok 1 w)
    {w : World} {a : Option Addr} {len cap : Nat} {zs : List Int} (h : IsRow k w a len cap zs) :
    ∃ (b off : Nat) (xs : Nat → Int), IdxAt P T 1 a len cap b off ∧ (∀ j, j < len → w.cell? ⟨b, off + j, none⟩ = some (.int k (xs j))) ∧ (0 < len → b < w.heap.size) ∧ len ≤ maxLen ∧ ∀ j, (Lit.int k (xs j)).wf = true :=
  let ⟨b, off, h1, h2, h3, h4⟩ := row_facts hT hs h
  ⟨b, off, fun j => zs.getD j 0, h1, h2, h3, h4, fun j => row_wf h j⟩

theorem cells_at {w : World} {a : Addr} {n : Nat} {cs : List Value} (h : w.cells? 0 a n = some cs) : cs.length = n ∧ ∀ c, c < n → w.cell? (a.add c) = cs[c]? := by
  unfold World.cells? at h
  rw [if_pos (Nat.zero_le _)] at h
  exact ⟨by simpa using mapM_some_length h, fun c hc => mapM_some_get h c c (by simp [hc])⟩

/-- All that a walk wants of a slice whose elements have n cells: their addresses, their cells, the reading of each. -/
theorem slice_open {H : Type} {enc : TypeId × Value → H} {P : Program} {T E n : Nat} (hT : P.underlying T = some (.slice E)) (hn : P.cellsOf E = n) (hn0 : 0 < n) (hs : ∀ w, (sizeOf E).run P w = .ok n w)
    {w : World} {a : Option Addr} {len cap : Nat} {d : DataW H} {p : List MemPlace} (h : DataW.Trod enc P w 0 (fun _ => true) true T (.slice a len cap) d p) :
    ∃ b off, IdxAt P T n a len cap b off ∧ (0 < len → b < w.heap.size) ∧ len ≤ cap ∧ cap ≤ maxLen ∧
      ∀ j, j < len → ∃ cs : List Value, cs.length = n ∧ (∀ c, c < n → w.cell? ⟨b, off + j * n + c, none⟩ = cs[c]?) ∧ ∃ m y, DataW.trod enc P w 0 (fun _ => true) true m E cs = some y := by
  obtain ⟨fuel, hf⟩ := h
  rcases Go.Deep.open_slice hT hf with ⟨hcs, _⟩ | ⟨x, l, c, m, k, D, Pls, hcs, _, hl, hm, hmm, _, hx⟩
  · simp [Value.cells] at hcs
    obtain ⟨rfl, rfl, rfl⟩ := hcs
    exact ⟨0, 0, fun j hj => absurd hj (by omega), fun h => absurd h (by omega), by omega, by unfold maxLen; omega, fun j hj => absurd hj (by omega)⟩
  · simp [Value.cells] at hcs
    obtain ⟨rfl, rfl, rfl⟩ := hcs
    rw [if_pos rfl] at hmm
    subst hmm
    rw [hn] at hx
    by_cases h0 : len = 0
    · subst h0
      exact ⟨0, 0, fun j hj => absurd hj (by omega), fun h => absurd h (by omega), by omega, hm, fun j hj => absurd hj (by omega)⟩
    · obtain ⟨cs0, hc0, _⟩ := hx 0 (by omega)
      obtain ⟨hl0, hcell0⟩ := cells_at hc0
      have h00 := hcell0 0 hn0
      simp only [Nat.zero_mul, Addr.add_zero'] at h00
      rw [List.getElem?_eq_getElem (by omega)] at h00
      have hsp := World.cell?_spot h00
      have hlt := cell_lt h00
      obtain ⟨b, off, sp⟩ := x
      simp only at hsp
      subst hsp
      refine ⟨b, off, idx_some hT hs b off _ _, fun _ => hlt, hl, hm, fun j hj => ?_⟩
      obtain ⟨cs, hc, ht⟩ := hx j (by omega)
      obtain ⟨hlen, hcell⟩ := cells_at hc
      refine ⟨cs, hlen, fun c hc => ?_, k, _, ht⟩
      rw [← hcell c hc, Addr.add_lit, Addr.add_lit]

theorem wf_i64 {x : Int} (h : (Lit.int .i64 x).wf = true) : -9223372036854775808 ≤ x ∧ x ≤ 9223372036854775807 := by
  simpa [Lit.wf, IntKind.min, IntKind.max, IntKind.signed, IntKind.bits] using h
theorem wf_u64 {x : Int} (h : (Lit.int .u64 x).wf = true) : 0 ≤ x ∧ x ≤ 18446744073709551615 := by
  simpa [Lit.wf, IntKind.min, IntKind.max, IntKind.signed, IntKind.bits] using h
theorem wf_u8 {x : Int} (h : (Lit.int .u8 x).wf = true) : 0 ≤ x ∧ x ≤ 255 := by
  simpa [Lit.wf, IntKind.min, IntKind.max, IntKind.signed, IntKind.bits] using h
end Go.Proofs.YtjjnidbggoaonaaGreatDoor
