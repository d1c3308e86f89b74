/- Small facts on memory, strings, numbers of bits and bytes. -/
import Derived.Test.YtjjnidbggoaonaaGreatDoorRows
import Derived.WalkKit
import Derived.WalkSpells
import Derived.WalkLawsBesides
import Derived.Lib.Hide
import Derived.Lib.SmallJoins
import Derived.Laws.CopyOwn
import Derived.Orders
import Derived.IntWalk
import Derived.Deep.QuietTactic
import Derived.BigQuiet
import Derived.Deep.DeepCutAuto
import Derived.Deep.CutBlock
import Derived.StillTailTactics
import Derived.Deep.RegionHeld3
import Derived.Deep.LoopGhost
import Derived.Laws.AppendOwnNone
/- Small facts on blocks of memory, over any program: a block known whole (Blk), and worlds that part in some blocks alone (Kept). No condition. -/
namespace Go.Proofs.YtjjnidbggoaonaaGreatDoor
open Go.RowKit

/-- Block b holds just these cells, none of them frozen. -/
def Blk (w : World) (b : Nat) (c : Array Value) (t : TypeId) : Prop := w.heap[b]? = some (.cells c t (0, 0))
section
variable {w w' : World} {b t : Nat} {c : Array Value}
theorem Blk.cell (h : Blk w b c t) (i : Nat) : w.cell? ⟨b, i, none⟩ = c[i]? := by
  unfold Blk at h; simp [World.cell?, h]
theorem Blk.free (h : Blk w b c t) (i : Nat) : w.frozen? ⟨b, i, none⟩ = false := by
  unfold Blk at h; simp [World.frozen?, h]
theorem Blk.lt (h : Blk w b c t) : b < w.heap.size := by
  unfold Blk at h; exact (Array.getElem?_eq_some_iff.1 h).1
theorem Blk.set (h : Blk w b c t) (i : Nat) (v : Value) : Blk (w.setCell ⟨b, i, none⟩ v) b (c.setIfInBounds i v) t := by
  unfold Blk at h ⊢; simp [World.setCell, Array.getElem?_modify, h]
theorem Blk.set_other (h : Blk w b c t) {a : Addr} (ha : a.block ≠ b) (v : Value) : Blk (w.setCell a v) b c t := by
  unfold Blk at h ⊢; rw [Below.heap_setCell _ _ _ _ (Ne.symm ha)]; exact h
theorem Blk.alloc (h : Blk w b c t) (o : Obj) : Blk (w.alloc o) b c t := by
  have := h.lt
  unfold Blk at h ⊢; rw [Below.heap_alloc _ _ _ this]; exact h
theorem Blk.new (w : World) (c : Array Value) (t : TypeId) : Blk (w.alloc (.cells c t)) w.heap.size c t := by
  show (w.heap.push _)[w.heap.size]? = _
  simp
theorem Blk.drew (h : Blk w b c t) : Blk w.drew b c t := h
theorem Blk.cells (h : Blk w b c t) {d : Array Value} (e : c = d) : Blk w b d t := e ▸ h
end

/-- w' is w, with new blocks, and written in blocks of S alone. -/
structure Kept (S : Nat → Prop) (w w' : World) : Prop where
  os : w'.os = w.os
  tape : w'.tape = w.tape
  output : w'.output = w.output
  size : w.heap.size ≤ w'.heap.size
  block : ∀ k, k < w.heap.size → ¬ S k → w'.heap[k]? = w.heap[k]?
section
variable {S T : Nat → Prop} {w w1 w2 : World}
theorem Kept.refl (S : Nat → Prop) (w : World) : Kept S w w := ⟨rfl, rfl, rfl, Nat.le_refl _, fun _ _ _ => rfl⟩
theorem Kept.trans (h : Kept S w w1) (k : Kept S w1 w2) : Kept S w w2 :=
  ⟨k.os.trans h.os, k.tape.trans h.tape, k.output.trans h.output, Nat.le_trans h.size k.size, fun i hi hs => (k.block i (Nat.lt_of_lt_of_le hi h.size) hs).trans (h.block i hi hs)⟩
theorem Kept.mono (h : Kept S w w1) (hs : ∀ k, k < w.heap.size → S k → T k) : Kept T w w1 :=
  ⟨h.os, h.tape, h.output, h.size, fun i hi hn => h.block i hi (fun q => hn (hs i hi q))⟩
theorem Kept.drew (h : Kept S w w1) : Kept S w w1.drew := ⟨h.os, h.tape, h.output, h.size, h.block⟩
theorem Kept.alloc (h : Kept S w w1) (o : Obj) : Kept S w (w1.alloc o) :=
  ⟨h.os, h.tape, h.output, by have := h.size; simp; omega, fun i hi hs => by
    rw [Below.heap_alloc _ _ _ (Nat.lt_of_lt_of_le hi h.size)]; exact h.block i hi hs⟩
theorem Kept.setCell (h : Kept S w w1) {a : Addr} (ha : w.heap.size ≤ a.block ∨ S a.block) (v : Value) : Kept S w (w1.setCell a v) :=
  ⟨h.os, h.tape, h.output, by have := h.size; simpa [World.setCell] using this, fun i hi hs => by
    have hne : i ≠ a.block := by
      intro e; subst e
      rcases ha with q | q
      · omega
      · exact hs q
    rw [Below.heap_setCell _ _ _ _ hne]; exact h.block i hi hs⟩
theorem Kept.setIn (h : Kept S w w1) (b i : Nat) (v : Value) (hb : S b) : Kept S w (w1.setCell ⟨b, i, none⟩ v) := h.setCell (.inr hb) v
theorem Kept.setNew (h : Kept S w w1) (b i : Nat) (v : Value) (hb : w.heap.size ≤ b) : Kept S w (w1.setCell ⟨b, i, none⟩ v) := h.setCell (.inl hb) v
theorem Kept.then {S' : Nat → Prop} (h : Kept S w w1) (k : Kept S' w1 w2) (hs : ∀ i, i < w.heap.size → S' i → S i) : Kept S w w2 :=
  ⟨k.os.trans h.os, k.tape.trans h.tape, k.output.trans h.output, Nat.le_trans h.size k.size, fun i hi hn =>
    (k.block i (Nat.lt_of_lt_of_le hi h.size) (fun q => hn (hs i hi q))).trans (h.block i hi hn)⟩
theorem Kept.of_below (h : Below w.heap.size w w1) : Kept S w w1 := ⟨h.os, h.tape, h.output, h.size, fun k hk _ => h.block k hk⟩
theorem Kept.below (h : Kept S w w1) {B : Nat} (hB : B ≤ w.heap.size) (hs : ∀ k, k < B → ¬ S k) : Below B w w1 :=
  ⟨h.os, h.tape, h.output, h.size, fun k hk => h.block k (by omega) (hs k hk)⟩
theorem Kept.blk (h : Kept S w w1) {b t : Nat} {c : Array Value} (hb : Blk w b c t) (hs : ¬ S b) : Blk w1 b c t := by
  have := h.block b hb.lt hs
  unfold Blk at hb ⊢; rw [this]; exact hb
theorem Blk.below {b t : Nat} {c : Array Value} (hb : Blk w b c t) {B : Nat} (h : Below B w w1) (hB : b < B) : Blk w1 b c t := by
  have := h.block b hB
  unfold Blk at hb ⊢; rw [this]; exact hb
theorem Blk.below' {b t : Nat} {c : Array Value} (hb : Blk w b c t) (h : Kept S w w1) (hs : ¬ S b) : Blk w1 b c t := h.blk hb hs
end
end Go.Proofs.YtjjnidbggoaonaaGreatDoor
/- Slices that came in, as a walk wants them: the address of each element, and what its cells hold. -/
namespace Go.Proofs.YtjjnidbggoaonaaGreatDoor
open Go.RowKit

/-- A slice of integers that came in: nil, or a row of 'cap' cells. -/
def IsRow (k : IntKind) (w : World) (a : Option Addr) (len cap : Nat) (zs : List Int) : Prop :=
  (a = none ∧ len = 0 ∧ cap = 0 ∧ zs = []) ∨
  ∃ x, a = some x ∧ len ≤ cap ∧ cap ≤ maxLen ∧ zs.length = cap ∧ (∀ i, i < zs.length → w.cell? (x.add i) = some (.int k (zs.getD i 0))) ∧ ∀ n ∈ zs, (Lit.int k n).wf = true

/-- Element j of the slice lies at block b, offset off + j * sz. -/
def IdxAt (P : Program) (T sz : Nat) (a : Option Addr) (len cap b off : Nat) : Prop :=
  ∀ j, j < len → ∀ w, (Instr.indexAt T (.slice a len cap) (.int .i64 j)).run P w = .ok (.pointer (some ⟨b, off + j * sz, none⟩)) w

theorem cell_lt {w : World} {x : Addr} {v : Value} (h : w.cell? x = some v) : x.block < w.heap.size := by
  unfold World.cell? at h
  split at h
  · rename_i hb; exact (Array.getElem?_eq_some_iff.1 hb).1
  · cases h

theorem idx_some {P : Program} {T E sz : Nat} (hT : P.underlying T = some (.slice E)) (hs : ∀ w, (sizeOf E).run P w = .ok sz w) (b off len cap : Nat) :
    IdxAt P T sz (some ⟨b, off, none⟩) len cap b off := by
  intro j hj w
  have e : P.elem T = E := by simp [Program.elem, hT]
  rw [run_indexAt_slice w T ⟨b, off, none⟩ len cap .i64 j (by rw [e]; exact hT), if_pos ⟨by omega, by omega⟩, e, hs]
  simp [Result.andThen, Addr.add_lit]

theorem row_facts {P : Program} {T E : Nat} {k : IntKind} (hT : P.underlying T = some (.slice E)) (hs : ∀ w, (sizeOf E).run P w = .ok 1 w)
    {w : World} {a : Option Addr} {len cap : Nat} {zs : List Int} (h : IsRow k w a len cap zs) :
    ∃ b off, IdxAt P T 1 a len cap b off ∧ (∀ j, j < len → w.cell? ⟨b, off + j, none⟩ = some (.int k (zs.getD j 0))) ∧ (0 < len → b < w.heap.size) ∧ len ≤ maxLen := by
  rcases h with ⟨rfl, rfl, rfl, rfl⟩ | ⟨x, rfl, hl, hm, hz, hc, hw⟩
  · exact ⟨0, 0, fun j hj => absurd hj (by omega), fun j hj => absurd hj (by omega), fun h => absurd h (by omega), by unfold maxLen; omega⟩
  · by_cases h0 : len = 0
    · subst h0
      exact ⟨0, 0, fun j hj => absurd hj (by omega), fun j hj => absurd hj (by omega), fun h => absurd h (by omega), by unfold maxLen; omega⟩
    · have hc0 := hc 0 (by omega)
      have hsp := World.cell?_spot hc0
      have hlt := cell_lt hc0
      obtain ⟨b, off, sp⟩ := x
      simp only [Addr.add_zero'] at hsp hlt
      subst hsp
      refine ⟨b, off, idx_some hT hs b off len cap, fun j hj => ?_, fun _ => hlt, by omega⟩
      have := hc j (by omega)
      rwa [Addr.add_lit] at this

theorem row_wf {k : IntKind} {w : World} {a : Option Addr} {len cap : Nat} {zs : List Int} (h : IsRow k w a len cap zs) (j : Nat) : (Lit.int k (zs.getD j 0)).wf = true := by
  have hz : (Lit.int k 0).wf = true := by cases k <;> decide
  rcases h with ⟨rfl, rfl, rfl, rfl⟩ | ⟨x, rfl, hl, hm, hz', hc, hw⟩
  · simpa using hz
  · by_cases hj : j < zs.length
    · have : zs.getD j 0 ∈ zs := by
        have e : zs.getD j 0 = zs[j] := by simp [List.getD, hj]
        rw [e]; exact List.getElem_mem hj
      exact hw _ this
    · have e : zs.getD j 0 = 0 := by simp [List.getD, Nat.le_of_not_lt hj]
      rw [e]; exact hz

/-- All that a walk wants of a slice of integers that came in: its elements are xs. -/
theorem row_open {P : Program} {T E : Nat} {k : IntKind} (hT : P.underlying T = some (.slice E)) (hs : ∀ w, (sizeOf E).run P w = .ok 1 w)
    {w : World} {a : Option Addr} {len cap : Nat} {zs : List Int} (h : IsRow k w a len cap zs) :
    ∃ (b off : Nat) (xs : Nat → Int), IdxAt P T 1 a len cap b off ∧ (∀ j, j < len → w.cell? ⟨b, off + j, none⟩ = some (.int k (xs j))) ∧ (0 < len → b < w.heap.size) ∧ len ≤ maxLen ∧ ∀ j, (Lit.int k (xs j)).wf = true :=
  let ⟨b, off, h1, h2, h3, h4⟩ := row_facts hT hs h
  ⟨b, off, fun j => zs.getD j 0, h1, h2, h3, h4, fun j => row_wf h j⟩

theorem cells_at {w : World} {a : Addr} {n : Nat} {cs : List Value} (h : w.cells? 0 a n = some cs) : cs.length = n ∧ ∀ c, c < n → w.cell? (a.add c) = cs[c]? := by
  unfold World.cells? at h
  rw [if_pos (Nat.zero_le _)] at h
  exact ⟨by simpa using mapM_some_length h, fun c hc => mapM_some_get h c c (by simp [hc])⟩

/-- All that a walk wants of a slice whose elements have n cells: their addresses, their cells, the reading of each. -/
theorem slice_open {H : Type} {enc : TypeId × Value → H} {P : Program} {T E n : Nat} (hT : P.underlying T = some (.slice E)) (hn : P.cellsOf E = n) (hn0 : 0 < n) (hs : ∀ w, (sizeOf E).run P w = .ok n w)
    {w : World} {a : Option Addr} {len cap : Nat} {d : DataW H} {p : List MemPlace} (h : DataW.Trod enc P w 0 (fun _ => true) true T (.slice a len cap) d p) :
    ∃ b off, IdxAt P T n a len cap b off ∧ (0 < len → b < w.heap.size) ∧ len ≤ cap ∧ cap ≤ maxLen ∧
      ∀ j, j < len → ∃ cs : List Value, cs.length = n ∧ (∀ c, c < n → w.cell? ⟨b, off + j * n + c, none⟩ = cs[c]?) ∧ ∃ m y, DataW.trod enc P w 0 (fun _ => true) true m E cs = some y := by
  obtain ⟨fuel, hf⟩ := h
  rcases Go.Deep.open_slice hT hf with ⟨hcs, _⟩ | ⟨x, l, c, m, k, D, Pls, hcs, _, hl, hm, hmm, _, hx⟩
  · simp [Value.cells] at hcs
    obtain ⟨rfl, rfl, rfl⟩ := hcs
    exact ⟨0, 0, fun j hj => absurd hj (by omega), fun h => absurd h (by omega), by omega, by unfold maxLen; omega, fun j hj => absurd hj (by omega)⟩
  · simp [Value.cells] at hcs
    obtain ⟨rfl, rfl, rfl⟩ := hcs
    rw [if_pos rfl] at hmm
    subst hmm
    rw [hn] at hx
    by_cases h0 : len = 0
    · subst h0
      exact ⟨0, 0, fun j hj => absurd hj (by omega), fun h => absurd h (by omega), by omega, hm, fun j hj => absurd hj (by omega)⟩
    · obtain ⟨cs0, hc0, _⟩ := hx 0 (by omega)
      obtain ⟨hl0, hcell0⟩ := cells_at hc0
      have h00 := hcell0 0 hn0
      simp only [Nat.zero_mul, Addr.add_zero'] at h00
      rw [List.getElem?_eq_getElem (by omega)] at h00
      have hsp := World.cell?_spot h00
      have hlt := cell_lt h00
      obtain ⟨b, off, sp⟩ := x
      simp only at hsp
      subst hsp
      refine ⟨b, off, idx_some hT hs b off _ _, fun _ => hlt, hl, hm, fun j hj => ?_⟩
      obtain ⟨cs, hc, ht⟩ := hx j (by omega)
      obtain ⟨hlen, hcell⟩ := cells_at hc
      refine ⟨cs, hlen, fun c hc => ?_, k, _, ht⟩
      rw [← hcell c hc, Addr.add_lit, Addr.add_lit]

theorem wf_i64 {x : Int} (h : (Lit.int .i64 x).wf = true) : -9223372036854775808 ≤ x ∧ x ≤ 9223372036854775807 := by
  simpa [Lit.wf, IntKind.min, IntKind.max, IntKind.signed, IntKind.bits] using h
theorem wf_u64 {x : Int} (h : (Lit.int .u64 x).wf = true) : 0 ≤ x ∧ x ≤ 18446744073709551615 := by
  simpa [Lit.wf, IntKind.min, IntKind.max, IntKind.signed, IntKind.bits] using h
theorem wf_u8 {x : Int} (h : (Lit.int .u8 x).wf = true) : 0 ≤ x ∧ x ≤ 255 := by
  simpa [Lit.wf, IntKind.min, IntKind.max, IntKind.signed, IntKind.bits] using h
end Go.Proofs.YtjjnidbggoaonaaGreatDoor
/- Rows: arrays of cells told by an index function; what stores and copies make of them. -/
namespace Go.Proofs.YtjjnidbggoaonaaGreatDoor
open Go.RowKit

/-- The array of n cells f 0, f 1, .. -/
def row (n : Nat) (f : Nat → Value) : Array Value := Array.ofFn (n := n) fun i => f i.val
theorem row_size (n : Nat) (f : Nat → Value) : (row n f).size = n := by simp [row]
theorem row_get (n : Nat) (f : Nat → Value) (i : Nat) : (row n f)[i]? = if i < n then some (f i) else none := by
  unfold row
  by_cases h : i < n
  · rw [if_pos h, Array.getElem?_eq_getElem (by simpa using h)]; simp
  · rw [if_neg h, Array.getElem?_eq_none (by simpa using h)]
theorem row_at (n : Nat) (f : Nat → Value) (i : Nat) (h : i < n) : (row n f)[i]? = some (f i) := by rw [row_get, if_pos h]
theorem row_ext {n : Nat} {f : Nat → Value} {c : Array Value} (hs : c.size = n) (h : ∀ i, i < n → c[i]? = some (f i)) : c = row n f := by
  apply Array.ext_getElem?
  intro i
  rw [row_get]
  by_cases hi : i < n
  · rw [if_pos hi, h i hi]
  · rw [if_neg hi, Array.getElem?_eq_none (by omega)]
theorem row_congr {n : Nat} {f g : Nat → Value} (h : ∀ i, i < n → f i = g i) : row n f = row n g :=
  row_ext (row_size n f) fun i hi => by rw [row_at n f i hi, h i hi]
theorem row_set (n : Nat) (f : Nat → Value) (i : Nat) (v : Value) : (row n f).setIfInBounds i v = row n (fun j => if j = i then v else f j) := by
  refine row_ext (by simp [row_size]) fun j hj => ?_
  rw [Array.getElem?_setIfInBounds]
  by_cases e : i = j
  · subst e; rw [if_pos rfl, if_pos (by rw [row_size]; exact hj), if_pos rfl]
  · rw [if_neg e, row_at n f j hj, if_neg (fun h => e h.symm)]
theorem row_toList_get (n : Nat) (f : Nat → Value) (i : Nat) : (row n f).toList[i]? = if i < n then some (f i) else none := by
  rw [Array.getElem?_toList, row_get]
theorem row_len (n : Nat) (f : Nat → Value) : (row n f).toList.length = n := by simp [row]
/-- A stretch of cells replaced by others. -/
theorem row_splice (n : Nat) (f : Nat → Value) (off : Nat) (cs : List Value) (g : Nat → Value) (hg : ∀ i, i < cs.length → cs[i]? = some (g i)) (h : off + cs.length ≤ n) :
    ((row n f).toList.take off ++ (cs ++ (row n f).toList.drop (off + cs.length))).toArray = row n (fun j => if off ≤ j ∧ j < off + cs.length then g (j - off) else f j) := by
  refine row_ext (by simp [row_size]; omega) fun j hj => ?_
  rw [List.getElem?_toArray]
  by_cases h1 : j < off
  · rw [List.getElem?_append_left (by simp [row_size]; omega), List.getElem?_take_of_lt h1, row_toList_get, if_pos hj, if_neg (by omega)]
  · rw [List.getElem?_append_right (by simp [row_size]; omega)]
    have e1 : ((row n f).toList.take off).length = off := by simp [row_size]; omega
    rw [e1]
    by_cases h2 : j < off + cs.length
    · rw [List.getElem?_append_left (by omega), hg _ (by omega), if_pos ⟨by omega, h2⟩]
    · rw [List.getElem?_append_right (by omega), List.getElem?_drop, row_toList_get, if_pos (by omega), if_neg (by omega)]
      congr 2; omega

section
variable {w w1 : World} {b t n : Nat} {f : Nat → Value}
theorem Blk.rowAt (h : Blk w b (row n f) t) (i : Nat) (hi : i < n) : w.cell? ⟨b, i, none⟩ = some (f i) := by rw [h.cell, row_at n f i hi]
theorem Blk.setRow {c : Array Value} (h : Blk w b c t) (d : Array Value) : Blk (w.setRow b d) b d t := by
  unfold Blk at h ⊢; exact setRow_heap w b _ _ t _ h
theorem Blk.setRow_other {c : Array Value} (h : Blk w b c t) {g : Nat} (hg : g ≠ b) (d : Array Value) : Blk (w.setRow g d) b c t := by
  unfold Blk at h ⊢
  show (w.heap.modify g _)[b]? = _
  rw [Array.getElem?_modify, if_neg hg]; exact h
theorem Kept.setRow {S : Nat → Prop} (h : Kept S w w1) {g : Nat} (hg : w.heap.size ≤ g ∨ S g) (d : Array Value) : Kept S w (w1.setRow g d) :=
  ⟨h.os, h.tape, h.output, by have := h.size; simpa [World.setRow] using this, fun i hi hs => by
    have hne : ¬ g = i := by
      intro e; subst e
      rcases hg with q | q
      · omega
      · exact hs q
    show (w1.heap.modify g _)[i]? = _
    rw [Array.getElem?_modify, if_neg hne]; exact h.block i hi hs⟩
end
end Go.Proofs.YtjjnidbggoaonaaGreatDoor
/- Bytes of memory as strings: what 'string(b)' gives for a slice of the call's own, and for one that lies in a known block. -/
namespace Go.Proofs.YtjjnidbggoaonaaGreatDoor
open Go.RowKit

theorem z64row : #[Value.int .u8 0, Value.int .u8 0, Value.int .u8 0, Value.int .u8 0, Value.int .u8 0, Value.int .u8 0, Value.int .u8 0, Value.int .u8 0, Value.int .u8 0, Value.int .u8 0, Value.int .u8 0, Value.int .u8 0, Value.int .u8 0, Value.int .u8 0, Value.int .u8 0, Value.int .u8 0, Value.int .u8 0, Value.int .u8 0, Value.int .u8 0, Value.int .u8 0, Value.int .u8 0, Value.int .u8 0, Value.int .u8 0, Value.int .u8 0, Value.int .u8 0, Value.int .u8 0, Value.int .u8 0, Value.int .u8 0, Value.int .u8 0, Value.int .u8 0, Value.int .u8 0, Value.int .u8 0, Value.int .u8 0, Value.int .u8 0, Value.int .u8 0, Value.int .u8 0, Value.int .u8 0, Value.int .u8 0, Value.int .u8 0, Value.int .u8 0, Value.int .u8 0, Value.int .u8 0, Value.int .u8 0, Value.int .u8 0, Value.int .u8 0, Value.int .u8 0, Value.int .u8 0, Value.int .u8 0, Value.int .u8 0, Value.int .u8 0, Value.int .u8 0, Value.int .u8 0, Value.int .u8 0, Value.int .u8 0, Value.int .u8 0, Value.int .u8 0, Value.int .u8 0, Value.int .u8 0, Value.int .u8 0, Value.int .u8 0, Value.int .u8 0, Value.int .u8 0, Value.int .u8 0, Value.int .u8 0] = row 64 fun _ => Value.int .u8 0 := by kernel_rfl

/-- The text of a list of bytes. -/
def bs (l : List Int) : ByteArray := l.foldl (fun r n => r.push (UInt8.ofNat n.toNat)) ByteArray.empty
def bytesV (l : List Int) : List Value := l.map (Value.int .u8)

theorem bs_acc (l : List Int) (r : ByteArray) : (l.foldl (fun r n => r.push (UInt8.ofNat n.toNat)) r).data.toList = r.data.toList ++ l.map (fun n => UInt8.ofNat n.toNat) := by
  induction l generalizing r with
  | nil => simp
  | cons a l ih =>
    rw [List.foldl_cons, ih]
    have e : (r.push (UInt8.ofNat a.toNat)).data = r.data.push (UInt8.ofNat a.toNat) := by cases r; rfl
    rw [e]; simp
theorem bs_list (l : List Int) : (bs l).data.toList = l.map (fun n => UInt8.ofNat n.toNat) := by
  unfold bs; rw [bs_acc]; simp
theorem bs_size (l : List Int) : (bs l).size = l.length := by
  have : (bs l).data.toList.length = l.length := by rw [bs_list]; simp
  simpa using this

section
variable {P : Program} {src dst e : Nat}
/-- string(b), b a row of bytes that lies there. -/
theorem run_str {w : World} (hs : P.underlying src = some (.slice e)) (he : P.underlying e = some (.int .u8)) (hd : P.underlying dst = some .string)
    (a : Addr) (l : List Int) (c : Nat) (h : ∀ j, j < l.length → w.cell? (a.add j) = some (.int .u8 (l.getD j 0))) :
    (convert src dst (.slice (some a) l.length c)).run P w = .ok (.string (bs l)) w := by
  rw [run_convert_bytes_string w src dst e (some a) l.length c hs he hd]
  have hl : (loadCells a l.length).run P w = .ok (bytesV l).toArray w := by
    have := run_loadCells_list (P := P) w a (bytesV l) (fun j v hv => by
      have hj : j < l.length := by
        rcases Nat.lt_or_ge j l.length with h' | h'
        · exact h'
        · rw [List.getElem?_eq_none (by simpa [bytesV] using h')] at hv; cases hv
      rw [h j hj]
      simp [bytesV, hj] at hv
      rw [← hv]; simp [List.getD, hj])
    simpa [bytesV] using this
  exact run_bytesToString w a l.length c l hl
theorem run_str_nil {w : World} (hs : P.underlying src = some (.slice e)) (he : P.underlying e = some (.int .u8)) (hd : P.underlying dst = some .string) (n c : Nat) :
    (convert src dst (.slice none n c)).run P w = .ok (.string (bs [])) w := by
  rw [run_convert_bytes_string w src dst e none n c hs he hd]; rfl
/-- string(b), b a slice of the call's own. -/
theorem run_str_own {w : World} (hs : P.underlying src = some (.slice e)) (he : P.underlying e = some (.int .u8)) (hd : P.underlying dst = some .string)
    {base E : Nat} {v : Value} {l : List Int} (h : w.ownsRow base E 1 v l.length (bytesV l)) : (convert src dst v).run P w = .ok (.string (bs l)) w := by
  rcases h.2 with ⟨rfl, h0⟩ | ⟨g, cap, cur, rfl, _, _, _⟩
  · obtain rfl : l = [] := List.eq_nil_of_length_eq_zero h0
    exact run_str_nil hs he hd 0 0
  · refine run_str hs he hd _ l cap fun j hj => ?_
    rw [Addr.add_lit, Nat.zero_add, h.cellAt j (by omega)]
    simp [bytesV, hj, List.getD]
end
end Go.Proofs.YtjjnidbggoaonaaGreatDoor
/- A rule for a region that draws its order: an invariant over which operations are done, and one step for each operation. No condition. -/
namespace Go.Proofs.YtjjnidbggoaonaaGreatDoor
open Go

/-- Each operation's edges that bind go back. -/
def back (ops : Array Oper) : Bool := (List.range ops.size).all fun i => ((ops[i]?).map fun o => o.after.all fun e => !Region.binds .any e || decide (e.on < i)).getD true

theorem back_spec {ops : Array Oper} (h : back ops = true) {i : Nat} {o : Oper} (ho : ops[i]? = some o) {e : Edge} (he : e ∈ o.after) (hbd : Region.binds .any e = true) : e.on < i := by
  have hi := (Array.getElem?_eq_some_iff.1 ho).1
  have h1 := List.all_eq_true.1 h i (List.mem_range.2 hi)
  rw [ho] at h1
  have h2 := Array.all_eq_true_iff_forall_mem.1 h1 e he
  rw [hbd] at h2
  simpa using h2

theorem ready_nil {ops : Array Oper} (hb : back ops = true) {l : Array Bool} (hl : l.size = ops.size) (hr : Region.ready .any ops l = []) : ∀ i, i < ops.size → l[i]? = some true := by
  intro i
  induction i using Nat.strongRecOn with
  | _ i ih =>
    intro hi
    rcases hb' : l[i]? with _ | b
    · rw [Array.getElem?_eq_none_iff] at hb'; omega
    · cases b
      · have hm : i ∈ Region.ready .any ops l := by
          rw [mem_ready]
          have ho : ops[i]? = some ops[i] := Array.getElem?_eq_getElem hi
          refine ⟨by simp [hb'], _, ho, fun e he hbd => ?_⟩
          have hlt := back_spec hb ho he hbd
          simp [ih _ hlt (by omega)]
        rw [hr] at hm; cases hm
      · rfl

/-- Whatever is done, what it waits for is done. -/
def Closed (ops : Array Oper) (l : Array Bool) : Prop := ∀ (j : Nat) (o : Oper), ops[j]? = some o → l[j]? = some true → ∀ e ∈ o.after, Region.binds .any e = true → l[e.on]? = some true
/-- Operation j waits for operation k. -/
def dep (ops : Array Oper) (j k : Nat) : Bool := ((ops[j]?).map fun o => o.after.toList.any fun e => Region.binds .any e && e.on == k).getD false
theorem dep_spec {ops : Array Oper} {j k : Nat} {o : Oper} (ho : ops[j]? = some o) (h : dep ops j k = true) : ∃ e ∈ o.after, Region.binds .any e = true ∧ e.on = k := by
  unfold dep at h
  rw [ho] at h
  simp only [Option.map_some, Option.getD_some] at h
  obtain ⟨e, he, hb⟩ := List.any_eq_true.1 h
  simp only [Bool.and_eq_true, beq_iff_eq] at hb
  exact ⟨e, Array.mem_toList_iff.1 he, hb⟩
theorem Closed.of {ops : Array Oper} {l : Array Bool} (h : Closed ops l) {j : Nat} (k : Nat) (hd : dep ops j k = true) (hj : l[j]? = some true) : l[k]? = some true := by
  rcases ho : ops[j]? with _ | o
  · unfold dep at hd; rw [ho] at hd; cases hd
  · obtain ⟨e, he, hb, rfl⟩ := dep_spec ho hd
    exact h j o ho hj e he hb

/-- What is done of a region, at any of its orders: the invariant I holds at the start; each operation whose edges are done keeps it; at the end it gives what is wanted. -/
theorem wp_region_inv {P : Program} {ops : Array Oper} {Q : Exit → Act → World → Prop} {id : Nat} {a : Act} {w : World} (hm : P.follows .mixedOrders = true) (hb : back ops = true)
    (I : Array Bool → Act → World → Prop) (h0 : I (Array.replicate ops.size false) a w.drew)
    (hs : ∀ (i : Nat) (l : Array Bool) (a : Act) (w : World), i < ops.size → l.size = ops.size → l[i]? = some false → (∀ k, dep ops i k = true → l[k]? = some true) → Closed ops l → I l a w →
      wpOp P ops Q i (I (l.setIfInBounds i true)) a w)
    (he : ∀ (l : Array Bool) (a : Act) (w : World), (∀ i, i < ops.size → l[i]? = some true) → I l a w → Q .normal a w) : (Code.region id ops true).wp P Q a w := by
  refine wp_region_any hm ?_
  have key : ∀ (fuel : Nat) (l : Array Bool) (a : Act) (w : World), l.size = ops.size → l.count false ≤ fuel → Closed ops l → I l a w → wpAny P .any ops Q fuel l a w := by
    intro fuel
    induction fuel with
    | zero =>
      intro l a w hl hc hcl hI
      have hr : Region.ready .any ops l = [] := by
        cases hr : Region.ready .any ops l with
        | nil => rfl
        | cons i r =>
          have hm : i ∈ Region.ready .any ops l := by rw [hr]; exact List.mem_cons_self
          obtain ⟨h1, o, ho, _⟩ := mem_ready.1 hm
          have hi : i < l.size := by rw [hl]; exact (Array.getElem?_eq_some_iff.1 ho).1
          have hmem : false ∈ l := by
            have : l[i] = false := by simpa [hi] using h1
            exact this ▸ Array.getElem_mem hi
          have := Array.count_pos_iff.2 hmem
          omega
      exact ⟨hr, he l a w (ready_nil hb hl hr) hI⟩
    | succ fuel ih =>
      intro l a w hl hc hcl hI
      refine ⟨fun hr => he l a w (ready_nil hb hl hr) hI, fun i hi => ?_⟩
      obtain ⟨h1, o, ho, h2⟩ := mem_ready.1 hi
      have hil : i < l.size := by rw [hl]; exact (Array.getElem?_eq_some_iff.1 ho).1
      have hli : l[i]? = some false := by
        rw [Array.getElem?_eq_getElem hil]
        have : l[i] = false := by simpa [hil] using h1
        rw [this]
      have hdeps : ∀ e ∈ o.after, Region.binds .any e = true → l[e.on]? = some true := fun e he' hbd => by
        have := h2 e he' hbd
        rcases hq : l[e.on]? with _ | b
        · simp [hq] at this
        · simp [hq] at this; rw [this]
      refine wpOp_mono (fun a' w' hI' => ih _ a' w' (by simpa using hl) ?_ (fun j o' hj hlj e he' hbd => ?_) hI') (hs i l a w (by rw [← hl]; exact hil) hl hli (fun k hk => by obtain ⟨e, he, hb', rfl⟩ := dep_spec ho hk; exact hdeps e he hb') hcl hI)
      · have hset : l.setIfInBounds i true = l.set i true hil := by simp [Array.setIfInBounds, hil]
        have hlt : l[i] = false := by
          have := hli; rw [Array.getElem?_eq_getElem hil] at this; simpa using this
        have hpos : 0 < l.count false := Array.count_pos_iff.2 (hlt ▸ Array.getElem_mem hil)
        rw [hset, Array.count_set]
        simp [hlt]
        omega
      · have hup : ∀ k, l[k]? = some true → (l.setIfInBounds i true)[k]? = some true := fun k hk => by
          by_cases e1 : i = k
          · rw [← e1, Array.getElem?_setIfInBounds, if_pos rfl, if_pos hil]
          · rw [Array.getElem?_setIfInBounds_ne e1]; exact hk
        by_cases e1 : i = j
        · subst e1
          rw [ho] at hj; cases hj
          exact hup _ (hdeps e he' hbd)
        · rw [Array.getElem?_setIfInBounds_ne e1] at hlj
          exact hup _ (hcl j o' hj hlj e he' hbd)
  exact key ops.size (Array.replicate ops.size false) _ _ (by simp) (by simp) (fun j o _ hj => by
    rw [Array.getElem?_replicate] at hj
    split at hj <;> simp at hj) h0

/-- Which slot an operation writes. -/
def dstOf (ops : Array Oper) (i : Nat) : Option Tmp := (ops[i]?).bind (·.dst)
/-- No two operations write one slot. -/
def oneEach (ops : Array Oper) : Bool := (List.range ops.size).all fun i => (List.range i).all fun j => (dstOf ops i).isNone || decide (dstOf ops i ≠ dstOf ops j)
theorem oneEach_spec {ops : Array Oper} (h : oneEach ops = true) {i j : Nat} {d : Tmp} (hi : dstOf ops i = some d) (hj : dstOf ops j = some d) : i = j := by
  have key : ∀ {i j : Nat}, dstOf ops i = some d → dstOf ops j = some d → j < i → False := by
    intro i j hi hj hlt
    have hs : i < ops.size := by
      rcases Nat.lt_or_ge i ops.size with h' | h'
      · exact h'
      · simp [dstOf, Array.getElem?_eq_none h'] at hi
    have h1 := List.all_eq_true.1 (List.all_eq_true.1 h i (List.mem_range.2 hs)) j (List.mem_range.2 hlt)
    rw [hi, hj] at h1
    simp at h1
  rcases Nat.lt_trichotomy i j with h' | h' | h'
  · exact absurd h' (fun q => key hj hi q)
  · exact h'
  · exact absurd h' (fun q => key hi hj q)

/-- The frame in the midst of a region: slots of done operations hold what V says; others are as they were. -/
structure RInv (ops : Array Oper) (a0 : Act) (V : Nat → Value → Prop) (l : Array Bool) (a : Act) : Prop where
  size : a.tmps.size = a0.tmps.size
  defers : a.defers = a0.defers
  base : ∀ t, (∀ i, l[i]? = some true → dstOf ops i ≠ some t) → a.tmps[t]? = a0.tmps[t]?
  slot : ∀ i d, l[i]? = some true → dstOf ops i = some d → V i (a.tmps.getD d undef)

theorem RInv.start (ops : Array Oper) (a0 : Act) (V : Nat → Value → Prop) : RInv ops a0 V (Array.replicate ops.size false) a0 where
  size := rfl
  defers := rfl
  base _ _ := rfl
  slot i d h := by
    rw [Array.getElem?_replicate] at h
    split at h <;> simp at h
theorem RInv.put {ops : Array Oper} {a0 : Act} {V : Nat → Value → Prop} {l : Array Bool} {a : Act} (h : RInv ops a0 V l a) (hu : oneEach ops = true) {i : Nat} (hi : i < l.size) {d : Tmp} (hd : dstOf ops i = some d) (hds : d < a0.tmps.size) {v : Value} (hv : V i v) :
    RInv ops a0 V (l.setIfInBounds i true) (a.put (some d) v) where
  size := by simp [Act.put, h.size]
  defers := h.defers
  base t ht := by
    have hne : d ≠ t := fun e => ht i (by simp [hi]) (e ▸ hd)
    show (a.tmps.setIfInBounds d v)[t]? = _
    rw [Array.getElem?_setIfInBounds_ne hne]
    refine h.base t fun j hj => ht j ?_
    by_cases e : i = j
    · subst e; simp [hi]
    · rw [Array.getElem?_setIfInBounds_ne e]; exact hj
  slot j e hj he := by
    show V j ((a.tmps.setIfInBounds d v).getD e undef)
    by_cases hij : i = j
    · subst hij
      rw [hd] at he; cases he
      have hd' : d < a.tmps.size := by rw [h.size]; exact hds
      simp [hd', hv]
    · have hne : d ≠ e := fun q => hij (oneEach_spec hu hd (q ▸ he))
      rw [Array.getElem?_setIfInBounds_ne hij] at hj
      have := h.slot j e hj he
      simpa [Array.getElem?_setIfInBounds_ne hne] using this
/-- An operation that writes no slot. -/
theorem RInv.done {ops : Array Oper} {a0 : Act} {V : Nat → Value → Prop} {l : Array Bool} {a : Act} (h : RInv ops a0 V l a) {i : Nat} (hd : dstOf ops i = none) : RInv ops a0 V (l.setIfInBounds i true) a where
  size := h.size
  defers := h.defers
  base t ht := h.base t fun j hj => ht j (by
    by_cases e : i = j
    · subst e
      have hi := (Array.getElem?_eq_some_iff.1 hj).1
      simp [hi]
    · rw [Array.getElem?_setIfInBounds_ne e]; exact hj)
  slot j e hj he := by
    by_cases hij : i = j
    · subst hij; rw [hd] at he; cases he
    · rw [Array.getElem?_setIfInBounds_ne hij] at hj; exact h.slot j e hj he
/-- No operation of the region writes the slot. -/
def noDst (ops : Array Oper) (t : Tmp) : Bool := (List.range ops.size).all fun i => dstOf ops i != some t
theorem noDst_spec {ops : Array Oper} {t : Tmp} (h : noDst ops t = true) (i : Nat) : dstOf ops i ≠ some t := by
  rcases Nat.lt_or_ge i ops.size with h' | h'
  · simpa using List.all_eq_true.1 h i (List.mem_range.2 h')
  · simp [dstOf, Array.getElem?_eq_none h']
theorem RInv.was {ops : Array Oper} {a0 : Act} {V : Nat → Value → Prop} {l : Array Bool} {a : Act} (h : RInv ops a0 V l a) (t : Tmp) (ht : noDst ops t = true) : a.tmps.getD t undef = a0.tmps.getD t undef := by
  have := h.base t fun i _ => noDst_spec ht i
  simp [this]
/-- The frame behind a region, slot by slot. -/
def fill (ops : Array Oper) (t0 t : Array Value) : Array Value := ((List.range t0.size).map fun k => if noDst ops k then t0.getD k undef else t.getD k undef).toArray
theorem RInv.fill {ops : Array Oper} {a0 : Act} {V : Nat → Value → Prop} {l : Array Bool} {a : Act} (h : RInv ops a0 V l a) : a = ⟨fill ops a0.tmps a.tmps, a0.defers⟩ := by
  obtain ⟨t, d⟩ := a
  have hd := h.defers
  have hs := h.size
  simp only at hd hs
  subst hd
  congr 1
  apply Array.ext_getElem?
  intro k
  unfold Go.Proofs.YtjjnidbggoaonaaGreatDoor.fill
  by_cases hk : k < a0.tmps.size
  · have hm : ∀ f : Nat → Value, ((List.range a0.tmps.size).map f).toArray[k]? = some (f k) := fun f => by
      rw [List.getElem?_toArray, List.getElem?_map, List.getElem?_range hk]; rfl
    rw [hm]
    by_cases hn : noDst ops k = true
    · rw [if_pos hn, h.base k fun i _ => noDst_spec hn i]
      simp [hk]
    · rw [if_neg hn]
      have hk' : k < t.size := by omega
      simp [hk']
  · rw [Array.getElem?_eq_none (by omega), Array.getElem?_eq_none (by simp; omega)]
theorem foldl_set (g : Tmp → Value) (k : Nat) : ∀ (ds : List Tmp) (c : Array Value), (ds.foldl (fun c d => c.setIfInBounds d (g d)) c)[k]? = if k ∈ ds then (if k < c.size then some (g k) else none) else c[k]?
  | [], c => by simp
  | d :: ds, c => by
    rw [List.foldl_cons, foldl_set g k ds]
    by_cases h : k ∈ ds
    · simp [h]
    · by_cases e : d = k
      · subst e
        rw [if_neg h, if_pos (by simp), Array.getElem?_setIfInBounds, if_pos rfl]
      · rw [if_neg h, if_neg (by simp [h]; exact fun q => e q.symm), Array.getElem?_setIfInBounds_ne e]
/-- The frame behind a region: the slots that it writes are put, one by one. -/
theorem RInv.fold {ops : Array Oper} {a0 : Act} {V : Nat → Value → Prop} {l : Array Bool} {a : Act} (h : RInv ops a0 V l a) (ds : List Tmp) (hds : (List.range ops.size).filterMap (dstOf ops) = ds) :
    a = ⟨ds.foldl (fun c d => c.setIfInBounds d (a.tmps.getD d undef)) a0.tmps, a0.defers⟩ := by
  have hd := h.defers
  have hs := h.size
  have hf : a.tmps = ds.foldl (fun c d => c.setIfInBounds d (a.tmps.getD d undef)) a0.tmps := by
    apply Array.ext_getElem?
    intro k
    rw [foldl_set]
    by_cases hk : k < a0.tmps.size
    · by_cases hm : k ∈ ds
      · rw [if_pos hm, if_pos hk]
        have hk' : k < a.tmps.size := by omega
        simp [hk']
      · rw [if_neg hm]
        refine h.base k fun i _ hi => hm ?_
        rw [← hds, List.mem_filterMap]
        refine ⟨i, List.mem_range.2 ?_, hi⟩
        rcases Nat.lt_or_ge i ops.size with h' | h'
        · exact h'
        · simp [dstOf, Array.getElem?_eq_none h'] at hi
    · have h1 : a.tmps[k]? = none := Array.getElem?_eq_none (by omega)
      have h2 : a0.tmps[k]? = none := Array.getElem?_eq_none (by omega)
      rw [h1, h2, if_neg hk]
      split <;> rfl
  obtain ⟨t, d⟩ := a
  simp only at hf hd ⊢
  rw [← hf, hd]
theorem RInv.old {ops : Array Oper} {a0 : Act} {V : Nat → Value → Prop} {l : Array Bool} {a : Act} (h : RInv ops a0 V l a) {t : Tmp} (ht : ∀ i, i < ops.size → dstOf ops i ≠ some t) : a.tmps.getD t undef = a0.tmps.getD t undef := by
  have := h.base t fun i _ hd => by
    rcases Nat.lt_or_ge i ops.size with h' | h'
    · exact ht i h' hd
    · simp [dstOf, Array.getElem?_eq_none h'] at hd
  simp [this]
/-- At the end: each slot is what it was, or what its operation gave. -/
theorem RInv.end_ {ops : Array Oper} {a0 : Act} {f : Nat → Value} {l : Array Bool} {a : Act} (h : RInv ops a0 (fun i v => v = f i) l a) (hl : ∀ i, i < ops.size → l[i]? = some true) (c : Array Value) (hc : c.size = a0.tmps.size)
    (h1 : ∀ t, t < a0.tmps.size → (∀ i, i < ops.size → dstOf ops i ≠ some t) → c[t]? = a0.tmps[t]?)
    (h2 : ∀ i d, i < ops.size → dstOf ops i = some d → d < a0.tmps.size → c[d]? = some (f i)) : a = ⟨c, a0.defers⟩ := by
  obtain ⟨t, d⟩ := a
  have hd := h.defers
  have hs := h.size
  simp only at hd hs
  subst hd
  congr 1
  apply Array.ext_getElem?
  intro k
  by_cases hk : k < a0.tmps.size
  · by_cases he : ∃ i, i < ops.size ∧ dstOf ops i = some k
    · obtain ⟨i, hi, hik⟩ := he
      have := h.slot i k (hl i hi) hik
      rw [h2 i k hi hik hk]
      have hk' : k < t.size := by omega
      simp [hk'] at this
      rw [Array.getElem?_eq_getElem hk', this]
    · have hn : ∀ i, i < ops.size → dstOf ops i ≠ some k := fun i hi e => he ⟨i, hi, e⟩
      rw [h1 k hk hn]
      exact h.base k fun i hi e => by
        rcases Nat.lt_or_ge i ops.size with h' | h'
        · exact hn i h' e
        · simp [dstOf, Array.getElem?_eq_none h'] at e
  · rw [Array.getElem?_eq_none (by omega), Array.getElem?_eq_none (by omega)]

/-- The rule, the frame's part laid. -/
theorem wp_region_rinv {P : Program} {ops : Array Oper} {Q : Exit → Act → World → Prop} {id : Nat} {a : Act} {w : World} (hm : P.follows .mixedOrders = true) (hb : back ops = true) (hu : oneEach ops = true)
    (V : Nat → Value → Prop) (W : Array Bool → Act → World → Prop) (h0 : W (Array.replicate ops.size false) a w.drew)
    (hs : oneEach ops = true → ∀ (i : Nat) (l : Array Bool) (a' : Act) (w' : World), i < ops.size → l.size = ops.size → l[i]? = some false → (∀ k, dep ops i k = true → l[k]? = some true) → Closed ops l → RInv ops a V l a' → W l a' w' →
      wpOp P ops Q i (fun a'' w'' => RInv ops a V (l.setIfInBounds i true) a'' ∧ W (l.setIfInBounds i true) a'' w'') a' w')
    (he : ∀ (l : Array Bool) (a' : Act) (w' : World), (∀ i, i < ops.size → l[i]? = some true) → RInv ops a V l a' → W l a' w' → Q .normal a' w') : (Code.region id ops true).wp P Q a w :=
  wp_region_inv hm hb (fun l a' w' => RInv ops a V l a' ∧ W l a' w') ⟨RInv.start _ _ _, h0⟩ (fun i l a' w' h1 h2 h3 h4 h5 h6 => hs hu i l a' w' h1 h2 h3 h4 h5 h6.1 h6.2) (fun l a' w' h1 h2 => he l a' w' h1 h2.1 h2.2)

section
variable {P : Program} {ops : Array Oper} {Q : Exit → Act → World → Prop} {i : Nat} {o : Oper} {a : Act} {w w' : World} {K : Act → World → Prop} {v : Value}
theorem wpOp_val {d : Tmp} (ho : ops[i]? = some o) (hd : dstOf ops i = some d) (hw : Region.wanted o (yielded ops a.tmps) = true) (hr : (execOp a.eval o).run P w = .ok (.value v) w') (hk : K (a.put (some d) v) w') : wpOp P ops Q i K a w := by
  unfold wpOp
  unfold dstOf at hd
  rw [ho] at hd
  have hd : o.dst = some d := hd
  simp only [ho, hw, if_true, Oper.wp, hr, Oper.upon, hd]
  exact .inl hk
/-- A store: no slot is written. -/
theorem wpOp_unit (ho : ops[i]? = some o) (hd : dstOf ops i = none) (hw : Region.wanted o (yielded ops a.tmps) = true) (hr : (execOp a.eval o).run P w = .ok .skip w') (hk : K a w') : wpOp P ops Q i K a w := by
  unfold wpOp
  unfold dstOf at hd
  rw [ho] at hd
  have hd : o.dst = none := hd
  simp only [ho, hw, if_true, Oper.wp, hr, Oper.upon, hd]
  exact .inl hk
theorem wpOp_skip {d : Tmp} (ho : ops[i]? = some o) (hd : dstOf ops i = some d) (hw : Region.wanted o (yielded ops a.tmps) = false) (hk : K (a.put (some d) undef) w) : wpOp P ops Q i K a w := by
  unfold wpOp
  unfold dstOf at hd
  rw [ho] at hd
  have hd : o.dst = some d := hd
  simp only [ho, hw]
  rw [hd]
  exact hk
theorem wpOp_call {d : Tmp} {f : FuncId} {args : Array Value} {R : Value → World → Prop} (ho : ops[i]? = some o) (hd : dstOf ops i = some d) (hw : Region.wanted o (yielded ops a.tmps) = true) (hr : (execOp a.eval o).run P w = .ok (.enter f args) w)
    (hc : Calls P f args w fun e w' => ∃ v, e = .returned v ∧ R v w') (hk : ∀ v w', R v w' → K (a.put (some d) v) w') : wpOp P ops Q i K a w := by
  unfold wpOp
  unfold dstOf at hd
  rw [ho] at hd
  have hd : o.dst = some d := hd
  simp only [ho, hw, if_true, Oper.wp, hr, Oper.upon, hd]
  refine .inl (hc.mono ?_)
  rintro e w' ⟨v, rfl, h⟩
  exact hk v w' h
theorem wanted_plain (h : o.guard = none) (y : Nat → Option Bool) : Region.wanted o y = true := by
  unfold Region.wanted; rw [h]
/-- A guarded operation is wanted, or not, by what its guard's slot holds. -/
theorem wanted_slot {g : Nat} {want b : Bool} {d : Tmp} (h : o.guard = some (g, want)) (hd : dstOf ops g = some d) (hs : a.tmps.getD d undef = .bool b) : Region.wanted o (yielded ops a.tmps) = (b == want) := by
  have hy : yielded ops a.tmps g = some b := by
    unfold dstOf at hd
    unfold yielded
    rw [hd]
    have hs' : a.tmps[d]? = some (.bool b) := by
      rcases hq : a.tmps[d]? with _ | x
      · simp [hq, undef] at hs
      · simp [hq] at hs; rw [hs]
    simp [hs']
  unfold Region.wanted
  rw [h]
  simp [hy]
end

theorem set_self {l : Array Bool} {i : Nat} (h : i < l.size) : (l.setIfInBounds i true)[i]? = some true := by
  rw [Array.getElem?_setIfInBounds, if_pos rfl, if_pos h]
theorem set_other {l : Array Bool} {i j : Nat} (h : i ≠ j) : (l.setIfInBounds i true)[j]? = l[j]? := Array.getElem?_setIfInBounds_ne h
theorem put_self {a : Act} {d : Tmp} {v : Value} (h : d < a.tmps.size) : (a.put (some d) v).tmps.getD d undef = v := by
  show (a.tmps.setIfInBounds d v).getD d undef = v
  simp [h]
theorem put_other {a : Act} {d t : Tmp} {v : Value} (h : d ≠ t) : (a.put (some d) v).tmps.getD t undef = a.tmps.getD t undef := by
  show (a.tmps.setIfInBounds d v).getD t undef = _
  simp [Array.getElem?_setIfInBounds_ne h]

/-! What single operations give. -/
section
variable {P : Program} {a : Act} {w w' : World} {d : Option Tmp} {t : TypeId} {p : String} {e : Array Edge} {g : Option (Nat × Bool)} {x y z : Operand} {u v s : Value}
theorem ex_move (h : a.eval x = v) : (execOp a.eval ⟨d, .move x, t, p, e, g⟩).run P w = .ok (.value v) w := by
  simp [execOp, h]
theorem ex_assign (h : a.eval x = v) : (execOp a.eval ⟨d, .assign x, t, p, e, g⟩).run P w = .ok (.value v) w := by
  simp [execOp, h]
theorem ex_pick_true (h : a.eval x = .bool true) (h1 : a.eval y = v) : (execOp a.eval ⟨d, .pick x y z, t, p, e, g⟩).run P w = .ok (.value v) w := by
  simp [execOp, h, h1, asBool]
theorem ex_pick_false (h : a.eval x = .bool false) (h1 : a.eval z = v) : (execOp a.eval ⟨d, .pick x y z, t, p, e, g⟩).run P w = .ok (.value v) w := by
  simp [execOp, h, h1, asBool]
theorem ex_not {b : Bool} {T : TypeId} (h : a.eval x = .bool b) : (execOp a.eval ⟨d, .unOp .not T x, t, p, e, g⟩).run P w = .ok (.value (.bool (!b))) w := by
  simp [execOp, h, Op.unary]
theorem ex_convert {S D : TypeId} (h : a.eval x = u) (hr : (convert S D u).run P w = .ok v w') : (execOp a.eval ⟨d, .convert S D x, t, p, e, g⟩).run P w = .ok (.value v) w' := by
  simp [execOp, h, hr, Result.andThen]
theorem ex_makeSlice {T : TypeId} (h : a.eval x = u) (h1 : a.eval y = s) (hr : (Instr.makeSlice T u s).run P w = .ok v w') : (execOp a.eval ⟨d, .makeSlice T x y, t, p, e, g⟩).run P w = .ok (.value v) w' := by
  simp [execOp, h, h1, hr, Result.andThen]
theorem ex_bin {o : BinOp} {T S : TypeId} (h : a.eval x = u) (h1 : a.eval y = s) (hg : ∀ w, (eqGuard o T x y u s).run P w = .ok () w) (hr : (binOp o T u s).run P w = .ok v w') : (execOp a.eval ⟨d, .binOp o T x y S, t, p, e, g⟩).run P w = .ok (.value v) w' := by
  simp [execOp, h, h1, hr, hg, Result.andThen]
theorem enters_fn {f : FuncId} {fn : Func} {c : Code} (hf : P.funcs[f]? = some fn) (hname : (fn.name == "runtime.NumGoroutine") = false) (hb : fn.body = some c) (vs : Array Value) (w : World) : (callFunc f vs).run P w = .ok (.enter f vs) w := by
  have h1 : fn.name ≠ "runtime.NumGoroutine" := by simpa using hname
  simp [callFunc, hf, h1, hb, mark]
theorem ex_call {f : FuncId} {args : Array Operand} {ts : Array TypeId} {vs : Array Value} (hv : args.map a.eval = vs) (he : ∀ vs w, (callFunc f vs).run P w = .ok (.enter f vs) w) :
    (execOp a.eval ⟨d, .call { callee := .value (.func f), args := args, argTypes := ts }, t, p, e, g⟩).run P w = .ok (.enter f vs) w := by
  have hr : (resolve a.eval { callee := .value (.func f), args := args, argTypes := ts } t).run P w = .ok { target := .fn (.func f) #[], args := vs } w := by
    simp [resolve, Deferred.ofValue, Act.eval, hv]
  simp only [execOp]
  rw [Sem.run_bind, hr]
  simp [Result.andThen, invoke, he]
theorem ex_len {S : TypeId} {E : TypeId} {b : Option Addr} {n c : Nat} (hs : P.underlying S = some (.slice E)) (h : a.eval x = .slice b n c) :
    (execOp a.eval ⟨d, .call { callee := .builtin .len, args := #[x], argTypes := #[S] }, t, p, e, g⟩).run P w = .ok (.value (.int .i64 n)) w := by
  have hE : P.elem S = E := by simp [Program.elem, hs]
  have := run_len_slice (P := P) (w := w) S t b n c (by rw [hE]; exact hs)
  simp [execOp, resolve, h, invoke, builtin, this, Result.andThen]
  rfl
theorem ex_load {T : TypeId} (h : a.eval x = u) (hr : (Instr.loadAt T u).run P w = .ok v w') : (execOp a.eval ⟨d, .load T x, t, p, e, g⟩).run P w = .ok (.value v) w' := by
  simp [execOp, h, hr, Result.andThen]
theorem ex_indexAddr {T : TypeId} (h : a.eval x = u) (h1 : a.eval y = s) (hr : (Instr.indexAt T u s).run P w = .ok v w') : (execOp a.eval ⟨d, .indexAddr T x y, t, p, e, g⟩).run P w = .ok (.value v) w' := by
  simp [execOp, h, h1, hr, Result.andThen]
theorem ex_fieldAddr {T : TypeId} {f : Nat} (h : a.eval x = u) (hr : (Instr.fieldAt T u f).run P w = .ok v w') : (execOp a.eval ⟨d, .fieldAddr T x f, t, p, e, g⟩).run P w = .ok (.value v) w' := by
  simp [execOp, h, hr, Result.andThen]
end
end Go.Proofs.YtjjnidbggoaonaaGreatDoor
/- Masks of low bits on int: x & (2^i - 1) is the remainder, for every int. -/
namespace Go.Proofs.YtjjnidbggoaonaaGreatDoor
open Go.RowKit

theorem wrap_i64_small (n : Nat) (h : n < 9223372036854775808) : IntKind.i64.wrap (n : Int) = n := by
  simp [IntKind.wrap, IntKind.bits, IntKind.signed]; omega

theorem and_mask_i64 (x : Int) (i m : Nat) (hi : i ≤ 62) (hm : m = 2 ^ i - 1) : bits .and .i64 x m = x % ((m : Int) + 1) := by
  have hp : 2 ^ i ≤ 2 ^ 62 := Nat.pow_le_pow_right (by omega) hi
  have hpos : 0 < 2 ^ i := Nat.pow_pos (by omega)
  have h62 : (2 : Nat) ^ 62 = 4611686018427387904 := by decide
  have e1 : (BitVec.ofInt 64 x).toNat = (x % 18446744073709551616).toNat := by
    rw [BitVec.toNat_ofInt]; rfl
  have e2 : (BitVec.ofInt 64 (m : Int)).toNat = m := by
    rw [BitVec.toNat_ofInt]
    have h64 : (2 ^ 64 : Nat) = 18446744073709551616 := by decide
    have : (m : Int) % ((2 ^ 64 : Nat) : Int) = m := Int.emod_eq_of_lt (by omega) (by omega)
    rw [this]; rfl
  have key : bits .and .i64 x m = IntKind.i64.wrap (((x % 18446744073709551616).toNat % 2 ^ i : Nat) : Int) := by
    show IntKind.i64.wrap _ = _
    congr 1
    show (((BitVec.ofInt 64 x &&& BitVec.ofInt 64 (m : Int)).toNat : Nat) : Int) = _
    rw [BitVec.toNat_and, e1, e2, hm, Nat.and_two_pow_sub_one_eq_mod]
  have hlt := Nat.mod_lt (x % 18446744073709551616).toNat hpos
  rw [key, wrap_i64_small _ (by omega)]
  have hm1 : ((m : Int) + 1) = ((2 ^ i : Nat) : Int) := by omega
  have hnn : 0 ≤ x % 18446744073709551616 := Int.emod_nonneg _ (by omega)
  rw [hm1, Int.natCast_emod, Int.toNat_of_nonneg hnn]
  refine Int.emod_emod_of_dvd _ ?_
  have : (18446744073709551616 : Int) = ((2 ^ 64 : Nat) : Int) := by decide
  rw [this]
  exact Int.natCast_dvd_natCast.2 (Nat.pow_dvd_pow 2 (by omega))

theorem tmod_bd (a n : Int) (hn : 0 < n) : -n < a.tmod n ∧ a.tmod n < n := by
  have h1 := Int.emod_nonneg a (Int.ne_of_gt hn)
  have h2 := Int.emod_lt_of_pos a hn
  rw [Int.tmod_eq_emod]
  split <;> omega

theorem and3 (x : Int) : bits .and .i64 x 3 = x % 4 := and_mask_i64 x 2 3 (by omega) (by decide)
theorem and1 (x : Int) : bits .and .i64 x 1 = x % 2 := and_mask_i64 x 1 1 (by omega) (by decide)
theorem and7 (x : Int) : bits .and .i64 x 7 = x % 8 := and_mask_i64 x 3 7 (by omega) (by decide)
theorem and15 (x : Int) : bits .and .i64 x 15 = x % 16 := and_mask_i64 x 4 15 (by omega) (by decide)
theorem and4095 (x : Int) : bits .and .i64 x 4095 = x % 4096 := and_mask_i64 x 12 4095 (by omega) (by decide)
theorem and65535 (x : Int) : bits .and .i64 x 65535 = x % 65536 := and_mask_i64 x 16 65535 (by omega) (by decide)
theorem and262143 (x : Int) : bits .and .i64 x 262143 = x % 262144 := and_mask_i64 x 18 262143 (by omega) (by decide)
end Go.Proofs.YtjjnidbggoaonaaGreatDoor
/- Numbers of bytes, the highest first: plainly. -/
namespace Go.Proofs.YtjjnidbggoaonaaGreatDoor
open Go.RowKit

/-- The number of the first k bytes, the highest first. -/
def beN (B : Nat → Int) : Nat → Int
  | 0 => 0
  | k + 1 => beN B k * 256 + B k
theorem beN_nonneg (B : Nat → Int) (hB : ∀ j, 0 ≤ B j ∧ B j ≤ 255) (k : Nat) : 0 ≤ beN B k := by
  induction k with
  | zero => simp [beN]
  | succ k ih => have := hB k; unfold beN; omega
theorem beN_lt (B : Nat → Int) (hB : ∀ j, 0 ≤ B j ∧ B j ≤ 255) (k : Nat) : beN B k < 256 ^ k := by
  induction k with
  | zero => simp [beN]
  | succ k ih => have := hB k; unfold beN; rw [Int.pow_succ]; omega
theorem beN_congr (B C : Nat → Int) (k : Nat) (h : ∀ j, j < k → B j = C j) : beN B k = beN C k := by
  induction k with
  | zero => rfl
  | succ k ih => unfold beN; rw [ih (fun j hj => h j (by omega)), h k (by omega)]
/-- What a step of the sum may be: below 2^64 while there are at most eight. -/
theorem beN_bd (B : Nat → Int) (hB : ∀ j, 0 ≤ B j ∧ B j ≤ 255) (k : Nat) (h : k < 8) : 0 ≤ beN B k ∧ beN B k ≤ 72057594037927935 := by
  refine ⟨beN_nonneg B hB k, ?_⟩
  have h1 := beN_lt B hB k
  have h2 : (256 : Int) ^ k ≤ 256 ^ 7 := by
    have e := Int.ofNat_le.2 (Nat.pow_le_pow_right (n := 256) (i := k) (j := 7) (by omega) (by omega))
    rw [Int.natCast_pow, Int.natCast_pow] at e; exact e
  have h3 : (256 : Int) ^ 7 = 72057594037927936 := by decide
  omega
theorem beN_bd8 (B : Nat → Int) (hB : ∀ j, 0 ≤ B j ∧ B j ≤ 255) (k : Nat) (h : k ≤ 8) : 0 ≤ beN B k ∧ beN B k ≤ 18446744073709551615 := by
  refine ⟨beN_nonneg B hB k, ?_⟩
  have h1 := beN_lt B hB k
  have h2 : (256 : Int) ^ k ≤ 256 ^ 8 := by
    have e := Int.ofNat_le.2 (Nat.pow_le_pow_right (n := 256) (i := k) (j := 8) (by omega) (by omega))
    rw [Int.natCast_pow, Int.natCast_pow] at e; exact e
  have h3 : (256 : Int) ^ 8 = 18446744073709551616 := by decide
  omega

theorem or_u64 (a b : Int) (h0 : 0 ≤ a) (h1 : 0 ≤ b) (h2 : b < 256) (h3 : a ≤ 72057594037927935) : bits .or .u64 (a * 256) b = a * 256 + b := by
  obtain ⟨a, rfl⟩ := Int.eq_ofNat_of_zero_le h0
  obtain ⟨b, rfl⟩ := Int.eq_ofNat_of_zero_le h1
  have e1 : ((a : Int) * 256) = ((2 ^ 8 * a : Nat) : Int) := by omega
  rw [e1]
  have h2' : b < 2 ^ 8 := by omega
  show IntKind.u64.wrap ((BitVec.ofInt 64 ((2 ^ 8 * a : Nat) : Int) ||| BitVec.ofInt 64 (b : Int)).toNat : Int) = _
  rw [BitVec.toNat_or, BitVec.ofInt_natCast, BitVec.ofInt_natCast, BitVec.toNat_ofNat, BitVec.toNat_ofNat, Nat.mod_eq_of_lt (by omega), Nat.mod_eq_of_lt (by omega), ← Nat.two_pow_add_eq_or_of_lt h2', IntKind.wrap_u64]
  omega

/-- Byte k of the n bytes of x, the highest first. -/
def byN (n : Nat) (x : Int) (k : Nat) : Int := x / 256 ^ (n - 1 - k) % 256
theorem byN_bd (n : Nat) (x : Int) (k : Nat) : 0 ≤ byN n x k ∧ byN n x k ≤ 255 := by
  unfold byN
  have h1 := Int.emod_nonneg (x / 256 ^ (n - 1 - k)) (by omega : (256 : Int) ≠ 0)
  have h2 := Int.emod_lt_of_pos (x / 256 ^ (n - 1 - k)) (by omega : (0 : Int) < 256)
  omega
theorem beN_byN (n : Nat) (x : Int) (h0 : 0 ≤ x) : ∀ k, k ≤ n → beN (byN n x) k = x / 256 ^ (n - k) % 256 ^ k
  | 0, _ => by simp [beN, Int.emod_one]
  | k + 1, hk => by
    unfold beN
    rw [beN_byN n x h0 k (by omega)]
    unfold byN
    have e1 : n - k = (n - (k + 1)) + 1 := by omega
    have e2 : n - 1 - k = n - (k + 1) := by omega
    rw [e1, e2, Int.pow_succ]
    generalize hp : (256 : Int) ^ (n - (k + 1)) = p
    have hpp : 0 < p := by rw [← hp]; exact Int.pow_pos (by omega)
    rw [← Int.ediv_ediv_of_nonneg (by omega : (0 : Int) ≤ p)]
    generalize x / p = y
    rw [Int.pow_succ]
    have hq : (0 : Int) < 256 ^ k := Int.pow_pos (by omega)
    generalize (256 : Int) ^ k = q at hq
    have := Int.emod_emod_of_dvd
    have h1 : y % (q * 256) = y / 256 % q * 256 + y % 256 := by
      have d1 := Int.emod_add_mul_ediv y 256
      have d2 := Int.emod_add_mul_ediv (y / 256) q
      have l1 := Int.emod_nonneg y (by omega : (256 : Int) ≠ 0)
      have l2 := Int.emod_lt_of_pos y (by omega : (0 : Int) < 256)
      have l3 := Int.emod_nonneg (y / 256) (by omega : q ≠ 0)
      have l4 := Int.emod_lt_of_pos (y / 256) hq
      generalize hr : y % 256 = r at *
      generalize hs : y / 256 % q = s at *
      generalize y / 256 / q = t at *
      have e3 : q * 256 * t = 256 * (q * t) := by rw [Int.mul_comm q 256, Int.mul_assoc]
      have : y = s * 256 + r + q * 256 * t := by rw [e3, ← d1, ← d2]; generalize q * t = u; omega
      rw [this, Int.add_mul_emod_self_left]
      exact Int.emod_eq_of_lt (by omega) (by have : s * 256 + 256 ≤ q * 256 := by omega
                                             omega)
    rw [h1]
end Go.Proofs.YtjjnidbggoaonaaGreatDoor
/- The ways through a statement meet again, cheaply for the kernel; conversions in a quiet region; draws and what lies in memory. -/
namespace Go.Proofs.YtjjnidbggoaonaaGreatDoor
open Go.RowKit

theorem drew_eq (w : World) : ({ heap := w.heap, tape := w.tape, drawn := w.drawn + 1, os := w.os, output := w.output } : World) = w.drew := rfl

theorem quiet_conv {P : Program} {C : World → Prop} {a : Act} {K : Act → Prop} {o : Oper} (S T : Nat) (x : Operand) (u v : Value) (h : o.op = .convert S T x) (hx : a.eval x = u) (hr : ∀ w, C w → (convert S T u).run P w = .ok v w) (hk : K (a.put o.dst v)) : o.quiet P a C K :=
  ⟨v, fun w hw => by
    unfold Oper.quietAt
    have e : (execOp a.eval o).run P w = .ok (.value v) w := by
      simp [execOp, h, hx, hr w hw, Result.andThen]
    rw [e]; unfold Oper.quietUpon; exact ⟨rfl, rfl⟩, hk⟩
/-- The ways through a statement meet again: every slot is named by one function, those that matter stand in the frame as they are. -/
theorem cut_in {P : Program} {s : Code} {K : Act → World → Prop} {Q' : Exit → Act → World → Prop} {a : Act} {w : World} (REL : (Nat → Value) → World → Prop) (T : (Nat → Value) → List Value)
    (first : ∀ J K' : Act → World → Prop, (∀ f w', REL f w' → J ⟨(T f).toArray, []⟩ w') → (∀ a' w', Met J a' w' → K' a' w') → s.wp P (Exit.then K' Q') a w)
    (rest : ∀ f w', REL f w' → K ⟨(T f).toArray, []⟩ w') : s.wp P (Exit.then K Q') a w :=
  wp_cut (fun a' w' => ∃ f, REL f w' ∧ a' = ⟨(T f).toArray, []⟩) (fun a' w' ⟨f, h, e⟩ => by subst e; exact rest f w' h) (fun J K' hJ hK => first J K' (fun f w' h => hJ _ _ ⟨f, h, rfl⟩) hK)
theorem meet_in {J : Act → World → Prop} {REL : (Nat → Value) → World → Prop} {T : (Nat → Value) → List Value} (hJ : ∀ f w', REL f w' → J ⟨(T f).toArray, []⟩ w') {l : List Value} {w : World}
    (e : T (fun n => l.getD n undef) = l) (h : REL (fun n => l.getD n undef) w) : Met J ⟨l.toArray, []⟩ w := by
  have := hJ _ w h
  rw [e] at this; exact Met.intro this
theorem Blk.drewN {w : World} {b t : Nat} {c : Array Value} (h : Blk w b c t) (n : Nat) : Blk (w.drewN n) b c t := h
theorem Kept.drewN {S : Nat → Prop} {w w1 : World} (h : Kept S w w1) (n : Nat) : Kept S w (w1.drewN n) := ⟨h.os, h.tape, h.output, h.size, h.block⟩
theorem below_drewN {B : Nat} {w w1 : World} (h : Below B w w1) (n : Nat) : Below B w (w1.drewN n) := ⟨h.os, h.tape, h.output, h.size, h.block⟩
theorem drew_size (w : World) : w.drew.heap.size = w.heap.size := rfl
end Go.Proofs.YtjjnidbggoaonaaGreatDoor
/- Contracts of package pack: a reader that has bytes left gives numbers; a number in bytes. -/
namespace Go.Proofs.YtjjnidbggoaonaaGreatDoor
open Go.RowKit
attribute [local irreducible] World.setCell World.alloc World.drew World.setRow Calls Code.wp row

theorem range_get (m : Nat) (B : Nat → Int) (i : Nat) (hi : i < ((List.range m).map fun j => Value.int .u8 (B j)).length) : ((List.range m).map fun j => Value.int .u8 (B j))[i]? = some (Value.int .u8 (B i)) := by
  have h' : i < m := by simpa using hi
  simp [h']

theorem copy_src {w : World} {b o m : Nat} {B : Nat → Int} (h : ∀ j, j < m → w.cell? ⟨b, o + j, none⟩ = some (.int .u8 (B j))) :
    ∀ (j : Nat) (v : Value), ((List.range m).map fun j => Value.int .u8 (B j))[j]? = some v → w.cell? ((⟨b, o, none⟩ : Addr).add j) = some v := by
  intro j v hv
  have hj : j < m := by
    rcases Nat.lt_or_ge j m with h' | h'
    · exact h'
    · rw [List.getElem?_eq_none (by simpa using h')] at hv; cases hv
  rw [range_get m B j (by simpa using hj)] at hv
  rw [Addr.add_lit, h j hj]; exact hv

theorem info5 : (Tryz.prog.info? 5).map (fun i => (i.zero, i.size, i.bytes)) = some (some (.int .u8 0), 1, 1) := by kernel_rfl
/-- A reader in memory: of the bytes in slice a; it has read so many. -/
def RdAt (w : World) (rb : Nat) (a : Option Addr) (len cap at_ : Nat) : Prop := Blk w rb #[.slice a len cap, .int .i64 at_, .bool false] 140

theorem pnew_any (a : Option Addr) (len cap : Nat) (w : World) :
    Calls Tryz.prog 35 #[.slice a len cap] w fun e w' => e = .returned (.pointer (some ⟨w.heap.size, 0, none⟩)) ∧ w' = w.alloc (.cells #[.slice a len cap, .int .i64 0, .bool false] 140) := by
  go_enter Tryz.func35, Tryz.ntmps35
  go_wp2
  go_ret
  exact ⟨rfl, rfl⟩

theorem bad_any (rb : Nat) (a : Option Addr) (len cap at_ : Nat) (w : World) (hR : RdAt w rb a len cap at_) :
    Calls Tryz.prog 112 #[.pointer (some ⟨rb, 0, none⟩)] w fun e w' => e = .returned (.bool false) ∧ w = w' := by
  have hc := Blk.cell hR
  clear hR
  go_enter Tryz.func112, Tryz.ntmps112
  go_wp2
  go_ret
  exact ⟨rfl, rfl⟩

theorem rest_any (rb : Nat) (a : Option Addr) (len cap at_ : Nat) (w : World) (hR : RdAt w rb a len cap at_) (h : at_ ≤ len) (hl : len ≤ maxLen) :
    Calls Tryz.prog 113 #[.pointer (some ⟨rb, 0, none⟩)] w fun e w' => e = .returned (.int .i64 ((len : Int) - at_)) ∧ ∃ n, w' = w.drewN n := by
  have hc := Blk.cell hR
  unfold maxLen at hl
  clear hR
  have h1 : IntKind.i64.wrap ((len : Int) - at_) = (len : Int) - at_ := IntWalk.i64_in _ (by omega)
  go_enter Tryz.func113, Tryz.ntmps113
  go_wp2
  go_quiet (fail)
  go_wp2
  go_ret
  exact ⟨rfl, _, rfl⟩

set_option maxRecDepth 100000 in
set_option maxHeartbeats 1000000 in
/-- Take: n bytes from where it stands. -/
theorem take_any (rb : Nat) (b o len cap at_ n : Nat) (B : Nat → Int) (w : World) (hR : RdAt w rb (some ⟨b, o, none⟩) len cap at_) (hb : ∀ j, j < len → w.cell? ⟨b, o + j, none⟩ = some (.int .u8 (B j)))
    (h1 : 1 ≤ n) (hn : at_ + n ≤ len) (hl : len ≤ cap) (hc : cap ≤ maxLen) (hc47 : n ≤ 64) (hrb : b ≠ rb) :
    Calls Tryz.prog 71 #[.pointer (some ⟨rb, 0, none⟩), .int .i64 n] w fun e w' =>
      ∃ v, e = .returned v ∧ w'.ownsRow w.heap.size 5 1 v n ((List.range n).map fun j => Value.int .u8 (B (at_ + j))) ∧ RdAt w' rb (some ⟨b, o, none⟩) len cap (at_ + n) ∧ Kept (fun k => k = rb) w w' := by
  have hcc := Blk.cell hR
  have hfr := Blk.free hR
  have hlt := Blk.lt hR
  unfold maxLen at hc
  have hn1 : ¬ ((n : Int) < 0) := by omega
  have hn2 : (n : Int) ≤ (len : Int) - at_ := by omega
  obtain ⟨i0, hi, hz0, hz1, hz2⟩ := info_parts info5
  have Hi := Lib.hid hi; have Hz0 := Lib.hid hz0; have Hz1 := Lib.hid hz1; have Hz2 := Lib.hid hz2
  have HR := Lib.hid hR
  have Hb := Lib.hid hb
  have hlm : len ≤ maxLen := by unfold maxLen; omega
  clear hi hz0 hz1 hz2 hR hb
  go_enter Tryz.func71, Tryz.ntmps71
  go_wp2_with fail
  refine (bad_any rb _ _ _ _ _ HR.out).mono ?_
  rintro e w' ⟨rfl, rfl⟩
  go_wp2_with fail
  refine (rest_any rb _ _ _ _ _ HR.out (by omega) hlm).mono ?_
  rintro e w' ⟨rfl, nq, rfl⟩
  have HR2 : Hid (RdAt (w.drewN nq) rb (some ⟨b, o, none⟩) len cap at_) := HR.out
  have hcc2 := Blk.cell HR2.out
  have hfr2 := Blk.free HR2.out
  clear hlm
  go_wp2_with fail
  have hR3 : Blk ((w.drewN nq).setCell ⟨rb, 1, none⟩ (.int .i64 ((at_ : Int) + n))) rb #[.slice (some ⟨b, o, none⟩) len cap, .int .i64 ((at_ : Int) + n), .bool false] 140 := Blk.set HR2.out 1 _
  have hK3 : Kept (fun k => k = rb) w ((w.drewN nq).setCell ⟨rb, 1, none⟩ (.int .i64 ((at_ : Int) + n))) := ((Kept.refl (fun k => k = rb) w).drewN nq).setIn rb 1 _ rfl
  have hb3 : ∀ j, j < n → ((w.drewN nq).setCell ⟨rb, 1, none⟩ (.int .i64 ((at_ : Int) + n))).cell? ⟨b, o + at_ + j, none⟩ = some (.int .u8 (B (at_ + j))) := by
    intro j hj
    rw [World.cell?_setCell_far _ _ _ _ (show rb ≠ b from fun e => hrb e.symm), Nat.add_assoc]
    exact Hb.out (at_ + j) (by omega)
  have Hb3 := Lib.hid hb3; have HK3 := Lib.hid hK3; have HR3 := Lib.hid hR3
  clear hb3 hK3 hR3 hcc hfr hcc2 hfr2
  generalize (w.drewN nq).setCell ⟨rb, 1, none⟩ (.int .i64 ((at_ : Int) + n)) = w3 at *
  have hcc := HR3.out.cell
  have hs1 : IntKind.i64.wrap ((at_ : Int) + n - n) = (at_ : Int) := by rw [show (at_ : Int) + n - n = at_ by omega]; exact IntWalk.i64_in _ (by omega)
  have hs2 : IntKind.i64.wrap (at_ : Int) = (at_ : Int) := IntWalk.i64_in _ (by omega)
  have hsl : ∀ w, (Instr.slice 27 (.slice (some ⟨b, o, none⟩) len cap) (some (.int .i64 at_)) (some (.int .i64 ((at_ : Int) + n))) none).run Tryz.prog w = .ok (.slice (some ⟨b, o + at_, none⟩) n (cap - at_)) w := by
    intro w
    have hq0 : (0 : Int) ≤ at_ := by omega
    have hqm : (at_ : Int) ≤ (at_ : Int) + n := by omega
    have hqm2 : (at_ : Int) + n ≤ cap := by omega
    have e1 : ((at_ : Int) + n).toNat = at_ + n := by omega
    have e2 : ¬ cap = at_ := by omega
    go_simp
  have HRd := Lib.hid HR3.out.drew
  have HKd := Lib.hid HK3.out.drew
  have Hbd : Hid (∀ j, j < n → w3.drew.cell? ⟨b, o + at_ + j, none⟩ = some (.int .u8 (B (at_ + j)))) := fun j hj => by rw [World.cell?_drew]; exact Hb3.out j hj
  go_wp2_with fail
  go_still_tail 15, (by kernel_rfl)
  rw [drew_eq w3]
  go_wp2_with (at_builtin; refine wpList_append_own _ rfl _ _ 27 rfl w.heap.size 5 i0 (.int .u8 0) 1 1 Tryz.underlying27 Hi.out Hz0.out Hz1.out Hz2.out rfl (by decide) _ _ _ rfl (World.ownsRow_nil _ _ _ _) ⟨b, o + at_, none⟩ n _ ((List.range n).map fun j => Value.int .u8 (B (at_ + j))) rfl (by simp) (copy_src Hbd.out) (fun v hv => by obtain ⟨j, _, rfl⟩ := List.mem_map.1 hv; rfl) (by unfold maxLen; omega) (by omega) (by rw [drew_size]; exact HK3.out.size) ?_; intro v' w2 hown hgrow _)
  go_ret
  have hbg : Below w3.drew.heap.size w3.drew w2 := Below.grown (Below.refl _ _) hgrow (Nat.le_refl _) (fun k hk => by cases hk)
  refine ⟨_, rfl, by simpa using hown, ?_, ?_⟩
  · have := HRd.out.below hbg HRd.out.lt
    unfold RdAt; rw [show ((at_ + n : Nat) : Int) = (at_ : Int) + n by omega]; exact this
  · exact HKd.out.trans ((Kept.of_below hbg).mono fun k _ h => h)

set_option maxRecDepth 100000 in
set_option maxHeartbeats 1000000 in
/-- Num: the number of the next n bytes. -/
theorem pnum_any (rb : Nat) (b o len cap at_ n : Nat) (B : Nat → Int) (w : World) (hR : RdAt w rb (some ⟨b, o, none⟩) len cap at_) (hb : ∀ j, j < len → w.cell? ⟨b, o + j, none⟩ = some (.int .u8 (B j)))
    (hB : ∀ j, 0 ≤ B j ∧ B j ≤ 255) (h1 : 1 ≤ n) (h8 : n ≤ 8) (hn : at_ + n ≤ len) (hl : len ≤ cap) (hc : cap ≤ maxLen) (hrb : b ≠ rb) :
    Calls Tryz.prog 36 #[.pointer (some ⟨rb, 0, none⟩), .int .i64 n] w fun e w' =>
      e = .returned (.int .u64 (beN (fun j => B (at_ + j)) n)) ∧ RdAt w' rb (some ⟨b, o, none⟩) len cap (at_ + n) ∧ Kept (fun k => k = rb) w w' := by
  have hn1 : ¬ ((n : Int) < 1) := by omega
  have hn8 : ¬ ((8 : Int) < n) := by omega
  have HR := Lib.hid hR; have Hb := Lib.hid hb; have HB := Lib.hid hB; have Hc := Lib.hid hc; have Hl := Lib.hid hl
  clear hR hb hB hc hl
  go_enter Tryz.func36, Tryz.ntmps36
  go_wp2_with fail
  refine (take_any rb b o len cap at_ n B _ HR.out Hb.out h1 hn Hl.out Hc.out (by omega) hrb).mono ?_
  rintro e w2 ⟨v, rfl, hown, hR2, hK2⟩
  obtain ⟨C, hC⟩ : ∃ C : Nat → Int, (fun j => B (at_ + j)) = C := ⟨_, rfl⟩
  have hCb : ∀ j, 0 ≤ C j ∧ C j ≤ 255 := fun j => by rw [← hC]; exact HB.out _
  have hown' : w2.ownsRow w.heap.size 5 1 v n ((List.range n).map fun j => Value.int .u8 (C j)) := by rw [← hC]; exact hown
  have HC := Lib.hid hC
  clear hown hC
  obtain ⟨g, gc, cur, rfl, _, _, _⟩ := hown'.2.resolve_left (by rintro ⟨_, h0⟩; omega)
  have hcell : ∀ j, j < n → w2.cell? ⟨g, j, none⟩ = some (.int .u8 (C j)) := fun j hj => by
    rw [hown'.cellAt j (by omega)]; simp [hj]
  have Hcell := Lib.hid hcell; have HR2 := Lib.hid hR2; have HK2 := Lib.hid hK2
  clear hown' hcell hR2 hK2
  go_wp2_with fail
  go_loop [5, 7, 20] (fun x _ i => ∃ k : Nat, k ≤ n ∧ i = .int .i64 k ∧ x = .int .u64 (beN C k)) (fun _ _ i => n - (intOf i).toNat)
  case atStart => exact ⟨0, by omega, rfl, rfl⟩
  case round =>
    obtain ⟨k, hk, rfl, rfl⟩ := hrel
    by_cases hlt : k < n
    · have hcl := Hcell.out k hlt
      obtain ⟨c0, c1⟩ := hCb k
      obtain ⟨d0, d1⟩ := beN_bd C hCb k (by omega)
      have hor := or_u64 (beN C k) (C k) d0 c0 (by omega) d1
      have Hs : Hid (beN C (k + 1) = beN C k * 256 + C k) := rfl
      go_wp2_with fail
      go_round
      case rel => exact ⟨k + 1, by omega, by go_num, by rw [Hs.out]⟩
      case measure => simp [intOf]; omega
    · obtain rfl : k = n := by omega
      go_wp2_with fail
      go_ret
      exact ⟨by rw [HC.out]; rfl, HR2.out, HK2.out⟩
end Go.Proofs.YtjjnidbggoaonaaGreatDoor
/- pack.Put: a number in bytes, the highest first. -/
namespace Go.Proofs.YtjjnidbggoaonaaGreatDoor
open Go.RowKit
attribute [local irreducible] World.setCell World.alloc World.drew World.setRow Calls Code.wp row

theorem cell_one_new' (w : World) (v : Value) (t : TypeId) : ∀ (j : Nat) (u : Value), [v][j]? = some u → (w.alloc (.cells #[v] t)).cell? ((⟨w.heap.size, 0, none⟩ : Addr).add j) = some u := by
  intro j u h
  have hj : j = 0 := by
    rcases Nat.eq_zero_or_pos j with e | e
    · exact e
    · rw [List.getElem?_eq_none (by simp; omega)] at h; cases h
  subst hj
  rw [Addr.add_lit, (Blk.new w #[v] t).cell]
  simpa using h

set_option maxRecDepth 100000 in
set_option maxHeartbeats 1000000 in
theorem put_any (n : Nat) (x : Int) (w : World) (h8 : n ≤ 8) (h0 : 0 ≤ x) (h1 : x ≤ 18446744073709551615) :
    Calls Tryz.prog 66 #[.slice none 0 0, .int .i64 n, .int .u64 x] w fun e w' =>
      ∃ v, e = .returned v ∧ w'.ownsRow w.heap.size 5 1 v n ((List.range n).map fun j => Value.int .u8 (byN n x j)) ∧ Below w.heap.size w w' := by
  obtain ⟨i0, hi, hz0, hz1, hz2⟩ := info_parts info5
  have Hi := Lib.hid hi; have Hz0 := Lib.hid hz0; have Hz1 := Lib.hid hz1; have Hz2 := Lib.hid hz2
  clear hi hz0 hz1 hz2
  have H0 := Lib.hid h0; have H1 := Lib.hid h1
  clear h1
  go_enter Tryz.func66, Tryz.ntmps66
  go_wp2_with (at_builtin; refine wpList_append_own_none rfl _ _ 27 rfl w.heap.size 5 i0 1 Tryz.underlying27 Hi.out _ 0 [] rfl (World.ownsRow_nil _ _ _ _) rfl ?_)
  go_loopg [7, 8] n (fun g v i wx => ∃ k : Nat, k = g ∧ k ≤ n ∧ i = .int .i64 k ∧ wx.ownsRow w.heap.size 5 1 v (n - k) ((List.range (n - k)).map fun j => Value.int .u8 (byN n x j)) ∧ Below w.heap.size w wx)
  case atStart => exact ⟨n, rfl, Nat.le_refl _, rfl, by rw [Nat.sub_self]; exact World.ownsRow_nil _ _ _ _, Below.refl _ _⟩
  case round =>
    obtain ⟨k, rfl, hk, rfl, hown, hb⟩ := hrel
    have Hown := Lib.hid hown; have Hb := Lib.hid hb
    clear hown hb
    by_cases hlt : 0 < k
    · obtain ⟨q, rfl⟩ : ∃ q, k = q + 1 := ⟨k - 1, by omega⟩
      have e1 : ((q + 1 : Nat) : Int) = (q : Int) + 1 := by omega
      rw [e1]
      clear e1
      have hq8 : q < 8 := by omega
      have hby : x / 2 ^ (8 * q) % 256 = byN n x (n - (q + 1)) := by
        unfold byN
        rw [show n - 1 - (n - (q + 1)) = q by omega, Int.pow_mul]; rfl
      have Hby := Lib.hid hby; clear hby
      have hsz := Hb.out.size
      go_wp2_with (at_builtin; refine wpList_append_own _ rfl _ _ 27 rfl w.heap.size 5 i0 (.int .u8 0) 1 1 Tryz.underlying27 Hi.out Hz0.out Hz1.out Hz2.out rfl (by decide) _ _ _ rfl (Hown.out.alloc _) ⟨wr.heap.size, 0, none⟩ 1 1 [.int .u8 (x / 2 ^ (8 * q) % 256)] rfl rfl (cell_one_new' _ _ _) (fun u hu => by simp at hu; subst hu; rfl) (by unfold maxLen; omega) (by omega) (by simp; omega) ?_; intro v' w6 hown6 hgrow6 _)
      go_roundg q
      case measure => omega
      case rel =>
        refine ⟨q, rfl, by omega, by go_num, ?_, (Hb.out.alloc hsz _).grown hgrow6 (by simp; omega) (fun k hk => (Hown.out.lt k hk).1)⟩
        rw [Hby.out] at hown6
        have e1 : n - q = (n - (q + 1)) + 1 := by omega
        rw [e1, List.range_succ, List.map_append]
        exact hown6
    · obtain rfl : k = 0 := by omega
      go_wp2_with fail
      go_ret
      exact ⟨_, rfl, Hown.out, Hb.out⟩
end Go.Proofs.YtjjnidbggoaonaaGreatDoor
/- A slice that holds bytes, as a string sees it. -/
namespace Go.Proofs.YtjjnidbggoaonaaGreatDoor
open Go.RowKit

/-- Bytes that lie somewhere below the heap's end: the slice v holds l. -/
def StrIn (w : World) (v : Value) (l : List Int) : Prop :=
  ∃ x c, v = .slice x l.length c ∧ (l.length ≤ c ∧ c ≤ maxLen) ∧ (l = [] ∨ ∃ b o, x = some ⟨b, o, none⟩ ∧ b < w.heap.size ∧ ∀ j, j < l.length → w.cell? ⟨b, o + j, none⟩ = some (.int .u8 (l.getD j 0)))
theorem StrIn.below {w w' : World} {v : Value} {l : List Int} (h : StrIn w v l) {B : Nat} (hb : Below B w w') (hB : w.heap.size ≤ B) : StrIn w' v l := by
  obtain ⟨x, c, rfl, hc, h⟩ := h
  refine ⟨x, c, rfl, hc, h.imp id ?_⟩
  rintro ⟨b, o, rfl, h1, h2⟩
  refine ⟨b, o, rfl, Nat.lt_of_lt_of_le h1 hb.size, fun j hj => ?_⟩
  rw [← h2 j hj]
  exact hb.cell (p := ⟨b, o + j, none⟩) (Nat.lt_of_lt_of_le h1 hB)
theorem StrIn.str {w : World} {v : Value} {l : List Int} (h : StrIn w v l) : (convert 27 9 v).run Tryz.prog w = .ok (.string (bs l)) w := by
  obtain ⟨x, c, rfl, _, h⟩ := h
  rcases h with rfl | ⟨b, o, rfl, _, h⟩
  · cases x
    · exact run_str_nil Tryz.underlying27 Tryz.underlying5 Tryz.underlying9 _ _
    · exact run_str Tryz.underlying27 Tryz.underlying5 Tryz.underlying9 _ [] c (fun j hj => absurd hj (by simp))
  · exact run_str Tryz.underlying27 Tryz.underlying5 Tryz.underlying9 _ l c (fun j hj => by rw [Addr.add_lit]; exact h j hj)
theorem own_str {w : World} {base E : Nat} {v : Value} {l : List Int} (h : w.ownsRow base E 1 v l.length (bytesV l)) : StrIn w v l := by
  rcases h.2 with ⟨rfl, h0⟩ | ⟨g, cap, cur, rfl, _, hh, h3, h4, _⟩
  · obtain rfl : l = [] := List.eq_nil_of_length_eq_zero h0
    exact ⟨_, _, rfl, ⟨Nat.le_refl _, Nat.zero_le _⟩, .inl rfl⟩
  · refine ⟨_, _, rfl, ⟨h3, h4⟩, .inr ⟨g, 0, rfl, (Array.getElem?_eq_some_iff.1 hh).1, fun j hj => ?_⟩⟩
    rw [Nat.zero_add, h.cellAt j (by omega)]
    simp [bytesV, hj, List.getD]
theorem neq_same {P : Program} {w : World} (t : TypeId) (s : ByteArray) : (binOp .neq t (.string s) (.string s)).run P w = .ok (.bool false) w := by
  simp [binOp_string_neq]
theorem eql_same {P : Program} {w : World} (t : TypeId) (s : ByteArray) : (binOp .eql t (.string s) (.string s)).run P w = .ok (.bool true) w := by
  simp [binOp_string_eql]
theorem StrIn.of_blk {w : World} {b t c : Nat} {l : List Int} {cs : Array Value} (h : Blk w b cs t) (hc : ∀ j, j < l.length → cs[j]? = some (.int .u8 (l.getD j 0))) (h1 : l.length ≤ c := by first | exact Nat.le_refl _ | simp) (h2 : c ≤ maxLen := by first | decide | (unfold maxLen; omega)) : StrIn w (.slice (some ⟨b, 0, none⟩) l.length c) l :=
  ⟨_, c, rfl, ⟨h1, h2⟩, .inr ⟨b, 0, rfl, h.lt, fun j hj => by rw [Nat.zero_add, h.cell, hc j hj]⟩⟩
theorem StrIn.drew {w : World} {v : Value} {l : List Int} (h : StrIn w v l) : StrIn w.drew v l := h
end Go.Proofs.YtjjnidbggoaonaaGreatDoor
