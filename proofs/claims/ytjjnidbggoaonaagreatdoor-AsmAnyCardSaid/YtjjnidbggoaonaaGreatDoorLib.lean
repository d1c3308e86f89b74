/- Small facts on blocks of memory, over any program: a block known whole (Blk), and worlds that part in some blocks alone (Kept). No condition. -/
import Derived.Test.YtjjnidbggoaonaaGreatDoorRows
import Derived.WalkKit
import Derived.WalkSpells
import Derived.WalkLawsBesides
import Derived.Lib.Hide
namespace Go.Proofs.YtjjnidbggoaonaaGreatDoor
open Go.RowKit

/-- Block b holds just these cells, none of them frozen. -/
def Blk (w : World) (b : Nat) (c : Array Value) (t : TypeId) : Prop := w.heap[b]? = some (.cells c t (0, 0))
section
variable {w w' : World} {b t : Nat} {c : Array Value}
theorem Blk.cell (h : Blk w b c t) (i : Nat) : w.cell? ⟨b, i, none⟩ = c[i]? := by
  unfold Blk at h; simp [World.cell?, h]
theorem Blk.free (h : Blk w b c t) (i : Nat) : w.frozen? ⟨b, i, none⟩ = false := by
  unfold Blk at h; simp [World.frozen?, h]
theorem Blk.lt (h : Blk w b c t) : b < w.heap.size := by
  unfold Blk at h; exact (Array.getElem?_eq_some_iff.1 h).1
theorem Blk.set (h : Blk w b c t) (i : Nat) (v : Value) : Blk (w.setCell ⟨b, i, none⟩ v) b (c.setIfInBounds i v) t := by
  unfold Blk at h ⊢; simp [World.setCell, Array.getElem?_modify, h]
theorem Blk.set_other (h : Blk w b c t) {a : Addr} (ha : a.block ≠ b) (v : Value) : Blk (w.setCell a v) b c t := by
  unfold Blk at h ⊢; rw [Below.heap_setCell _ _ _ _ (Ne.symm ha)]; exact h
theorem Blk.alloc (h : Blk w b c t) (o : Obj) : Blk (w.alloc o) b c t := by
  have := h.lt
  unfold Blk at h ⊢; rw [Below.heap_alloc _ _ _ this]; exact h
theorem Blk.new (w : World) (c : Array Value) (t : TypeId) : Blk (w.alloc (.cells c t)) w.heap.size c t := by
  show (w.heap.push _)[w.heap.size]? = _
  simp
theorem Blk.drew (h : Blk w b c t) : Blk w.drew b c t := h
theorem Blk.cells (h : Blk w b c t) {d : Array Value} (e : c = d) : Blk w b d t := e ▸ h
end

/-- w' is w, with new blocks, and written in blocks of S alone. -/
structure Kept (S : Nat → Prop) (w w' : World) : Prop where
  os : w'.os = w.os
  tape : w'.tape = w.tape
  output : w'.output = w.output
  size : w.heap.size ≤ w'.heap.size
  block : ∀ k, k < w.heap.size → ¬ S k → w'.heap[k]? = w.heap[k]?
section
variable {S T : Nat → Prop} {w w1 w2 : World}
theorem Kept.refl (S : Nat → Prop) (w : World) : Kept S w w := ⟨rfl, rfl, rfl, Nat.le_refl _, fun _ _ _ => rfl⟩
theorem Kept.trans (h : Kept S w w1) (k : Kept S w1 w2) : Kept S w w2 :=
  ⟨k.os.trans h.os, k.tape.trans h.tape, k.output.trans h.output, Nat.le_trans h.size k.size, fun i hi hs => (k.block i (Nat.lt_of_lt_of_le hi h.size) hs).trans (h.block i hi hs)⟩
theorem Kept.mono (h : Kept S w w1) (hs : ∀ k, k < w.heap.size → S k → T k) : Kept T w w1 :=
  ⟨h.os, h.tape, h.output, h.size, fun i hi hn => h.block i hi (fun q => hn (hs i hi q))⟩
theorem Kept.drew (h : Kept S w w1) : Kept S w w1.drew := ⟨h.os, h.tape, h.output, h.size, h.block⟩
theorem Kept.alloc (h : Kept S w w1) (o : Obj) : Kept S w (w1.alloc o) :=
  ⟨h.os, h.tape, h.output, by have := h.size; simp; omega, fun i hi hs => by
    rw [Below.heap_alloc _ _ _ (Nat.lt_of_lt_of_le hi h.size)]; exact h.block i hi hs⟩
theorem Kept.setCell (h : Kept S w w1) {a : Addr} (ha : w.heap.size ≤ a.block ∨ S a.block) (v : Value) : Kept S w (w1.setCell a v) :=
  ⟨h.os, h.tape, h.output, by have := h.size; simpa [World.setCell] using this, fun i hi hs => by
    have hne : i ≠ a.block := by
      intro e; subst e
      rcases ha with q | q
      · omega
      · exact hs q
    rw [Below.heap_setCell _ _ _ _ hne]; exact h.block i hi hs⟩
theorem Kept.setIn (h : Kept S w w1) (b i : Nat) (v : Value) (hb : S b) : Kept S w (w1.setCell ⟨b, i, none⟩ v) := h.setCell (.inr hb) v
theorem Kept.setNew (h : Kept S w w1) (b i : Nat) (v : Value) (hb : w.heap.size ≤ b) : Kept S w (w1.setCell ⟨b, i, none⟩ v) := h.setCell (.inl hb) v
theorem Kept.then {S' : Nat → Prop} (h : Kept S w w1) (k : Kept S' w1 w2) (hs : ∀ i, i < w.heap.size → S' i → S i) : Kept S w w2 :=
  ⟨k.os.trans h.os, k.tape.trans h.tape, k.output.trans h.output, Nat.le_trans h.size k.size, fun i hi hn =>
    (k.block i (Nat.lt_of_lt_of_le hi h.size) (fun q => hn (hs i hi q))).trans (h.block i hi hn)⟩
theorem Kept.of_below (h : Below w.heap.size w w1) : Kept S w w1 := ⟨h.os, h.tape, h.output, h.size, fun k hk _ => h.block k hk⟩
theorem Kept.below (h : Kept S w w1) {B : Nat} (hB : B ≤ w.heap.size) (hs : ∀ k, k < B → ¬ S k) : Below B w w1 :=
  ⟨h.os, h.tape, h.output, h.size, fun k hk => h.block k (by omega) (hs k hk)⟩
theorem Kept.blk (h : Kept S w w1) {b t : Nat} {c : Array Value} (hb : Blk w b c t) (hs : ¬ S b) : Blk w1 b c t := by
  have := h.block b hb.lt hs
  unfold Blk at hb ⊢; rw [this]; exact hb
theorem Blk.below {b t : Nat} {c : Array Value} (hb : Blk w b c t) {B : Nat} (h : Below B w w1) (hB : b < B) : Blk w1 b c t := by
  have := h.block b hB
  unfold Blk at hb ⊢; rw [this]; exact hb
theorem Blk.below' {b t : Nat} {c : Array Value} (hb : Blk w b c t) (h : Kept S w w1) (hs : ¬ S b) : Blk w1 b c t := h.blk hb hs
end
end Go.Proofs.YtjjnidbggoaonaaGreatDoor
