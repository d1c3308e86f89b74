/- Rows: arrays of cells told by an index function; what stores and copies make of them. -/
import Derived.Test.YtjjnidbggoaonaaGreatDoorLib
import Derived.Laws.CopyOwn
namespace Go.Proofs.YtjjnidbggoaonaaGreatDoor
open Go.RowKit

/-- The array of n cells f 0, f 1, .. -/
def row (n : Nat) (f : Nat → Value) : Array Value := Array.ofFn (n := n) fun i => f i.val
theorem row_size (n : Nat) (f : Nat → Value) : (row n f).size = n := by simp [row]
theorem row_get (n : Nat) (f : Nat → Value) (i : Nat) : (row n f)[i]? = if i < n then some (f i) else none := by
  unfold row
  by_cases h : i < n
  · rw [if_pos h, Array.getElem?_eq_getElem (by simpa using h)]; simp
  · rw [if_neg h, Array.getElem?_eq_none (by simpa using h)]
theorem row_at (n : Nat) (f : Nat → Value) (i : Nat) (h : i < n) : (row n f)[i]? = some (f i) := by rw [row_get, if_pos h]
theorem row_ext {n : Nat} {f : Nat → Value} {c : Array Value} (hs : c.size = n) (h : ∀ i, i < n → c[i]? = some (f i)) : c = row n f := by
  apply Array.ext_getElem?
  intro i
  rw [row_get]
  by_cases hi : i < n
  · rw [if_pos hi, h i hi]
  · rw [if_neg hi, Array.getElem?_eq_none (by omega)]
theorem row_congr {n : Nat} {f g : Nat → Value} (h : ∀ i, i < n → f i = g i) : row n f = row n g :=
  row_ext (row_size n f) fun i hi => by rw [row_at n f i hi, h i hi]
theorem row_set (n : Nat) (f : Nat → Value) (i : Nat) (v : Value) : (row n f).setIfInBounds i v = row n (fun j => if j = i then v else f j) := by
  refine row_ext (by simp [row_size]) fun j hj => ?_
  rw [Array.getElem?_setIfInBounds]
  by_cases e : i = j
  · subst e; rw [if_pos rfl, if_pos (by rw [row_size]; exact hj), if_pos rfl]
  · rw [if_neg e, row_at n f j hj, if_neg (fun h => e h.symm)]
theorem row_toList_get (n : Nat) (f : Nat → Value) (i : Nat) : (row n f).toList[i]? = if i < n then some (f i) else none := by
  rw [Array.getElem?_toList, row_get]
theorem row_len (n : Nat) (f : Nat → Value) : (row n f).toList.length = n := by simp [row]
/-- A stretch of cells replaced by others. -/
theorem row_splice (n : Nat) (f : Nat → Value) (off : Nat) (cs : List Value) (g : Nat → Value) (hg : ∀ i, i < cs.length → cs[i]? = some (g i)) (h : off + cs.length ≤ n) :
    ((row n f).toList.take off ++ (cs ++ (row n f).toList.drop (off + cs.length))).toArray = row n (fun j => if off ≤ j ∧ j < off + cs.length then g (j - off) else f j) := by
  refine row_ext (by simp [row_size]; omega) fun j hj => ?_
  rw [List.getElem?_toArray]
  by_cases h1 : j < off
  · rw [List.getElem?_append_left (by simp [row_size]; omega), List.getElem?_take_of_lt h1, row_toList_get, if_pos hj, if_neg (by omega)]
  · rw [List.getElem?_append_right (by simp [row_size]; omega)]
    have e1 : ((row n f).toList.take off).length = off := by simp [row_size]; omega
    rw [e1]
    by_cases h2 : j < off + cs.length
    · rw [List.getElem?_append_left (by omega), hg _ (by omega), if_pos ⟨by omega, h2⟩]
    · rw [List.getElem?_append_right (by omega), List.getElem?_drop, row_toList_get, if_pos (by omega), if_neg (by omega)]
      congr 2; omega

section
variable {w w1 : World} {b t n : Nat} {f : Nat → Value}
theorem Blk.rowAt (h : Blk w b (row n f) t) (i : Nat) (hi : i < n) : w.cell? ⟨b, i, none⟩ = some (f i) := by rw [h.cell, row_at n f i hi]
theorem Blk.setRow {c : Array Value} (h : Blk w b c t) (d : Array Value) : Blk (w.setRow b d) b d t := by
  unfold Blk at h ⊢; exact setRow_heap w b _ _ t _ h
theorem Blk.setRow_other {c : Array Value} (h : Blk w b c t) {g : Nat} (hg : g ≠ b) (d : Array Value) : Blk (w.setRow g d) b c t := by
  unfold Blk at h ⊢
  show (w.heap.modify g _)[b]? = _
  rw [Array.getElem?_modify, if_neg hg]; exact h
theorem Kept.setRow {S : Nat → Prop} (h : Kept S w w1) {g : Nat} (hg : w.heap.size ≤ g ∨ S g) (d : Array Value) : Kept S w (w1.setRow g d) :=
  ⟨h.os, h.tape, h.output, by have := h.size; simpa [World.setRow] using this, fun i hi hs => by
    have hne : ¬ g = i := by
      intro e; subst e
      rcases hg with q | q
      · omega
      · exact hs q
    show (w1.heap.modify g _)[i]? = _
    rw [Array.getElem?_modify, if_neg hne]; exact h.block i hi hs⟩
end
end Go.Proofs.YtjjnidbggoaonaaGreatDoor
