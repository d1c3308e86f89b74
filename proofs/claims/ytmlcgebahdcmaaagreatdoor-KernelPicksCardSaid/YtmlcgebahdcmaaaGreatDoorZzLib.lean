/- Of the proof of this claim: a joined text. -/
import Derived.Test.YtmlcgebahdcmaaaGreatDoorRows
import Derived.WalkKit
import Derived.WalkSpells
import Derived.WalkLawsBesides
import Derived.Lib.Hide
import Derived.Laws.CopyOwn
import Derived.Lib.SmallJoins
namespace Go.Proofs.YtmlcgebahdcmaaaGreatDoor
open Go.RowKit
def Blk (w : World) (b : Nat) (c : Array Value) (t : TypeId) : Prop := w.heap[b]? = some (.cells c t (0, 0))
section
variable {w w' : World} {b t : Nat} {c : Array Value}
theorem Blk.cell (h : Blk w b c t) (i : Nat) : w.cell? ⟨b, i, none⟩ = c[i]? := by
 unfold Blk at h; simp [World.cell?, h]
theorem Blk.free (h : Blk w b c t) (i : Nat) : w.frozen? ⟨b, i, none⟩ = false := by
 unfold Blk at h; simp [World.frozen?, h]
theorem Blk.lt (h : Blk w b c t) : b < w.heap.size := by
 unfold Blk at h; exact (Array.getElem?_eq_some_iff.1 h).1
theorem Blk.set (h : Blk w b c t) (i : Nat) (v : Value) : Blk (w.setCell ⟨b, i, none⟩ v) b (c.setIfInBounds i v) t := by
 unfold Blk at h ⊢; simp [World.setCell, Array.getElem?_modify, h]
theorem Blk.set_other (h : Blk w b c t) {a : Addr} (ha : a.block ≠ b) (v : Value) : Blk (w.setCell a v) b c t := by
 unfold Blk at h ⊢; rw [Below.heap_setCell _ _ _ _ (Ne.symm ha)]; exact h
theorem Blk.alloc (h : Blk w b c t) (o : Obj) : Blk (w.alloc o) b c t := by
 have := h.lt
 unfold Blk at h ⊢; rw [Below.heap_alloc _ _ _ this]; exact h
theorem Blk.new (w : World) (c : Array Value) (t : TypeId) : Blk (w.alloc (.cells c t)) w.heap.size c t := by
 show (w.heap.push _)[w.heap.size]? = _
 simp
theorem Blk.drew (h : Blk w b c t) : Blk w.drew b c t := h
theorem Blk.cells (h : Blk w b c t) {d : Array Value} (e : c = d) : Blk w b d t := e ▸ h
end
structure Kept (S : Nat -> Prop) (w w' : World) : Prop where
 os : w'.os = w.os
 tape : w'.tape = w.tape
 output : w'.output = w.output
 size : w.heap.size <= w'.heap.size
 block : ∀ k, k < w.heap.size -> ¬ S k -> w'.heap[k]? = w.heap[k]?
section
variable {S T : Nat -> Prop} {w w1 w2 : World}
theorem Kept.refl (S : Nat -> Prop) (w : World) : Kept S w w := ⟨rfl, rfl, rfl, Nat.le_refl _, fun _ _ _ => rfl⟩
theorem Kept.trans (h : Kept S w w1) (k : Kept S w1 w2) : Kept S w w2 :=
 ⟨k.os.trans h.os, k.tape.trans h.tape, k.output.trans h.output, Nat.le_trans h.size k.size, fun i hi hs => (k.block i (Nat.lt_of_lt_of_le hi h.size) hs).trans (h.block i hi hs)⟩
theorem Kept.mono (h : Kept S w w1) (hs : ∀ k, k < w.heap.size -> S k -> T k) : Kept T w w1 :=
 ⟨h.os, h.tape, h.output, h.size, fun i hi hn => h.block i hi (fun q => hn (hs i hi q))⟩
theorem Kept.drew (h : Kept S w w1) : Kept S w w1.drew := ⟨h.os, h.tape, h.output, h.size, h.block⟩
theorem Kept.alloc (h : Kept S w w1) (o : Obj) : Kept S w (w1.alloc o) :=
 ⟨h.os, h.tape, h.output, by have := h.size; simp; omega, fun i hi hs => by
  rw [Below.heap_alloc _ _ _ (Nat.lt_of_lt_of_le hi h.size)]; exact h.block i hi hs⟩
theorem Kept.setCell (h : Kept S w w1) {a : Addr} (ha : w.heap.size <= a.block \/ S a.block) (v : Value) : Kept S w (w1.setCell a v) :=
 ⟨h.os, h.tape, h.output, by have := h.size; simpa [World.setCell] using this, fun i hi hs => by
  have hne : i ≠ a.block := by
   intro e; subst e
   rcases ha with q | q
   ·omega
   ·exact hs q
  rw [Below.heap_setCell _ _ _ _ hne]; exact h.block i hi hs⟩
theorem Kept.setIn (h : Kept S w w1) (b i : Nat) (v : Value) (hb : S b) : Kept S w (w1.setCell ⟨b, i, none⟩ v) := h.setCell (.inr hb) v
theorem Kept.setNew (h : Kept S w w1) (b i : Nat) (v : Value) (hb : w.heap.size <= b) : Kept S w (w1.setCell ⟨b, i, none⟩ v) := h.setCell (.inl hb) v
theorem Kept.then {S' : Nat -> Prop} (h : Kept S w w1) (k : Kept S' w1 w2) (hs : ∀ i, i < w.heap.size -> S' i -> S i) : Kept S w w2 :=
 ⟨k.os.trans h.os, k.tape.trans h.tape, k.output.trans h.output, Nat.le_trans h.size k.size, fun i hi hn =>
  (k.block i (Nat.lt_of_lt_of_le hi h.size) (fun q => hn (hs i hi q))).trans (h.block i hi hn)⟩
theorem Kept.of_below (h : Below w.heap.size w w1) : Kept S w w1 := ⟨h.os, h.tape, h.output, h.size, fun k hk _ => h.block k hk⟩
theorem Kept.below (h : Kept S w w1) {B : Nat} (hB : B <= w.heap.size) (hs : ∀ k, k < B -> ¬ S k) : Below B w w1 :=
 ⟨h.os, h.tape, h.output, h.size, fun k hk => h.block k (by omega) (hs k hk)⟩
theorem Kept.blk (h : Kept S w w1) {b t : Nat} {c : Array Value} (hb : Blk w b c t) (hs : ¬ S b) : Blk w1 b c t := by
 have := h.block b hb.lt hs
 unfold Blk at hb ⊢; rw [this]; exact hb
theorem Blk.below {b t : Nat} {c : Array Value} (hb : Blk w b c t) {B : Nat} (h : Below B w w1) (hB : b < B) : Blk w1 b c t := by
 have := h.block b hB
 unfold Blk at hb ⊢; rw [this]; exact hb
theorem Blk.below' {b t : Nat} {c : Array Value} (hb : Blk w b c t) (h : Kept S w w1) (hs : ¬ S b) : Blk w1 b c t := h.blk hb hs
end
end Go.Proofs.YtmlcgebahdcmaaaGreatDoor
namespace Go.Proofs.YtmlcgebahdcmaaaGreatDoor
open Go.RowKit
def row (n : Nat) (f : Nat -> Value) : Array Value := Array.ofFn (n := n) fun i => f i.val
theorem row_size (n : Nat) (f : Nat -> Value) : (row n f).size = n := by simp [row]
theorem row_get (n : Nat) (f : Nat -> Value) (i : Nat) : (row n f)[i]? = if i < n then some (f i) else none := by
 unfold row
 by_cases h : i < n
 ·rw [if_pos h, Array.getElem?_eq_getElem (by simpa using h)]; simp
 ·rw [if_neg h, Array.getElem?_eq_none (by simpa using h)]
theorem row_at (n : Nat) (f : Nat -> Value) (i : Nat) (h : i < n) : (row n f)[i]? = some (f i) := by rw [row_get, if_pos h]
theorem row_ext {n : Nat} {f : Nat -> Value} {c : Array Value} (hs : c.size = n) (h : ∀ i, i < n -> c[i]? = some (f i)) : c = row n f := by
 apply Array.ext_getElem?
 intro i
 rw [row_get]
 by_cases hi : i < n
 ·rw [if_pos hi, h i hi]
 ·rw [if_neg hi, Array.getElem?_eq_none (by omega)]
theorem row_congr {n : Nat} {f g : Nat -> Value} (h : ∀ i, i < n -> f i = g i) : row n f = row n g :=
 row_ext (row_size n f) fun i hi => by rw [row_at n f i hi, h i hi]
theorem row_set (n : Nat) (f : Nat -> Value) (i : Nat) (v : Value) : (row n f).setIfInBounds i v = row n (fun j => if j = i then v else f j) := by
 refine row_ext (by simp [row_size]) fun j hj => ?_
 rw [Array.getElem?_setIfInBounds]
 by_cases e : i = j
 ·subst e; rw [if_pos rfl, if_pos (by rw [row_size]; exact hj), if_pos rfl]
 ·rw [if_neg e, row_at n f j hj, if_neg (fun h => e h.symm)]
theorem row_toList_get (n : Nat) (f : Nat -> Value) (i : Nat) : (row n f).toList[i]? = if i < n then some (f i) else none := by
 rw [Array.getElem?_toList, row_get]
theorem row_splice (n : Nat) (f : Nat -> Value) (off : Nat) (cs : List Value) (g : Nat -> Value) (hg : ∀ i, i < cs.length -> cs[i]? = some (g i)) (h : off + cs.length <= n) :
  ((row n f).toList.take off ++ (cs ++ (row n f).toList.drop (off + cs.length))).toArray = row n (fun j => if off <= j /\ j < off + cs.length then g (j - off) else f j) := by
 refine row_ext (by simp [row_size]; omega) fun j hj => ?_
 rw [List.getElem?_toArray]
 by_cases h1 : j < off
 ·rw [List.getElem?_append_left (by simp [row_size]; omega), List.getElem?_take_of_lt h1, row_toList_get, if_pos hj, if_neg (by omega)]
 ·rw [List.getElem?_append_right (by simp [row_size]; omega)]
  have e1 : ((row n f).toList.take off).length = off := by simp [row_size]; omega
  rw [e1]
  by_cases h2 : j < off + cs.length
  ·rw [List.getElem?_append_left (by omega), hg _ (by omega), if_pos ⟨by omega, h2⟩]
  ·rw [List.getElem?_append_right (by omega), List.getElem?_drop, row_toList_get, if_pos (by omega), if_neg (by omega)]
   congr 2; omega
section
variable {w w1 : World} {b t n : Nat} {f : Nat -> Value}
theorem Blk.rowAt (h : Blk w b (row n f) t) (i : Nat) (hi : i < n) : w.cell? ⟨b, i, none⟩ = some (f i) := by rw [h.cell, row_at n f i hi]
theorem Blk.setRow {c : Array Value} (h : Blk w b c t) (d : Array Value) : Blk (w.setRow b d) b d t := by
 unfold Blk at h ⊢; exact setRow_heap w b _ _ t _ h
theorem Blk.setRow_other {c : Array Value} (h : Blk w b c t) {g : Nat} (hg : g ≠ b) (d : Array Value) : Blk (w.setRow g d) b c t := by
 unfold Blk at h ⊢
 show (w.heap.modify g _)[b]? = _
 rw [Array.getElem?_modify, if_neg hg]; exact h
theorem Kept.setRow {S : Nat -> Prop} (h : Kept S w w1) {g : Nat} (hg : w.heap.size <= g \/ S g) (d : Array Value) : Kept S w (w1.setRow g d) :=
 ⟨h.os, h.tape, h.output, by have := h.size; simpa [World.setRow] using this, fun i hi hs => by
  have hne : ¬ g = i := by
   intro e; subst e
   rcases hg with q | q
   ·omega
   ·exact hs q
  show (w1.heap.modify g _)[i]? = _
  rw [Array.getElem?_modify, if_neg hne]; exact h.block i hi hs⟩
end
end Go.Proofs.YtmlcgebahdcmaaaGreatDoor
namespace Go.Proofs.YtmlcgebahdcmaaaGreatDoor
open Go.RowKit
theorem cell_lt {w : World} {x : Addr} {v : Value} (h : w.cell? x = some v) : x.block < w.heap.size := by
 unfold World.cell? at h
 split at h
 ·rename_i hb; exact (Array.getElem?_eq_some_iff.1 hb).1
 ·cases h
theorem cells_at {w : World} {a : Addr} {n : Nat} {cs : List Value} (h : w.cells? 0 a n = some cs) : cs.length = n /\ ∀ c, c < n -> w.cell? (a.add c) = cs[c]? := by
 unfold World.cells? at h
 rw [if_pos (Nat.zero_le _)] at h
 exact ⟨by simpa using mapM_some_length h, fun c hc => mapM_some_get h c c (by simp [hc])⟩
theorem wf_i64 {x : Int} (h : (Lit.int .i64 x).wf = true) : -9223372036854775808 <= x /\ x <= 9223372036854775807 := by
 simpa [Lit.wf, IntKind.min, IntKind.max, IntKind.signed, IntKind.bits] using h
theorem wrap_i64_small (n : Nat) (h : n < 9223372036854775808) : IntKind.i64.wrap (n : Int) = n := by
 simp [IntKind.wrap, IntKind.bits, IntKind.signed]; omega
theorem and_mask_i64 (x : Int) (i m : Nat) (hi : i <= 62) (hm : m = 2 ^ i - 1) : bits .and .i64 x m = x % ((m : Int) + 1) := by
 have hp : 2 ^ i <= 2 ^ 62 := Nat.pow_le_pow_right (by omega) hi
 have hpos : 0 < 2 ^ i := Nat.pow_pos (by omega)
 have h62 : (2 : Nat) ^ 62 = 4611686018427387904 := by decide
 have e1 : (BitVec.ofInt 64 x).toNat = (x % 18446744073709551616).toNat := by
  rw [BitVec.toNat_ofInt]; rfl
 have e2 : (BitVec.ofInt 64 (m : Int)).toNat = m := by
  rw [BitVec.toNat_ofInt]
  have h64 : (2 ^ 64 : Nat) = 18446744073709551616 := by decide
  have : (m : Int) % ((2 ^ 64 : Nat) : Int) = m := Int.emod_eq_of_lt (by omega) (by omega)
  rw [this]; rfl
 have key : bits .and .i64 x m = IntKind.i64.wrap (((x % 18446744073709551616).toNat % 2 ^ i : Nat) : Int) := by
  show IntKind.i64.wrap _ = _
  congr 1
  show (((BitVec.ofInt 64 x &&& BitVec.ofInt 64 (m : Int)).toNat : Nat) : Int) = _
  rw [BitVec.toNat_and, e1, e2, hm, Nat.and_two_pow_sub_one_eq_mod]
 have hlt := Nat.mod_lt (x % 18446744073709551616).toNat hpos
 rw [key, wrap_i64_small _ (by omega)]
 have hm1 : ((m : Int) + 1) = ((2 ^ i : Nat) : Int) := by omega
 have hnn : 0 <= x % 18446744073709551616 := Int.emod_nonneg _ (by omega)
 rw [hm1, Int.natCast_emod, Int.toNat_of_nonneg hnn]
 refine Int.emod_emod_of_dvd _ ?_
 have : (18446744073709551616 : Int) = ((2 ^ 64 : Nat) : Int) := by decide
 rw [this]
 exact Int.natCast_dvd_natCast.2 (Nat.pow_dvd_pow 2 (by omega))
theorem and3 (x : Int) : bits .and .i64 x 3 = x % 4 := and_mask_i64 x 2 3 (by omega) (by decide)
theorem and1 (x : Int) : bits .and .i64 x 1 = x % 2 := and_mask_i64 x 1 1 (by omega) (by decide)
theorem and7 (x : Int) : bits .and .i64 x 7 = x % 8 := and_mask_i64 x 3 7 (by omega) (by decide)
theorem and15 (x : Int) : bits .and .i64 x 15 = x % 16 := and_mask_i64 x 4 15 (by omega) (by decide)
end Go.Proofs.YtmlcgebahdcmaaaGreatDoor
