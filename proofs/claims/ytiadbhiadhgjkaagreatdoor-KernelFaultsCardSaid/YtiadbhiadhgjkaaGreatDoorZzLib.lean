/- Of the proof of this claim: a joined text. -/
import Derived.Test.YtiadbhiadhgjkaaGreatDoorRows
import Derived.WalkKit
import Derived.WalkSpells
import Derived.WalkLawsBesides
import Derived.Lib.Hide
import Derived.Laws.CopyOwn
import Derived.Lib.SmallJoins
import Derived.IntWalk
namespace Go.Proofs.YtiadbhiadhgjkaaGreatDoor
open Go.RowKit
def Blk (w : World) (b : Nat) (c : Array Value) (t : TypeId) : Prop := w.heap[b]? = some (.cells c t (0, 0))
section
variable {w w' : World} {b t : Nat} {c : Array Value}
theorem Blk.cell (h : Blk w b c t) (i : Nat) : w.cell? ⟨b, i, none⟩ = c[i]? := by
 unfold Blk at h; simp [World.cell?, h]
theorem Blk.free (h : Blk w b c t) (i : Nat) : w.frozen? ⟨b, i, none⟩ = false := by
 unfold Blk at h; simp [World.frozen?, h]
theorem Blk.lt (h : Blk w b c t) : b < w.heap.size := by
 unfold Blk at h; exact (Array.getElem?_eq_some_iff.1 h).1
theorem Blk.set (h : Blk w b c t) (i : Nat) (v : Value) : Blk (w.setCell ⟨b, i, none⟩ v) b (c.setIfInBounds i v) t := by
 unfold Blk at h ⊢; simp [World.setCell, Array.getElem?_modify, h]
theorem Blk.set_other (h : Blk w b c t) {a : Addr} (ha : a.block ≠ b) (v : Value) : Blk (w.setCell a v) b c t := by
 unfold Blk at h ⊢; rw [Below.heap_setCell _ _ _ _ (Ne.symm ha)]; exact h
theorem Blk.alloc (h : Blk w b c t) (o : Obj) : Blk (w.alloc o) b c t := by
 have := h.lt;unfold Blk at h ⊢; rw [Below.heap_alloc _ _ _ this]; exact h
theorem Blk.new (w : World) (c : Array Value) (t : TypeId) : Blk (w.alloc (.cells c t)) w.heap.size c t := by
 show (w.heap.push _)[w.heap.size]? = _
 simp
theorem Blk.drew (h : Blk w b c t) : Blk w.drew b c t := h
theorem Blk.cells (h : Blk w b c t) {d : Array Value} (e : c = d) : Blk w b d t := e ▸ h
end
structure Kept (S : Nat -> Prop) (w w' : World) : Prop where
 os : w'.os = w.os
 tape : w'.tape = w.tape
 output : w'.output = w.output
 size : w.heap.size <= w'.heap.size
 block : ∀ k, k < w.heap.size -> ¬ S k -> w'.heap[k]? = w.heap[k]?
section
variable {S T : Nat -> Prop} {w w1 w2 : World}
theorem Kept.refl (S : Nat -> Prop) (w : World) : Kept S w w := ⟨rfl, rfl, rfl, Nat.le_refl _, fun _ _ _ => rfl⟩
theorem Kept.trans (h : Kept S w w1) (k : Kept S w1 w2) : Kept S w w2 :=
 ⟨k.os.trans h.os, k.tape.trans h.tape, k.output.trans h.output, Nat.le_trans h.size k.size, fun i hi hs => (k.block i (Nat.lt_of_lt_of_le hi h.size) hs).trans (h.block i hi hs)⟩
theorem Kept.mono (h : Kept S w w1) (hs : ∀ k, k < w.heap.size -> S k -> T k) : Kept T w w1 :=
 ⟨h.os, h.tape, h.output, h.size, fun i hi hn => h.block i hi (fun q => hn (hs i hi q))⟩
theorem Kept.drew (h : Kept S w w1) : Kept S w w1.drew := ⟨h.os, h.tape, h.output, h.size, h.block⟩
theorem Kept.alloc (h : Kept S w w1) (o : Obj) : Kept S w (w1.alloc o) :=
 ⟨h.os, h.tape, h.output, by have := h.size; simp; omega, fun i hi hs => by
  rw [Below.heap_alloc _ _ _ (Nat.lt_of_lt_of_le hi h.size)]; exact h.block i hi hs⟩
theorem Kept.setCell (h : Kept S w w1) {a : Addr} (ha : w.heap.size <= a.block \/ S a.block) (v : Value) : Kept S w (w1.setCell a v) :=
 ⟨h.os, h.tape, h.output, by have := h.size; simpa [World.setCell] using this, fun i hi hs => by
  have hne : i ≠ a.block := by
   intro e; subst e;rcases ha with q | q
   ·omega
   ·exact hs q
  rw [Below.heap_setCell _ _ _ _ hne]; exact h.block i hi hs⟩
theorem Kept.setIn (h : Kept S w w1) (b i : Nat) (v : Value) (hb : S b) : Kept S w (w1.setCell ⟨b, i, none⟩ v) := h.setCell (.inr hb) v
theorem Kept.setNew (h : Kept S w w1) (b i : Nat) (v : Value) (hb : w.heap.size <= b) : Kept S w (w1.setCell ⟨b, i, none⟩ v) := h.setCell (.inl hb) v
theorem Kept.then {S' : Nat -> Prop} (h : Kept S w w1) (k : Kept S' w1 w2) (hs : ∀ i, i < w.heap.size -> S' i -> S i) : Kept S w w2 :=
 ⟨k.os.trans h.os, k.tape.trans h.tape, k.output.trans h.output, Nat.le_trans h.size k.size, fun i hi hn =>
  (k.block i (Nat.lt_of_lt_of_le hi h.size) (fun q => hn (hs i hi q))).trans (h.block i hi hn)⟩
theorem Kept.of_below (h : Below w.heap.size w w1) : Kept S w w1 := ⟨h.os, h.tape, h.output, h.size, fun k hk _ => h.block k hk⟩
theorem Kept.below (h : Kept S w w1) {B : Nat} (hB : B <= w.heap.size) (hs : ∀ k, k < B -> ¬ S k) : Below B w w1 :=
 ⟨h.os, h.tape, h.output, h.size, fun k hk => h.block k (by omega) (hs k hk)⟩
theorem Kept.blk (h : Kept S w w1) {b t : Nat} {c : Array Value} (hb : Blk w b c t) (hs : ¬ S b) : Blk w1 b c t := by
 have := h.block b hb.lt hs;unfold Blk at hb ⊢; rw [this]; exact hb
theorem Blk.below {b t : Nat} {c : Array Value} (hb : Blk w b c t) {B : Nat} (h : Below B w w1) (hB : b < B) : Blk w1 b c t := by
 have := h.block b hB;unfold Blk at hb ⊢; rw [this]; exact hb
theorem Blk.below' {b t : Nat} {c : Array Value} (hb : Blk w b c t) (h : Kept S w w1) (hs : ¬ S b) : Blk w1 b c t := h.blk hb hs
end
end Go.Proofs.YtiadbhiadhgjkaaGreatDoor
namespace Go.Proofs.YtiadbhiadhgjkaaGreatDoor
open Go.RowKit
def row (n : Nat) (f : Nat -> Value) : Array Value := Array.ofFn (n := n) fun i => f i.val
theorem row_size (n : Nat) (f : Nat -> Value) : (row n f).size = n := by simp [row]
theorem row_get (n : Nat) (f : Nat -> Value) (i : Nat) : (row n f)[i]? = if i < n then some (f i) else none := by
 unfold row;by_cases h : i < n
 ·rw [if_pos h, Array.getElem?_eq_getElem (by simpa using h)]; simp
 ·rw [if_neg h, Array.getElem?_eq_none (by simpa using h)]
theorem row_at (n : Nat) (f : Nat -> Value) (i : Nat) (h : i < n) : (row n f)[i]? = some (f i) := by rw [row_get, if_pos h]
theorem row_ext {n : Nat} {f : Nat -> Value} {c : Array Value} (hs : c.size = n) (h : ∀ i, i < n -> c[i]? = some (f i)) : c = row n f := by
 apply Array.ext_getElem?;intro i;rw [row_get];by_cases hi : i < n
 ·rw [if_pos hi, h i hi]
 ·rw [if_neg hi, Array.getElem?_eq_none (by omega)]
theorem row_congr {n : Nat} {f g : Nat -> Value} (h : ∀ i, i < n -> f i = g i) : row n f = row n g :=
 row_ext (row_size n f) fun i hi => by rw [row_at n f i hi, h i hi]
theorem row_set (n : Nat) (f : Nat -> Value) (i : Nat) (v : Value) : (row n f).setIfInBounds i v = row n (fun j => if j = i then v else f j) := by
 refine row_ext (by simp [row_size]) fun j hj => ?_
 rw [Array.getElem?_setIfInBounds];by_cases e : i = j
 ·subst e; rw [if_pos rfl, if_pos (by rw [row_size]; exact hj), if_pos rfl]
 ·rw [if_neg e, row_at n f j hj, if_neg (fun h => e h.symm)]
theorem row_toList_get (n : Nat) (f : Nat -> Value) (i : Nat) : (row n f).toList[i]? = if i < n then some (f i) else none := by
 rw [Array.getElem?_toList, row_get]
theorem row_splice (n : Nat) (f : Nat -> Value) (off : Nat) (cs : List Value) (g : Nat -> Value) (hg : ∀ i, i < cs.length -> cs[i]? = some (g i)) (h : off + cs.length <= n) :
  ((row n f).toList.take off ++ (cs ++ (row n f).toList.drop (off + cs.length))).toArray = row n (fun j => if off <= j /\ j < off + cs.length then g (j - off) else f j) := by
 refine row_ext (by simp [row_size]; omega) fun j hj => ?_
 rw [List.getElem?_toArray];by_cases h1 : j < off
 ·rw [List.getElem?_append_left (by simp [row_size]; omega), List.getElem?_take_of_lt h1, row_toList_get, if_pos hj, if_neg (by omega)]
 ·rw [List.getElem?_append_right (by simp [row_size]; omega)]
  have e1 : ((row n f).toList.take off).length = off := by simp [row_size]; omega
  rw [e1];by_cases h2 : j < off + cs.length
  ·rw [List.getElem?_append_left (by omega), hg _ (by omega), if_pos ⟨by omega, h2⟩]
  ·rw [List.getElem?_append_right (by omega), List.getElem?_drop, row_toList_get, if_pos (by omega), if_neg (by omega)]
   congr 2; omega
section
variable {w w1 : World} {b t n : Nat} {f : Nat -> Value}
theorem Blk.rowAt (h : Blk w b (row n f) t) (i : Nat) (hi : i < n) : w.cell? ⟨b, i, none⟩ = some (f i) := by rw [h.cell, row_at n f i hi]
theorem Blk.setRow {c : Array Value} (h : Blk w b c t) (d : Array Value) : Blk (w.setRow b d) b d t := by
 unfold Blk at h ⊢; exact setRow_heap w b _ _ t _ h
theorem Blk.setRow_other {c : Array Value} (h : Blk w b c t) {g : Nat} (hg : g ≠ b) (d : Array Value) : Blk (w.setRow g d) b c t := by
 unfold Blk at h ⊢;show (w.heap.modify g _)[b]? = _
 rw [Array.getElem?_modify, if_neg hg]; exact h
theorem Kept.setRow {S : Nat -> Prop} (h : Kept S w w1) {g : Nat} (hg : w.heap.size <= g \/ S g) (d : Array Value) : Kept S w (w1.setRow g d) :=
 ⟨h.os, h.tape, h.output, by have := h.size; simpa [World.setRow] using this, fun i hi hs => by
  have hne : ¬ g = i := by
   intro e; subst e;rcases hg with q | q
   ·omega
   ·exact hs q
  show (w1.heap.modify g _)[i]? = _
  rw [Array.getElem?_modify, if_neg hne]; exact h.block i hi hs⟩
end
end Go.Proofs.YtiadbhiadhgjkaaGreatDoor
namespace Go.Proofs.YtiadbhiadhgjkaaGreatDoor
open Go.RowKit
theorem cell_lt {w : World} {x : Addr} {v : Value} (h : w.cell? x = some v) : x.block < w.heap.size := by
 unfold World.cell? at h;split at h
 ·rename_i hb; exact (Array.getElem?_eq_some_iff.1 hb).1
 ·cases h
theorem wrap_i64_small (n : Nat) (h : n < 9223372036854775808) : IntKind.i64.wrap (n : Int) = n := by
 simp [IntKind.wrap, IntKind.bits, IntKind.signed]; omega
theorem and_mask_i64 (x : Int) (i m : Nat) (hi : i <= 62) (hm : m = 2 ^ i - 1) : bits .and .i64 x m = x % ((m : Int) + 1) := by
 have hp : 2 ^ i <= 2 ^ 62 := Nat.pow_le_pow_right (by omega) hi;have hpos : 0 < 2 ^ i := Nat.pow_pos (by omega);have h62 : (2 : Nat) ^ 62 = 4611686018427387904 := by decide
 have e1 : (BitVec.ofInt 64 x).toNat = (x % 18446744073709551616).toNat := by
  rw [BitVec.toNat_ofInt]; rfl
 have e2 : (BitVec.ofInt 64 (m : Int)).toNat = m := by
  rw [BitVec.toNat_ofInt];have h64 : (2 ^ 64 : Nat) = 18446744073709551616 := by decide
  have : (m : Int) % ((2 ^ 64 : Nat) : Int) = m := Int.emod_eq_of_lt (by omega) (by omega)
  rw [this]; rfl
 have key : bits .and .i64 x m = IntKind.i64.wrap (((x % 18446744073709551616).toNat % 2 ^ i : Nat) : Int) := by
  show IntKind.i64.wrap _ = _
  congr 1
  show (((BitVec.ofInt 64 x &&& BitVec.ofInt 64 (m : Int)).toNat : Nat) : Int) = _
  rw [BitVec.toNat_and, e1, e2, hm, Nat.and_two_pow_sub_one_eq_mod]
 have hlt := Nat.mod_lt (x % 18446744073709551616).toNat hpos;rw [key, wrap_i64_small _ (by omega)];have hm1 : ((m : Int) + 1) = ((2 ^ i : Nat) : Int) := by omega
 have hnn : 0 <= x % 18446744073709551616 := Int.emod_nonneg _ (by omega);rw [hm1, Int.natCast_emod, Int.toNat_of_nonneg hnn];refine Int.emod_emod_of_dvd _ ?_;have : (18446744073709551616 : Int) = ((2 ^ 64 : Nat) : Int) := by decide
 rw [this];exact Int.natCast_dvd_natCast.2 (Nat.pow_dvd_pow 2 (by omega))
theorem tmod_bd (a n : Int) (hn : 0 < n) : -n < a.tmod n /\ a.tmod n < n := by
 have h1 := Int.emod_nonneg a (Int.ne_of_gt hn);have h2 := Int.emod_lt_of_pos a hn;rw [Int.tmod_eq_emod];split <;> omega
theorem and3 (x : Int) : bits .and .i64 x 3 = x % 4 := and_mask_i64 x 2 3 (by omega) (by decide)
theorem and1 (x : Int) : bits .and .i64 x 1 = x % 2 := and_mask_i64 x 1 1 (by omega) (by decide)
theorem and7 (x : Int) : bits .and .i64 x 7 = x % 8 := and_mask_i64 x 3 7 (by omega) (by decide)
theorem and15 (x : Int) : bits .and .i64 x 15 = x % 16 := and_mask_i64 x 4 15 (by omega) (by decide)
def beN (B : Nat -> Int) : Nat -> Int
 | 0 => 0
 | k + 1 => beN B k * 256 + B k
theorem beN_nonneg (B : Nat -> Int) (hB : ∀ j, 0 <= B j /\ B j <= 255) (k : Nat) : 0 <= beN B k := by
 induction k with
 | zero => simp [beN]
 | succ k ih => have := hB k; unfold beN; omega
theorem beN_lt (B : Nat -> Int) (hB : ∀ j, 0 <= B j /\ B j <= 255) (k : Nat) : beN B k < 256 ^ k := by
 induction k with
 | zero => simp [beN]
 | succ k ih => have := hB k; unfold beN; rw [Int.pow_succ]; omega
theorem beN_congr (B C : Nat -> Int) (k : Nat) (h : ∀ j, j < k -> B j = C j) : beN B k = beN C k := by
 induction k with
 | zero => rfl
 | succ k ih => unfold beN; rw [ih (fun j hj => h j (by omega)), h k (by omega)]
theorem beN_bd (B : Nat -> Int) (hB : ∀ j, 0 <= B j /\ B j <= 255) (k : Nat) (h : k < 8) : 0 <= beN B k /\ beN B k <= 72057594037927935 := by
 refine ⟨beN_nonneg B hB k, ?_⟩;have h1 := beN_lt B hB k
 have h2 : (256 : Int) ^ k <= 256 ^ 7 := by
  have e := Int.ofNat_le.2 (Nat.pow_le_pow_right (n := 256) (i := k) (j := 7) (by omega) (by omega));rw [Int.natCast_pow, Int.natCast_pow] at e; exact e
 have h3 : (256 : Int) ^ 7 = 72057594037927936 := by decide
 omega
theorem beN_bd8 (B : Nat -> Int) (hB : ∀ j, 0 <= B j /\ B j <= 255) (k : Nat) (h : k <= 8) : 0 <= beN B k /\ beN B k <= 18446744073709551615 := by
 refine ⟨beN_nonneg B hB k, ?_⟩;have h1 := beN_lt B hB k
 have h2 : (256 : Int) ^ k <= 256 ^ 8 := by
  have e := Int.ofNat_le.2 (Nat.pow_le_pow_right (n := 256) (i := k) (j := 8) (by omega) (by omega));rw [Int.natCast_pow, Int.natCast_pow] at e; exact e
 have h3 : (256 : Int) ^ 8 = 18446744073709551616 := by decide
 omega
theorem or_u64 (a b : Int) (h0 : 0 <= a) (h1 : 0 <= b) (h2 : b < 256) (h3 : a <= 72057594037927935) : bits .or .u64 (a * 256) b = a * 256 + b := by
 obtain ⟨a, rfl⟩ := Int.eq_ofNat_of_zero_le h0;obtain ⟨b, rfl⟩ := Int.eq_ofNat_of_zero_le h1;have e1 : ((a : Int) * 256) = ((2 ^ 8 * a : Nat) : Int) := by omega
 rw [e1];have h2' : b < 2 ^ 8 := by omega
 show IntKind.u64.wrap ((BitVec.ofInt 64 ((2 ^ 8 * a : Nat) : Int) ||| BitVec.ofInt 64 (b : Int)).toNat : Int) = _
 rw [BitVec.toNat_or, BitVec.ofInt_natCast, BitVec.ofInt_natCast, BitVec.toNat_ofNat, BitVec.toNat_ofNat, Nat.mod_eq_of_lt (by omega), Nat.mod_eq_of_lt (by omega), <- Nat.two_pow_add_eq_or_of_lt h2', IntKind.wrap_u64];omega
def byN (n : Nat) (x : Int) (k : Nat) : Int := x / 256 ^ (n - 1 - k) % 256
theorem byN_bd (n : Nat) (x : Int) (k : Nat) : 0 <= byN n x k /\ byN n x k <= 255 := by
 unfold byN;have h1 := Int.emod_nonneg (x / 256 ^ (n - 1 - k)) (by omega : (256 : Int) ≠ 0);have h2 := Int.emod_lt_of_pos (x / 256 ^ (n - 1 - k)) (by omega : (0 : Int) < 256);omega
theorem beN_byN (n : Nat) (x : Int) (h0 : 0 <= x) : ∀ k, k <= n -> beN (byN n x) k = x / 256 ^ (n - k) % 256 ^ k
 | 0, _ => by simp [beN, Int.emod_one]
 | k + 1, hk => by
  unfold beN;rw [beN_byN n x h0 k (by omega)];unfold byN;have e1 : n - k = (n - (k + 1)) + 1 := by omega
  have e2 : n - 1 - k = n - (k + 1) := by omega
  rw [e1, e2, Int.pow_succ];generalize hp : (256 : Int) ^ (n - (k + 1)) = p;have hpp : 0 < p := by rw [<- hp]; exact Int.pow_pos (by omega)
  rw [<- Int.ediv_ediv_of_nonneg (by omega : (0 : Int) <= p)];generalize x / p = y;rw [Int.pow_succ];have hq : (0 : Int) < 256 ^ k := Int.pow_pos (by omega);generalize (256 : Int) ^ k = q at hq;have := Int.emod_emod_of_dvd
  have h1 : y % (q * 256) = y / 256 % q * 256 + y % 256 := by
   have d1 := Int.emod_add_mul_ediv y 256;have d2 := Int.emod_add_mul_ediv (y / 256) q;have l1 := Int.emod_nonneg y (by omega : (256 : Int) ≠ 0);have l2 := Int.emod_lt_of_pos y (by omega : (0 : Int) < 256);have l3 := Int.emod_nonneg (y / 256) (by omega : q ≠ 0);have l4 := Int.emod_lt_of_pos (y / 256) hq;generalize hr : y % 256 = r at *;generalize hs : y / 256 % q = s at *;generalize y / 256 / q = t at *;have e3 : q * 256 * t = 256 * (q * t) := by rw [Int.mul_comm q 256, Int.mul_assoc]
   have : y = s * 256 + r + q * 256 * t := by rw [e3, <- d1, <- d2]; generalize q * t = u; omega
   rw [this, Int.add_mul_emod_self_left]
   exact Int.emod_eq_of_lt (by omega) (by have : s * 256 + 256 <= q * 256 := by omega
                                          omega)
  rw [h1]
end Go.Proofs.YtiadbhiadhgjkaaGreatDoor
namespace Go.Proofs.YtiadbhiadhgjkaaGreatDoor
structure Lab where
 d : Nat
 ps : List (Nat × Nat)
structure WMap where
 (at_ seg from_ n : Int) (wr : Bool)
structure WObj where
 (kind parent : Int) (lab clr : Lab) (pages names : Int) (data : List UInt8) (maps : List WMap) (space pc : Int)
structure WCfg where
 (cores frames names : Int) (slots : List (Int × Int)) (objs : List WObj)
def pairsR (d : Nat) : Nat -> List (Nat × Nat) -> Bool
 | _, [] => true
 | last, p :: r => decide (last < p.1 /\ p.1 <= 1073741824 /\ p.2 <= 4 /\ p.2 ≠ d) && pairsR d p.1 r
def Lab.right (l : Lab) : Bool := decide (1 <= l.d /\ l.d <= 4 /\ l.ps.length <= 12) && pairsR l.d 0 l.ps
def lab0 : Lab := ⟨0, []⟩
def obj0 (k : Int) : WObj := ⟨k, 0, lab0, lab0, 0, 0, [], [], 0, 0⟩
theorem pairsR_all {d : Nat} : ∀ {last : Nat} {ps : List (Nat × Nat)}, pairsR d last ps = true -> ∀ p ∈ ps, p.1 <= 1073741824 /\ p.2 <= 4
 | _, [], _, p, hp => by cases hp
 | last, q :: r, h, p, hp => by
  unfold pairsR at h;simp only [Bool.and_eq_true, decide_eq_true_eq] at h;rcases List.mem_cons.1 hp with rfl | hp
  ·exact ⟨h.1.2.1, h.1.2.2.1⟩
  ·exact pairsR_all h.2 p hp
theorem Lab.right_spec {l : Lab} (h : l.right = true) : (1 <= l.d /\ l.d <= 4) /\ l.ps.length <= 12 /\ ∀ p ∈ l.ps, p.1 <= 1073741824 /\ p.2 <= 4 := by
 unfold Lab.right at h;simp only [Bool.and_eq_true, decide_eq_true_eq] at h;exact ⟨⟨h.1.1, h.1.2.1⟩, h.1.2.2, pairsR_all h.2⟩
def bothF (da db : Nat) : Nat -> List (Nat × Nat) -> List (Nat × Nat) -> List (Nat × Nat × Nat)
 | 0, _, _ => []
 | _ + 1, [], [] => []
 | g + 1, (c, x) :: r, [] => (c, x, db) :: bothF da db g r []
 | g + 1, [], (e, y) :: s => (e, da, y) :: bothF da db g [] s
 | g + 1, (c, x) :: r, (e, y) :: s => if c < e then (c, x, db) :: bothF da db g r ((e, y) :: s) else if e < c then (e, da, y) :: bothF da db g ((c, x) :: r) s else (c, x, y) :: bothF da db g r s
def bothL (a b : Lab) : List (Nat × Nat × Nat) := bothF a.d b.d (a.ps.length + b.ps.length) a.ps b.ps
def Lab.leq (a b : Lab) : Bool := decide (a.d <= b.d) && (bothL a b).all fun p => decide (p.2.1 <= p.2.2)
def Lab.merge (f : Nat -> Nat -> Nat) (a b : Lab) : Lab := ⟨f a.d b.d, (bothL a b).filterMap fun p => if f p.2.1 p.2.2 = f a.d b.d then none else some (p.1, f p.2.1 p.2.2)⟩
def Lab.rest (l : Lab) : Lab := Lab.merge (fun x _ => if x = 0 then 2 else x) l l
def Lab.plain (l : Lab) : Bool := l.ps.all fun p => decide (p.2 ≠ 0)
def WMap.fits (m : WMap) : Bool := decide (1 <= m.n /\ m.n <= 16 /\ 0 <= m.at_ /\ m.at_ <= 4096 - m.n /\ 0 <= m.from_ /\ m.from_ <= 16 - m.n /\ m.seg ≠ 0)
def mapsR : Int -> List WMap -> Bool
 | _, [] => true
 | e, m :: r => m.fits && (decide (e <= m.at_) && mapsR (m.at_ + m.n) r)
def mapsRight (l : List WMap) : Bool := mapsR 0 l && decide (l.length <= 16)
def slotsRight (l : List (Int × Int)) : Bool := l.all (fun s => decide (1 <= s.2 /\ s.2 <= 16)) && decide (1 <= l.length /\ l.length <= 8)
def homeL (os : List WObj) (i : Nat) (o : WObj) : Option Lab :=
 if o.parent = 0 then some ⟨2, []⟩
 else if o.parent < 0 \/ (i : Int) < o.parent then none
 else match os[o.parent.toNat - 1]? with
  | some p => if p.kind = 1 then some p.lab else none
  | none => none
def objR (os : List WObj) (i : Nat) (o : WObj) : Bool :=
 match homeL os i o with
 | none => false
 | some h => o.lab.right && (h.leq o.lab.rest &&
  (if o.kind = 1 then o.lab.plain && decide (0 <= o.pages /\ o.pages <= 4096 /\ 0 <= o.names /\ o.names <= 4194304)
  else if o.kind = 2 then o.lab.plain && decide (0 <= o.pages /\ o.pages <= 16 /\ (o.data.length : Int) <= o.pages * 64)
  else if o.kind = 4 then o.lab.plain && (mapsRight o.maps && o.maps.all fun m => decide (m.seg <= (os.length : Int)))
  else if o.kind = 3 \/ o.kind = 5 then o.clr.right && (o.lab.leq o.clr && decide (0 <= o.pc /\ o.pc < 262144 /\ 0 <= o.space /\ o.space <= (os.length : Int)))
  else if o.kind = 6 then o.lab.plain else false))
def objsR (os : List WObj) : Nat -> List WObj -> Bool
 | _, [] => true
 | i, o :: r => objR os i o && objsR os (i + 1) r
def WCfg.right (c : WCfg) : Bool :=
 decide (1 <= c.cores /\ c.cores <= 4 /\ 1 <= c.frames /\ c.frames <= 4096 /\ 0 <= c.names /\ c.names <= 4194302 /\ c.objs.length <= 64) && (slotsRight c.slots &&
  ((c.slots.all fun s => decide (s.1 <= (c.objs.length : Int))) && objsR c.objs 0 c.objs))
def putL (n : Nat) (x : Int) : List UInt8 := (List.range n).map fun j => UInt8.ofNat (byN n x j).toNat
def labP (l : Lab) : List UInt8 := putL 1 (l.d : Nat) ++ (putL 1 (l.ps.length : Nat) ++ l.ps.flatMap fun p => putL 4 (p.1 : Nat) ++ putL 1 (p.2 : Nat))
structure LSeed where
 d : Int
 ls : List Int
def seedPs (d : Int) : Nat -> List Int -> List (Nat × Nat)
 | _, [] => []
 | i, n :: r => (if i < 12 /\ n % 5 ≠ d then [(3 * i + 1, (n % 5).toNat)] else []) ++ seedPs d (i + 1) r
def LSeed.lab (s : LSeed) : Lab := ⟨(s.d % 4 + 1).toNat, seedPs (s.d % 4 + 1) 0 s.ls⟩
end Go.Proofs.YtiadbhiadhgjkaaGreatDoor
namespace Go.Proofs.YtiadbhiadhgjkaaGreatDoor
open Go.RowKit
def In (cs : Array Value) (o : Nat) (l : List Value) : Prop := ∀ k, k < l.length -> cs[o + k]? = l[k]?
def Out (o n : Nat) (cs cs' : Array Value) : Prop := cs'.size = cs.size /\ ∀ j, ¬ (o <= j /\ j < o + n) -> cs'[j]? = cs[j]?
theorem In.lt {cs : Array Value} {o : Nat} {l : List Value} (h : In cs o l) {k : Nat} (hk : k < l.length) : o + k < cs.size := by
 have := h k hk;rw [List.getElem?_eq_getElem hk] at this;exact (Array.getElem?_eq_some_iff.1 this).1
theorem In.set {cs : Array Value} {o : Nat} {l : List Value} (h : In cs o l) (k : Nat) (v : Value) (hk : k < l.length) : In (cs.setIfInBounds (o + k) v) o (l.set k v) := by
 intro j hj;rw [List.length_set] at hj;rw [Array.getElem?_setIfInBounds];by_cases e : k = j
 ·subst e; rw [if_pos rfl, if_pos (h.lt hk), List.getElem?_set_self hk]
 ·rw [if_neg (by omega), List.getElem?_set_ne e]; exact h j hj
theorem Out.refl (o n : Nat) (cs : Array Value) : Out o n cs cs := ⟨rfl, fun _ _ => rfl⟩
theorem Out.set {o n : Nat} {cs cs' : Array Value} (h : Out o n cs cs') (k : Nat) (v : Value) (hk : k < n) : Out o n cs (cs'.setIfInBounds (o + k) v) := by
 refine ⟨by rw [Array.size_setIfInBounds]; exact h.1, fun j hj => ?_⟩;rw [Array.getElem?_setIfInBounds, if_neg (by omega)]; exact h.2 j hj
theorem Out.wide {o n p m : Nat} {a b : Array Value} (h : Out o n a b) (h1 : p <= o) (h2 : o + n <= p + m) : Out p m a b := ⟨h.1, fun j hj => h.2 j (by omega)⟩
theorem In.cell {w : World} {b ty : Nat} {cs : Array Value} {o : Nat} {l : List Value} (h : In cs o l) (hB : Blk w b cs ty) (k : Nat) {v : Value} (e : l[k]? = some v) : w.cell? ⟨b, o + k, none⟩ = some v := by
 rw [hB.cell, h k (List.getElem?_eq_some_iff.1 e).1, e]
theorem In.sub {cs : Array Value} {o : Nat} {l : List Value} (h : In cs o l) (p : Nat) (m : List Value) (hm : ∀ k, k < m.length -> l[p + k]? = m[k]?) : In cs (o + p) m := by
 intro k hk;have e := hm k hk;rw [<- e, Nat.add_assoc];refine h _ ?_;rw [List.getElem?_eq_getElem hk] at e;exact (List.getElem?_eq_some_iff.1 e).1
theorem In.join {cs cs' : Array Value} {o : Nat} {l l' : List Value} (h : In cs o l) (p : Nat) (m : List Value) (hm : In cs' (o + p) m) (ho : Out (o + p) m.length cs cs') (hl : l'.length = l.length) (he : ∀ k, k < l.length -> l'[k]? = if p <= k /\ k < p + m.length then m[k - p]? else l[k]?) : In cs' o l' := by
 intro k hk;rw [hl] at hk;rw [he k hk];by_cases hc : p <= k /\ k < p + m.length
 ·rw [if_pos hc, <- hm (k - p) (by omega)]
  congr 1; omega
 ·rw [if_neg hc, ho.2 _ (by omega)]; exact h k hk
def Piece (w0 w : World) (b ty o : Nat) (cs : Array Value) (n : Nat) (l : List Value) : Prop := ∃ cs', Blk w b cs' ty /\ In cs' o l /\ Out o n cs cs' /\ Kept (· = b) w0 w /\ l.length = n
section
variable {w0 w : World} {b ty o n : Nat} {cs : Array Value} {l : List Value}
theorem Piece.refl (hB : Blk w b cs ty) (hI : In cs o l) : Piece w w b ty o cs l.length l := ⟨cs, hB, hI, Out.refl _ _ _, Kept.refl _ _, rfl⟩
theorem Piece.set (h : Piece w0 w b ty o cs n l) (k : Nat) (v : Value) (hk : k < n) : Piece w0 (w.setCell ⟨b, o + k, none⟩ v) b ty o cs n (l.set k v) := by
 obtain ⟨cs', h1, h2, h3, h4, h5⟩ := h;exact ⟨_, h1.set (o + k) v, h2.set k v (by omega), h3.set k v hk, h4.setIn b _ v rfl, by rw [List.length_set]; exact h5⟩
theorem Piece.set0 (h : Piece w0 w b ty o cs n l) (v : Value) (hk : 0 < n) : Piece w0 (w.setCell ⟨b, o, none⟩ v) b ty o cs n (l.set 0 v) := h.set 0 v hk
theorem Piece.alloc (h : Piece w0 w b ty o cs n l) (x : Obj) : Piece w0 (w.alloc x) b ty o cs n l := by
 obtain ⟨cs', h1, h2, h3, h4, h5⟩ := h;exact ⟨cs', h1.alloc x, h2, h3, h4.alloc x, h5⟩
theorem Piece.drew (h : Piece w0 w b ty o cs n l) : Piece w0 w.drew b ty o cs n l := by
 obtain ⟨cs', h1, h2, h3, h4, h5⟩ := h;exact ⟨cs', h1.drew, h2, h3, h4.drew, h5⟩
theorem Piece.below {w1 : World} (h : Piece w0 w b ty o cs n l) (k : Below w.heap.size w w1) : Piece w0 w1 b ty o cs n l := by
 obtain ⟨cs', h1, h2, h3, h4, h5⟩ := h;exact ⟨cs', h1.below k h1.lt, h2, h3, h4.trans (Kept.of_below k), h5⟩
theorem Piece.setNew (h : Piece w0 w b ty o cs n l) (g i : Nat) (v : Value) (hg : w0.heap.size <= g) (hne : b ≠ g) : Piece w0 (w.setCell ⟨g, i, none⟩ v) b ty o cs n l := by
 obtain ⟨cs', h1, h2, h3, h4, h5⟩ := h;exact ⟨cs', h1.set_other (fun e => hne e.symm) v, h2, h3, h4.setNew g i v hg, h5⟩
theorem Piece.to (h : Piece w0 w b ty o cs n l) {l' : List Value} (e : l = l') : Piece w0 w b ty o cs n l' := e ▸ h
end
end Go.Proofs.YtiadbhiadhgjkaaGreatDoor
