/- Pools of frames, plainly: what they hold, the least free frame, how many are free. -/
import Derived.Test.YtndnjimiabpkpaaRow
import Derived.Test.YtndnjimiabpkpaaArgs
import Derived.Test.YtndnjimiabpkpaaBits
namespace Go.Proofs.Ytndnjimiabpkpaa
open Go.RowKit

/-- n frames: to whom each is charged (0: free), and the bytes of all, one frame behind the other. -/
structure Pool where
  n : Nat
  O : Nat → Int
  D : Nat → Int

/-- How many of the first k are free. -/
def freeTo (O : Nat → Int) : Nat → Nat
  | 0 => 0
  | k + 1 => freeTo O k + (if O k = 0 then 1 else 0)
/-- The least free one of the first k; k, if there is none. -/
def firstFree (O : Nat → Int) : Nat → Nat
  | 0 => 0
  | k + 1 => if firstFree O k < k then firstFree O k else if O k = 0 then k else k + 1
def countTo (O : Nat → Int) (o : Int) : Nat → Nat
  | 0 => 0
  | k + 1 => countTo O o k + (if O k = o then 1 else 0)

theorem freeTo_le (O : Nat → Int) (k : Nat) : freeTo O k ≤ k := by
  induction k with
  | zero => exact Nat.le_refl _
  | succ k ih => unfold freeTo; split <;> omega
theorem countTo_le (O : Nat → Int) (o : Int) (k : Nat) : countTo O o k ≤ k := by
  induction k with
  | zero => exact Nat.le_refl _
  | succ k ih => unfold countTo; split <;> omega
theorem countTo_zero (O : Nat → Int) (k : Nat) : countTo O 0 k = freeTo O k := by
  induction k with
  | zero => rfl
  | succ k ih => unfold countTo freeTo; rw [ih]
theorem firstFree_le (O : Nat → Int) (k : Nat) : firstFree O k ≤ k := by
  induction k with
  | zero => exact Nat.le_refl _
  | succ k ih => unfold firstFree; (repeat' split) <;> omega
theorem firstFree_none (O : Nat → Int) (k j : Nat) (h : j < firstFree O k) : O j ≠ 0 := by
  induction k with
  | zero => simp [firstFree] at h
  | succ k ih =>
    unfold firstFree at h
    by_cases h1 : firstFree O k < k
    · rw [if_pos h1] at h; exact ih h
    · rw [if_neg h1] at h
      have h2 := firstFree_le O k
      have h3 : firstFree O k = k := by omega
      by_cases h4 : O k = 0
      · rw [if_pos h4] at h; exact ih (by omega)
      · rw [if_neg h4] at h
        by_cases h5 : j = k
        · subst h5; exact h4
        · exact ih (by omega)
theorem firstFree_free (O : Nat → Int) (k : Nat) (h : firstFree O k < k) : O (firstFree O k) = 0 := by
  induction k with
  | zero => omega
  | succ k ih =>
    by_cases h1 : firstFree O k < k
    · have e : firstFree O (k + 1) = firstFree O k := by rw [firstFree, if_pos h1]
      rw [e]; exact ih h1
    · by_cases h4 : O k = 0
      · have e : firstFree O (k + 1) = k := by rw [firstFree, if_neg h1, if_pos h4]
        rw [e]; exact h4
      · have e : firstFree O (k + 1) = k + 1 := by rw [firstFree, if_neg h1, if_neg h4]
        omega
/-- What characterises the least free one. -/
theorem firstFree_eq (O : Nat → Int) (k i : Nat) (hi : i ≤ k) (h1 : ∀ j, j < i → O j ≠ 0) (h2 : i < k → O i = 0) : firstFree O k = i := by
  rcases Nat.lt_trichotomy (firstFree O k) i with h | h | h
  · exact absurd (firstFree_free O k (by omega)) (h1 _ h)
  · exact h
  · have := firstFree_le O k
    exact absurd (h2 (by omega)) (firstFree_none O k i h)
theorem freeTo_pos (O : Nat → Int) (k : Nat) : freeTo O k = 0 ↔ firstFree O k = k := by
  induction k with
  | zero => simp [freeTo, firstFree]
  | succ k ih =>
    have h2 := firstFree_le O k
    by_cases h4 : O k = 0
    · have e1 : freeTo O (k + 1) = freeTo O k + 1 := by rw [freeTo, if_pos h4]
      have e2 : firstFree O (k + 1) ≤ k := by rw [firstFree, if_pos h4]; split <;> omega
      omega
    · have e1 : freeTo O (k + 1) = freeTo O k := by rw [freeTo, if_neg h4]; rfl
      by_cases h1 : firstFree O k < k
      · have e : firstFree O (k + 1) = firstFree O k := by rw [firstFree, if_pos h1]
        rw [e1, e]; omega
      · have e : firstFree O (k + 1) = k + 1 := by rw [firstFree, if_neg h1, if_neg h4]
        rw [e1, e]; omega

def updI (O : Nat → Int) (i : Nat) (v : Int) : Nat → Int := fun j => if j = i then v else O j
theorem updI_same (O : Nat → Int) (i : Nat) (v : Int) : updI O i v i = v := by simp [updI]
theorem updI_other (O : Nat → Int) (i j : Nat) (v : Int) (h : j ≠ i) : updI O i v j = O j := by simp [updI, h]
theorem countTo_upd_ge (O : Nat → Int) (o v : Int) (i k : Nat) (h : k ≤ i) : countTo (updI O i v) o k = countTo O o k := by
  induction k with
  | zero => rfl
  | succ k ih => unfold countTo; rw [ih (by omega), updI_other _ _ _ _ (by omega)]
/-- One owner changed: the count of o changes by that one. -/
theorem countTo_upd (O : Nat → Int) (o v : Int) (i k : Nat) (h : i < k) : countTo (updI O i v) o k + (if O i = o then 1 else 0) = countTo O o k + (if v = o then 1 else 0) := by
  induction k with
  | zero => omega
  | succ k ih =>
    unfold countTo
    by_cases e : k = i
    · subst e
      rw [countTo_upd_ge O o v k k (Nat.le_refl _), updI_same]; omega
    · have := ih (by omega)
      rw [updI_other _ _ _ _ e]; omega
theorem freeTo_upd (O : Nat → Int) (v : Int) (i k : Nat) (h : i < k) : freeTo (updI O i v) k + (if O i = 0 then 1 else 0) = freeTo O k + (if v = 0 then 1 else 0) := by
  rw [← countTo_zero, ← countTo_zero]; exact countTo_upd O 0 v i k h
theorem countTo_congr (O O' : Nat → Int) (o : Int) (k : Nat) (h : ∀ j, j < k → O j = O' j) : countTo O o k = countTo O' o k := by
  induction k with
  | zero => rfl
  | succ k ih => unfold countTo; rw [ih (fun j hj => h j (by omega)), h k (by omega)]

def Pool.left (P : Pool) : Nat := freeTo P.O P.n
def Pool.there (P : Pool) (f : Int) : Bool := decide (1 ≤ f) && decide (f ≤ P.n)
def Pool.owner (P : Pool) (f : Int) : Int := if P.there f then P.O (f.toNat - 1) else 0
def Pool.fits (P : Pool) (f off n : Int) : Bool := (P.owner f != 0) && decide (0 ≤ n) && decide (n ≤ 64) && decide (0 ≤ off) && decide (off ≤ 64 - n)
def Pool.allocRet (P : Pool) (owner : Int) : Int := if owner ≠ 0 ∧ firstFree P.O P.n < P.n then firstFree P.O P.n + 1 else 0
def Pool.alloc (P : Pool) (owner : Int) : Pool :=
  if owner ≠ 0 ∧ firstFree P.O P.n < P.n then ⟨P.n, updI P.O (firstFree P.O P.n) owner, fun j => if firstFree P.O P.n * 64 ≤ j ∧ j < firstFree P.O P.n * 64 + 64 then 0 else P.D j⟩ else P
def Pool.free (P : Pool) (f : Int) : Pool := if P.owner f ≠ 0 then ⟨P.n, updI P.O (f.toNat - 1) 0, P.D⟩ else P
def Pool.write (P : Pool) (f off : Int) (m : Nat) (B : Nat → Int) : Pool :=
  if P.fits f off m then ⟨P.n, P.O, fun j => if (f.toNat - 1) * 64 + off.toNat ≤ j ∧ j < (f.toNat - 1) * 64 + off.toNat + m then B (j - ((f.toNat - 1) * 64 + off.toNat)) else P.D j⟩ else P

theorem Pool.there_iff (P : Pool) (f : Int) : P.there f = true ↔ 1 ≤ f ∧ f ≤ P.n := by simp [Pool.there]
theorem Pool.owner_there (P : Pool) (f : Int) (h : P.owner f ≠ 0) : P.there f = true := by
  unfold Pool.owner at h; split at h
  · assumption
  · exact absurd rfl h
theorem Pool.fits_iff (P : Pool) (f off n : Int) : P.fits f off n = true ↔ P.owner f ≠ 0 ∧ 0 ≤ n ∧ n ≤ 64 ∧ 0 ≤ off ∧ off ≤ 64 - n := by
  simp [Pool.fits, and_assoc]

/-- The pool lies in memory: its struct in block pb, the bytes in db, the owners in ob. -/
structure PoolAt (w : World) (pb db ob : Nat) (P : Pool) : Prop where
  hp : Blk w pb #[.slice (some ⟨db, 0, none⟩) P.n P.n, .slice (some ⟨ob, 0, none⟩) P.n P.n, .int .i64 P.left] 96
  hd : Blk w db (row (P.n * 64) fun i => .int .u8 (P.D i)) 38
  ho : Blk w ob (row P.n fun i => .int .u64 (P.O i)) 27
  n1 : pb ≠ db
  n2 : pb ≠ ob
  n3 : db ≠ ob
  lo : 1 ≤ P.n
  hi : P.n ≤ 4096
  bd : ∀ i, 0 ≤ P.D i ∧ P.D i ≤ 255

def PS (pb db ob : Nat) : Nat → Prop := fun k => k = pb ∨ k = db ∨ k = ob

theorem PoolAt.kept {S : Nat → Prop} {w w' : World} {pb db ob : Nat} {P : Pool} (h : PoolAt w pb db ob P) (k : Kept S w w') (h1 : ¬ S pb) (h2 : ¬ S db) (h3 : ¬ S ob) : PoolAt w' pb db ob P :=
  ⟨k.blk h.hp h1, k.blk h.hd h2, k.blk h.ho h3, h.n1, h.n2, h.n3, h.lo, h.hi, h.bd⟩
theorem PoolAt.below {w w' : World} {pb db ob : Nat} {P : Pool} (h : PoolAt w pb db ob P) (k : Below w.heap.size w w') : PoolAt w' pb db ob P :=
  h.kept (S := fun _ => False) (Kept.of_below k) (fun h => h) (fun h => h) (fun h => h)
theorem PoolAt.alloc {w : World} {pb db ob : Nat} {P : Pool} (h : PoolAt w pb db ob P) (o : Obj) : PoolAt (w.alloc o) pb db ob P :=
  ⟨h.hp.alloc o, h.hd.alloc o, h.ho.alloc o, h.n1, h.n2, h.n3, h.lo, h.hi, h.bd⟩
theorem PoolAt.drew {w : World} {pb db ob : Nat} {P : Pool} (h : PoolAt w pb db ob P) : PoolAt w.drew pb db ob P :=
  ⟨h.hp, h.hd, h.ho, h.n1, h.n2, h.n3, h.lo, h.hi, h.bd⟩
end Go.Proofs.Ytndnjimiabpkpaa
