/- Of the proof of this claim: a joined text. -/
import Derived.Test.YtmlcgebahdcmaaaGreatDoorZzLib
import Derived.IntWalk
set_option maxHeartbeats 1000000
namespace Go.Proofs.YtmlcgebahdcmaaaGreatDoor
open Go.RowKit
def beN (B : Nat -> Int) : Nat -> Int
 | 0 => 0
 | k + 1 => beN B k * 256 + B k
theorem beN_nonneg (B : Nat -> Int) (hB : ∀ j, 0 <= B j /\ B j <= 255) (k : Nat) : 0 <= beN B k := by
 induction k with
 | zero => simp [beN]
 | succ k ih => have := hB k; unfold beN; omega
theorem beN_lt (B : Nat -> Int) (hB : ∀ j, 0 <= B j /\ B j <= 255) (k : Nat) : beN B k < 256 ^ k := by
 induction k with
 | zero => simp [beN]
 | succ k ih => have := hB k; unfold beN; rw [Int.pow_succ]; omega
theorem beN_congr (B C : Nat -> Int) (k : Nat) (h : ∀ j, j < k -> B j = C j) : beN B k = beN C k := by
 induction k with
 | zero => rfl
 | succ k ih => unfold beN; rw [ih (fun j hj => h j (by omega)), h k (by omega)]
theorem beN_bd (B : Nat -> Int) (hB : ∀ j, 0 <= B j /\ B j <= 255) (k : Nat) (h : k < 8) : 0 <= beN B k /\ beN B k <= 72057594037927935 := by
 refine ⟨beN_nonneg B hB k, ?_⟩
 have h1 := beN_lt B hB k
 have h2 : (256 : Int) ^ k <= 256 ^ 7 := by
  have e := Int.ofNat_le.2 (Nat.pow_le_pow_right (n := 256) (i := k) (j := 7) (by omega) (by omega))
  rw [Int.natCast_pow, Int.natCast_pow] at e; exact e
 have h3 : (256 : Int) ^ 7 = 72057594037927936 := by decide
 omega
theorem beN_bd8 (B : Nat -> Int) (hB : ∀ j, 0 <= B j /\ B j <= 255) (k : Nat) (h : k <= 8) : 0 <= beN B k /\ beN B k <= 18446744073709551615 := by
 refine ⟨beN_nonneg B hB k, ?_⟩
 have h1 := beN_lt B hB k
 have h2 : (256 : Int) ^ k <= 256 ^ 8 := by
  have e := Int.ofNat_le.2 (Nat.pow_le_pow_right (n := 256) (i := k) (j := 8) (by omega) (by omega))
  rw [Int.natCast_pow, Int.natCast_pow] at e; exact e
 have h3 : (256 : Int) ^ 8 = 18446744073709551616 := by decide
 omega
theorem or_u64 (a b : Int) (h0 : 0 <= a) (h1 : 0 <= b) (h2 : b < 256) (h3 : a <= 72057594037927935) : bits .or .u64 (a * 256) b = a * 256 + b := by
 obtain ⟨a, rfl⟩ := Int.eq_ofNat_of_zero_le h0
 obtain ⟨b, rfl⟩ := Int.eq_ofNat_of_zero_le h1
 have e1 : ((a : Int) * 256) = ((2 ^ 8 * a : Nat) : Int) := by omega
 rw [e1]
 have h2' : b < 2 ^ 8 := by omega
 show IntKind.u64.wrap ((BitVec.ofInt 64 ((2 ^ 8 * a : Nat) : Int) ||| BitVec.ofInt 64 (b : Int)).toNat : Int) = _
 rw [BitVec.toNat_or, BitVec.ofInt_natCast, BitVec.ofInt_natCast, BitVec.toNat_ofNat, BitVec.toNat_ofNat, Nat.mod_eq_of_lt (by omega), Nat.mod_eq_of_lt (by omega), <- Nat.two_pow_add_eq_or_of_lt h2', IntKind.wrap_u64]
 omega
def byN (n : Nat) (x : Int) (k : Nat) : Int := x / 256 ^ (n - 1 - k) % 256
theorem byN_bd (n : Nat) (x : Int) (k : Nat) : 0 <= byN n x k /\ byN n x k <= 255 := by
 unfold byN
 have h1 := Int.emod_nonneg (x / 256 ^ (n - 1 - k)) (by omega : (256 : Int) ≠ 0)
 have h2 := Int.emod_lt_of_pos (x / 256 ^ (n - 1 - k)) (by omega : (0 : Int) < 256)
 omega
theorem beN_byN (n : Nat) (x : Int) (h0 : 0 <= x) : ∀ k, k <= n -> beN (byN n x) k = x / 256 ^ (n - k) % 256 ^ k
 | 0, _ => by simp [beN, Int.emod_one]
 | k + 1, hk => by
  unfold beN
  rw [beN_byN n x h0 k (by omega)]
  unfold byN
  have e1 : n - k = (n - (k + 1)) + 1 := by omega
  have e2 : n - 1 - k = n - (k + 1) := by omega
  rw [e1, e2, Int.pow_succ]
  generalize hp : (256 : Int) ^ (n - (k + 1)) = p
  have hpp : 0 < p := by rw [<- hp]; exact Int.pow_pos (by omega)
  rw [<- Int.ediv_ediv_of_nonneg (by omega : (0 : Int) <= p)]
  generalize x / p = y
  rw [Int.pow_succ]
  have hq : (0 : Int) < 256 ^ k := Int.pow_pos (by omega)
  generalize (256 : Int) ^ k = q at hq
  have := Int.emod_emod_of_dvd
  have h1 : y % (q * 256) = y / 256 % q * 256 + y % 256 := by
   have d1 := Int.emod_add_mul_ediv y 256
   have d2 := Int.emod_add_mul_ediv (y / 256) q
   have l1 := Int.emod_nonneg y (by omega : (256 : Int) ≠ 0)
   have l2 := Int.emod_lt_of_pos y (by omega : (0 : Int) < 256)
   have l3 := Int.emod_nonneg (y / 256) (by omega : q ≠ 0)
   have l4 := Int.emod_lt_of_pos (y / 256) hq
   generalize hr : y % 256 = r at *
   generalize hs : y / 256 % q = s at *
   generalize y / 256 / q = t at *
   have e3 : q * 256 * t = 256 * (q * t) := by rw [Int.mul_comm q 256, Int.mul_assoc]
   have : y = s * 256 + r + q * 256 * t := by rw [e3, <- d1, <- d2]; generalize q * t = u; omega
   rw [this, Int.add_mul_emod_self_left]
   exact Int.emod_eq_of_lt (by omega) (by have : s * 256 + 256 <= q * 256 := by omega
                                          omega)
  rw [h1]
end Go.Proofs.YtmlcgebahdcmaaaGreatDoor
namespace Go.Proofs.YtmlcgebahdcmaaaGreatDoor
structure Lab where
 d : Nat
 ps : List (Nat × Nat)
structure WMap where
 (at_ seg from_ n : Int) (wr : Bool)
structure WObj where
 (kind parent : Int) (lab clr : Lab) (pages names : Int) (data : List UInt8) (maps : List WMap) (space pc : Int)
structure WCfg where
 (cores frames names : Int) (slots : List (Int × Int)) (objs : List WObj)
def pairsR (d : Nat) : Nat -> List (Nat × Nat) -> Bool
 | _, [] => true
 | last, p :: r => decide (last < p.1 /\ p.1 <= 1073741824 /\ p.2 <= 4 /\ p.2 ≠ d) && pairsR d p.1 r
def Lab.right (l : Lab) : Bool := decide (1 <= l.d /\ l.d <= 4 /\ l.ps.length <= 12) && pairsR l.d 0 l.ps
def lab0 : Lab := ⟨0, []⟩
def obj0 (k : Int) : WObj := ⟨k, 0, lab0, lab0, 0, 0, [], [], 0, 0⟩
theorem pairsR_all {d : Nat} : ∀ {last : Nat} {ps : List (Nat × Nat)}, pairsR d last ps = true -> ∀ p ∈ ps, p.1 <= 1073741824 /\ p.2 <= 4
 | _, [], _, p, hp => by cases hp
 | last, q :: r, h, p, hp => by
  unfold pairsR at h
  simp only [Bool.and_eq_true, decide_eq_true_eq] at h
  rcases List.mem_cons.1 hp with rfl | hp
  ·exact ⟨h.1.2.1, h.1.2.2.1⟩
  ·exact pairsR_all h.2 p hp
theorem Lab.right_spec {l : Lab} (h : l.right = true) : (1 <= l.d /\ l.d <= 4) /\ l.ps.length <= 12 /\ ∀ p ∈ l.ps, p.1 <= 1073741824 /\ p.2 <= 4 := by
 unfold Lab.right at h
 simp only [Bool.and_eq_true, decide_eq_true_eq] at h
 exact ⟨⟨h.1.1, h.1.2.1⟩, h.1.2.2, pairsR_all h.2⟩
def bothF (da db : Nat) : Nat -> List (Nat × Nat) -> List (Nat × Nat) -> List (Nat × Nat × Nat)
 | 0, _, _ => []
 | _ + 1, [], [] => []
 | g + 1, (c, x) :: r, [] => (c, x, db) :: bothF da db g r []
 | g + 1, [], (e, y) :: s => (e, da, y) :: bothF da db g [] s
 | g + 1, (c, x) :: r, (e, y) :: s => if c < e then (c, x, db) :: bothF da db g r ((e, y) :: s) else if e < c then (e, da, y) :: bothF da db g ((c, x) :: r) s else (c, x, y) :: bothF da db g r s
def bothL (a b : Lab) : List (Nat × Nat × Nat) := bothF a.d b.d (a.ps.length + b.ps.length) a.ps b.ps
def Lab.leq (a b : Lab) : Bool := decide (a.d <= b.d) && (bothL a b).all fun p => decide (p.2.1 <= p.2.2)
def Lab.merge (f : Nat -> Nat -> Nat) (a b : Lab) : Lab := ⟨f a.d b.d, (bothL a b).filterMap fun p => if f p.2.1 p.2.2 = f a.d b.d then none else some (p.1, f p.2.1 p.2.2)⟩
def Lab.rest (l : Lab) : Lab := Lab.merge (fun x _ => if x = 0 then 2 else x) l l
def Lab.plain (l : Lab) : Bool := l.ps.all fun p => decide (p.2 ≠ 0)
def WMap.fits (m : WMap) : Bool := decide (1 <= m.n /\ m.n <= 16 /\ 0 <= m.at_ /\ m.at_ <= 4096 - m.n /\ 0 <= m.from_ /\ m.from_ <= 16 - m.n /\ m.seg ≠ 0)
def mapsR : Int -> List WMap -> Bool
 | _, [] => true
 | e, m :: r => m.fits && (decide (e <= m.at_) && mapsR (m.at_ + m.n) r)
def mapsRight (l : List WMap) : Bool := mapsR 0 l && decide (l.length <= 16)
def slotsRight (l : List (Int × Int)) : Bool := l.all (fun s => decide (1 <= s.2 /\ s.2 <= 16)) && decide (1 <= l.length /\ l.length <= 8)
def homeL (os : List WObj) (i : Nat) (o : WObj) : Option Lab :=
 if o.parent = 0 then some ⟨2, []⟩
 else if o.parent < 0 \/ (i : Int) < o.parent then none
 else match os[o.parent.toNat - 1]? with
  | some p => if p.kind = 1 then some p.lab else none
  | none => none
def objR (os : List WObj) (i : Nat) (o : WObj) : Bool :=
 match homeL os i o with
 | none => false
 | some h => o.lab.right && (h.leq o.lab.rest &&
  (if o.kind = 1 then o.lab.plain && decide (0 <= o.pages /\ o.pages <= 4096 /\ 0 <= o.names /\ o.names <= 4194304)
  else if o.kind = 2 then o.lab.plain && decide (0 <= o.pages /\ o.pages <= 16 /\ (o.data.length : Int) <= o.pages * 64)
  else if o.kind = 4 then o.lab.plain && (mapsRight o.maps && o.maps.all fun m => decide (m.seg <= (os.length : Int)))
  else if o.kind = 3 \/ o.kind = 5 then o.clr.right && (o.lab.leq o.clr && decide (0 <= o.pc /\ o.pc < 262144 /\ 0 <= o.space /\ o.space <= (os.length : Int)))
  else if o.kind = 6 then o.lab.plain else false))
def objsR (os : List WObj) : Nat -> List WObj -> Bool
 | _, [] => true
 | i, o :: r => objR os i o && objsR os (i + 1) r
def WCfg.right (c : WCfg) : Bool :=
 decide (1 <= c.cores /\ c.cores <= 4 /\ 1 <= c.frames /\ c.frames <= 4096 /\ 0 <= c.names /\ c.names <= 4194302 /\ c.objs.length <= 64) && (slotsRight c.slots &&
  ((c.slots.all fun s => decide (s.1 <= (c.objs.length : Int))) && objsR c.objs 0 c.objs))
def putL (n : Nat) (x : Int) : List UInt8 := (List.range n).map fun j => UInt8.ofNat (byN n x j).toNat
def labP (l : Lab) : List UInt8 := putL 1 (l.d : Nat) ++ (putL 1 (l.ps.length : Nat) ++ l.ps.flatMap fun p => putL 4 (p.1 : Nat) ++ putL 1 (p.2 : Nat))
structure LSeed where
 d : Int
 ls : List Int
def seedPs (d : Int) : Nat -> List Int -> List (Nat × Nat)
 | _, [] => []
 | i, n :: r => (if i < 12 /\ n % 5 ≠ d then [(3 * i + 1, (n % 5).toNat)] else []) ++ seedPs d (i + 1) r
def LSeed.lab (s : LSeed) : Lab := ⟨(s.d % 4 + 1).toNat, seedPs (s.d % 4 + 1) 0 s.ls⟩
end Go.Proofs.YtmlcgebahdcmaaaGreatDoor
namespace Go.Proofs.YtmlcgebahdcmaaaGreatDoor
open Go.RowKit
def In (cs : Array Value) (o : Nat) (l : List Value) : Prop := ∀ k, k < l.length -> cs[o + k]? = l[k]?
def Out (o n : Nat) (cs cs' : Array Value) : Prop := cs'.size = cs.size /\ ∀ j, ¬ (o <= j /\ j < o + n) -> cs'[j]? = cs[j]?
theorem In.lt {cs : Array Value} {o : Nat} {l : List Value} (h : In cs o l) {k : Nat} (hk : k < l.length) : o + k < cs.size := by
 have := h k hk
 rw [List.getElem?_eq_getElem hk] at this
 exact (Array.getElem?_eq_some_iff.1 this).1
theorem In.set {cs : Array Value} {o : Nat} {l : List Value} (h : In cs o l) (k : Nat) (v : Value) (hk : k < l.length) : In (cs.setIfInBounds (o + k) v) o (l.set k v) := by
 intro j hj
 rw [List.length_set] at hj
 rw [Array.getElem?_setIfInBounds]
 by_cases e : k = j
 ·subst e; rw [if_pos rfl, if_pos (h.lt hk), List.getElem?_set_self hk]
 ·rw [if_neg (by omega), List.getElem?_set_ne e]; exact h j hj
theorem Out.refl (o n : Nat) (cs : Array Value) : Out o n cs cs := ⟨rfl, fun _ _ => rfl⟩
theorem Out.set {o n : Nat} {cs cs' : Array Value} (h : Out o n cs cs') (k : Nat) (v : Value) (hk : k < n) : Out o n cs (cs'.setIfInBounds (o + k) v) := by
 refine ⟨by rw [Array.size_setIfInBounds]; exact h.1, fun j hj => ?_⟩
 rw [Array.getElem?_setIfInBounds, if_neg (by omega)]; exact h.2 j hj
theorem Out.wide {o n p m : Nat} {a b : Array Value} (h : Out o n a b) (h1 : p <= o) (h2 : o + n <= p + m) : Out p m a b := ⟨h.1, fun j hj => h.2 j (by omega)⟩
theorem In.cell {w : World} {b ty : Nat} {cs : Array Value} {o : Nat} {l : List Value} (h : In cs o l) (hB : Blk w b cs ty) (k : Nat) {v : Value} (e : l[k]? = some v) : w.cell? ⟨b, o + k, none⟩ = some v := by
 rw [hB.cell, h k (List.getElem?_eq_some_iff.1 e).1, e]
theorem In.sub {cs : Array Value} {o : Nat} {l : List Value} (h : In cs o l) (p : Nat) (m : List Value) (hm : ∀ k, k < m.length -> l[p + k]? = m[k]?) : In cs (o + p) m := by
 intro k hk
 have e := hm k hk
 rw [<- e, Nat.add_assoc]
 refine h _ ?_
 rw [List.getElem?_eq_getElem hk] at e
 exact (List.getElem?_eq_some_iff.1 e).1
theorem In.join {cs cs' : Array Value} {o : Nat} {l l' : List Value} (h : In cs o l) (p : Nat) (m : List Value) (hm : In cs' (o + p) m) (ho : Out (o + p) m.length cs cs') (hl : l'.length = l.length) (he : ∀ k, k < l.length -> l'[k]? = if p <= k /\ k < p + m.length then m[k - p]? else l[k]?) : In cs' o l' := by
 intro k hk
 rw [hl] at hk
 rw [he k hk]
 by_cases hc : p <= k /\ k < p + m.length
 ·rw [if_pos hc, <- hm (k - p) (by omega)]
  congr 1; omega
 ·rw [if_neg hc, ho.2 _ (by omega)]; exact h k hk
def Piece (w0 w : World) (b ty o : Nat) (cs : Array Value) (n : Nat) (l : List Value) : Prop := ∃ cs', Blk w b cs' ty /\ In cs' o l /\ Out o n cs cs' /\ Kept (· = b) w0 w /\ l.length = n
section
variable {w0 w : World} {b ty o n : Nat} {cs : Array Value} {l : List Value}
theorem Piece.refl (hB : Blk w b cs ty) (hI : In cs o l) : Piece w w b ty o cs l.length l := ⟨cs, hB, hI, Out.refl _ _ _, Kept.refl _ _, rfl⟩
theorem Piece.set (h : Piece w0 w b ty o cs n l) (k : Nat) (v : Value) (hk : k < n) : Piece w0 (w.setCell ⟨b, o + k, none⟩ v) b ty o cs n (l.set k v) := by
 obtain ⟨cs', h1, h2, h3, h4, h5⟩ := h
 exact ⟨_, h1.set (o + k) v, h2.set k v (by omega), h3.set k v hk, h4.setIn b _ v rfl, by rw [List.length_set]; exact h5⟩
theorem Piece.set0 (h : Piece w0 w b ty o cs n l) (v : Value) (hk : 0 < n) : Piece w0 (w.setCell ⟨b, o, none⟩ v) b ty o cs n (l.set 0 v) := h.set 0 v hk
theorem Piece.alloc (h : Piece w0 w b ty o cs n l) (x : Obj) : Piece w0 (w.alloc x) b ty o cs n l := by
 obtain ⟨cs', h1, h2, h3, h4, h5⟩ := h
 exact ⟨cs', h1.alloc x, h2, h3, h4.alloc x, h5⟩
theorem Piece.drew (h : Piece w0 w b ty o cs n l) : Piece w0 w.drew b ty o cs n l := by
 obtain ⟨cs', h1, h2, h3, h4, h5⟩ := h
 exact ⟨cs', h1.drew, h2, h3, h4.drew, h5⟩
theorem Piece.below {w1 : World} (h : Piece w0 w b ty o cs n l) (k : Below w.heap.size w w1) : Piece w0 w1 b ty o cs n l := by
 obtain ⟨cs', h1, h2, h3, h4, h5⟩ := h
 exact ⟨cs', h1.below k h1.lt, h2, h3, h4.trans (Kept.of_below k), h5⟩
theorem Piece.setNew (h : Piece w0 w b ty o cs n l) (g i : Nat) (v : Value) (hg : w0.heap.size <= g) (hne : b ≠ g) : Piece w0 (w.setCell ⟨g, i, none⟩ v) b ty o cs n l := by
 obtain ⟨cs', h1, h2, h3, h4, h5⟩ := h
 exact ⟨cs', h1.set_other (fun e => hne e.symm) v, h2, h3, h4.setNew g i v hg, h5⟩
theorem Piece.to (h : Piece w0 w b ty o cs n l) {l' : List Value} (e : l = l') : Piece w0 w b ty o cs n l' := e ▸ h
theorem Piece.cell (h : Piece w0 w b ty o cs n l) (k : Nat) {v : Value} (e : l[k]? = some v) : w.cell? ⟨b, o + k, none⟩ = some v := by
 obtain ⟨cs', h1, h2, h3, h4, h5⟩ := h
 exact h2.cell h1 k e
end
end Go.Proofs.YtmlcgebahdcmaaaGreatDoor
namespace Go.Proofs.YtmlcgebahdcmaaaGreatDoor
open Go.RowKit
structure Pl where
 p : Nat -> Int
 f : Nat -> Int
 w : Nat -> Bool
 n : Int
theorem idx (t : Pl) (k : Nat) (hk : k < 4) (w : World) :
  (Instr.index 60 (.agg #[.int .i64 (t.p 0), .int .i64 (t.f 0), .bool (t.w 0), .int .i64 (t.p 1), .int .i64 (t.f 1), .bool (t.w 1), .int .i64 (t.p 2), .int .i64 (t.f 2), .bool (t.w 2), .int .i64 (t.p 3), .int .i64 (t.f 3), .bool (t.w 3)]) (.int .i64 k)).run Tryz.prog w = .ok (.agg #[.int .i64 (t.p k), .int .i64 (t.f k), .bool (t.w k)]) w := by
 obtain rfl | rfl | rfl | rfl : k = 0 \/ k = 1 \/ k = 2 \/ k = 3 := by omega
 all_goals kernel_rfl
def Pl.hit (t : Pl) (page : Int) (wr : Bool) (k : Nat) : Bool := (t.f k != 0) && (t.p k == page) && (t.w k || !wr)
def Pl.find (t : Pl) (page : Int) (wr : Bool) : Int :=
 if t.hit page wr 0 then t.f 0 else if t.hit page wr 1 then t.f 1 else if t.hit page wr 2 then t.f 2 else if t.hit page wr 3 then t.f 3 else 0
theorem find_at (t : Pl) (page : Int) (rw : Bool) (k : Nat) (hk : k < 4) (h1 : ∀ j, j < k -> t.hit page rw j = false) (h2 : t.hit page rw k = true) : t.find page rw = t.f k := by
 obtain rfl | rfl | rfl | rfl : k = 0 \/ k = 1 \/ k = 2 \/ k = 3 := by omega
 ·simp [Pl.find, h2]
 ·simp [Pl.find, h1 0, h2]
 ·simp [Pl.find, h1 0, h1 1, h2]
 ·simp [Pl.find, h1 0, h1 1, h1 2, h2]
def Pl.atTo (t : Pl) (page : Int) : Nat -> Int
 | 0 => -1
 | k + 1 => if (t.f k != 0) && (t.p k == page) then (k : Int) else t.atTo page k
theorem Pl.atTo_bd (t : Pl) (page : Int) (k : Nat) : -1 <= t.atTo page k /\ t.atTo page k < k := by
 induction k with
 | zero => simp [Pl.atTo]
 | succ k ih => unfold Pl.atTo; split <;> omega
def upd {α : Type} (f : Nat -> α) (k : Nat) (v : α) : Nat -> α := fun j => if j = k then v else f j
def Pl.store (t : Pl) (k : Nat) (page frame : Int) (rw : Bool) (n : Int) : Pl := ⟨upd t.p k page, upd t.f k frame, upd t.w k rw, n⟩
def Pl.put (t : Pl) (page frame : Int) (rw : Bool) : Pl :=
 if frame < 1 then t else if t.atTo page 4 < 0 then t.store t.n.toNat page frame rw ((t.n + 1) % 4) else t.store (t.atTo page 4).toNat page frame rw t.n
def Pl.zero : Pl := ⟨fun _ => 0, fun _ => 0, fun _ => false, 0⟩
def Pl.list (t : Pl) : List Value := [.int .i64 (t.p 0), .int .i64 (t.f 0), .bool (t.w 0), .int .i64 (t.p 1), .int .i64 (t.f 1), .bool (t.w 1), .int .i64 (t.p 2), .int .i64 (t.f 2), .bool (t.w 2), .int .i64 (t.p 3), .int .i64 (t.f 3), .bool (t.w 3), .int .i64 t.n]
structure PlAt (w : World) (b o : Nat) (t : Pl) : Prop where
 c0 : w.cell? ⟨b, o, none⟩ = some (.int .i64 (t.p 0))
 c1 : w.cell? ⟨b, o + 1, none⟩ = some (.int .i64 (t.f 0))
 c2 : w.cell? ⟨b, o + 2, none⟩ = some (.bool (t.w 0))
 c3 : w.cell? ⟨b, o + 3, none⟩ = some (.int .i64 (t.p 1))
 c4 : w.cell? ⟨b, o + 4, none⟩ = some (.int .i64 (t.f 1))
 c5 : w.cell? ⟨b, o + 5, none⟩ = some (.bool (t.w 1))
 c6 : w.cell? ⟨b, o + 6, none⟩ = some (.int .i64 (t.p 2))
 c7 : w.cell? ⟨b, o + 7, none⟩ = some (.int .i64 (t.f 2))
 c8 : w.cell? ⟨b, o + 8, none⟩ = some (.bool (t.w 2))
 c9 : w.cell? ⟨b, o + 9, none⟩ = some (.int .i64 (t.p 3))
 c10 : w.cell? ⟨b, o + 10, none⟩ = some (.int .i64 (t.f 3))
 c11 : w.cell? ⟨b, o + 11, none⟩ = some (.bool (t.w 3))
 c12 : w.cell? ⟨b, o + 12, none⟩ = some (.int .i64 t.n)
theorem PlAt.of {w : World} {b o ty : Nat} {t : Pl} {cs : Array Value} (h : In cs o t.list) (hB : Blk w b cs ty) : PlAt w b o t :=
 ⟨h.cell hB 0 rfl, h.cell hB 1 rfl, h.cell hB 2 rfl, h.cell hB 3 rfl, h.cell hB 4 rfl, h.cell hB 5 rfl, h.cell hB 6 rfl, h.cell hB 7 rfl, h.cell hB 8 rfl, h.cell hB 9 rfl, h.cell hB 10 rfl, h.cell hB 11 rfl, h.cell hB 12 rfl⟩
attribute [local irreducible] World.setCell World.alloc World.drew World.setRow Calls Code.wp
theorem tfind_any (b o : Nat) (t : Pl) (page : Int) (rw : Bool) (w : World) (hB : PlAt w b o t) :
  Calls Tryz.prog 314 #[.pointer (some ⟨b, o, none⟩), .int .i64 page, .bool rw] w fun e w' => e = .returned (.int .i64 (t.find page rw)) /\ Below w.heap.size w w' := by
 obtain ⟨c0, c1, c2, c3, c4, c5, c6, c7, c8, c9, c10, c11, c12⟩ := hB
 go_enter Tryz.func314, Tryz.ntmps314
 go_wp2
 go_loopw [8, 15] (fun _ i wx => ∃ k : Nat, k <= 4 /\ i = .int .i64 k /\ (∀ j, j < k -> t.hit page rw j = false) /\ Below w.heap.size w wx) (fun _ i _ => 4 - (intOf i).toNat)
 case atStart => exact ⟨0, by omega, rfl, by omega, Below.refl _ _⟩
 case round =>
  obtain ⟨k, hk, rfl, hno, hb⟩ := hrel
  by_cases hlt : k < 4
  ·have hi := idx t k hlt
   have hnok : t.hit page rw k = (((t.f k != 0) && (t.p k == page)) && (t.w k || !rw)) := rfl
   have Hno := Lib.hid hno; clear hno
   have Hnok := Lib.hid hnok; clear hnok
   have Hb := Lib.hid hb; clear hb
   cases e1 : (t.f k != 0) <;> cases e2 : (t.p k == page) <;> cases e3 : t.w k <;> cases rw
   all_goals go_wp2
   all_goals first
    | (go_roundw
       case rel =>
        refine ⟨k + 1, by omega, by go_num, fun j hj => ?_, Hb.out.alloc Hb.out.size _⟩
        rcases Nat.lt_or_eq_of_le (Nat.le_of_lt_succ hj) with h | h
        ·exact Hno.out j h
        ·subst h; rw [Hnok.out]; simp [e1, e2, e3]
       case measure => simp [intOf]; omega)
    | (go_ret
       refine ⟨?_, Hb.out.alloc Hb.out.size _⟩
       have h1 := Hno.out
       have h2 := Hnok.out
       rw [find_at t page _ k hlt h1 (h2.trans (by simp [e1, e2, e3]))]; rfl)
  ·go_wp2
   go_ret
   have : k = 4 := by omega
   subst this
   refine ⟨?_, hb⟩
   simp [Pl.find, hno 0, hno 1, hno 2, hno 3]
theorem tflush_any (b o ty : Nat) (t : Pl) (cs : Array Value) (w : World) (hB : Blk w b cs ty) (hI : In cs o t.list) :
  Calls Tryz.prog 37 #[.pointer (some ⟨b, o, none⟩)] w fun e w' => e = .returned (.tuple #[]) /\ Piece w w' b ty o cs 13 Pl.zero.list := by
 have hc : PlAt w b o t := PlAt.of hI hB
 obtain ⟨c0, c1, c2, c3, c4, c5, c6, c7, c8, c9, c10, c11, c12⟩ := hc
 have hf := hB.free
 have HP := Lib.hid (show Piece w w b ty o cs 13 t.list from Piece.refl hB hI)
 clear hB hI
 go_enter Tryz.func37, Tryz.ntmps37
 go_wp2
 go_end0
 (refine ⟨rfl, ?_⟩; apply Piece.to)
 case h => ((repeat (first | exact HP.out | apply Piece.set | apply Piece.set0)); all_goals decide)
 case e => rfl
theorem tput_any (b o ty : Nat) (t : Pl) (cs : Array Value) (page frame : Int) (rw : Bool) (w : World) (hB : Blk w b cs ty) (hI : In cs o t.list) (hfr0 : ¬ frame < 1) (hn0 : 0 <= t.n) (hn3 : t.n < 4) :
  Calls Tryz.prog 316 #[.pointer (some ⟨b, o, none⟩), .int .i64 page, .int .i64 frame, .bool rw] w fun e w' => e = .returned (.tuple #[]) /\ Piece w w' b ty o cs 13 (t.put page frame rw).list := by
 have hc : PlAt w b o t := PlAt.of hI hB
 obtain ⟨c0, c1, c2, c3, c4, c5, c6, c7, c8, c9, c10, c11, c12⟩ := hc
 have hp : t.put page frame rw = if t.atTo page 4 < 0 then t.store t.n.toNat page frame rw ((t.n + 1) % 4) else t.store (t.atTo page 4).toNat page frame rw t.n := if_neg hfr0
 have HP := Lib.hid hp; clear hp
 have hf := hB.free
 have HQ := Lib.hid (show Piece w w b ty o cs 13 t.list from Piece.refl hB hI)
 have HB := Lib.hid hB; have HI := Lib.hid hI
 clear hB hI
 go_enter Tryz.func316, Tryz.ntmps316
 go_wp2
 go_loopw [8, 9, 10, 21] (fun a _ _ i wx => ∃ k : Nat, k <= 4 /\ i = .int .i64 k /\ a = .int .i64 (t.atTo page k) /\ Below w.heap.size w wx) (fun _ _ _ i _ => 4 - (intOf i).toNat)
 case atStart => exact ⟨0, by omega, rfl, rfl, Below.refl _ _⟩
 case round =>
  obtain ⟨k, hk, rfl, rfl, hb⟩ := hrel
  by_cases hlt : k < 4
  ·have hi := idx t k hlt
   have hs : t.atTo page (k + 1) = if (t.f k != 0) && (t.p k == page) then (k : Int) else t.atTo page k := rfl
   have Hs := Lib.hid hs; clear hs
   have Hb := Lib.hid hb; clear hb
   cases e1 : (t.f k != 0) <;> cases e2 : (t.p k == page)
   all_goals go_wp2
   all_goals go_roundw
   case rel => exact ⟨k + 1, by omega, by go_num, by rw [Hs.out, e1]; simp, Hb.out.alloc Hb.out.size _⟩
   case measure => simp [intOf]; omega
   case rel => exact ⟨k + 1, by omega, by go_num, by rw [Hs.out, e1]; simp, Hb.out.alloc Hb.out.size _⟩
   case measure => simp [intOf]; omega
   case rel => exact ⟨k + 1, by omega, by go_num, by rw [Hs.out, e1, e2]; simp, Hb.out.alloc Hb.out.size _⟩
   case measure => simp [intOf]; omega
   case rel => exact ⟨k + 1, by omega, by go_num, by rw [Hs.out, e1, e2]; simp, Hb.out.alloc Hb.out.size _⟩
   case measure => simp [intOf]; omega
  ·obtain rfl : k = 4 := by omega
   have hc : PlAt _ b o t := PlAt.of HI.out (HB.out.below hb HB.out.lt)
   clear c0 c1 c2 c3 c4 c5 c6 c7 c8 c9 c10 c11 c12
   obtain ⟨c0, c1, c2, c3, c4, c5, c6, c7, c8, c9, c10, c11, c12⟩ := hc
   have hfr := (HB.out.below hb HB.out.lt).free
   have HQ1 := Lib.hid (HQ.out.below hb)
   have Hb := Lib.hid hb; clear hb
   have hbd := t.atTo_bd page 4
   have hcase : t.atTo page 4 = -1 \/ t.atTo page 4 = 0 \/ t.atTo page 4 = 1 \/ t.atTo page 4 = 2 \/ t.atTo page 4 = 3 := by omega
   have hcn : t.n = 0 \/ t.n = 1 \/ t.n = 2 \/ t.n = 3 := by omega
   clear hbd
   rcases hcase with h | h | h | h | h
   ·rcases hcn with e | e | e | e
    all_goals go_wp2
    all_goals go_end0
    all_goals (refine ⟨rfl, ?_⟩; (try simp only [Nat.add_assoc, Nat.reduceAdd]); apply Piece.to)
    case h => ((repeat (first | exact HQ1.out | apply Piece.set | apply Piece.set0)); all_goals decide)
    case e => rw [HP.out]; try simp [Pl.list, Pl.store, upd, h, e]
    case h => ((repeat (first | exact HQ1.out | apply Piece.set | apply Piece.set0)); all_goals decide)
    case e => rw [HP.out]; try simp [Pl.list, Pl.store, upd, h, e]
    case h => ((repeat (first | exact HQ1.out | apply Piece.set | apply Piece.set0)); all_goals decide)
    case e => rw [HP.out]; try simp [Pl.list, Pl.store, upd, h, e]
    case h => ((repeat (first | exact HQ1.out | apply Piece.set | apply Piece.set0)); all_goals decide)
    case e => rw [HP.out]; try simp [Pl.list, Pl.store, upd, h, e]
   all_goals clear hcn
   all_goals go_wp2
   all_goals go_end0
   all_goals (refine ⟨rfl, ?_⟩; (try simp only [Nat.add_assoc, Nat.reduceAdd]); apply Piece.to)
   case h => ((repeat (first | exact HQ1.out | apply Piece.set | apply Piece.set0)); all_goals decide)
   case e => rw [HP.out]; try simp [Pl.list, Pl.store, upd, h]
   case h => ((repeat (first | exact HQ1.out | apply Piece.set | apply Piece.set0)); all_goals decide)
   case e => rw [HP.out]; try simp [Pl.list, Pl.store, upd, h]
   case h => ((repeat (first | exact HQ1.out | apply Piece.set | apply Piece.set0)); all_goals decide)
   case e => rw [HP.out]; try simp [Pl.list, Pl.store, upd, h]
   case h => ((repeat (first | exact HQ1.out | apply Piece.set | apply Piece.set0)); all_goals decide)
   case e => rw [HP.out]; try simp [Pl.list, Pl.store, upd, h]
end Go.Proofs.YtmlcgebahdcmaaaGreatDoor
