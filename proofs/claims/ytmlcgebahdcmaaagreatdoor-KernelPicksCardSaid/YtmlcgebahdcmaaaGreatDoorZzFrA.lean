/- Of the proof of this claim: a joined text. -/
import Derived.Test.YtmlcgebahdcmaaaGreatDoorZzWoMr
import Derived.Deep.LoopGhost
import Derived.BigRegion
import Derived.Deep.RegionHeld3
import Derived.Deep.MidRow
set_option maxRecDepth 100000
set_option maxHeartbeats 1000000
namespace Go.Proofs.YtmlcgebahdcmaaaGreatDoor
open Go.RowKit
attribute [local irreducible] World.setCell World.alloc World.drew World.setRow Calls Code.wp row
theorem left_any (pb db ob : Nat) (P : Pool) (w : World) (hP : PoolAt w pb db ob P) :
  Calls Tryz.prog 47 #[.pointer (some ⟨pb, 0, none⟩)] w fun e w' => e = .returned (.int .i64 P.left) /\ w = w' := by
 have hc := hP.hp.cell
 clear hP
 go_enter Tryz.func47, Tryz.ntmps47
 go_wp2
 go_ret
 exact ⟨rfl, rfl⟩
theorem there_any (pb db ob : Nat) (P : Pool) (f : Int) (w : World) (hP : PoolAt w pb db ob P) :
  Calls Tryz.prog 127 #[.pointer (some ⟨pb, 0, none⟩), .int .i64 f] w fun e w' => e = .returned (.bool (P.there f)) /\ w = w' := by
 have hc := hP.hp.cell
 clear hP
 have ht : P.there f = (decide (1 <= f) && decide (f <= P.n)) := rfl
 have Ht := Lib.hid ht; clear ht
 by_cases h1 : 1 <= f
 ·have h1b : decide (1 <= f) = true := by simpa using h1
  go_enter Tryz.func127, Tryz.ntmps127
  go_wp2
  all_goals go_ret
  all_goals exact ⟨by rw [Ht.out, h1b]; simp, rfl⟩
 ·have h1b : decide (1 <= f) = false := by simpa using h1
  go_enter Tryz.func127, Tryz.ntmps127
  go_wp2
  all_goals go_ret
  all_goals exact ⟨by rw [Ht.out, h1b]; simp, rfl⟩
theorem owner_any (pb db ob : Nat) (P : Pool) (f : Int) (w : World) (hP : PoolAt w pb db ob P) :
  Calls Tryz.prog 126 #[.pointer (some ⟨pb, 0, none⟩), .int .i64 f] w fun e w' => e = .returned (.int .u64 (P.owner f)) /\ w = w' := by
 have hc := hP.hp.cell
 have hw : P.owner f = if P.there f then P.O (f.toNat - 1) else 0 := rfl
 by_cases ht : P.there f = true
 ·obtain ⟨h1, h2⟩ := (P.there_iff f).1 ht
  obtain ⟨k, rfl⟩ : ∃ k : Nat, f = (k : Int) + 1 := ⟨(f - 1).toNat, by omega⟩
  have ho := hP.ho.rowAt k (by omega)
  have hhi := hP.hi
  have HP := Lib.hid hP; clear hP
  rw [if_pos ht] at hw
  have e : ((k : Int) + 1).toNat - 1 = k := by omega
  rw [e] at hw
  have Hw := Lib.hid hw; clear hw e
  have Ht := Lib.hid ht; clear ht
  go_enter Tryz.func126, Tryz.ntmps126
  go_wp2_with fail
  refine (there_any pb db ob P _ _ HP.out).mono ?_
  rintro e w' ⟨rfl, rfl⟩
  rw [Ht.out]
  go_wp2_with fail
  go_ret
  exact ⟨by rw [Hw.out]; rfl, rfl⟩
 ·rw [if_neg ht] at hw
  have ht' : P.there f = false := by simpa using ht
  have Hw := Lib.hid hw; clear hw
  have HP := Lib.hid hP; clear hP
  have Ht := Lib.hid ht'; clear ht ht'
  go_enter Tryz.func126, Tryz.ntmps126
  go_wp2_with fail
  refine (there_any pb db ob P _ _ HP.out).mono ?_
  rintro e w' ⟨rfl, rfl⟩
  rw [Ht.out]
  go_wp2_with fail
  go_ret
  exact ⟨by rw [Hw.out]; rfl, rfl⟩
theorem fits_any (pb db ob : Nat) (P : Pool) (f off n : Int) (w : World) (hP : PoolAt w pb db ob P) :
  Calls Tryz.prog 100 #[.pointer (some ⟨pb, 0, none⟩), .int .i64 f, .int .i64 off, .int .i64 n] w fun e w' => e = .returned (.bool (P.fits f off n)) /\ w = w' := by
 have hw : P.fits f off n = ((((P.owner f != 0) && decide (0 <= n)) && decide (n <= 64)) && decide (0 <= off) && decide (off <= 64 - n)) := rfl
 have Hw := Lib.hid hw; clear hw
 have HP := Lib.hid hP; clear hP
 cases e1 : (P.owner f != 0)
 ·go_enter Tryz.func100, Tryz.ntmps100
  go_wp2_with (go_at_call 126; refine (owner_any pb db ob P _ _ HP.out).mono ?_; rintro e w' ⟨rfl, rfl⟩)
  go_ret
  exact ⟨by rw [Hw.out, e1]; rfl, rfl⟩
 by_cases h2 : 0 <= n
 ·by_cases h3 : n <= 64
  ·by_cases h4 : 0 <= off
   ·go_enter Tryz.func100, Tryz.ntmps100
    go_wp2_with (go_at_call 126; refine (owner_any pb db ob P _ _ HP.out).mono ?_; rintro e w' ⟨rfl, rfl⟩)
    go_ret
    exact ⟨by rw [Hw.out, e1]; simp [h2, h3, h4], rfl⟩
   ·go_enter Tryz.func100, Tryz.ntmps100
    go_wp2_with (go_at_call 126; refine (owner_any pb db ob P _ _ HP.out).mono ?_; rintro e w' ⟨rfl, rfl⟩)
    go_ret
    exact ⟨by rw [Hw.out, e1]; simp; omega, rfl⟩
  ·go_enter Tryz.func100, Tryz.ntmps100
   go_wp2_with (go_at_call 126; refine (owner_any pb db ob P _ _ HP.out).mono ?_; rintro e w' ⟨rfl, rfl⟩)
   go_ret
   exact ⟨by rw [Hw.out, e1]; simp; omega, rfl⟩
 ·go_enter Tryz.func100, Tryz.ntmps100
  go_wp2_with (go_at_call 126; refine (owner_any pb db ob P _ _ HP.out).mono ?_; rintro e w' ⟨rfl, rfl⟩)
  go_ret
  exact ⟨by rw [Hw.out, e1]; simp; omega, rfl⟩
theorem there_set {w : World} {b o n : Nat} (h : w.there b o n) (a : Addr) (v : Value) : (w.setCell a v).there b o n := by
 intro j hj
 obtain ⟨h1, h2⟩ := h j hj
 refine ⟨?_, by rw [World.frozen?_setCell]; exact h2⟩
 by_cases e : a = ⟨b, o + j, none⟩
 ·subst e; rw [World.cell?_setCell_same' _ _ _ h1]; rfl
 ·rw [World.cell?_setCell_other _ _ _ _ e]; exact h1
theorem PoolAt.owners {w : World} {pb db ob : Nat} {P : Pool} (h : PoolAt w pb db ob P) (k : Nat) (v L : Int) (hL : L = (freeTo (updI P.O k v) P.n : Nat)) :
  PoolAt ((w.setCell ⟨ob, k, none⟩ (.int .u64 v)).setCell ⟨pb, 2, none⟩ (.int .i64 L)) pb db ob ⟨P.n, updI P.O k v, P.D⟩ := by
 refine ⟨?_, (h.hd.set_other (a := ⟨ob, k, none⟩) (fun e => h.n3 e.symm) _).set_other (a := ⟨pb, 2, none⟩) h.n1 _, ?_, h.n1, h.n2, h.n3, h.lo, h.hi, h.bd⟩
 ·refine Blk.cells ((h.hp.set_other (a := ⟨ob, k, none⟩) (fun e => h.n2 e.symm) _).set 2 _) ?_
  simp [Pool.left, hL]
 ·refine (Blk.cells (h.ho.set k _) ?_).set_other (a := ⟨pb, 2, none⟩) h.n2 _
  rw [row_set]
  refine row_congr fun i _ => ?_
  by_cases e : i = k
  ·rw [if_pos e]; simp [updI, e]
  ·rw [if_neg e]; simp [updI, e]
theorem free_any (pb db ob : Nat) (P : Pool) (f : Int) (w : World) (hP : PoolAt w pb db ob P) :
  Calls Tryz.prog 102 #[.pointer (some ⟨pb, 0, none⟩), .int .i64 f] w fun e w' => e = .returned (.tuple #[]) /\ PoolAt w' pb db ob (P.free f) /\ Kept (PS pb db ob) w w' := by
 have hc := hP.hp.cell
 have hfp := hP.hp.free
 have hfo := hP.ho.free
 have hn2 := hP.n2
 have hhi := hP.hi
 have hll := freeTo_le P.O P.n
 have hll : P.left <= 4096 := by unfold Pool.left; omega
 by_cases ht : P.there f = true
 ·obtain ⟨h1, h2⟩ := (P.there_iff f).1 ht
  have how : P.owner f = P.O (f.toNat - 1) := by unfold Pool.owner; rw [if_pos ht]
  obtain ⟨k, rfl⟩ : ∃ k : Nat, f = (k : Int) + 1 := ⟨(f - 1).toNat, by omega⟩
  have e : ((k : Int) + 1).toNat - 1 = k := by omega
  rw [e] at how
  have ho := hP.ho.rowAt k (by omega)
  have hf : P.free ((k : Int) + 1) = if P.O k ≠ 0 then ⟨P.n, updI P.O k 0, P.D⟩ else P := by unfold Pool.free; rw [how, e]
  have hup := freeTo_upd P.O 0 k P.n (by omega)
  have HP := Lib.hid hP; clear hP
  have Hf := Lib.hid hf; clear hf
  have Hup := Lib.hid hup; clear hup
  have Ht := Lib.hid ht; clear ht how e
  cases e1 : (P.O k != 0)
  ·go_enter Tryz.func102, Tryz.ntmps102
   go_wp2_with fail
   refine (there_any pb db ob P _ _ HP.out).mono ?_
   rintro e w' ⟨rfl, rfl⟩
   rw [Ht.out]
   go_wp2_with fail
   go_end0
   exact ⟨rfl, by rw [Hf.out, if_neg (by simpa using e1)]; exact HP.out, Kept.refl _ _⟩
  ·go_enter Tryz.func102, Tryz.ntmps102
   go_wp2_with fail
   refine (there_any pb db ob P _ _ HP.out).mono ?_
   rintro e w' ⟨rfl, rfl⟩
   rw [Ht.out]
   go_wp2_with fail
   go_end0
   refine ⟨rfl, ?_, ((Kept.refl _ _).setIn _ _ _ (.inr (.inr rfl))).setIn _ _ _ (.inl rfl)⟩
   rw [Hf.out, if_pos (by simpa using e1)]
   have hup := Hup.out
   have e2 : ¬ P.O k = 0 := by simpa using e1
   rw [if_neg e2] at hup
   simp at hup
   exact HP.out.owners k 0 _ (by unfold Pool.left; omega)
 ·have ht' : P.there f = false := by simpa using ht
  have how : P.owner f = 0 := by unfold Pool.owner; rw [if_neg ht]
  have Hf : Hid (P.free f = P) := by unfold Hid Pool.free; rw [how]; simp
  have HP := Lib.hid hP; clear hP
  have Ht := Lib.hid ht'; clear ht ht' how
  go_enter Tryz.func102, Tryz.ntmps102
  go_wp2_with fail
  refine (there_any pb db ob P _ _ HP.out).mono ?_
  rintro e w' ⟨rfl, rfl⟩
  rw [Ht.out]
  go_wp2_with fail
  go_end0
  exact ⟨rfl, by rw [Hf.out]; exact HP.out, Kept.refl _ _⟩
def AllocS (w : World) (pb db ob n k : Nat) : Prop :=
 w.cell? ⟨pb, 0, none⟩ = some (.slice (some ⟨db, 0, none⟩) n n) /\ w.cell? ⟨pb, 1, none⟩ = some (.slice (some ⟨ob, 0, none⟩) n n) /\ w.there db (k * 64) 64
theorem AllocS.set {w : World} {pb db ob n k : Nat} (h : AllocS w pb db ob n k) (hn : ob ≠ pb) (i : Nat) (v : Value) : AllocS (w.setCell ⟨ob, i, none⟩ v) pb db ob n k :=
 ⟨by rw [World.cell?_setCell_far _ _ _ _ hn]; exact h.1, by rw [World.cell?_setCell_far _ _ _ _ hn]; exact h.2.1, there_set h.2.2 _ _⟩
theorem AllocS.sets {w : World} {pb db ob n k : Nat} (h : AllocS w pb db ob n k) (hn : pb ≠ db) (o : Nat) (vs : List Value) : AllocS (w.setCells db o vs) pb db ob n k :=
 ⟨by rw [World.cell?_setCells_out _ _ _ _ _ (fun e => absurd e hn)]; exact h.1, by rw [World.cell?_setCells_out _ _ _ _ _ (fun e => absurd e hn)]; exact h.2.1, World.there_setCells h.2.2 _ _ _⟩
theorem AllocS.drew {w : World} {pb db ob n k : Nat} (h : AllocS w pb db ob n k) : AllocS w.drew pb db ob n k :=
 ⟨by rw [World.cell?_drew]; exact h.1, by rw [World.cell?_drew]; exact h.2.1, (World.there_drew _ _ _ _).2 h.2.2⟩
theorem zeros_one : ∀ v ∈ [Value.int .u8 0, Value.int .u8 0, Value.int .u8 0, Value.int .u8 0, Value.int .u8 0, Value.int .u8 0, Value.int .u8 0, Value.int .u8 0, Value.int .u8 0, Value.int .u8 0, Value.int .u8 0, Value.int .u8 0, Value.int .u8 0, Value.int .u8 0, Value.int .u8 0, Value.int .u8 0, Value.int .u8 0, Value.int .u8 0, Value.int .u8 0, Value.int .u8 0, Value.int .u8 0, Value.int .u8 0, Value.int .u8 0, Value.int .u8 0, Value.int .u8 0, Value.int .u8 0, Value.int .u8 0, Value.int .u8 0, Value.int .u8 0, Value.int .u8 0, Value.int .u8 0, Value.int .u8 0, Value.int .u8 0, Value.int .u8 0, Value.int .u8 0, Value.int .u8 0, Value.int .u8 0, Value.int .u8 0, Value.int .u8 0, Value.int .u8 0, Value.int .u8 0, Value.int .u8 0, Value.int .u8 0, Value.int .u8 0, Value.int .u8 0, Value.int .u8 0, Value.int .u8 0, Value.int .u8 0, Value.int .u8 0, Value.int .u8 0, Value.int .u8 0, Value.int .u8 0, Value.int .u8 0, Value.int .u8 0, Value.int .u8 0, Value.int .u8 0, Value.int .u8 0, Value.int .u8 0, Value.int .u8 0, Value.int .u8 0, Value.int .u8 0, Value.int .u8 0, Value.int .u8 0, Value.int .u8 0], v.oneCell' = true := by
 intro v hv
 have e : [Value.int .u8 0, Value.int .u8 0, Value.int .u8 0, Value.int .u8 0, Value.int .u8 0, Value.int .u8 0, Value.int .u8 0, Value.int .u8 0, Value.int .u8 0, Value.int .u8 0, Value.int .u8 0, Value.int .u8 0, Value.int .u8 0, Value.int .u8 0, Value.int .u8 0, Value.int .u8 0, Value.int .u8 0, Value.int .u8 0, Value.int .u8 0, Value.int .u8 0, Value.int .u8 0, Value.int .u8 0, Value.int .u8 0, Value.int .u8 0, Value.int .u8 0, Value.int .u8 0, Value.int .u8 0, Value.int .u8 0, Value.int .u8 0, Value.int .u8 0, Value.int .u8 0, Value.int .u8 0, Value.int .u8 0, Value.int .u8 0, Value.int .u8 0, Value.int .u8 0, Value.int .u8 0, Value.int .u8 0, Value.int .u8 0, Value.int .u8 0, Value.int .u8 0, Value.int .u8 0, Value.int .u8 0, Value.int .u8 0, Value.int .u8 0, Value.int .u8 0, Value.int .u8 0, Value.int .u8 0, Value.int .u8 0, Value.int .u8 0, Value.int .u8 0, Value.int .u8 0, Value.int .u8 0, Value.int .u8 0, Value.int .u8 0, Value.int .u8 0, Value.int .u8 0, Value.int .u8 0, Value.int .u8 0, Value.int .u8 0, Value.int .u8 0, Value.int .u8 0, Value.int .u8 0, Value.int .u8 0] = List.replicate 64 (Value.int .u8 0) := by rfl
 rw [e] at hv
 rw [List.eq_of_mem_replicate hv]; rfl
theorem zeros_at (i : Nat) (h : i < 64) : [Value.int .u8 0, Value.int .u8 0, Value.int .u8 0, Value.int .u8 0, Value.int .u8 0, Value.int .u8 0, Value.int .u8 0, Value.int .u8 0, Value.int .u8 0, Value.int .u8 0, Value.int .u8 0, Value.int .u8 0, Value.int .u8 0, Value.int .u8 0, Value.int .u8 0, Value.int .u8 0, Value.int .u8 0, Value.int .u8 0, Value.int .u8 0, Value.int .u8 0, Value.int .u8 0, Value.int .u8 0, Value.int .u8 0, Value.int .u8 0, Value.int .u8 0, Value.int .u8 0, Value.int .u8 0, Value.int .u8 0, Value.int .u8 0, Value.int .u8 0, Value.int .u8 0, Value.int .u8 0, Value.int .u8 0, Value.int .u8 0, Value.int .u8 0, Value.int .u8 0, Value.int .u8 0, Value.int .u8 0, Value.int .u8 0, Value.int .u8 0, Value.int .u8 0, Value.int .u8 0, Value.int .u8 0, Value.int .u8 0, Value.int .u8 0, Value.int .u8 0, Value.int .u8 0, Value.int .u8 0, Value.int .u8 0, Value.int .u8 0, Value.int .u8 0, Value.int .u8 0, Value.int .u8 0, Value.int .u8 0, Value.int .u8 0, Value.int .u8 0, Value.int .u8 0, Value.int .u8 0, Value.int .u8 0, Value.int .u8 0, Value.int .u8 0, Value.int .u8 0, Value.int .u8 0, Value.int .u8 0][i]? = some (Value.int .u8 0) := by
 have e : [Value.int .u8 0, Value.int .u8 0, Value.int .u8 0, Value.int .u8 0, Value.int .u8 0, Value.int .u8 0, Value.int .u8 0, Value.int .u8 0, Value.int .u8 0, Value.int .u8 0, Value.int .u8 0, Value.int .u8 0, Value.int .u8 0, Value.int .u8 0, Value.int .u8 0, Value.int .u8 0, Value.int .u8 0, Value.int .u8 0, Value.int .u8 0, Value.int .u8 0, Value.int .u8 0, Value.int .u8 0, Value.int .u8 0, Value.int .u8 0, Value.int .u8 0, Value.int .u8 0, Value.int .u8 0, Value.int .u8 0, Value.int .u8 0, Value.int .u8 0, Value.int .u8 0, Value.int .u8 0, Value.int .u8 0, Value.int .u8 0, Value.int .u8 0, Value.int .u8 0, Value.int .u8 0, Value.int .u8 0, Value.int .u8 0, Value.int .u8 0, Value.int .u8 0, Value.int .u8 0, Value.int .u8 0, Value.int .u8 0, Value.int .u8 0, Value.int .u8 0, Value.int .u8 0, Value.int .u8 0, Value.int .u8 0, Value.int .u8 0, Value.int .u8 0, Value.int .u8 0, Value.int .u8 0, Value.int .u8 0, Value.int .u8 0, Value.int .u8 0, Value.int .u8 0, Value.int .u8 0, Value.int .u8 0, Value.int .u8 0, Value.int .u8 0, Value.int .u8 0, Value.int .u8 0, Value.int .u8 0] = List.replicate 64 (Value.int .u8 0) := by rfl
 rw [e, List.getElem?_replicate, if_pos h]
theorem Blk.setCells {t b n : Nat} : ∀ (vs : List Value) (o : Nat) (w : World) (f : Nat -> Value), Blk w b (row n f) t -> o + vs.length <= n -> Blk (w.setCells b o vs) b (row n (fun j => if o <= j /\ j < o + vs.length then vs.getD (j - o) undef else f j)) t
 | [], o, w, f, h, _ => by
  refine Blk.cells h (row_congr fun i _ => ?_)
  rw [if_neg (by simp only [List.length_nil]; omega)]
 | v :: r, o, w, f, h, hl => by
  have h1 := (h.set o v).cells (row_set n f o v)
  have h2 := Blk.setCells r (o + 1) (w.setCell ⟨b, o, none⟩ v) _ h1 (by simp at hl; omega)
  refine Blk.cells (show Blk ((w.setCell ⟨b, o, none⟩ v).setCells b (o + 1) r) b _ t from h2) (row_congr fun i _ => ?_)
  by_cases e : i = o
  ·subst e
   rw [if_neg (by omega), if_pos rfl, if_pos (by simp)]; simp
  ·by_cases e1 : o + 1 <= i /\ i < o + 1 + r.length
   ·rw [if_pos e1, if_pos (by simp; omega)]
    have : i - o = (i - (o + 1)) + 1 := by omega
    rw [this]; simp
   ·rw [if_neg e1, if_neg e, if_neg (by simp only [List.length_cons]; omega)]
theorem Kept.setCells {S : Nat -> Prop} {w : World} {b : Nat} (hb : S b) : ∀ (vs : List Value) (o : Nat) (w1 : World), Kept S w w1 -> Kept S w (w1.setCells b o vs)
 | [], _, _, h => h
 | v :: r, o, w1, h => Kept.setCells hb r (o + 1) (w1.setCell ⟨b, o, none⟩ v) (h.setIn b o v hb)
theorem PoolAt.charge {w : World} {pb db ob : Nat} {P : Pool} (h : PoolAt w pb db ob P) (k : Nat) (hk : k < P.n) (o : Int) :
  Blk ((w.setCell ⟨ob, k, none⟩ (.int .u64 o)).drew.setCells db (k * 64) [Value.int .u8 0, Value.int .u8 0, Value.int .u8 0, Value.int .u8 0, Value.int .u8 0, Value.int .u8 0, Value.int .u8 0, Value.int .u8 0, Value.int .u8 0, Value.int .u8 0, Value.int .u8 0, Value.int .u8 0, Value.int .u8 0, Value.int .u8 0, Value.int .u8 0, Value.int .u8 0, Value.int .u8 0, Value.int .u8 0, Value.int .u8 0, Value.int .u8 0, Value.int .u8 0, Value.int .u8 0, Value.int .u8 0, Value.int .u8 0, Value.int .u8 0, Value.int .u8 0, Value.int .u8 0, Value.int .u8 0, Value.int .u8 0, Value.int .u8 0, Value.int .u8 0, Value.int .u8 0, Value.int .u8 0, Value.int .u8 0, Value.int .u8 0, Value.int .u8 0, Value.int .u8 0, Value.int .u8 0, Value.int .u8 0, Value.int .u8 0, Value.int .u8 0, Value.int .u8 0, Value.int .u8 0, Value.int .u8 0, Value.int .u8 0, Value.int .u8 0, Value.int .u8 0, Value.int .u8 0, Value.int .u8 0, Value.int .u8 0, Value.int .u8 0, Value.int .u8 0, Value.int .u8 0, Value.int .u8 0, Value.int .u8 0, Value.int .u8 0, Value.int .u8 0, Value.int .u8 0, Value.int .u8 0, Value.int .u8 0, Value.int .u8 0, Value.int .u8 0, Value.int .u8 0, Value.int .u8 0]) pb #[.slice (some ⟨db, 0, none⟩) P.n P.n, .slice (some ⟨ob, 0, none⟩) P.n P.n, .int .i64 P.left] 160 /\
  Blk ((w.setCell ⟨ob, k, none⟩ (.int .u64 o)).drew.setCells db (k * 64) [Value.int .u8 0, Value.int .u8 0, Value.int .u8 0, Value.int .u8 0, Value.int .u8 0, Value.int .u8 0, Value.int .u8 0, Value.int .u8 0, Value.int .u8 0, Value.int .u8 0, Value.int .u8 0, Value.int .u8 0, Value.int .u8 0, Value.int .u8 0, Value.int .u8 0, Value.int .u8 0, Value.int .u8 0, Value.int .u8 0, Value.int .u8 0, Value.int .u8 0, Value.int .u8 0, Value.int .u8 0, Value.int .u8 0, Value.int .u8 0, Value.int .u8 0, Value.int .u8 0, Value.int .u8 0, Value.int .u8 0, Value.int .u8 0, Value.int .u8 0, Value.int .u8 0, Value.int .u8 0, Value.int .u8 0, Value.int .u8 0, Value.int .u8 0, Value.int .u8 0, Value.int .u8 0, Value.int .u8 0, Value.int .u8 0, Value.int .u8 0, Value.int .u8 0, Value.int .u8 0, Value.int .u8 0, Value.int .u8 0, Value.int .u8 0, Value.int .u8 0, Value.int .u8 0, Value.int .u8 0, Value.int .u8 0, Value.int .u8 0, Value.int .u8 0, Value.int .u8 0, Value.int .u8 0, Value.int .u8 0, Value.int .u8 0, Value.int .u8 0, Value.int .u8 0, Value.int .u8 0, Value.int .u8 0, Value.int .u8 0, Value.int .u8 0, Value.int .u8 0, Value.int .u8 0, Value.int .u8 0]) db (row (P.n * 64) fun j => .int .u8 (if k * 64 <= j /\ j < k * 64 + 64 then 0 else P.D j)) 163 /\
  Blk ((w.setCell ⟨ob, k, none⟩ (.int .u64 o)).drew.setCells db (k * 64) [Value.int .u8 0, Value.int .u8 0, Value.int .u8 0, Value.int .u8 0, Value.int .u8 0, Value.int .u8 0, Value.int .u8 0, Value.int .u8 0, Value.int .u8 0, Value.int .u8 0, Value.int .u8 0, Value.int .u8 0, Value.int .u8 0, Value.int .u8 0, Value.int .u8 0, Value.int .u8 0, Value.int .u8 0, Value.int .u8 0, Value.int .u8 0, Value.int .u8 0, Value.int .u8 0, Value.int .u8 0, Value.int .u8 0, Value.int .u8 0, Value.int .u8 0, Value.int .u8 0, Value.int .u8 0, Value.int .u8 0, Value.int .u8 0, Value.int .u8 0, Value.int .u8 0, Value.int .u8 0, Value.int .u8 0, Value.int .u8 0, Value.int .u8 0, Value.int .u8 0, Value.int .u8 0, Value.int .u8 0, Value.int .u8 0, Value.int .u8 0, Value.int .u8 0, Value.int .u8 0, Value.int .u8 0, Value.int .u8 0, Value.int .u8 0, Value.int .u8 0, Value.int .u8 0, Value.int .u8 0, Value.int .u8 0, Value.int .u8 0, Value.int .u8 0, Value.int .u8 0, Value.int .u8 0, Value.int .u8 0, Value.int .u8 0, Value.int .u8 0, Value.int .u8 0, Value.int .u8 0, Value.int .u8 0, Value.int .u8 0, Value.int .u8 0, Value.int .u8 0, Value.int .u8 0, Value.int .u8 0]) ob (row P.n fun i => .int .u64 (updI P.O k o i)) 40 /\
  Kept (PS pb db ob) w ((w.setCell ⟨ob, k, none⟩ (.int .u64 o)).drew.setCells db (k * 64) [Value.int .u8 0, Value.int .u8 0, Value.int .u8 0, Value.int .u8 0, Value.int .u8 0, Value.int .u8 0, Value.int .u8 0, Value.int .u8 0, Value.int .u8 0, Value.int .u8 0, Value.int .u8 0, Value.int .u8 0, Value.int .u8 0, Value.int .u8 0, Value.int .u8 0, Value.int .u8 0, Value.int .u8 0, Value.int .u8 0, Value.int .u8 0, Value.int .u8 0, Value.int .u8 0, Value.int .u8 0, Value.int .u8 0, Value.int .u8 0, Value.int .u8 0, Value.int .u8 0, Value.int .u8 0, Value.int .u8 0, Value.int .u8 0, Value.int .u8 0, Value.int .u8 0, Value.int .u8 0, Value.int .u8 0, Value.int .u8 0, Value.int .u8 0, Value.int .u8 0, Value.int .u8 0, Value.int .u8 0, Value.int .u8 0, Value.int .u8 0, Value.int .u8 0, Value.int .u8 0, Value.int .u8 0, Value.int .u8 0, Value.int .u8 0, Value.int .u8 0, Value.int .u8 0, Value.int .u8 0, Value.int .u8 0, Value.int .u8 0, Value.int .u8 0, Value.int .u8 0, Value.int .u8 0, Value.int .u8 0, Value.int .u8 0, Value.int .u8 0, Value.int .u8 0, Value.int .u8 0, Value.int .u8 0, Value.int .u8 0, Value.int .u8 0, Value.int .u8 0, Value.int .u8 0, Value.int .u8 0]) := by
 have far : ∀ {w : World} {b t : Nat} {c : Array Value} (vs : List Value) (o : Nat), Blk w b c t -> db ≠ b -> Blk (w.setCells db o vs) b c t := by
  intro w b t c vs
  induction vs generalizing w with
  | nil => intro o h _; exact h
  | cons v r ih => intro o h hn; exact ih (o + 1) (h.set_other (a := ⟨db, o, none⟩) hn v) hn
 refine ⟨far _ _ (h.hp.set_other (a := ⟨ob, k, none⟩) (fun e => h.n2 e.symm) _).drew (fun e => h.n1 e.symm), ?_, ?_, Kept.setCells (.inr (.inl rfl)) _ _ _ ((Kept.refl _ _).setIn _ _ _ (.inr (.inr rfl))).drew⟩
 ·refine Blk.cells (Blk.setCells _ _ _ _ (h.hd.set_other (a := ⟨ob, k, none⟩) (fun e => h.n3 e.symm) _).drew (by simp only [List.length_cons, List.length_nil]; omega)) (row_congr fun j _ => ?_)
  simp only [List.length_cons, List.length_nil, Nat.zero_add, Nat.reduceAdd]
  by_cases e : k * 64 <= j /\ j < k * 64 + 64
  ·rw [if_pos e, if_pos e, List.getD_eq_getElem?_getD, zeros_at _ (by omega)]; rfl
  ·rw [if_neg e, if_neg e]
 ·refine far _ _ ((h.ho.set k _).cells ?_).drew h.n3
  rw [row_set]
  refine row_congr fun i _ => ?_
  by_cases e : i = k
  ·rw [if_pos e]; simp [updI, e]
  ·rw [if_neg e]; simp [updI, e]
theorem size38 : (Tryz.prog.info? 163).map (·.size) = some 64 := by kernel_rfl
theorem alloc_any (pb db ob : Nat) (P : Pool) (o : Int) (w : World) (hP : PoolAt w pb db ob P) :
  Calls Tryz.prog 27 #[.pointer (some ⟨pb, 0, none⟩), .int .u64 o] w fun e w' => e = .returned (.int .i64 (P.allocRet o)) /\ PoolAt w' pb db ob (P.alloc o) /\ Kept (PS pb db ob) w w' := by
 have hc := hP.hp.cell
 have hfp := hP.hp.free
 have hfo := hP.ho.free
 have hn1 := hP.n1
 have hn2 := hP.n2
 have hn3 := hP.n3
 have hhi := hP.hi
 have hll := freeTo_le P.O P.n
 have hll : P.left <= 4096 := by unfold Pool.left; omega
 have HP := Lib.hid hP; clear hP
 by_cases h0 : P.left = 0
 ·have Hr : Hid (P.allocRet o = 0 /\ P.alloc o = P) := by
   have : firstFree P.O P.n = P.n := (freeTo_pos P.O P.n).1 h0
   constructor
   ·unfold Pool.allocRet; rw [if_neg (by omega)]
   ·unfold Pool.alloc; rw [if_neg (by omega)]
  have h0b : ((P.left : Int) == 0) = true := by simpa using h0
  clear h0
  go_enter Tryz.func27, Tryz.ntmps27
  go_wp2_with (go_at_call 47; refine (left_any pb db ob P _ HP.out).mono ?_; rintro e w' ⟨rfl, rfl⟩)
  go_ret
  exact ⟨by rw [Hr.out.1]; rfl, by rw [Hr.out.2]; exact HP.out, Kept.refl _ _⟩
 by_cases ho0 : o = 0
 ·have Hr : Hid (P.allocRet o = 0 /\ P.alloc o = P) := by
   constructor
   ·unfold Pool.allocRet; rw [if_neg (by omega)]
   ·unfold Pool.alloc; rw [if_neg (by omega)]
  have h0b : ((P.left : Int) == 0) = false := by simpa using h0
  have ho0b : (o == 0) = true := by simpa using ho0
  clear h0 ho0
  go_enter Tryz.func27, Tryz.ntmps27
  go_wp2_with (go_at_call 47; refine (left_any pb db ob P _ HP.out).mono ?_; rintro e w' ⟨rfl, rfl⟩)
  go_ret
  exact ⟨by rw [Hr.out.1]; rfl, by rw [Hr.out.2]; exact HP.out, Kept.refl _ _⟩
 have hff : firstFree P.O P.n < P.n := by
  have h1 := firstFree_le P.O P.n
  have h2 : ¬ firstFree P.O P.n = P.n := fun e => h0 ((freeTo_pos P.O P.n).2 e)
  omega
 have h0b : ((P.left : Int) == 0) = false := by simpa using h0
 have ho0b : (o == 0) = false := by simpa using ho0
 have Hff := Lib.hid hff; clear hff
 have Ho0 := Lib.hid ho0; clear ho0
 have H0 := Lib.hid h0; clear h0
 go_enter Tryz.func27, Tryz.ntmps27
 go_wp2_with (go_at_call 47; refine (left_any pb db ob P _ HP.out).mono ?_; rintro e w' ⟨rfl, rfl⟩)
 go_loopg [5, 6, 19] P.n (fun g _ _ i wx => ∃ k : Nat, k + g = P.n /\ i = .int .i64 k /\ (∀ j, j < k -> P.O j ≠ 0) /\ wx = w)
 case atStart => exact ⟨0, by omega, rfl, by omega, rfl⟩
 case round =>
  obtain ⟨k, hk, rfl, hno, rfl⟩ := hrel
  have Hno := Lib.hid hno; clear hno
  have hkn : k < P.n := by
   have h1 := Hff.out
   have h2 := Hno.out (firstFree P.O P.n)
   have h3 := firstFree_free P.O P.n h1
   omega
  have ho := HP.out.ho.rowAt k hkn
  cases e1 : (P.O k == 0)
  ·go_wp2_with fail
   go_roundg (P.n - (k + 1))
   case measure => omega
   case rel =>
    refine ⟨k + 1, by omega, by go_num, fun j hj => ?_, rfl⟩
    rcases Nat.lt_or_eq_of_le (Nat.le_of_lt_succ hj) with h | h
    ·exact Hno.out j h
    ·subst h; simpa using e1
  ·have hki : (k : Int) < P.n := by omega
   have hk0 : (0 : Int) <= (k : Int) := by omega
   have hu := Tryz.underlying163
   have hz1 : ∀ v ∈ [Value.int .u8 0, Value.int .u8 0, Value.int .u8 0, Value.int .u8 0, Value.int .u8 0, Value.int .u8 0, Value.int .u8 0, Value.int .u8 0, Value.int .u8 0, Value.int .u8 0, Value.int .u8 0, Value.int .u8 0, Value.int .u8 0, Value.int .u8 0, Value.int .u8 0, Value.int .u8 0, Value.int .u8 0, Value.int .u8 0, Value.int .u8 0, Value.int .u8 0, Value.int .u8 0, Value.int .u8 0, Value.int .u8 0, Value.int .u8 0, Value.int .u8 0, Value.int .u8 0, Value.int .u8 0, Value.int .u8 0, Value.int .u8 0, Value.int .u8 0, Value.int .u8 0, Value.int .u8 0, Value.int .u8 0, Value.int .u8 0, Value.int .u8 0, Value.int .u8 0, Value.int .u8 0, Value.int .u8 0, Value.int .u8 0, Value.int .u8 0, Value.int .u8 0, Value.int .u8 0, Value.int .u8 0, Value.int .u8 0, Value.int .u8 0, Value.int .u8 0, Value.int .u8 0, Value.int .u8 0, Value.int .u8 0, Value.int .u8 0, Value.int .u8 0, Value.int .u8 0, Value.int .u8 0, Value.int .u8 0, Value.int .u8 0, Value.int .u8 0, Value.int .u8 0, Value.int .u8 0, Value.int .u8 0, Value.int .u8 0, Value.int .u8 0, Value.int .u8 0, Value.int .u8 0, Value.int .u8 0], v.oneCell' = true := zeros_one
   have hi : (Tryz.prog.info? 163).map (·.size) = some [Value.int .u8 0, Value.int .u8 0, Value.int .u8 0, Value.int .u8 0, Value.int .u8 0, Value.int .u8 0, Value.int .u8 0, Value.int .u8 0, Value.int .u8 0, Value.int .u8 0, Value.int .u8 0, Value.int .u8 0, Value.int .u8 0, Value.int .u8 0, Value.int .u8 0, Value.int .u8 0, Value.int .u8 0, Value.int .u8 0, Value.int .u8 0, Value.int .u8 0, Value.int .u8 0, Value.int .u8 0, Value.int .u8 0, Value.int .u8 0, Value.int .u8 0, Value.int .u8 0, Value.int .u8 0, Value.int .u8 0, Value.int .u8 0, Value.int .u8 0, Value.int .u8 0, Value.int .u8 0, Value.int .u8 0, Value.int .u8 0, Value.int .u8 0, Value.int .u8 0, Value.int .u8 0, Value.int .u8 0, Value.int .u8 0, Value.int .u8 0, Value.int .u8 0, Value.int .u8 0, Value.int .u8 0, Value.int .u8 0, Value.int .u8 0, Value.int .u8 0, Value.int .u8 0, Value.int .u8 0, Value.int .u8 0, Value.int .u8 0, Value.int .u8 0, Value.int .u8 0, Value.int .u8 0, Value.int .u8 0, Value.int .u8 0, Value.int .u8 0, Value.int .u8 0, Value.int .u8 0, Value.int .u8 0, Value.int .u8 0, Value.int .u8 0, Value.int .u8 0, Value.int .u8 0, Value.int .u8 0].length := size38
   have hth : wr.there db (k * 64) 64 := by
    intro j hj
    have := HP.out.hd.rowAt (k * 64 + j) (by omega)
    exact ⟨by rw [this]; rfl, HP.out.hd.free _⟩
   have hS : AllocS wr pb db ob P.n k := ⟨by rw [HP.out.hp.cell]; rfl, by rw [HP.out.hp.cell]; rfl, hth⟩
   go_wp2_with fail
   go_region_held3 (fun w' => w'.cell? ⟨pb, 0, none⟩ = some (.slice (some ⟨db, 0, none⟩) P.n P.n) /\ w'.cell? ⟨pb, 1, none⟩ = some (.slice (some ⟨ob, 0, none⟩) P.n P.n) /\ w'.there db (k * 64) 64) (first | exact hS.drew | exact (hS.set (fun e => hn2 e.symm) _ _).drew | exact ((hS.set (fun e => hn2 e.symm) _ _).drew.sets hn1 _ _)) (fail)
   obtain ⟨h1, h2, h3, h4⟩ := HP.out.charge k hkn o
   have hkf : Hid (firstFree P.O P.n = k) := firstFree_eq P.O P.n k (by omega) Hno.out (fun _ => by simpa using e1)
   have Hr : Hid (P.allocRet o = (k : Int) + 1 /\ P.alloc o = ⟨P.n, updI P.O k o, fun j => if k * 64 <= j /\ j < k * 64 + 64 then 0 else P.D j⟩) := by
    constructor
    ·unfold Pool.allocRet; rw [if_pos ⟨Ho0.out, Hff.out⟩, hkf.out]
    ·unfold Pool.alloc; rw [if_pos ⟨Ho0.out, Hff.out⟩, hkf.out]
   have hup := freeTo_upd P.O o k P.n hkn
   have e2 : P.O k = 0 := by simpa using e1
   rw [if_pos e2, if_neg Ho0.out] at hup
   have Hup := Lib.hid hup; clear hup
   clear e1 e2 hS hth hu hi hz1 ho hc hfp hfo
   generalize World.setCells _ _ _ _ = w2 at *
   have hc := h1.cell
   have hf := h1.free
   have H1 := Lib.hid h1; have H2 := Lib.hid h2; have H3 := Lib.hid h3; have H4 := Lib.hid h4; clear h1 h2 h3 h4
   have hlp : 1 <= P.left := by have := H0.out; omega
   go_wp2_with fail
   go_ret
   have hupp := Hup.out
   refine ⟨by rw [Hr.out.1]; rfl, ?_, ?_⟩
   ·rw [Hr.out.2]
    refine ⟨Blk.cells (H1.out.set 2 _) ?_, H2.out.set_other (a := ⟨pb, 2, none⟩) hn1 _, H3.out.set_other (a := ⟨pb, 2, none⟩) hn2 _, hn1, hn2, hn3, HP.out.lo, HP.out.hi, fun i => ?_⟩
    ·simp [Pool.left] at hupp hlp ⊢
     omega
    ·have := HP.out.bd i
     show 0 <= (if k * 64 <= i /\ i < k * 64 + 64 then (0 : Int) else P.D i) /\ (if k * 64 <= i /\ i < k * 64 + 64 then (0 : Int) else P.D i) <= 255
     split <;> omega
   ·exact H4.out.setIn _ _ _ (.inl rfl)
def BytesIn (w : World) (a : Option Addr) (m : Nat) (B : Nat -> Int) : Prop :=
 m = 0 \/ ∃ b o, a = some ⟨b, o, none⟩ /\ ∀ j, j < m -> w.cell? ⟨b, o + j, none⟩ = some (.int .u8 (B j))
theorem write_no (pb db ob : Nat) (P : Pool) (f off : Int) (a : Option Addr) (m c : Nat) (w : World) (hP : PoolAt w pb db ob P) (hf : P.fits f off m = false) :
  Calls Tryz.prog 80 #[.pointer (some ⟨pb, 0, none⟩), .int .i64 f, .int .i64 off, .slice a m c] w fun e w' => e = .returned (.bool false) /\ w = w' := by
 have HP := Lib.hid hP; clear hP
 have Hf := Lib.hid hf; clear hf
 go_enter Tryz.func80, Tryz.ntmps80
 go_wp2_with fail
 refine (fits_any pb db ob P _ _ _ _ HP.out).mono ?_
 rintro e w' ⟨rfl, rfl⟩
 rw [Hf.out]
 go_wp2_with fail
 go_ret
 exact ⟨rfl, rfl⟩
theorem range_get (m : Nat) (B : Nat -> Int) (i : Nat) (hi : i < ((List.range m).map fun j => Value.int .u8 (B j)).length) : ((List.range m).map fun j => Value.int .u8 (B j))[i]? = some (Value.int .u8 (B i)) := by
 have h' : i < m := by simpa using hi
 simp [h']
theorem PoolAt.bytes {w : World} {pb db ob : Nat} {P : Pool} (h : PoolAt w pb db ob P) (o m : Nat) (B : Nat -> Int) (hm : o + m <= P.n * 64) (hB : ∀ j, j < m -> 0 <= B j /\ B j <= 255) :
  PoolAt (w.setRow db ((row (P.n * 64) fun i => .int .u8 (P.D i)).toList.take o ++ ((List.range m).map (fun j => Value.int .u8 (B j)) ++ (row (P.n * 64) fun i => .int .u8 (P.D i)).toList.drop (o + m))).toArray) pb db ob
   ⟨P.n, P.O, fun j => if o <= j /\ j < o + m then B (j - o) else P.D j⟩ := by
 have hl : ((List.range m).map (fun j => Value.int .u8 (B j))).length = m := by simp
 refine ⟨h.hp.setRow_other (fun e => h.n1 e.symm) _, ?_, h.ho.setRow_other h.n3 _, h.n1, h.n2, h.n3, h.lo, h.hi, fun i => ?_⟩
 ·refine Blk.cells (h.hd.setRow _) ?_
  have hsp := row_splice (P.n * 64) (fun i => .int .u8 (P.D i)) o _ (fun j => .int .u8 (B j)) (range_get m B) (by rw [hl]; exact hm)
  rw [hl] at hsp
  rw [hsp]
  refine row_congr fun j _ => ?_
  by_cases e : o <= j /\ j < o + m
  ·simp [if_pos e]
  ·simp [if_neg e]
 ·have := h.bd i
  show 0 <= (if o <= i /\ i < o + m then B (i - o) else P.D i) /\ (if o <= i /\ i < o + m then B (i - o) else P.D i) <= 255
  by_cases e : o <= i /\ i < o + m
  ·simp only [if_pos e]; exact hB _ (by omega)
  ·simp only [if_neg e]; exact this
theorem copy_src {w : World} {b o m : Nat} {B : Nat -> Int} (h : ∀ j, j < m -> w.cell? ⟨b, o + j, none⟩ = some (.int .u8 (B j))) :
  ∀ (j : Nat) (v : Value), ((List.range m).map fun j => Value.int .u8 (B j))[j]? = some v -> w.cell? ((⟨b, o, none⟩ : Addr).add j) = some v := by
 intro j v hv
 have hj : j < m := by
  rcases Nat.lt_or_ge j m with h' | h'
  ·exact h'
  ·rw [List.getElem?_eq_none (by simpa using h')] at hv; cases hv
 rw [range_get m B j (by simpa using hj)] at hv
 rw [Addr.add_lit, h j hj]; exact hv
theorem write_yes (pb db ob : Nat) (P : Pool) (f off : Int) (a : Option Addr) (m c : Nat) (B : Nat -> Int) (w : World) (hP : PoolAt w pb db ob P) (hf : P.fits f off m = true) (hb : BytesIn w a m B) (hB : ∀ j, j < m -> 0 <= B j /\ B j <= 255) :
  Calls Tryz.prog 80 #[.pointer (some ⟨pb, 0, none⟩), .int .i64 f, .int .i64 off, .slice a m c] w fun e w' => e = .returned (.bool true) /\ PoolAt w' pb db ob (P.write f off m B) /\ Kept (PS pb db ob) w w' := by
 obtain ⟨g1, g2, g3, g4, g5⟩ := (P.fits_iff f off m).1 hf
 obtain ⟨t1, t2⟩ := (P.there_iff f).1 (P.owner_there f g1)
 obtain ⟨k, rfl⟩ : ∃ k : Nat, f = (k : Int) + 1 := ⟨(f - 1).toNat, by omega⟩
 obtain ⟨q, rfl⟩ : ∃ q : Nat, off = (q : Int) := ⟨off.toNat, by omega⟩
 have hq64 : (q : Int) <= 64 := by omega
 have hw : P.write ((k : Int) + 1) q m B = ⟨P.n, P.O, fun j => if k * 64 + q <= j /\ j < k * 64 + q + m then B (j - (k * 64 + q)) else P.D j⟩ := by
  unfold Pool.write
  rw [if_pos hf]
  have e1 : ((k : Int) + 1).toNat - 1 = k := by omega
  simp only [e1, Int.toNat_natCast]
 have hc := hP.hp.cell
 have hhi := hP.hi
 have HP := Lib.hid hP; clear hP
 have Hf := Lib.hid hf; clear hf
 have Hw := Lib.hid hw; clear hw
 have HB := Lib.hid hB; clear hB
 clear g1
 by_cases hm0 : m = 0
 ·subst hm0
  go_enter Tryz.func80, Tryz.ntmps80
  go_wp2_with fail
  refine (fits_any pb db ob P _ _ _ _ HP.out).mono ?_
  rintro e w' ⟨rfl, rfl⟩
  rw [show (0 : Int) = ((0 : Nat) : Int) from rfl, Hf.out]
  go_wp2_with (refine wpList_copy_nothing rfl (.tmp 24) (.tmp 25) 44 44 rfl 5 Tryz.underlying44 (by kernel_rfl) _ _ _ _ _ _ rfl rfl (by simp) ?_)
  all_goals go_ret
  all_goals refine ⟨rfl, ?_, Kept.refl _ _⟩
  all_goals rw [Hw.out]
  all_goals refine ⟨HP.out.hp, HP.out.hd.cells (row_congr fun i _ => ?_), HP.out.ho, HP.out.n1, HP.out.n2, HP.out.n3, HP.out.lo, HP.out.hi, fun i => ?_⟩
  all_goals first
  | (show Value.int .u8 (P.D i) = Value.int .u8 (if k * 64 + q <= i /\ i < k * 64 + q + 0 then B (i - (k * 64 + q)) else P.D i)
     rw [if_neg (by omega)])
  | (show 0 <= (if k * 64 + q <= i /\ i < k * 64 + q + 0 then B (i - (k * 64 + q)) else P.D i) /\ (if k * 64 + q <= i /\ i < k * 64 + q + 0 then B (i - (k * 64 + q)) else P.D i) <= 255
     rw [if_neg (by omega)]; exact HP.out.bd i)
 ·obtain ⟨bb, bo, rfl, hb'⟩ := hb.resolve_left hm0
  have Hb := Lib.hid hb'; clear hb' hb
  have hqs : (q : Int) < 64 := by omega
  have hqn : ¬ (64 = q) := by omega
  go_enter Tryz.func80, Tryz.ntmps80
  go_wp2_with fail
  refine (fits_any pb db ob P _ _ _ _ HP.out).mono ?_
  rintro e w' ⟨rfl, rfl⟩
  rw [Hf.out]
  go_wp2_with (refine wpList_copy_own rfl (.tmp 24) (.tmp 25) 44 44 rfl 5 Tryz.underlying44 (by kernel_rfl) db (k * 64 + q) _ _ ⟨bb, bo, none⟩ _ _ rfl rfl _ _ HP.out.hd ((List.range m).map fun j => Value.int .u8 (B j)) (by rw [List.length_map, List.length_range]; exact (Nat.min_eq_left (by omega)).symm) (copy_src Hb.out) (by rw [row_size]; simp; omega) (fun v hv => by obtain ⟨j, _, rfl⟩ := List.mem_map.1 hv; rfl) ?_)
  go_ret
  refine ⟨rfl, ?_, (Kept.refl _ _).setRow (.inr (.inr (.inl rfl))) _⟩
  rw [Hw.out]
  exact HP.out.bytes (k * 64 + q) m B (by omega) HB.out
theorem write_any (pb db ob : Nat) (P : Pool) (f off : Int) (a : Option Addr) (m c : Nat) (B : Nat -> Int) (w : World) (hP : PoolAt w pb db ob P) (hb : BytesIn w a m B) (hB : ∀ j, j < m -> 0 <= B j /\ B j <= 255) :
  Calls Tryz.prog 80 #[.pointer (some ⟨pb, 0, none⟩), .int .i64 f, .int .i64 off, .slice a m c] w fun e w' => e = .returned (.bool (P.fits f off m)) /\ PoolAt w' pb db ob (P.write f off m B) /\ Kept (PS pb db ob) w w' := by
 cases hf : P.fits f off m
 ·refine (write_no pb db ob P f off a m c w hP hf).mono ?_
  rintro e w' ⟨rfl, rfl⟩
  refine ⟨rfl, ?_, Kept.refl _ _⟩
  unfold Pool.write; rw [hf]; exact hP
 ·exact write_yes pb db ob P f off a m c B w hP hf hb hB
theorem info5 : (Tryz.prog.info? 5).map (fun i => (i.zero, i.size, i.bytes)) = some (some (.int .u8 0), 1, 1) := by kernel_rfl
theorem read_no (pb db ob : Nat) (P : Pool) (f off n : Int) (w : World) (hP : PoolAt w pb db ob P) (hf : P.fits f off n = false) :
  Calls Tryz.prog 67 #[.pointer (some ⟨pb, 0, none⟩), .int .i64 f, .int .i64 off, .int .i64 n] w fun e w' => e = .returned (.slice none 0 0) /\ w = w' := by
 have HP := Lib.hid hP; clear hP
 have Hf := Lib.hid hf; clear hf
 go_enter Tryz.func67, Tryz.ntmps67
 go_wp2_with fail
 refine (fits_any pb db ob P _ _ _ _ HP.out).mono ?_
 rintro e w' ⟨rfl, rfl⟩
 rw [Hf.out]
 go_wp2_with fail
 go_ret
 exact ⟨rfl, rfl⟩
def Pool.cells (P : Pool) (o n : Nat) : List Value := (List.range n).map fun j => Value.int .u8 (P.D (o + j))
theorem read_yes (pb db ob : Nat) (P : Pool) (f off n : Int) (w : World) (hP : PoolAt w pb db ob P) (hf : P.fits f off n = true) :
  Calls Tryz.prog 67 #[.pointer (some ⟨pb, 0, none⟩), .int .i64 f, .int .i64 off, .int .i64 n] w fun e w' =>
   ∃ v, e = .returned v /\ w'.ownsRow w.heap.size 5 1 v n.toNat (P.cells ((f.toNat - 1) * 64 + off.toNat) n.toNat) /\ Below w.heap.size w w' := by
 obtain ⟨g1, g2, g3, g4, g5⟩ := (P.fits_iff f off n).1 hf
 obtain ⟨t1, t2⟩ := (P.there_iff f).1 (P.owner_there f g1)
 obtain ⟨k, rfl⟩ : ∃ k : Nat, f = (k : Int) + 1 := ⟨(f - 1).toNat, by omega⟩
 obtain ⟨q, rfl⟩ : ∃ q : Nat, off = (q : Int) := ⟨off.toNat, by omega⟩
 obtain ⟨m, rfl⟩ : ∃ m : Nat, n = (m : Int) := ⟨n.toNat, by omega⟩
 have e1 : ((k : Int) + 1).toNat - 1 = k := by omega
 rw [e1, Int.toNat_natCast, Int.toNat_natCast]
 have hq64 : (q : Int) <= 64 := by omega
 have hqm : (q : Int) + m <= 64 := by omega
 have hql : (q : Int) <= (q : Int) + m := by omega
 have hc := hP.hp.cell
 have hhi := hP.hi
 have hkn : k < P.n := by omega
 obtain ⟨i0, hi, hz0, hz1, hz2⟩ := info_parts info5
 have Hi := Lib.hid hi; have Hz0 := Lib.hid hz0; have Hz1 := Lib.hid hz1; have Hz2 := Lib.hid hz2
 have HP := Lib.hid hP; clear hP
 have Hf := Lib.hid hf; clear hf
 clear g1 e1 hi hz0 hz1 hz2
 have hsrc : ∀ j, j < m -> w.cell? ⟨db, k * 64 + q + j, none⟩ = some (.int .u8 (P.D (k * 64 + q + j))) := fun j hj => HP.out.hd.rowAt (k * 64 + q + j) (by omega)
 have Hsrc := Lib.hid hsrc; clear hsrc
 by_cases hq : q = 64
 ·have hm0 : m = 0 := by omega
  subst hm0
  subst hq
  go_enter Tryz.func67, Tryz.ntmps67
  go_wp2_with fail
  refine (fits_any pb db ob P _ _ _ _ HP.out).mono ?_
  rintro e w' ⟨rfl, rfl⟩
  rw [show (64 : Int) = ((64 : Nat) : Int) from rfl, show (0 : Int) = ((0 : Nat) : Int) from rfl, Hf.out]
  go_wp2_with (at_builtin; refine wpList_append_own _ rfl _ _ 44 rfl w.heap.size 5 i0 (.int .u8 0) 1 1 Tryz.underlying44 Hi.out Hz0.out Hz1.out Hz2.out rfl (by decide) _ _ _ rfl (World.ownsRow_nil _ _ _ _) ⟨db, k * 64, none⟩ 0 _ [] rfl rfl (fun j u h => by simp at h) (fun u hu => by cases hu) (by unfold maxLen; omega) (by omega) (Nat.le_refl _) ?_; intro v' w2 hown hgrow _)
  go_ret
  exact ⟨_, rfl, by simpa [Pool.cells] using hown, Below.grown (Below.refl _ _) hgrow (Nat.le_refl _) (fun k hk => by cases hk)⟩
 ·have hqs : (q : Int) < 64 := by omega
  have hqn : ¬ (64 = q) := by omega
  go_enter Tryz.func67, Tryz.ntmps67
  go_wp2_with fail
  refine (fits_any pb db ob P _ _ _ _ HP.out).mono ?_
  rintro e w' ⟨rfl, rfl⟩
  rw [Hf.out]
  go_wp2_with (at_builtin; refine wpList_append_own _ rfl _ _ 44 rfl w.heap.size 5 i0 (.int .u8 0) 1 1 Tryz.underlying44 Hi.out Hz0.out Hz1.out Hz2.out rfl (by decide) _ _ _ rfl (World.ownsRow_nil _ _ _ _) ⟨db, k * 64 + q, none⟩ (q + m - q) _ (P.cells (k * 64 + q) (q + m - q)) rfl (by simp [Pool.cells]) (copy_src (fun j hj => Hsrc.out j (by omega))) (fun v hv => by obtain ⟨j, _, rfl⟩ := List.mem_map.1 hv; rfl) (by unfold maxLen; omega) (by omega) (Nat.le_refl _) ?_; intro v' w2 hown hgrow _)
  go_ret
  have e : q + m - q = m := by omega
  rw [e] at hown
  exact ⟨_, rfl, by simpa using hown, Below.grown (Below.refl _ _) hgrow (Nat.le_refl _) (fun k hk => by cases hk)⟩
theorem blk_new_at (w : World) (c : Array Value) (t b : Nat) (h : b = w.heap.size) : Blk (w.alloc (.cells c t)) b c t := by subst h; exact Blk.new w c t
def newPool (n : Nat) : Pool := ⟨n, fun _ => 0, fun _ => 0⟩
theorem freeTo_zero (n : Nat) : freeTo (fun _ => 0) n = n := by
 induction n with
 | zero => rfl
 | succ n ih => unfold freeTo; rw [ih]; simp
theorem made_row (z : Array Value) (v : Value) (n : Nat) (hz : 0 < z.size) (h : ∀ i, i < z.size -> z[i]! = v) : madeCells z n = row n (fun _ => v) := by
 refine row_ext (size_madeCells z n) fun i hi => ?_
 unfold madeCells
 rw [Array.getElem?_map, Array.getElem?_range, if_pos hi]
 simp only [Option.map_some]
 rw [h _ (Nat.mod_lt _ hz)]
theorem run_make94 (n : Nat) (h : n <= 4096) (w : World) : (Instr.makeSlice 158 (.int .i64 n) (.int .i64 n)).run Tryz.prog w =
  .ok (.slice (some ⟨w.heap.size, 0, none⟩) n n) (w.alloc (.cells (row (n * 64) fun _ => .int .u8 0) 163)) := by
 obtain ⟨i, hi, hz, hs, hb⟩ : ∃ i, Tryz.prog.info? 163 = some i /\ i.zero = some (.agg (Array.replicate 64 (.int .u8 0))) /\ i.size = 64 /\ i.bytes = 64 :=
  info_parts (by kernel_rfl)
 have := run_make (P := Tryz.prog) w 158 163 i _ Tryz.underlying158 hi hz .i64 .i64 n n (by omega) (by omega) (by rw [hb]; omega) (by omega)
 rw [this, hs, Int.toNat_natCast]
 rw [made_row _ (.int .u8 0) _ (by simp [Value.cells]) (fun i hi => by
  simp [Value.cells] at hi ⊢; simp [hi])]
theorem run_make45 (n : Nat) (h : n <= 4096) (w : World) : (Instr.makeSlice 52 (.int .i64 n) (.int .i64 n)).run Tryz.prog w =
  .ok (.slice (some ⟨w.heap.size, 0, none⟩) n n) (w.alloc (.cells (row n fun _ => .int .u64 0) 40)) := by
 obtain ⟨i, hi, hz, hs, hb⟩ : ∃ i, Tryz.prog.info? 40 = some i /\ i.zero = some (.int .u64 0) /\ i.size = 1 /\ i.bytes = 8 :=
  info_parts (by kernel_rfl)
 have := run_make (P := Tryz.prog) w 52 40 i _ Tryz.underlying52 hi hz .i64 .i64 n n (by omega) (by omega) (by rw [hb]; omega) (by omega)
 rw [this, hs, Int.toNat_natCast]
 rw [made_row _ (.int .u64 0) _ (by simp [Value.cells]) (fun i hi => by
  simp [Value.cells] at hi ⊢; subst hi; rfl), Nat.mul_one]
theorem new_any (n : Nat) (w : World) (h1 : 1 <= n) (h2 : n <= 4096) :
  Calls Tryz.prog 22 #[.int .i64 n] w fun e w' => ∃ pb db ob, e = .returned (.pointer (some ⟨pb, 0, none⟩)) /\ PoolAt w' pb db ob (newPool n) /\ w.heap.size <= pb /\ w.heap.size <= db /\ w.heap.size <= ob /\ Below w.heap.size w w' := by
 have m1 := run_make94 n h2
 have m2 := run_make45 n h2
 have hi1 : (1 : Int) <= n := by omega
 have hi2 : (n : Int) <= 4096 := by omega
 go_enter Tryz.func22, Tryz.ntmps22
 go_wp2
 go_region
 all_goals go_wp2
 all_goals go_ret
 ·refine ⟨w.heap.size + 1 + 1, w.heap.size, w.heap.size + 1, rfl, PoolAt.drew ⟨Blk.cells (blk_new_at _ _ _ _ (by simp)) ?_, ((blk_new_at _ _ _ _ rfl).alloc _).alloc _, (blk_new_at _ _ _ _ (by simp)).alloc _, by omega, by omega, by omega, h1, h2, fun _ => by simp [newPool]⟩, by omega, by omega, by omega, ((((Below.refl _ _).alloc (Nat.le_refl _) _).alloc (by simp) _).alloc (by simp; omega) _).drew⟩
  simp [newPool, Pool.left, freeTo_zero]
 ·refine ⟨w.heap.size + 1 + 1, w.heap.size + 1, w.heap.size, rfl, PoolAt.drew ⟨Blk.cells (blk_new_at _ _ _ _ (by simp)) ?_, (blk_new_at _ _ _ _ (by simp)).alloc _, ((blk_new_at _ _ _ _ rfl).alloc _).alloc _, by omega, by omega, by omega, h1, h2, fun _ => by simp [newPool]⟩, by omega, by omega, by omega, ((((Below.refl _ _).alloc (Nat.le_refl _) _).alloc (by simp) _).alloc (by simp; omega) _).drew⟩
  simp [newPool, Pool.left, freeTo_zero]
end Go.Proofs.YtmlcgebahdcmaaaGreatDoor
