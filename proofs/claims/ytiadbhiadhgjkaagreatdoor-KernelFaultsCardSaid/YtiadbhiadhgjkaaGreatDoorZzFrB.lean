/- Of the proof of this claim: a joined text. -/
import Derived.Test.YtiadbhiadhgjkaaGreatDoorZzWoMr
import Derived.BigRegion
import Derived.Deep.RegionHeld3
import Derived.Deep.MidRow
import Derived.Deep.QuietTactic
import Derived.BigQuiet
import Derived.Deep.DeepCutAuto
import Derived.Deep.CutBlock
import Derived.IntWalk
import Derived.Test.YtiadbhiadhgjkaaGreatDoorZzLib
import Derived.StillTailTactics
import Derived.Deep.LoopGhost
set_option maxRecDepth 100000
set_option maxHeartbeats 1000000
namespace Go.Proofs.YtiadbhiadhgjkaaGreatDoor
open Go.RowKit
attribute [local irreducible] World.setCell World.alloc World.drew World.setRow Calls Code.wp row
theorem there_set {w : World} {b o n : Nat} (h : w.there b o n) (a : Addr) (v : Value) : (w.setCell a v).there b o n := by
 intro j hj;obtain ⟨h1, h2⟩ := h j hj;refine ⟨?_, by rw [World.frozen?_setCell]; exact h2⟩;by_cases e : a = ⟨b, o + j, none⟩
 ·subst e; rw [World.cell?_setCell_same' _ _ _ h1]; rfl
 ·rw [World.cell?_setCell_other _ _ _ _ e]; exact h1
theorem PoolAt.owners {w : World} {pb db ob : Nat} {P : Pool} (h : PoolAt w pb db ob P) (k : Nat) (v L : Int) (hL : L = (freeTo (updI P.O k v) P.n : Nat)) :
  PoolAt ((w.setCell ⟨ob, k, none⟩ (.int .u64 v)).setCell ⟨pb, 2, none⟩ (.int .i64 L)) pb db ob ⟨P.n, updI P.O k v, P.D⟩ := by
 refine ⟨?_, (h.hd.set_other (a := ⟨ob, k, none⟩) (fun e => h.n3 e.symm) _).set_other (a := ⟨pb, 2, none⟩) h.n1 _, ?_, h.n1, h.n2, h.n3, h.lo, h.hi, h.bd⟩
 ·refine Blk.cells ((h.hp.set_other (a := ⟨ob, k, none⟩) (fun e => h.n2 e.symm) _).set 2 _) ?_
  simp [Pool.left, hL]
 ·refine (Blk.cells (h.ho.set k _) ?_).set_other (a := ⟨pb, 2, none⟩) h.n2 _
  rw [row_set];refine row_congr fun i _ => ?_
  by_cases e : i = k
  ·rw [if_pos e]; simp [updI, e]
  ·rw [if_neg e]; simp [updI, e]
theorem free_any (pb db ob : Nat) (P : Pool) (f : Int) (w : World) (hP : PoolAt w pb db ob P) :
  Calls Tryz.prog 110 #[.pointer (some ⟨pb, 0, none⟩), .int .i64 f] w fun e w' => e = .returned (.tuple #[]) /\ PoolAt w' pb db ob (P.free f) /\ Kept (PS pb db ob) w w' := by
 have hc := hP.hp.cell;have hfp := hP.hp.free;have hfo := hP.ho.free;have hn2 := hP.n2;have hhi := hP.hi;have hll := freeTo_le P.O P.n;have hll : P.left <= 4096 := by unfold Pool.left; omega
 by_cases ht : P.there f = true
 ·obtain ⟨h1, h2⟩ := (P.there_iff f).1 ht
  have how : P.owner f = P.O (f.toNat - 1) := by unfold Pool.owner; rw [if_pos ht]
  obtain ⟨k, rfl⟩ : ∃ k : Nat, f = (k : Int) + 1 := ⟨(f - 1).toNat, by omega⟩;have e : ((k : Int) + 1).toNat - 1 = k := by omega
  rw [e] at how;have ho := hP.ho.rowAt k (by omega);have hf : P.free ((k : Int) + 1) = if P.O k ≠ 0 then ⟨P.n, updI P.O k 0, P.D⟩ else P := by unfold Pool.free; rw [how, e]
  have hup := freeTo_upd P.O 0 k P.n (by omega);have HP := Lib.hid hP; clear hP;have Hf := Lib.hid hf; clear hf;have Hup := Lib.hid hup; clear hup;have Ht := Lib.hid ht; clear ht how e
  cases e1 : (P.O k != 0)
  ·go_enter Tryz.func110, Tryz.ntmps110
   go_wp2_with fail
   refine (there_any pb db ob P _ _ HP.out).mono ?_;rintro e w' ⟨rfl, rfl⟩;rw [Ht.out];go_wp2_with fail
   go_end0
   exact ⟨rfl, by rw [Hf.out, if_neg (by simpa using e1)]; exact HP.out, Kept.refl _ _⟩
  ·go_enter Tryz.func110, Tryz.ntmps110
   go_wp2_with fail
   refine (there_any pb db ob P _ _ HP.out).mono ?_;rintro e w' ⟨rfl, rfl⟩;rw [Ht.out];go_wp2_with fail
   go_end0
   refine ⟨rfl, ?_, ((Kept.refl _ _).setIn _ _ _ (.inr (.inr rfl))).setIn _ _ _ (.inl rfl)⟩;rw [Hf.out, if_pos (by simpa using e1)];have hup := Hup.out;have e2 : ¬ P.O k = 0 := by simpa using e1
   rw [if_neg e2] at hup;simp at hup;exact HP.out.owners k 0 _ (by unfold Pool.left; omega)
 ·have ht' : P.there f = false := by simpa using ht
  have how : P.owner f = 0 := by unfold Pool.owner; rw [if_neg ht]
  have Hf : Hid (P.free f = P) := by unfold Hid Pool.free; rw [how]; simp
  have HP := Lib.hid hP; clear hP;have Ht := Lib.hid ht'; clear ht ht' how;go_enter Tryz.func110, Tryz.ntmps110
  go_wp2_with fail
  refine (there_any pb db ob P _ _ HP.out).mono ?_;rintro e w' ⟨rfl, rfl⟩;rw [Ht.out];go_wp2_with fail
  go_end0
  exact ⟨rfl, by rw [Hf.out]; exact HP.out, Kept.refl _ _⟩
def AllocS (w : World) (pb db ob n k : Nat) : Prop :=
 w.cell? ⟨pb, 0, none⟩ = some (.slice (some ⟨db, 0, none⟩) n n) /\ w.cell? ⟨pb, 1, none⟩ = some (.slice (some ⟨ob, 0, none⟩) n n) /\ w.there db (k * 64) 64
theorem AllocS.set {w : World} {pb db ob n k : Nat} (h : AllocS w pb db ob n k) (hn : ob ≠ pb) (i : Nat) (v : Value) : AllocS (w.setCell ⟨ob, i, none⟩ v) pb db ob n k :=
 ⟨by rw [World.cell?_setCell_far _ _ _ _ hn]; exact h.1, by rw [World.cell?_setCell_far _ _ _ _ hn]; exact h.2.1, there_set h.2.2 _ _⟩
theorem AllocS.sets {w : World} {pb db ob n k : Nat} (h : AllocS w pb db ob n k) (hn : pb ≠ db) (o : Nat) (vs : List Value) : AllocS (w.setCells db o vs) pb db ob n k :=
 ⟨by rw [World.cell?_setCells_out _ _ _ _ _ (fun e => absurd e hn)]; exact h.1, by rw [World.cell?_setCells_out _ _ _ _ _ (fun e => absurd e hn)]; exact h.2.1, World.there_setCells h.2.2 _ _ _⟩
theorem AllocS.drew {w : World} {pb db ob n k : Nat} (h : AllocS w pb db ob n k) : AllocS w.drew pb db ob n k :=
 ⟨by rw [World.cell?_drew]; exact h.1, by rw [World.cell?_drew]; exact h.2.1, (World.there_drew _ _ _ _).2 h.2.2⟩
theorem zeros_one : ∀ v ∈ [Value.int .u8 0, Value.int .u8 0, Value.int .u8 0, Value.int .u8 0, Value.int .u8 0, Value.int .u8 0, Value.int .u8 0, Value.int .u8 0, Value.int .u8 0, Value.int .u8 0, Value.int .u8 0, Value.int .u8 0, Value.int .u8 0, Value.int .u8 0, Value.int .u8 0, Value.int .u8 0, Value.int .u8 0, Value.int .u8 0, Value.int .u8 0, Value.int .u8 0, Value.int .u8 0, Value.int .u8 0, Value.int .u8 0, Value.int .u8 0, Value.int .u8 0, Value.int .u8 0, Value.int .u8 0, Value.int .u8 0, Value.int .u8 0, Value.int .u8 0, Value.int .u8 0, Value.int .u8 0, Value.int .u8 0, Value.int .u8 0, Value.int .u8 0, Value.int .u8 0, Value.int .u8 0, Value.int .u8 0, Value.int .u8 0, Value.int .u8 0, Value.int .u8 0, Value.int .u8 0, Value.int .u8 0, Value.int .u8 0, Value.int .u8 0, Value.int .u8 0, Value.int .u8 0, Value.int .u8 0, Value.int .u8 0, Value.int .u8 0, Value.int .u8 0, Value.int .u8 0, Value.int .u8 0, Value.int .u8 0, Value.int .u8 0, Value.int .u8 0, Value.int .u8 0, Value.int .u8 0, Value.int .u8 0, Value.int .u8 0, Value.int .u8 0, Value.int .u8 0, Value.int .u8 0, Value.int .u8 0], v.oneCell' = true := by
 intro v hv;have e : [Value.int .u8 0, Value.int .u8 0, Value.int .u8 0, Value.int .u8 0, Value.int .u8 0, Value.int .u8 0, Value.int .u8 0, Value.int .u8 0, Value.int .u8 0, Value.int .u8 0, Value.int .u8 0, Value.int .u8 0, Value.int .u8 0, Value.int .u8 0, Value.int .u8 0, Value.int .u8 0, Value.int .u8 0, Value.int .u8 0, Value.int .u8 0, Value.int .u8 0, Value.int .u8 0, Value.int .u8 0, Value.int .u8 0, Value.int .u8 0, Value.int .u8 0, Value.int .u8 0, Value.int .u8 0, Value.int .u8 0, Value.int .u8 0, Value.int .u8 0, Value.int .u8 0, Value.int .u8 0, Value.int .u8 0, Value.int .u8 0, Value.int .u8 0, Value.int .u8 0, Value.int .u8 0, Value.int .u8 0, Value.int .u8 0, Value.int .u8 0, Value.int .u8 0, Value.int .u8 0, Value.int .u8 0, Value.int .u8 0, Value.int .u8 0, Value.int .u8 0, Value.int .u8 0, Value.int .u8 0, Value.int .u8 0, Value.int .u8 0, Value.int .u8 0, Value.int .u8 0, Value.int .u8 0, Value.int .u8 0, Value.int .u8 0, Value.int .u8 0, Value.int .u8 0, Value.int .u8 0, Value.int .u8 0, Value.int .u8 0, Value.int .u8 0, Value.int .u8 0, Value.int .u8 0, Value.int .u8 0] = List.replicate 64 (Value.int .u8 0) := by rfl
 rw [e] at hv;rw [List.eq_of_mem_replicate hv]; rfl
theorem zeros_at (i : Nat) (h : i < 64) : [Value.int .u8 0, Value.int .u8 0, Value.int .u8 0, Value.int .u8 0, Value.int .u8 0, Value.int .u8 0, Value.int .u8 0, Value.int .u8 0, Value.int .u8 0, Value.int .u8 0, Value.int .u8 0, Value.int .u8 0, Value.int .u8 0, Value.int .u8 0, Value.int .u8 0, Value.int .u8 0, Value.int .u8 0, Value.int .u8 0, Value.int .u8 0, Value.int .u8 0, Value.int .u8 0, Value.int .u8 0, Value.int .u8 0, Value.int .u8 0, Value.int .u8 0, Value.int .u8 0, Value.int .u8 0, Value.int .u8 0, Value.int .u8 0, Value.int .u8 0, Value.int .u8 0, Value.int .u8 0, Value.int .u8 0, Value.int .u8 0, Value.int .u8 0, Value.int .u8 0, Value.int .u8 0, Value.int .u8 0, Value.int .u8 0, Value.int .u8 0, Value.int .u8 0, Value.int .u8 0, Value.int .u8 0, Value.int .u8 0, Value.int .u8 0, Value.int .u8 0, Value.int .u8 0, Value.int .u8 0, Value.int .u8 0, Value.int .u8 0, Value.int .u8 0, Value.int .u8 0, Value.int .u8 0, Value.int .u8 0, Value.int .u8 0, Value.int .u8 0, Value.int .u8 0, Value.int .u8 0, Value.int .u8 0, Value.int .u8 0, Value.int .u8 0, Value.int .u8 0, Value.int .u8 0, Value.int .u8 0][i]? = some (Value.int .u8 0) := by
 have e : [Value.int .u8 0, Value.int .u8 0, Value.int .u8 0, Value.int .u8 0, Value.int .u8 0, Value.int .u8 0, Value.int .u8 0, Value.int .u8 0, Value.int .u8 0, Value.int .u8 0, Value.int .u8 0, Value.int .u8 0, Value.int .u8 0, Value.int .u8 0, Value.int .u8 0, Value.int .u8 0, Value.int .u8 0, Value.int .u8 0, Value.int .u8 0, Value.int .u8 0, Value.int .u8 0, Value.int .u8 0, Value.int .u8 0, Value.int .u8 0, Value.int .u8 0, Value.int .u8 0, Value.int .u8 0, Value.int .u8 0, Value.int .u8 0, Value.int .u8 0, Value.int .u8 0, Value.int .u8 0, Value.int .u8 0, Value.int .u8 0, Value.int .u8 0, Value.int .u8 0, Value.int .u8 0, Value.int .u8 0, Value.int .u8 0, Value.int .u8 0, Value.int .u8 0, Value.int .u8 0, Value.int .u8 0, Value.int .u8 0, Value.int .u8 0, Value.int .u8 0, Value.int .u8 0, Value.int .u8 0, Value.int .u8 0, Value.int .u8 0, Value.int .u8 0, Value.int .u8 0, Value.int .u8 0, Value.int .u8 0, Value.int .u8 0, Value.int .u8 0, Value.int .u8 0, Value.int .u8 0, Value.int .u8 0, Value.int .u8 0, Value.int .u8 0, Value.int .u8 0, Value.int .u8 0, Value.int .u8 0] = List.replicate 64 (Value.int .u8 0) := by rfl
 rw [e, List.getElem?_replicate, if_pos h]
theorem Blk.setCells {t b n : Nat} : ∀ (vs : List Value) (o : Nat) (w : World) (f : Nat -> Value), Blk w b (row n f) t -> o + vs.length <= n -> Blk (w.setCells b o vs) b (row n (fun j => if o <= j /\ j < o + vs.length then vs.getD (j - o) undef else f j)) t
 | [], o, w, f, h, _ => by
  refine Blk.cells h (row_congr fun i _ => ?_);rw [if_neg (by simp only [List.length_nil]; omega)]
 | v :: r, o, w, f, h, hl => by
  have h1 := (h.set o v).cells (row_set n f o v);have h2 := Blk.setCells r (o + 1) (w.setCell ⟨b, o, none⟩ v) _ h1 (by simp at hl; omega);refine Blk.cells (show Blk ((w.setCell ⟨b, o, none⟩ v).setCells b (o + 1) r) b _ t from h2) (row_congr fun i _ => ?_);by_cases e : i = o
  ·subst e
   rw [if_neg (by omega), if_pos rfl, if_pos (by simp)]; simp
  ·by_cases e1 : o + 1 <= i /\ i < o + 1 + r.length
   ·rw [if_pos e1, if_pos (by simp; omega)]
    have : i - o = (i - (o + 1)) + 1 := by omega
    rw [this]; simp
   ·rw [if_neg e1, if_neg e, if_neg (by simp only [List.length_cons]; omega)]
theorem Kept.setCells {S : Nat -> Prop} {w : World} {b : Nat} (hb : S b) : ∀ (vs : List Value) (o : Nat) (w1 : World), Kept S w w1 -> Kept S w (w1.setCells b o vs)
 | [], _, _, h => h
 | v :: r, o, w1, h => Kept.setCells hb r (o + 1) (w1.setCell ⟨b, o, none⟩ v) (h.setIn b o v hb)
theorem PoolAt.charge {w : World} {pb db ob : Nat} {P : Pool} (h : PoolAt w pb db ob P) (k : Nat) (hk : k < P.n) (o : Int) :
  Blk ((w.setCell ⟨ob, k, none⟩ (.int .u64 o)).drew.setCells db (k * 64) [Value.int .u8 0, Value.int .u8 0, Value.int .u8 0, Value.int .u8 0, Value.int .u8 0, Value.int .u8 0, Value.int .u8 0, Value.int .u8 0, Value.int .u8 0, Value.int .u8 0, Value.int .u8 0, Value.int .u8 0, Value.int .u8 0, Value.int .u8 0, Value.int .u8 0, Value.int .u8 0, Value.int .u8 0, Value.int .u8 0, Value.int .u8 0, Value.int .u8 0, Value.int .u8 0, Value.int .u8 0, Value.int .u8 0, Value.int .u8 0, Value.int .u8 0, Value.int .u8 0, Value.int .u8 0, Value.int .u8 0, Value.int .u8 0, Value.int .u8 0, Value.int .u8 0, Value.int .u8 0, Value.int .u8 0, Value.int .u8 0, Value.int .u8 0, Value.int .u8 0, Value.int .u8 0, Value.int .u8 0, Value.int .u8 0, Value.int .u8 0, Value.int .u8 0, Value.int .u8 0, Value.int .u8 0, Value.int .u8 0, Value.int .u8 0, Value.int .u8 0, Value.int .u8 0, Value.int .u8 0, Value.int .u8 0, Value.int .u8 0, Value.int .u8 0, Value.int .u8 0, Value.int .u8 0, Value.int .u8 0, Value.int .u8 0, Value.int .u8 0, Value.int .u8 0, Value.int .u8 0, Value.int .u8 0, Value.int .u8 0, Value.int .u8 0, Value.int .u8 0, Value.int .u8 0, Value.int .u8 0]) pb #[.slice (some ⟨db, 0, none⟩) P.n P.n, .slice (some ⟨ob, 0, none⟩) P.n P.n, .int .i64 P.left] 184 /\
  Blk ((w.setCell ⟨ob, k, none⟩ (.int .u64 o)).drew.setCells db (k * 64) [Value.int .u8 0, Value.int .u8 0, Value.int .u8 0, Value.int .u8 0, Value.int .u8 0, Value.int .u8 0, Value.int .u8 0, Value.int .u8 0, Value.int .u8 0, Value.int .u8 0, Value.int .u8 0, Value.int .u8 0, Value.int .u8 0, Value.int .u8 0, Value.int .u8 0, Value.int .u8 0, Value.int .u8 0, Value.int .u8 0, Value.int .u8 0, Value.int .u8 0, Value.int .u8 0, Value.int .u8 0, Value.int .u8 0, Value.int .u8 0, Value.int .u8 0, Value.int .u8 0, Value.int .u8 0, Value.int .u8 0, Value.int .u8 0, Value.int .u8 0, Value.int .u8 0, Value.int .u8 0, Value.int .u8 0, Value.int .u8 0, Value.int .u8 0, Value.int .u8 0, Value.int .u8 0, Value.int .u8 0, Value.int .u8 0, Value.int .u8 0, Value.int .u8 0, Value.int .u8 0, Value.int .u8 0, Value.int .u8 0, Value.int .u8 0, Value.int .u8 0, Value.int .u8 0, Value.int .u8 0, Value.int .u8 0, Value.int .u8 0, Value.int .u8 0, Value.int .u8 0, Value.int .u8 0, Value.int .u8 0, Value.int .u8 0, Value.int .u8 0, Value.int .u8 0, Value.int .u8 0, Value.int .u8 0, Value.int .u8 0, Value.int .u8 0, Value.int .u8 0, Value.int .u8 0, Value.int .u8 0]) db (row (P.n * 64) fun j => .int .u8 (if k * 64 <= j /\ j < k * 64 + 64 then 0 else P.D j)) 186 /\
  Blk ((w.setCell ⟨ob, k, none⟩ (.int .u64 o)).drew.setCells db (k * 64) [Value.int .u8 0, Value.int .u8 0, Value.int .u8 0, Value.int .u8 0, Value.int .u8 0, Value.int .u8 0, Value.int .u8 0, Value.int .u8 0, Value.int .u8 0, Value.int .u8 0, Value.int .u8 0, Value.int .u8 0, Value.int .u8 0, Value.int .u8 0, Value.int .u8 0, Value.int .u8 0, Value.int .u8 0, Value.int .u8 0, Value.int .u8 0, Value.int .u8 0, Value.int .u8 0, Value.int .u8 0, Value.int .u8 0, Value.int .u8 0, Value.int .u8 0, Value.int .u8 0, Value.int .u8 0, Value.int .u8 0, Value.int .u8 0, Value.int .u8 0, Value.int .u8 0, Value.int .u8 0, Value.int .u8 0, Value.int .u8 0, Value.int .u8 0, Value.int .u8 0, Value.int .u8 0, Value.int .u8 0, Value.int .u8 0, Value.int .u8 0, Value.int .u8 0, Value.int .u8 0, Value.int .u8 0, Value.int .u8 0, Value.int .u8 0, Value.int .u8 0, Value.int .u8 0, Value.int .u8 0, Value.int .u8 0, Value.int .u8 0, Value.int .u8 0, Value.int .u8 0, Value.int .u8 0, Value.int .u8 0, Value.int .u8 0, Value.int .u8 0, Value.int .u8 0, Value.int .u8 0, Value.int .u8 0, Value.int .u8 0, Value.int .u8 0, Value.int .u8 0, Value.int .u8 0, Value.int .u8 0]) ob (row P.n fun i => .int .u64 (updI P.O k o i)) 37 /\
  Kept (PS pb db ob) w ((w.setCell ⟨ob, k, none⟩ (.int .u64 o)).drew.setCells db (k * 64) [Value.int .u8 0, Value.int .u8 0, Value.int .u8 0, Value.int .u8 0, Value.int .u8 0, Value.int .u8 0, Value.int .u8 0, Value.int .u8 0, Value.int .u8 0, Value.int .u8 0, Value.int .u8 0, Value.int .u8 0, Value.int .u8 0, Value.int .u8 0, Value.int .u8 0, Value.int .u8 0, Value.int .u8 0, Value.int .u8 0, Value.int .u8 0, Value.int .u8 0, Value.int .u8 0, Value.int .u8 0, Value.int .u8 0, Value.int .u8 0, Value.int .u8 0, Value.int .u8 0, Value.int .u8 0, Value.int .u8 0, Value.int .u8 0, Value.int .u8 0, Value.int .u8 0, Value.int .u8 0, Value.int .u8 0, Value.int .u8 0, Value.int .u8 0, Value.int .u8 0, Value.int .u8 0, Value.int .u8 0, Value.int .u8 0, Value.int .u8 0, Value.int .u8 0, Value.int .u8 0, Value.int .u8 0, Value.int .u8 0, Value.int .u8 0, Value.int .u8 0, Value.int .u8 0, Value.int .u8 0, Value.int .u8 0, Value.int .u8 0, Value.int .u8 0, Value.int .u8 0, Value.int .u8 0, Value.int .u8 0, Value.int .u8 0, Value.int .u8 0, Value.int .u8 0, Value.int .u8 0, Value.int .u8 0, Value.int .u8 0, Value.int .u8 0, Value.int .u8 0, Value.int .u8 0, Value.int .u8 0]) := by
 have far : ∀ {w : World} {b t : Nat} {c : Array Value} (vs : List Value) (o : Nat), Blk w b c t -> db ≠ b -> Blk (w.setCells db o vs) b c t := by
  intro w b t c vs;induction vs generalizing w with
  | nil => intro o h _; exact h
  | cons v r ih => intro o h hn; exact ih (o + 1) (h.set_other (a := ⟨db, o, none⟩) hn v) hn
 refine ⟨far _ _ (h.hp.set_other (a := ⟨ob, k, none⟩) (fun e => h.n2 e.symm) _).drew (fun e => h.n1 e.symm), ?_, ?_, Kept.setCells (.inr (.inl rfl)) _ _ _ ((Kept.refl _ _).setIn _ _ _ (.inr (.inr rfl))).drew⟩
 ·refine Blk.cells (Blk.setCells _ _ _ _ (h.hd.set_other (a := ⟨ob, k, none⟩) (fun e => h.n3 e.symm) _).drew (by simp only [List.length_cons, List.length_nil]; omega)) (row_congr fun j _ => ?_)
  simp only [List.length_cons, List.length_nil, Nat.zero_add, Nat.reduceAdd];by_cases e : k * 64 <= j /\ j < k * 64 + 64
  ·rw [if_pos e, if_pos e, List.getD_eq_getElem?_getD, zeros_at _ (by omega)]; rfl
  ·rw [if_neg e, if_neg e]
 ·refine far _ _ ((h.ho.set k _).cells ?_).drew h.n3
  rw [row_set];refine row_congr fun i _ => ?_
  by_cases e : i = k
  ·rw [if_pos e]; simp [updI, e]
  ·rw [if_neg e]; simp [updI, e]
theorem size38 : (Tryz.prog.info? 186).map (·.size) = some 64 := by kernel_rfl
theorem alloc_any (pb db ob : Nat) (P : Pool) (o : Int) (w : World) (hP : PoolAt w pb db ob P) :
  Calls Tryz.prog 38 #[.pointer (some ⟨pb, 0, none⟩), .int .u64 o] w fun e w' => e = .returned (.int .i64 (P.allocRet o)) /\ PoolAt w' pb db ob (P.alloc o) /\ Kept (PS pb db ob) w w' := by
 have hc := hP.hp.cell;have hfp := hP.hp.free;have hfo := hP.ho.free;have hn1 := hP.n1;have hn2 := hP.n2;have hn3 := hP.n3;have hhi := hP.hi;have hll := freeTo_le P.O P.n;have hll : P.left <= 4096 := by unfold Pool.left; omega
 have HP := Lib.hid hP; clear hP;by_cases h0 : P.left = 0
 ·have Hr : Hid (P.allocRet o = 0 /\ P.alloc o = P) := by
   have : firstFree P.O P.n = P.n := (freeTo_pos P.O P.n).1 h0
   constructor
   ·unfold Pool.allocRet; rw [if_neg (by omega)]
   ·unfold Pool.alloc; rw [if_neg (by omega)]
  have h0b : ((P.left : Int) == 0) = true := by simpa using h0
  clear h0;go_enter Tryz.func38, Tryz.ntmps38
  go_wp2_with (go_at_call 62; refine (left_any pb db ob P _ HP.out).mono ?_; rintro e w' ⟨rfl, rfl⟩)
  go_ret;exact ⟨by rw [Hr.out.1]; rfl, by rw [Hr.out.2]; exact HP.out, Kept.refl _ _⟩
 by_cases ho0 : o = 0
 ·have Hr : Hid (P.allocRet o = 0 /\ P.alloc o = P) := by
   constructor
   ·unfold Pool.allocRet; rw [if_neg (by omega)]
   ·unfold Pool.alloc; rw [if_neg (by omega)]
  have h0b : ((P.left : Int) == 0) = false := by simpa using h0
  have ho0b : (o == 0) = true := by simpa using ho0
  clear h0 ho0;go_enter Tryz.func38, Tryz.ntmps38
  go_wp2_with (go_at_call 62; refine (left_any pb db ob P _ HP.out).mono ?_; rintro e w' ⟨rfl, rfl⟩)
  go_ret;exact ⟨by rw [Hr.out.1]; rfl, by rw [Hr.out.2]; exact HP.out, Kept.refl _ _⟩
 have hff : firstFree P.O P.n < P.n := by
  have h1 := firstFree_le P.O P.n;have h2 : ¬ firstFree P.O P.n = P.n := fun e => h0 ((freeTo_pos P.O P.n).2 e)
  omega
 have h0b : ((P.left : Int) == 0) = false := by simpa using h0
 have ho0b : (o == 0) = false := by simpa using ho0
 have Hff := Lib.hid hff; clear hff;have Ho0 := Lib.hid ho0; clear ho0;have H0 := Lib.hid h0; clear h0;go_enter Tryz.func38, Tryz.ntmps38
 go_wp2_with (go_at_call 62; refine (left_any pb db ob P _ HP.out).mono ?_; rintro e w' ⟨rfl, rfl⟩)
 go_loopg [5, 6, 19] P.n (fun g _ _ i wx => ∃ k : Nat, k + g = P.n /\ i = .int .i64 k /\ (∀ j, j < k -> P.O j ≠ 0) /\ wx = w)
 case atStart => exact ⟨0, by omega, rfl, by omega, rfl⟩
 case round =>
  obtain ⟨k, hk, rfl, hno, rfl⟩ := hrel;have Hno := Lib.hid hno; clear hno
  have hkn : k < P.n := by
   have h1 := Hff.out;have h2 := Hno.out (firstFree P.O P.n);have h3 := firstFree_free P.O P.n h1;omega
  have ho := HP.out.ho.rowAt k hkn
  cases e1 : (P.O k == 0)
  ·go_wp2_with fail
   go_roundg (P.n - (k + 1))
   case measure => omega
   case rel =>
    refine ⟨k + 1, by omega, by go_num, fun j hj => ?_, rfl⟩;rcases Nat.lt_or_eq_of_le (Nat.le_of_lt_succ hj) with h | h
    ·exact Hno.out j h
    ·subst h; simpa using e1
  ·have hki : (k : Int) < P.n := by omega
   have hk0 : (0 : Int) <= (k : Int) := by omega
   have hu := Tryz.underlying186;have hz1 : ∀ v ∈ [Value.int .u8 0, Value.int .u8 0, Value.int .u8 0, Value.int .u8 0, Value.int .u8 0, Value.int .u8 0, Value.int .u8 0, Value.int .u8 0, Value.int .u8 0, Value.int .u8 0, Value.int .u8 0, Value.int .u8 0, Value.int .u8 0, Value.int .u8 0, Value.int .u8 0, Value.int .u8 0, Value.int .u8 0, Value.int .u8 0, Value.int .u8 0, Value.int .u8 0, Value.int .u8 0, Value.int .u8 0, Value.int .u8 0, Value.int .u8 0, Value.int .u8 0, Value.int .u8 0, Value.int .u8 0, Value.int .u8 0, Value.int .u8 0, Value.int .u8 0, Value.int .u8 0, Value.int .u8 0, Value.int .u8 0, Value.int .u8 0, Value.int .u8 0, Value.int .u8 0, Value.int .u8 0, Value.int .u8 0, Value.int .u8 0, Value.int .u8 0, Value.int .u8 0, Value.int .u8 0, Value.int .u8 0, Value.int .u8 0, Value.int .u8 0, Value.int .u8 0, Value.int .u8 0, Value.int .u8 0, Value.int .u8 0, Value.int .u8 0, Value.int .u8 0, Value.int .u8 0, Value.int .u8 0, Value.int .u8 0, Value.int .u8 0, Value.int .u8 0, Value.int .u8 0, Value.int .u8 0, Value.int .u8 0, Value.int .u8 0, Value.int .u8 0, Value.int .u8 0, Value.int .u8 0, Value.int .u8 0], v.oneCell' = true := zeros_one
   have hi : (Tryz.prog.info? 186).map (·.size) = some [Value.int .u8 0, Value.int .u8 0, Value.int .u8 0, Value.int .u8 0, Value.int .u8 0, Value.int .u8 0, Value.int .u8 0, Value.int .u8 0, Value.int .u8 0, Value.int .u8 0, Value.int .u8 0, Value.int .u8 0, Value.int .u8 0, Value.int .u8 0, Value.int .u8 0, Value.int .u8 0, Value.int .u8 0, Value.int .u8 0, Value.int .u8 0, Value.int .u8 0, Value.int .u8 0, Value.int .u8 0, Value.int .u8 0, Value.int .u8 0, Value.int .u8 0, Value.int .u8 0, Value.int .u8 0, Value.int .u8 0, Value.int .u8 0, Value.int .u8 0, Value.int .u8 0, Value.int .u8 0, Value.int .u8 0, Value.int .u8 0, Value.int .u8 0, Value.int .u8 0, Value.int .u8 0, Value.int .u8 0, Value.int .u8 0, Value.int .u8 0, Value.int .u8 0, Value.int .u8 0, Value.int .u8 0, Value.int .u8 0, Value.int .u8 0, Value.int .u8 0, Value.int .u8 0, Value.int .u8 0, Value.int .u8 0, Value.int .u8 0, Value.int .u8 0, Value.int .u8 0, Value.int .u8 0, Value.int .u8 0, Value.int .u8 0, Value.int .u8 0, Value.int .u8 0, Value.int .u8 0, Value.int .u8 0, Value.int .u8 0, Value.int .u8 0, Value.int .u8 0, Value.int .u8 0, Value.int .u8 0].length := size38
   have hth : wr.there db (k * 64) 64 := by
    intro j hj;have := HP.out.hd.rowAt (k * 64 + j) (by omega);exact ⟨by rw [this]; rfl, HP.out.hd.free _⟩
   have hS : AllocS wr pb db ob P.n k := ⟨by rw [HP.out.hp.cell]; rfl, by rw [HP.out.hp.cell]; rfl, hth⟩;go_wp2_with fail
   go_region_held3 (fun w' => w'.cell? ⟨pb, 0, none⟩ = some (.slice (some ⟨db, 0, none⟩) P.n P.n) /\ w'.cell? ⟨pb, 1, none⟩ = some (.slice (some ⟨ob, 0, none⟩) P.n P.n) /\ w'.there db (k * 64) 64) (first | exact hS.drew | exact (hS.set (fun e => hn2 e.symm) _ _).drew | exact ((hS.set (fun e => hn2 e.symm) _ _).drew.sets hn1 _ _)) (fail)
   obtain ⟨h1, h2, h3, h4⟩ := HP.out.charge k hkn o;have hkf : Hid (firstFree P.O P.n = k) := firstFree_eq P.O P.n k (by omega) Hno.out (fun _ => by simpa using e1)
   have Hr : Hid (P.allocRet o = (k : Int) + 1 /\ P.alloc o = ⟨P.n, updI P.O k o, fun j => if k * 64 <= j /\ j < k * 64 + 64 then 0 else P.D j⟩) := by
    constructor
    ·unfold Pool.allocRet; rw [if_pos ⟨Ho0.out, Hff.out⟩, hkf.out]
    ·unfold Pool.alloc; rw [if_pos ⟨Ho0.out, Hff.out⟩, hkf.out]
   have hup := freeTo_upd P.O o k P.n hkn;have e2 : P.O k = 0 := by simpa using e1
   rw [if_pos e2, if_neg Ho0.out] at hup;have Hup := Lib.hid hup; clear hup;clear e1 e2 hS hth hu hi hz1 ho hc hfp hfo;generalize World.setCells _ _ _ _ = w2 at *;have hc := h1.cell;have hf := h1.free;have H1 := Lib.hid h1; have H2 := Lib.hid h2; have H3 := Lib.hid h3; have H4 := Lib.hid h4; clear h1 h2 h3 h4;have hlp : 1 <= P.left := by have := H0.out; omega
   go_wp2_with fail
   go_ret;have hupp := Hup.out;refine ⟨by rw [Hr.out.1]; rfl, ?_, ?_⟩
   ·rw [Hr.out.2]
    refine ⟨Blk.cells (H1.out.set 2 _) ?_, H2.out.set_other (a := ⟨pb, 2, none⟩) hn1 _, H3.out.set_other (a := ⟨pb, 2, none⟩) hn2 _, hn1, hn2, hn3, HP.out.lo, HP.out.hi, fun i => ?_⟩
    ·simp [Pool.left] at hupp hlp ⊢
     omega
    ·have := HP.out.bd i
     show 0 <= (if k * 64 <= i /\ i < k * 64 + 64 then (0 : Int) else P.D i) /\ (if k * 64 <= i /\ i < k * 64 + 64 then (0 : Int) else P.D i) <= 255
     split <;> omega
   ·exact H4.out.setIn _ _ _ (.inl rfl)
def BytesIn (w : World) (a : Option Addr) (m : Nat) (B : Nat -> Int) : Prop :=
 m = 0 \/ ∃ b o, a = some ⟨b, o, none⟩ /\ ∀ j, j < m -> w.cell? ⟨b, o + j, none⟩ = some (.int .u8 (B j))
theorem write_no (pb db ob : Nat) (P : Pool) (f off : Int) (a : Option Addr) (m c : Nat) (w : World) (hP : PoolAt w pb db ob P) (hf : P.fits f off m = false) :
  Calls Tryz.prog 90 #[.pointer (some ⟨pb, 0, none⟩), .int .i64 f, .int .i64 off, .slice a m c] w fun e w' => e = .returned (.bool false) /\ w = w' := by
 have HP := Lib.hid hP; clear hP;have Hf := Lib.hid hf; clear hf;go_enter Tryz.func90, Tryz.ntmps90
 go_wp2_with fail
 refine (fits_any pb db ob P _ _ _ _ HP.out).mono ?_;rintro e w' ⟨rfl, rfl⟩;rw [Hf.out];go_wp2_with fail
 go_ret;exact ⟨rfl, rfl⟩
theorem range_get (m : Nat) (B : Nat -> Int) (i : Nat) (hi : i < ((List.range m).map fun j => Value.int .u8 (B j)).length) : ((List.range m).map fun j => Value.int .u8 (B j))[i]? = some (Value.int .u8 (B i)) := by
 have h' : i < m := by simpa using hi
 simp [h']
theorem PoolAt.bytes {w : World} {pb db ob : Nat} {P : Pool} (h : PoolAt w pb db ob P) (o m : Nat) (B : Nat -> Int) (hm : o + m <= P.n * 64) (hB : ∀ j, j < m -> 0 <= B j /\ B j <= 255) :
  PoolAt (w.setRow db ((row (P.n * 64) fun i => .int .u8 (P.D i)).toList.take o ++ ((List.range m).map (fun j => Value.int .u8 (B j)) ++ (row (P.n * 64) fun i => .int .u8 (P.D i)).toList.drop (o + m))).toArray) pb db ob
   ⟨P.n, P.O, fun j => if o <= j /\ j < o + m then B (j - o) else P.D j⟩ := by
 have hl : ((List.range m).map (fun j => Value.int .u8 (B j))).length = m := by simp
 refine ⟨h.hp.setRow_other (fun e => h.n1 e.symm) _, ?_, h.ho.setRow_other h.n3 _, h.n1, h.n2, h.n3, h.lo, h.hi, fun i => ?_⟩
 ·refine Blk.cells (h.hd.setRow _) ?_
  have hsp := row_splice (P.n * 64) (fun i => .int .u8 (P.D i)) o _ (fun j => .int .u8 (B j)) (range_get m B) (by rw [hl]; exact hm);rw [hl] at hsp;rw [hsp];refine row_congr fun j _ => ?_
  by_cases e : o <= j /\ j < o + m
  ·simp [if_pos e]
  ·simp [if_neg e]
 ·have := h.bd i
  show 0 <= (if o <= i /\ i < o + m then B (i - o) else P.D i) /\ (if o <= i /\ i < o + m then B (i - o) else P.D i) <= 255
  by_cases e : o <= i /\ i < o + m
  ·simp only [if_pos e]; exact hB _ (by omega)
  ·simp only [if_neg e]; exact this
theorem copy_src {w : World} {b o m : Nat} {B : Nat -> Int} (h : ∀ j, j < m -> w.cell? ⟨b, o + j, none⟩ = some (.int .u8 (B j))) :
  ∀ (j : Nat) (v : Value), ((List.range m).map fun j => Value.int .u8 (B j))[j]? = some v -> w.cell? ((⟨b, o, none⟩ : Addr).add j) = some v := by
 intro j v hv
 have hj : j < m := by
  rcases Nat.lt_or_ge j m with h' | h'
  ·exact h'
  ·rw [List.getElem?_eq_none (by simpa using h')] at hv; cases hv
 rw [range_get m B j (by simpa using hj)] at hv;rw [Addr.add_lit, h j hj]; exact hv
theorem write_yes (pb db ob : Nat) (P : Pool) (f off : Int) (a : Option Addr) (m c : Nat) (B : Nat -> Int) (w : World) (hP : PoolAt w pb db ob P) (hf : P.fits f off m = true) (hb : BytesIn w a m B) (hB : ∀ j, j < m -> 0 <= B j /\ B j <= 255) :
  Calls Tryz.prog 90 #[.pointer (some ⟨pb, 0, none⟩), .int .i64 f, .int .i64 off, .slice a m c] w fun e w' => e = .returned (.bool true) /\ PoolAt w' pb db ob (P.write f off m B) /\ Kept (PS pb db ob) w w' := by
 obtain ⟨g1, g2, g3, g4, g5⟩ := (P.fits_iff f off m).1 hf;obtain ⟨t1, t2⟩ := (P.there_iff f).1 (P.owner_there f g1);obtain ⟨k, rfl⟩ : ∃ k : Nat, f = (k : Int) + 1 := ⟨(f - 1).toNat, by omega⟩;obtain ⟨q, rfl⟩ : ∃ q : Nat, off = (q : Int) := ⟨off.toNat, by omega⟩;have hq64 : (q : Int) <= 64 := by omega
 have hw : P.write ((k : Int) + 1) q m B = ⟨P.n, P.O, fun j => if k * 64 + q <= j /\ j < k * 64 + q + m then B (j - (k * 64 + q)) else P.D j⟩ := by
  unfold Pool.write;rw [if_pos hf];have e1 : ((k : Int) + 1).toNat - 1 = k := by omega
  simp only [e1, Int.toNat_natCast]
 have hc := hP.hp.cell;have hhi := hP.hi;have HP := Lib.hid hP; clear hP;have Hf := Lib.hid hf; clear hf;have Hw := Lib.hid hw; clear hw;have HB := Lib.hid hB; clear hB;clear g1;by_cases hm0 : m = 0
 ·subst hm0
  go_enter Tryz.func90, Tryz.ntmps90
  go_wp2_with fail
  refine (fits_any pb db ob P _ _ _ _ HP.out).mono ?_;rintro e w' ⟨rfl, rfl⟩;rw [show (0 : Int) = ((0 : Nat) : Int) from rfl, Hf.out];go_wp2_with (refine wpList_copy_nothing rfl (.tmp 24) (.tmp 25) 63 63 rfl 5 Tryz.underlying63 (by kernel_rfl) _ _ _ _ _ _ rfl rfl (by simp) ?_)
  all_goals go_ret
  all_goals refine ⟨rfl, ?_, Kept.refl _ _⟩
  all_goals rw [Hw.out]
  all_goals refine ⟨HP.out.hp, HP.out.hd.cells (row_congr fun i _ => ?_), HP.out.ho, HP.out.n1, HP.out.n2, HP.out.n3, HP.out.lo, HP.out.hi, fun i => ?_⟩
  all_goals first
  | (show Value.int .u8 (P.D i) = Value.int .u8 (if k * 64 + q <= i /\ i < k * 64 + q + 0 then B (i - (k * 64 + q)) else P.D i)
     rw [if_neg (by omega)])
  | (show 0 <= (if k * 64 + q <= i /\ i < k * 64 + q + 0 then B (i - (k * 64 + q)) else P.D i) /\ (if k * 64 + q <= i /\ i < k * 64 + q + 0 then B (i - (k * 64 + q)) else P.D i) <= 255
     rw [if_neg (by omega)]; exact HP.out.bd i)
 ·obtain ⟨bb, bo, rfl, hb'⟩ := hb.resolve_left hm0
  have Hb := Lib.hid hb'; clear hb' hb;have hqs : (q : Int) < 64 := by omega
  have hqn : ¬ (64 = q) := by omega
  go_enter Tryz.func90, Tryz.ntmps90
  go_wp2_with fail
  refine (fits_any pb db ob P _ _ _ _ HP.out).mono ?_;rintro e w' ⟨rfl, rfl⟩;rw [Hf.out];go_wp2_with (refine wpList_copy_own rfl (.tmp 24) (.tmp 25) 63 63 rfl 5 Tryz.underlying63 (by kernel_rfl) db (k * 64 + q) _ _ ⟨bb, bo, none⟩ _ _ rfl rfl _ _ HP.out.hd ((List.range m).map fun j => Value.int .u8 (B j)) (by rw [List.length_map, List.length_range]; exact (Nat.min_eq_left (by omega)).symm) (copy_src Hb.out) (by rw [row_size]; simp; omega) (fun v hv => by obtain ⟨j, _, rfl⟩ := List.mem_map.1 hv; rfl) ?_)
  go_ret;refine ⟨rfl, ?_, (Kept.refl _ _).setRow (.inr (.inr (.inl rfl))) _⟩;rw [Hw.out];exact HP.out.bytes (k * 64 + q) m B (by omega) HB.out
theorem write_any (pb db ob : Nat) (P : Pool) (f off : Int) (a : Option Addr) (m c : Nat) (B : Nat -> Int) (w : World) (hP : PoolAt w pb db ob P) (hb : BytesIn w a m B) (hB : ∀ j, j < m -> 0 <= B j /\ B j <= 255) :
  Calls Tryz.prog 90 #[.pointer (some ⟨pb, 0, none⟩), .int .i64 f, .int .i64 off, .slice a m c] w fun e w' => e = .returned (.bool (P.fits f off m)) /\ PoolAt w' pb db ob (P.write f off m B) /\ Kept (PS pb db ob) w w' := by
 cases hf : P.fits f off m
 ·refine (write_no pb db ob P f off a m c w hP hf).mono ?_
  rintro e w' ⟨rfl, rfl⟩;refine ⟨rfl, ?_, Kept.refl _ _⟩;unfold Pool.write; rw [hf]; exact hP
 ·exact write_yes pb db ob P f off a m c B w hP hf hb hB
theorem info5 : (Tryz.prog.info? 5).map (fun i => (i.zero, i.size, i.bytes)) = some (some (.int .u8 0), 1, 1) := by kernel_rfl
theorem read_no (pb db ob : Nat) (P : Pool) (f off n : Int) (w : World) (hP : PoolAt w pb db ob P) (hf : P.fits f off n = false) :
  Calls Tryz.prog 56 #[.pointer (some ⟨pb, 0, none⟩), .int .i64 f, .int .i64 off, .int .i64 n] w fun e w' => e = .returned (.slice none 0 0) /\ w = w' := by
 have HP := Lib.hid hP; clear hP;have Hf := Lib.hid hf; clear hf;go_enter Tryz.func56, Tryz.ntmps56
 go_wp2_with fail
 refine (fits_any pb db ob P _ _ _ _ HP.out).mono ?_;rintro e w' ⟨rfl, rfl⟩;rw [Hf.out];go_wp2_with fail
 go_ret;exact ⟨rfl, rfl⟩
def Pool.cells (P : Pool) (o n : Nat) : List Value := (List.range n).map fun j => Value.int .u8 (P.D (o + j))
theorem read_yes (pb db ob : Nat) (P : Pool) (f off n : Int) (w : World) (hP : PoolAt w pb db ob P) (hf : P.fits f off n = true) :
  Calls Tryz.prog 56 #[.pointer (some ⟨pb, 0, none⟩), .int .i64 f, .int .i64 off, .int .i64 n] w fun e w' =>
   ∃ v, e = .returned v /\ w'.ownsRow w.heap.size 5 1 v n.toNat (P.cells ((f.toNat - 1) * 64 + off.toNat) n.toNat) /\ Below w.heap.size w w' := by
 obtain ⟨g1, g2, g3, g4, g5⟩ := (P.fits_iff f off n).1 hf;obtain ⟨t1, t2⟩ := (P.there_iff f).1 (P.owner_there f g1);obtain ⟨k, rfl⟩ : ∃ k : Nat, f = (k : Int) + 1 := ⟨(f - 1).toNat, by omega⟩;obtain ⟨q, rfl⟩ : ∃ q : Nat, off = (q : Int) := ⟨off.toNat, by omega⟩;obtain ⟨m, rfl⟩ : ∃ m : Nat, n = (m : Int) := ⟨n.toNat, by omega⟩;have e1 : ((k : Int) + 1).toNat - 1 = k := by omega
 rw [e1, Int.toNat_natCast, Int.toNat_natCast];have hq64 : (q : Int) <= 64 := by omega
 have hqm : (q : Int) + m <= 64 := by omega
 have hql : (q : Int) <= (q : Int) + m := by omega
 have hc := hP.hp.cell;have hhi := hP.hi;have hkn : k < P.n := by omega
 obtain ⟨i0, hi, hz0, hz1, hz2⟩ := info_parts info5;have Hi := Lib.hid hi; have Hz0 := Lib.hid hz0; have Hz1 := Lib.hid hz1; have Hz2 := Lib.hid hz2;have HP := Lib.hid hP; clear hP;have Hf := Lib.hid hf; clear hf;clear g1 e1 hi hz0 hz1 hz2;have hsrc : ∀ j, j < m -> w.cell? ⟨db, k * 64 + q + j, none⟩ = some (.int .u8 (P.D (k * 64 + q + j))) := fun j hj => HP.out.hd.rowAt (k * 64 + q + j) (by omega)
 have Hsrc := Lib.hid hsrc; clear hsrc;by_cases hq : q = 64
 ·have hm0 : m = 0 := by omega
  subst hm0;subst hq;go_enter Tryz.func56, Tryz.ntmps56
  go_wp2_with fail
  refine (fits_any pb db ob P _ _ _ _ HP.out).mono ?_;rintro e w' ⟨rfl, rfl⟩;rw [show (64 : Int) = ((64 : Nat) : Int) from rfl, show (0 : Int) = ((0 : Nat) : Int) from rfl, Hf.out];go_wp2_with (at_builtin; refine wpList_append_own _ rfl _ _ 63 rfl w.heap.size 5 i0 (.int .u8 0) 1 1 Tryz.underlying63 Hi.out Hz0.out Hz1.out Hz2.out rfl (by decide) _ _ _ rfl (World.ownsRow_nil _ _ _ _) ⟨db, k * 64, none⟩ 0 _ [] rfl rfl (fun j u h => by simp at h) (fun u hu => by cases hu) (by unfold maxLen; omega) (by omega) (Nat.le_refl _) ?_; intro v' w2 hown hgrow _)
  go_ret;exact ⟨_, rfl, by simpa [Pool.cells] using hown, Below.grown (Below.refl _ _) hgrow (Nat.le_refl _) (fun k hk => by cases hk)⟩
 ·have hqs : (q : Int) < 64 := by omega
  have hqn : ¬ (64 = q) := by omega
  go_enter Tryz.func56, Tryz.ntmps56
  go_wp2_with fail
  refine (fits_any pb db ob P _ _ _ _ HP.out).mono ?_;rintro e w' ⟨rfl, rfl⟩;rw [Hf.out];go_wp2_with (at_builtin; refine wpList_append_own _ rfl _ _ 63 rfl w.heap.size 5 i0 (.int .u8 0) 1 1 Tryz.underlying63 Hi.out Hz0.out Hz1.out Hz2.out rfl (by decide) _ _ _ rfl (World.ownsRow_nil _ _ _ _) ⟨db, k * 64 + q, none⟩ (q + m - q) _ (P.cells (k * 64 + q) (q + m - q)) rfl (by simp [Pool.cells]) (copy_src (fun j hj => Hsrc.out j (by omega))) (fun v hv => by obtain ⟨j, _, rfl⟩ := List.mem_map.1 hv; rfl) (by unfold maxLen; omega) (by omega) (Nat.le_refl _) ?_; intro v' w2 hown hgrow _)
  go_ret;have e : q + m - q = m := by omega
  rw [e] at hown;exact ⟨_, rfl, by simpa using hown, Below.grown (Below.refl _ _) hgrow (Nat.le_refl _) (fun k hk => by cases hk)⟩
theorem blk_new_at (w : World) (c : Array Value) (t b : Nat) (h : b = w.heap.size) : Blk (w.alloc (.cells c t)) b c t := by subst h; exact Blk.new w c t
def newPool (n : Nat) : Pool := ⟨n, fun _ => 0, fun _ => 0⟩
theorem freeTo_zero (n : Nat) : freeTo (fun _ => 0) n = n := by
 induction n with
 | zero => rfl
 | succ n ih => unfold freeTo; rw [ih]; simp
theorem made_row (z : Array Value) (v : Value) (n : Nat) (hz : 0 < z.size) (h : ∀ i, i < z.size -> z[i]! = v) : madeCells z n = row n (fun _ => v) := by
 refine row_ext (size_madeCells z n) fun i hi => ?_
 unfold madeCells;rw [Array.getElem?_map, Array.getElem?_range, if_pos hi];simp only [Option.map_some];rw [h _ (Nat.mod_lt _ hz)]
theorem run_make94 (n : Nat) (h : n <= 4096) (w : World) : (Instr.makeSlice 182 (.int .i64 n) (.int .i64 n)).run Tryz.prog w =
  .ok (.slice (some ⟨w.heap.size, 0, none⟩) n n) (w.alloc (.cells (row (n * 64) fun _ => .int .u8 0) 186)) := by
 obtain ⟨i, hi, hz, hs, hb⟩ : ∃ i, Tryz.prog.info? 186 = some i /\ i.zero = some (.agg (Array.replicate 64 (.int .u8 0))) /\ i.size = 64 /\ i.bytes = 64 :=
  info_parts (by kernel_rfl)
 have := run_make (P := Tryz.prog) w 182 186 i _ Tryz.underlying182 hi hz .i64 .i64 n n (by omega) (by omega) (by rw [hb]; omega) (by omega);rw [this, hs, Int.toNat_natCast]
 rw [made_row _ (.int .u8 0) _ (by simp [Value.cells]) (fun i hi => by
  simp [Value.cells] at hi ⊢; simp [hi])]
theorem run_make45 (n : Nat) (h : n <= 4096) (w : World) : (Instr.makeSlice 46 (.int .i64 n) (.int .i64 n)).run Tryz.prog w =
  .ok (.slice (some ⟨w.heap.size, 0, none⟩) n n) (w.alloc (.cells (row n fun _ => .int .u64 0) 37)) := by
 obtain ⟨i, hi, hz, hs, hb⟩ : ∃ i, Tryz.prog.info? 37 = some i /\ i.zero = some (.int .u64 0) /\ i.size = 1 /\ i.bytes = 8 :=
  info_parts (by kernel_rfl)
 have := run_make (P := Tryz.prog) w 46 37 i _ Tryz.underlying46 hi hz .i64 .i64 n n (by omega) (by omega) (by rw [hb]; omega) (by omega);rw [this, hs, Int.toNat_natCast]
 rw [made_row _ (.int .u64 0) _ (by simp [Value.cells]) (fun i hi => by
  simp [Value.cells] at hi ⊢; subst hi; rfl), Nat.mul_one]
theorem new_any (n : Nat) (w : World) (h1 : 1 <= n) (h2 : n <= 4096) :
  Calls Tryz.prog 34 #[.int .i64 n] w fun e w' => ∃ pb db ob, e = .returned (.pointer (some ⟨pb, 0, none⟩)) /\ PoolAt w' pb db ob (newPool n) /\ w.heap.size <= pb /\ w.heap.size <= db /\ w.heap.size <= ob /\ Below w.heap.size w w' := by
 have m1 := run_make94 n h2;have m2 := run_make45 n h2;have hi1 : (1 : Int) <= n := by omega
 have hi2 : (n : Int) <= 4096 := by omega
 go_enter Tryz.func34, Tryz.ntmps34
 go_wp2
 go_region
 all_goals go_wp2
 all_goals go_ret
 ·refine ⟨w.heap.size + 1 + 1, w.heap.size, w.heap.size + 1, rfl, PoolAt.drew ⟨Blk.cells (blk_new_at _ _ _ _ (by simp)) ?_, ((blk_new_at _ _ _ _ rfl).alloc _).alloc _, (blk_new_at _ _ _ _ (by simp)).alloc _, by omega, by omega, by omega, h1, h2, fun _ => by simp [newPool]⟩, by omega, by omega, by omega, ((((Below.refl _ _).alloc (Nat.le_refl _) _).alloc (by simp) _).alloc (by simp; omega) _).drew⟩
  simp [newPool, Pool.left, freeTo_zero]
 ·refine ⟨w.heap.size + 1 + 1, w.heap.size + 1, w.heap.size, rfl, PoolAt.drew ⟨Blk.cells (blk_new_at _ _ _ _ (by simp)) ?_, (blk_new_at _ _ _ _ (by simp)).alloc _, ((blk_new_at _ _ _ _ rfl).alloc _).alloc _, by omega, by omega, by omega, h1, h2, fun _ => by simp [newPool]⟩, by omega, by omega, by omega, ((((Below.refl _ _).alloc (Nat.le_refl _) _).alloc (by simp) _).alloc (by simp; omega) _).drew⟩
  simp [newPool, Pool.left, freeTo_zero]
end Go.Proofs.YtiadbhiadhgjkaaGreatDoor
namespace Go.Proofs.YtiadbhiadhgjkaaGreatDoor
open Go.RowKit
theorem drew_eq (w : World) : ({ heap := w.heap, tape := w.tape, drawn := w.drawn + 1, os := w.os, output := w.output } : World) = w.drew := rfl
theorem Blk.drewN {w : World} {b t : Nat} {c : Array Value} (h : Blk w b c t) (n : Nat) : Blk (w.drewN n) b c t := h
theorem Kept.drewN {S : Nat -> Prop} {w w1 : World} (h : Kept S w w1) (n : Nat) : Kept S w (w1.drewN n) := ⟨h.os, h.tape, h.output, h.size, h.block⟩
theorem PoolAt.drewN {w : World} {pb db ob : Nat} {P : Pool} (h : PoolAt w pb db ob P) (n : Nat) : PoolAt (w.drewN n) pb db ob P :=
 ⟨h.hp, h.hd, h.ho, h.n1, h.n2, h.n3, h.lo, h.hi, h.bd⟩
theorem drew_size (w : World) : w.drew.heap.size = w.heap.size := rfl
end Go.Proofs.YtiadbhiadhgjkaaGreatDoor
namespace Go.Proofs.YtiadbhiadhgjkaaGreatDoor
open Go.RowKit
attribute [local irreducible] World.setCell World.alloc World.drew World.setRow Calls Code.wp row
def RdAt (w : World) (rb : Nat) (a : Option Addr) (len cap at_ : Nat) : Prop := Blk w rb #[.slice a len cap, .int .i64 at_, .bool false] 315
theorem pnew_any (a : Option Addr) (len cap : Nat) (w : World) :
  Calls Tryz.prog 146 #[.slice a len cap] w fun e w' => e = .returned (.pointer (some ⟨w.heap.size, 0, none⟩)) /\ w' = w.alloc (.cells #[.slice a len cap, .int .i64 0, .bool false] 315) := by
 go_enter Tryz.func146, Tryz.ntmps146
 go_wp2
 go_ret;exact ⟨rfl, rfl⟩
theorem bad_any (rb : Nat) (a : Option Addr) (len cap at_ : Nat) (w : World) (hR : RdAt w rb a len cap at_) :
  Calls Tryz.prog 231 #[.pointer (some ⟨rb, 0, none⟩)] w fun e w' => e = .returned (.bool false) /\ w = w' := by
 have hc := Blk.cell hR;clear hR;go_enter Tryz.func231, Tryz.ntmps231
 go_wp2
 go_ret;exact ⟨rfl, rfl⟩
theorem rest_any (rb : Nat) (a : Option Addr) (len cap at_ : Nat) (w : World) (hR : RdAt w rb a len cap at_) (h : at_ <= len) (hl : len <= maxLen) :
  Calls Tryz.prog 232 #[.pointer (some ⟨rb, 0, none⟩)] w fun e w' => e = .returned (.int .i64 ((len : Int) - at_)) /\ ∃ n, w' = w.drewN n := by
 have hc := Blk.cell hR;unfold maxLen at hl;clear hR;have h1 : IntKind.i64.wrap ((len : Int) - at_) = (len : Int) - at_ := IntWalk.i64_in _ (by omega);go_enter Tryz.func232, Tryz.ntmps232
 go_wp2
 go_quiet (fail)
 go_wp2
 go_ret;exact ⟨rfl, _, rfl⟩
theorem take_any (rb : Nat) (b o len cap at_ n : Nat) (B : Nat -> Int) (w : World) (hR : RdAt w rb (some ⟨b, o, none⟩) len cap at_) (hb : ∀ j, j < len -> w.cell? ⟨b, o + j, none⟩ = some (.int .u8 (B j)))
  (h1 : 1 <= n) (hn : at_ + n <= len) (hl : len <= cap) (hc : cap <= maxLen) (hc47 : n <= 64) (hrb : b ≠ rb) :
  Calls Tryz.prog 193 #[.pointer (some ⟨rb, 0, none⟩), .int .i64 n] w fun e w' =>
   ∃ v, e = .returned v /\ w'.ownsRow w.heap.size 5 1 v n ((List.range n).map fun j => Value.int .u8 (B (at_ + j))) /\ RdAt w' rb (some ⟨b, o, none⟩) len cap (at_ + n) /\ Kept (fun k => k = rb) w w' := by
 have hcc := Blk.cell hR;have hfr := Blk.free hR;have hlt := Blk.lt hR;unfold maxLen at hc;have hn1 : ¬ ((n : Int) < 0) := by omega
 have hn2 : (n : Int) <= (len : Int) - at_ := by omega
 obtain ⟨i0, hi, hz0, hz1, hz2⟩ := info_parts info5;have Hi := Lib.hid hi; have Hz0 := Lib.hid hz0; have Hz1 := Lib.hid hz1; have Hz2 := Lib.hid hz2;have HR := Lib.hid hR;have Hb := Lib.hid hb;have hlm : len <= maxLen := by unfold maxLen; omega
 clear hi hz0 hz1 hz2 hR hb;go_enter Tryz.func193, Tryz.ntmps193
 go_wp2_with fail
 refine (bad_any rb _ _ _ _ _ HR.out).mono ?_;rintro e w' ⟨rfl, rfl⟩;go_wp2_with fail
 refine (rest_any rb _ _ _ _ _ HR.out (by omega) hlm).mono ?_;rintro e w' ⟨rfl, nq, rfl⟩;have HR2 : Hid (RdAt (w.drewN nq) rb (some ⟨b, o, none⟩) len cap at_) := HR.out;have hcc2 := Blk.cell HR2.out;have hfr2 := Blk.free HR2.out;clear hlm;go_wp2_with fail
 have hR3 : Blk ((w.drewN nq).setCell ⟨rb, 1, none⟩ (.int .i64 ((at_ : Int) + n))) rb #[.slice (some ⟨b, o, none⟩) len cap, .int .i64 ((at_ : Int) + n), .bool false] 315 := Blk.set HR2.out 1 _;have hK3 : Kept (fun k => k = rb) w ((w.drewN nq).setCell ⟨rb, 1, none⟩ (.int .i64 ((at_ : Int) + n))) := ((Kept.refl (fun k => k = rb) w).drewN nq).setIn rb 1 _ rfl
 have hb3 : ∀ j, j < n -> ((w.drewN nq).setCell ⟨rb, 1, none⟩ (.int .i64 ((at_ : Int) + n))).cell? ⟨b, o + at_ + j, none⟩ = some (.int .u8 (B (at_ + j))) := by
  intro j hj;rw [World.cell?_setCell_far _ _ _ _ (show rb ≠ b from fun e => hrb e.symm), Nat.add_assoc];exact Hb.out (at_ + j) (by omega)
 have Hb3 := Lib.hid hb3; have HK3 := Lib.hid hK3; have HR3 := Lib.hid hR3;clear hb3 hK3 hR3 hcc hfr hcc2 hfr2;generalize (w.drewN nq).setCell ⟨rb, 1, none⟩ (.int .i64 ((at_ : Int) + n)) = w3 at *;have hcc := HR3.out.cell;have hs1 : IntKind.i64.wrap ((at_ : Int) + n - n) = (at_ : Int) := by rw [show (at_ : Int) + n - n = at_ by omega]; exact IntWalk.i64_in _ (by omega)
 have hs2 : IntKind.i64.wrap (at_ : Int) = (at_ : Int) := IntWalk.i64_in _ (by omega)
 have hsl : ∀ w, (Instr.slice 63 (.slice (some ⟨b, o, none⟩) len cap) (some (.int .i64 at_)) (some (.int .i64 ((at_ : Int) + n))) none).run Tryz.prog w = .ok (.slice (some ⟨b, o + at_, none⟩) n (cap - at_)) w := by
  intro w;have hq0 : (0 : Int) <= at_ := by omega
  have hqm : (at_ : Int) <= (at_ : Int) + n := by omega
  have hqm2 : (at_ : Int) + n <= cap := by omega
  have e1 : ((at_ : Int) + n).toNat = at_ + n := by omega
  have e2 : ¬ cap = at_ := by omega
  go_simp
 have HRd := Lib.hid HR3.out.drew;have HKd := Lib.hid HK3.out.drew;have Hbd : Hid (∀ j, j < n -> w3.drew.cell? ⟨b, o + at_ + j, none⟩ = some (.int .u8 (B (at_ + j)))) := fun j hj => by rw [World.cell?_drew]; exact Hb3.out j hj
 go_wp2_with fail
 go_still_tail 15, (by kernel_rfl)
 rw [drew_eq w3];go_wp2_with (at_builtin; refine wpList_append_own _ rfl _ _ 63 rfl w.heap.size 5 i0 (.int .u8 0) 1 1 Tryz.underlying63 Hi.out Hz0.out Hz1.out Hz2.out rfl (by decide) _ _ _ rfl (World.ownsRow_nil _ _ _ _) ⟨b, o + at_, none⟩ n _ ((List.range n).map fun j => Value.int .u8 (B (at_ + j))) rfl (by simp) (copy_src Hbd.out) (fun v hv => by obtain ⟨j, _, rfl⟩ := List.mem_map.1 hv; rfl) (by unfold maxLen; omega) (by omega) (by rw [drew_size]; exact HK3.out.size) ?_; intro v' w2 hown hgrow _)
 go_ret;have hbg : Below w3.drew.heap.size w3.drew w2 := Below.grown (Below.refl _ _) hgrow (Nat.le_refl _) (fun k hk => by cases hk);refine ⟨_, rfl, by simpa using hown, ?_, ?_⟩
 ·have := HRd.out.below hbg HRd.out.lt
  unfold RdAt; rw [show ((at_ + n : Nat) : Int) = (at_ : Int) + n by omega]; exact this
 ·exact HKd.out.trans ((Kept.of_below hbg).mono fun k _ h => h)
theorem num_any (rb : Nat) (b o len cap at_ n : Nat) (B : Nat -> Int) (w : World) (hR : RdAt w rb (some ⟨b, o, none⟩) len cap at_) (hb : ∀ j, j < len -> w.cell? ⟨b, o + j, none⟩ = some (.int .u8 (B j)))
  (hB : ∀ j, 0 <= B j /\ B j <= 255) (h1 : 1 <= n) (h8 : n <= 8) (hn : at_ + n <= len) (hl : len <= cap) (hc : cap <= maxLen) (hrb : b ≠ rb) :
  Calls Tryz.prog 147 #[.pointer (some ⟨rb, 0, none⟩), .int .i64 n] w fun e w' =>
   e = .returned (.int .u64 (beN (fun j => B (at_ + j)) n)) /\ RdAt w' rb (some ⟨b, o, none⟩) len cap (at_ + n) /\ Kept (fun k => k = rb) w w' := by
 have hn1 : ¬ ((n : Int) < 1) := by omega
 have hn8 : ¬ ((8 : Int) < n) := by omega
 have HR := Lib.hid hR; have Hb := Lib.hid hb; have HB := Lib.hid hB; have Hc := Lib.hid hc; have Hl := Lib.hid hl;clear hR hb hB hc hl;go_enter Tryz.func147, Tryz.ntmps147
 go_wp2_with fail
 refine (take_any rb b o len cap at_ n B _ HR.out Hb.out h1 hn Hl.out Hc.out (by omega) hrb).mono ?_;rintro e w2 ⟨v, rfl, hown, hR2, hK2⟩;obtain ⟨C, hC⟩ : ∃ C : Nat -> Int, (fun j => B (at_ + j)) = C := ⟨_, rfl⟩;have hCb : ∀ j, 0 <= C j /\ C j <= 255 := fun j => by rw [<- hC]; exact HB.out _
 have hown' : w2.ownsRow w.heap.size 5 1 v n ((List.range n).map fun j => Value.int .u8 (C j)) := by rw [<- hC]; exact hown
 have HC := Lib.hid hC;clear hown hC;obtain ⟨g, gc, cur, rfl, _, _, _⟩ := hown'.2.resolve_left (by rintro ⟨_, h0⟩; omega)
 have hcell : ∀ j, j < n -> w2.cell? ⟨g, j, none⟩ = some (.int .u8 (C j)) := fun j hj => by
  rw [hown'.cellAt j (by omega)]; simp [hj]
 have Hcell := Lib.hid hcell; have HR2 := Lib.hid hR2; have HK2 := Lib.hid hK2;clear hown' hcell hR2 hK2;go_wp2_with fail
 go_loop [5, 7, 20] (fun x _ i => ∃ k : Nat, k <= n /\ i = .int .i64 k /\ x = .int .u64 (beN C k)) (fun _ _ i => n - (intOf i).toNat)
 case atStart => exact ⟨0, by omega, rfl, rfl⟩
 case round =>
  obtain ⟨k, hk, rfl, rfl⟩ := hrel;by_cases hlt : k < n
  ·have hcl := Hcell.out k hlt
   obtain ⟨c0, c1⟩ := hCb k;obtain ⟨d0, d1⟩ := beN_bd C hCb k (by omega);have hor := or_u64 (beN C k) (C k) d0 c0 (by omega) d1;have Hs : Hid (beN C (k + 1) = beN C k * 256 + C k) := rfl;go_wp2_with fail
   go_round
   case rel => exact ⟨k + 1, by omega, by go_num, by rw [Hs.out]⟩
   case measure => simp [intOf]; omega
  ·obtain rfl : k = n := by omega
   go_wp2_with fail
   go_ret;exact ⟨by rw [HC.out]; rfl, HR2.out, HK2.out⟩
end Go.Proofs.YtiadbhiadhgjkaaGreatDoor
