/- The contracts of package frames that write: Free, Alloc, Write; Read and New make memory. -/
import Derived.Test.YtndnjimiabpkpaaFrA
import Derived.BigRegion
import Derived.Deep.RegionHeld3
import Derived.Deep.MidRow
namespace Go.Proofs.Ytndnjimiabpkpaa
open Go.RowKit
attribute [local irreducible] World.setCell World.alloc World.drew World.setRow Calls Code.wp row

theorem there_set {w : World} {b o n : Nat} (h : w.there b o n) (a : Addr) (v : Value) : (w.setCell a v).there b o n := by
  intro j hj
  obtain ⟨h1, h2⟩ := h j hj
  refine ⟨?_, by rw [World.frozen?_setCell]; exact h2⟩
  by_cases e : a = ⟨b, o + j, none⟩
  · subst e; rw [World.cell?_setCell_same' _ _ _ h1]; rfl
  · rw [World.cell?_setCell_other _ _ _ _ e]; exact h1

/-- One frame's owner changed, and the count of the free ones. -/
theorem PoolAt.owners {w : World} {pb db ob : Nat} {P : Pool} (h : PoolAt w pb db ob P) (k : Nat) (v L : Int) (hL : L = (freeTo (updI P.O k v) P.n : Nat)) :
    PoolAt ((w.setCell ⟨ob, k, none⟩ (.int .u64 v)).setCell ⟨pb, 2, none⟩ (.int .i64 L)) pb db ob ⟨P.n, updI P.O k v, P.D⟩ := by
  refine ⟨?_, (h.hd.set_other (a := ⟨ob, k, none⟩) (fun e => h.n3 e.symm) _).set_other (a := ⟨pb, 2, none⟩) h.n1 _, ?_, h.n1, h.n2, h.n3, h.lo, h.hi, h.bd⟩
  · refine Blk.cells ((h.hp.set_other (a := ⟨ob, k, none⟩) (fun e => h.n2 e.symm) _).set 2 _) ?_
    simp [Pool.left, hL]
  · refine (Blk.cells (h.ho.set k _) ?_).set_other (a := ⟨pb, 2, none⟩) h.n2 _
    rw [row_set]
    refine row_congr fun i _ => ?_
    by_cases e : i = k
    · rw [if_pos e]; simp [updI, e]
    · rw [if_neg e]; simp [updI, e]

theorem alloc_nil (o : Int) (w : World) :
    Calls Try.prog 18 #[.pointer none, .int .u64 o] w fun e w' => e = .returned (.int .i64 0) ∧ w = w' := by
  go_enter Try.func18, Try.ntmps18
  go_wp2_with (go_at_call 20; refine (left_nil _).mono ?_; rintro e w' ⟨rfl, rfl⟩)
  go_ret
  exact ⟨rfl, rfl⟩

theorem free_nil (f : Int) (w : World) :
    Calls Try.prog 19 #[.pointer none, .int .i64 f] w fun e w' => e = .returned (.tuple #[]) ∧ w = w' := by
  go_enter Try.func19, Try.ntmps19
  go_wp2_with (go_at_call 48; refine (there_nil _ _).mono ?_; rintro e w' ⟨rfl, rfl⟩)
  go_end0
  exact ⟨rfl, rfl⟩

set_option maxHeartbeats 400000 in
theorem free_any (pb db ob : Nat) (P : Pool) (f : Int) (w : World) (hP : PoolAt w pb db ob P) :
    Calls Try.prog 19 #[.pointer (some ⟨pb, 0, none⟩), .int .i64 f] w fun e w' => e = .returned (.tuple #[]) ∧ PoolAt w' pb db ob (P.free f) ∧ Kept (PS pb db ob) w w' := by
  have hc := hP.hp.cell
  have hfp := hP.hp.free
  have hfo := hP.ho.free
  have hn2 := hP.n2
  have hhi := hP.hi
  have hll := freeTo_le P.O P.n
  have hll : P.left ≤ 4096 := by unfold Pool.left; omega
  by_cases ht : P.there f = true
  · obtain ⟨h1, h2⟩ := (P.there_iff f).1 ht
    have how : P.owner f = P.O (f.toNat - 1) := by unfold Pool.owner; rw [if_pos ht]
    obtain ⟨k, rfl⟩ : ∃ k : Nat, f = (k : Int) + 1 := ⟨(f - 1).toNat, by omega⟩
    have e : ((k : Int) + 1).toNat - 1 = k := by omega
    rw [e] at how
    have ho := hP.ho.rowAt k (by omega)
    have hf : P.free ((k : Int) + 1) = if P.O k ≠ 0 then ⟨P.n, updI P.O k 0, P.D⟩ else P := by unfold Pool.free; rw [how, e]
    have hup := freeTo_upd P.O 0 k P.n (by omega)
    have HP := Lib.hid hP; clear hP
    have Hf := Lib.hid hf; clear hf
    have Hup := Lib.hid hup; clear hup
    have Ht := Lib.hid ht; clear ht how e
    cases e1 : (P.O k != 0)
    · go_enter Try.func19, Try.ntmps19
      go_wp2_with fail
      refine (there_any pb db ob P _ _ HP.out).mono ?_
      rintro e w' ⟨rfl, rfl⟩
      rw [Ht.out]
      go_wp2_with fail
      go_end0
      exact ⟨rfl, by rw [Hf.out, if_neg (by simpa using e1)]; exact HP.out, Kept.refl _ _⟩
    · go_enter Try.func19, Try.ntmps19
      go_wp2_with fail
      refine (there_any pb db ob P _ _ HP.out).mono ?_
      rintro e w' ⟨rfl, rfl⟩
      rw [Ht.out]
      go_wp2_with fail
      go_end0
      refine ⟨rfl, ?_, ((Kept.refl _ _).setIn _ _ _ (.inr (.inr rfl))).setIn _ _ _ (.inl rfl)⟩
      rw [Hf.out, if_pos (by simpa using e1)]
      have hup := Hup.out
      have e2 : ¬ P.O k = 0 := by simpa using e1
      rw [if_neg e2] at hup
      simp at hup
      exact HP.out.owners k 0 _ (by unfold Pool.left; omega)
  · have ht' : P.there f = false := by simpa using ht
    have how : P.owner f = 0 := by unfold Pool.owner; rw [if_neg ht]
    have Hf : Hid (P.free f = P) := by unfold Hid Pool.free; rw [how]; simp
    have HP := Lib.hid hP; clear hP
    have Ht := Lib.hid ht'; clear ht ht' how
    go_enter Try.func19, Try.ntmps19
    go_wp2_with fail
    refine (there_any pb db ob P _ _ HP.out).mono ?_
    rintro e w' ⟨rfl, rfl⟩
    rw [Ht.out]
    go_wp2_with fail
    go_end0
    exact ⟨rfl, by rw [Hf.out]; exact HP.out, Kept.refl _ _⟩

/-- What Alloc's stores lean on. -/
def AllocS (w : World) (pb db ob n k : Nat) : Prop :=
  w.cell? ⟨pb, 0, none⟩ = some (.slice (some ⟨db, 0, none⟩) n n) ∧ w.cell? ⟨pb, 1, none⟩ = some (.slice (some ⟨ob, 0, none⟩) n n) ∧ w.there db (k * 64) 64
theorem AllocS.set {w : World} {pb db ob n k : Nat} (h : AllocS w pb db ob n k) (hn : ob ≠ pb) (i : Nat) (v : Value) : AllocS (w.setCell ⟨ob, i, none⟩ v) pb db ob n k :=
  ⟨by rw [World.cell?_setCell_far _ _ _ _ hn]; exact h.1, by rw [World.cell?_setCell_far _ _ _ _ hn]; exact h.2.1, there_set h.2.2 _ _⟩
theorem AllocS.sets {w : World} {pb db ob n k : Nat} (h : AllocS w pb db ob n k) (hn : pb ≠ db) (o : Nat) (vs : List Value) : AllocS (w.setCells db o vs) pb db ob n k :=
  ⟨by rw [World.cell?_setCells_out _ _ _ _ _ (fun e => absurd e hn)]; exact h.1, by rw [World.cell?_setCells_out _ _ _ _ _ (fun e => absurd e hn)]; exact h.2.1, World.there_setCells h.2.2 _ _ _⟩

theorem AllocS.drew {w : World} {pb db ob n k : Nat} (h : AllocS w pb db ob n k) : AllocS w.drew pb db ob n k :=
  ⟨by rw [World.cell?_drew]; exact h.1, by rw [World.cell?_drew]; exact h.2.1, (World.there_drew _ _ _ _).2 h.2.2⟩

theorem zeros_one : ∀ v ∈ [Value.int .u8 0, Value.int .u8 0, Value.int .u8 0, Value.int .u8 0, Value.int .u8 0, Value.int .u8 0, Value.int .u8 0, Value.int .u8 0, Value.int .u8 0, Value.int .u8 0, Value.int .u8 0, Value.int .u8 0, Value.int .u8 0, Value.int .u8 0, Value.int .u8 0, Value.int .u8 0, Value.int .u8 0, Value.int .u8 0, Value.int .u8 0, Value.int .u8 0, Value.int .u8 0, Value.int .u8 0, Value.int .u8 0, Value.int .u8 0, Value.int .u8 0, Value.int .u8 0, Value.int .u8 0, Value.int .u8 0, Value.int .u8 0, Value.int .u8 0, Value.int .u8 0, Value.int .u8 0, Value.int .u8 0, Value.int .u8 0, Value.int .u8 0, Value.int .u8 0, Value.int .u8 0, Value.int .u8 0, Value.int .u8 0, Value.int .u8 0, Value.int .u8 0, Value.int .u8 0, Value.int .u8 0, Value.int .u8 0, Value.int .u8 0, Value.int .u8 0, Value.int .u8 0, Value.int .u8 0, Value.int .u8 0, Value.int .u8 0, Value.int .u8 0, Value.int .u8 0, Value.int .u8 0, Value.int .u8 0, Value.int .u8 0, Value.int .u8 0, Value.int .u8 0, Value.int .u8 0, Value.int .u8 0, Value.int .u8 0, Value.int .u8 0, Value.int .u8 0, Value.int .u8 0, Value.int .u8 0], v.oneCell' = true := by
  intro v hv
  have e : [Value.int .u8 0, Value.int .u8 0, Value.int .u8 0, Value.int .u8 0, Value.int .u8 0, Value.int .u8 0, Value.int .u8 0, Value.int .u8 0, Value.int .u8 0, Value.int .u8 0, Value.int .u8 0, Value.int .u8 0, Value.int .u8 0, Value.int .u8 0, Value.int .u8 0, Value.int .u8 0, Value.int .u8 0, Value.int .u8 0, Value.int .u8 0, Value.int .u8 0, Value.int .u8 0, Value.int .u8 0, Value.int .u8 0, Value.int .u8 0, Value.int .u8 0, Value.int .u8 0, Value.int .u8 0, Value.int .u8 0, Value.int .u8 0, Value.int .u8 0, Value.int .u8 0, Value.int .u8 0, Value.int .u8 0, Value.int .u8 0, Value.int .u8 0, Value.int .u8 0, Value.int .u8 0, Value.int .u8 0, Value.int .u8 0, Value.int .u8 0, Value.int .u8 0, Value.int .u8 0, Value.int .u8 0, Value.int .u8 0, Value.int .u8 0, Value.int .u8 0, Value.int .u8 0, Value.int .u8 0, Value.int .u8 0, Value.int .u8 0, Value.int .u8 0, Value.int .u8 0, Value.int .u8 0, Value.int .u8 0, Value.int .u8 0, Value.int .u8 0, Value.int .u8 0, Value.int .u8 0, Value.int .u8 0, Value.int .u8 0, Value.int .u8 0, Value.int .u8 0, Value.int .u8 0, Value.int .u8 0] = List.replicate 64 (Value.int .u8 0) := by rfl
  rw [e] at hv
  rw [List.eq_of_mem_replicate hv]; rfl
theorem zeros_at (i : Nat) (h : i < 64) : [Value.int .u8 0, Value.int .u8 0, Value.int .u8 0, Value.int .u8 0, Value.int .u8 0, Value.int .u8 0, Value.int .u8 0, Value.int .u8 0, Value.int .u8 0, Value.int .u8 0, Value.int .u8 0, Value.int .u8 0, Value.int .u8 0, Value.int .u8 0, Value.int .u8 0, Value.int .u8 0, Value.int .u8 0, Value.int .u8 0, Value.int .u8 0, Value.int .u8 0, Value.int .u8 0, Value.int .u8 0, Value.int .u8 0, Value.int .u8 0, Value.int .u8 0, Value.int .u8 0, Value.int .u8 0, Value.int .u8 0, Value.int .u8 0, Value.int .u8 0, Value.int .u8 0, Value.int .u8 0, Value.int .u8 0, Value.int .u8 0, Value.int .u8 0, Value.int .u8 0, Value.int .u8 0, Value.int .u8 0, Value.int .u8 0, Value.int .u8 0, Value.int .u8 0, Value.int .u8 0, Value.int .u8 0, Value.int .u8 0, Value.int .u8 0, Value.int .u8 0, Value.int .u8 0, Value.int .u8 0, Value.int .u8 0, Value.int .u8 0, Value.int .u8 0, Value.int .u8 0, Value.int .u8 0, Value.int .u8 0, Value.int .u8 0, Value.int .u8 0, Value.int .u8 0, Value.int .u8 0, Value.int .u8 0, Value.int .u8 0, Value.int .u8 0, Value.int .u8 0, Value.int .u8 0, Value.int .u8 0][i]? = some (Value.int .u8 0) := by
  have e : [Value.int .u8 0, Value.int .u8 0, Value.int .u8 0, Value.int .u8 0, Value.int .u8 0, Value.int .u8 0, Value.int .u8 0, Value.int .u8 0, Value.int .u8 0, Value.int .u8 0, Value.int .u8 0, Value.int .u8 0, Value.int .u8 0, Value.int .u8 0, Value.int .u8 0, Value.int .u8 0, Value.int .u8 0, Value.int .u8 0, Value.int .u8 0, Value.int .u8 0, Value.int .u8 0, Value.int .u8 0, Value.int .u8 0, Value.int .u8 0, Value.int .u8 0, Value.int .u8 0, Value.int .u8 0, Value.int .u8 0, Value.int .u8 0, Value.int .u8 0, Value.int .u8 0, Value.int .u8 0, Value.int .u8 0, Value.int .u8 0, Value.int .u8 0, Value.int .u8 0, Value.int .u8 0, Value.int .u8 0, Value.int .u8 0, Value.int .u8 0, Value.int .u8 0, Value.int .u8 0, Value.int .u8 0, Value.int .u8 0, Value.int .u8 0, Value.int .u8 0, Value.int .u8 0, Value.int .u8 0, Value.int .u8 0, Value.int .u8 0, Value.int .u8 0, Value.int .u8 0, Value.int .u8 0, Value.int .u8 0, Value.int .u8 0, Value.int .u8 0, Value.int .u8 0, Value.int .u8 0, Value.int .u8 0, Value.int .u8 0, Value.int .u8 0, Value.int .u8 0, Value.int .u8 0, Value.int .u8 0] = List.replicate 64 (Value.int .u8 0) := by rfl
  rw [e, List.getElem?_replicate, if_pos h]
theorem Blk.setCells {t b n : Nat} : ∀ (vs : List Value) (o : Nat) (w : World) (f : Nat → Value), Blk w b (row n f) t → o + vs.length ≤ n → Blk (w.setCells b o vs) b (row n (fun j => if o ≤ j ∧ j < o + vs.length then vs.getD (j - o) undef else f j)) t
  | [], o, w, f, h, _ => by
    refine Blk.cells h (row_congr fun i _ => ?_)
    rw [if_neg (by simp only [List.length_nil]; omega)]
  | v :: r, o, w, f, h, hl => by
    have h1 := (h.set o v).cells (row_set n f o v)
    have h2 := Blk.setCells r (o + 1) (w.setCell ⟨b, o, none⟩ v) _ h1 (by simp at hl; omega)
    refine Blk.cells (show Blk ((w.setCell ⟨b, o, none⟩ v).setCells b (o + 1) r) b _ t from h2) (row_congr fun i _ => ?_)
    by_cases e : i = o
    · subst e
      rw [if_neg (by omega), if_pos rfl, if_pos (by simp)]; simp
    · by_cases e1 : o + 1 ≤ i ∧ i < o + 1 + r.length
      · rw [if_pos e1, if_pos (by simp; omega)]
        have : i - o = (i - (o + 1)) + 1 := by omega
        rw [this]; simp
      · rw [if_neg e1, if_neg e, if_neg (by simp only [List.length_cons]; omega)]
theorem Kept.setCells {S : Nat → Prop} {w : World} {b : Nat} (hb : S b) : ∀ (vs : List Value) (o : Nat) (w1 : World), Kept S w w1 → Kept S w (w1.setCells b o vs)
  | [], _, _, h => h
  | v :: r, o, w1, h => Kept.setCells hb r (o + 1) (w1.setCell ⟨b, o, none⟩ v) (h.setIn b o v hb)

/-- The frame k charged to o, its bytes zero: the three blocks, before the count is told. -/
theorem PoolAt.charge {w : World} {pb db ob : Nat} {P : Pool} (h : PoolAt w pb db ob P) (k : Nat) (hk : k < P.n) (o : Int) :
    Blk ((w.setCell ⟨ob, k, none⟩ (.int .u64 o)).drew.setCells db (k * 64) [Value.int .u8 0, Value.int .u8 0, Value.int .u8 0, Value.int .u8 0, Value.int .u8 0, Value.int .u8 0, Value.int .u8 0, Value.int .u8 0, Value.int .u8 0, Value.int .u8 0, Value.int .u8 0, Value.int .u8 0, Value.int .u8 0, Value.int .u8 0, Value.int .u8 0, Value.int .u8 0, Value.int .u8 0, Value.int .u8 0, Value.int .u8 0, Value.int .u8 0, Value.int .u8 0, Value.int .u8 0, Value.int .u8 0, Value.int .u8 0, Value.int .u8 0, Value.int .u8 0, Value.int .u8 0, Value.int .u8 0, Value.int .u8 0, Value.int .u8 0, Value.int .u8 0, Value.int .u8 0, Value.int .u8 0, Value.int .u8 0, Value.int .u8 0, Value.int .u8 0, Value.int .u8 0, Value.int .u8 0, Value.int .u8 0, Value.int .u8 0, Value.int .u8 0, Value.int .u8 0, Value.int .u8 0, Value.int .u8 0, Value.int .u8 0, Value.int .u8 0, Value.int .u8 0, Value.int .u8 0, Value.int .u8 0, Value.int .u8 0, Value.int .u8 0, Value.int .u8 0, Value.int .u8 0, Value.int .u8 0, Value.int .u8 0, Value.int .u8 0, Value.int .u8 0, Value.int .u8 0, Value.int .u8 0, Value.int .u8 0, Value.int .u8 0, Value.int .u8 0, Value.int .u8 0, Value.int .u8 0]) pb #[.slice (some ⟨db, 0, none⟩) P.n P.n, .slice (some ⟨ob, 0, none⟩) P.n P.n, .int .i64 P.left] 96 ∧
    Blk ((w.setCell ⟨ob, k, none⟩ (.int .u64 o)).drew.setCells db (k * 64) [Value.int .u8 0, Value.int .u8 0, Value.int .u8 0, Value.int .u8 0, Value.int .u8 0, Value.int .u8 0, Value.int .u8 0, Value.int .u8 0, Value.int .u8 0, Value.int .u8 0, Value.int .u8 0, Value.int .u8 0, Value.int .u8 0, Value.int .u8 0, Value.int .u8 0, Value.int .u8 0, Value.int .u8 0, Value.int .u8 0, Value.int .u8 0, Value.int .u8 0, Value.int .u8 0, Value.int .u8 0, Value.int .u8 0, Value.int .u8 0, Value.int .u8 0, Value.int .u8 0, Value.int .u8 0, Value.int .u8 0, Value.int .u8 0, Value.int .u8 0, Value.int .u8 0, Value.int .u8 0, Value.int .u8 0, Value.int .u8 0, Value.int .u8 0, Value.int .u8 0, Value.int .u8 0, Value.int .u8 0, Value.int .u8 0, Value.int .u8 0, Value.int .u8 0, Value.int .u8 0, Value.int .u8 0, Value.int .u8 0, Value.int .u8 0, Value.int .u8 0, Value.int .u8 0, Value.int .u8 0, Value.int .u8 0, Value.int .u8 0, Value.int .u8 0, Value.int .u8 0, Value.int .u8 0, Value.int .u8 0, Value.int .u8 0, Value.int .u8 0, Value.int .u8 0, Value.int .u8 0, Value.int .u8 0, Value.int .u8 0, Value.int .u8 0, Value.int .u8 0, Value.int .u8 0, Value.int .u8 0]) db (row (P.n * 64) fun j => .int .u8 (if k * 64 ≤ j ∧ j < k * 64 + 64 then 0 else P.D j)) 38 ∧
    Blk ((w.setCell ⟨ob, k, none⟩ (.int .u64 o)).drew.setCells db (k * 64) [Value.int .u8 0, Value.int .u8 0, Value.int .u8 0, Value.int .u8 0, Value.int .u8 0, Value.int .u8 0, Value.int .u8 0, Value.int .u8 0, Value.int .u8 0, Value.int .u8 0, Value.int .u8 0, Value.int .u8 0, Value.int .u8 0, Value.int .u8 0, Value.int .u8 0, Value.int .u8 0, Value.int .u8 0, Value.int .u8 0, Value.int .u8 0, Value.int .u8 0, Value.int .u8 0, Value.int .u8 0, Value.int .u8 0, Value.int .u8 0, Value.int .u8 0, Value.int .u8 0, Value.int .u8 0, Value.int .u8 0, Value.int .u8 0, Value.int .u8 0, Value.int .u8 0, Value.int .u8 0, Value.int .u8 0, Value.int .u8 0, Value.int .u8 0, Value.int .u8 0, Value.int .u8 0, Value.int .u8 0, Value.int .u8 0, Value.int .u8 0, Value.int .u8 0, Value.int .u8 0, Value.int .u8 0, Value.int .u8 0, Value.int .u8 0, Value.int .u8 0, Value.int .u8 0, Value.int .u8 0, Value.int .u8 0, Value.int .u8 0, Value.int .u8 0, Value.int .u8 0, Value.int .u8 0, Value.int .u8 0, Value.int .u8 0, Value.int .u8 0, Value.int .u8 0, Value.int .u8 0, Value.int .u8 0, Value.int .u8 0, Value.int .u8 0, Value.int .u8 0, Value.int .u8 0, Value.int .u8 0]) ob (row P.n fun i => .int .u64 (updI P.O k o i)) 27 ∧
    Kept (PS pb db ob) w ((w.setCell ⟨ob, k, none⟩ (.int .u64 o)).drew.setCells db (k * 64) [Value.int .u8 0, Value.int .u8 0, Value.int .u8 0, Value.int .u8 0, Value.int .u8 0, Value.int .u8 0, Value.int .u8 0, Value.int .u8 0, Value.int .u8 0, Value.int .u8 0, Value.int .u8 0, Value.int .u8 0, Value.int .u8 0, Value.int .u8 0, Value.int .u8 0, Value.int .u8 0, Value.int .u8 0, Value.int .u8 0, Value.int .u8 0, Value.int .u8 0, Value.int .u8 0, Value.int .u8 0, Value.int .u8 0, Value.int .u8 0, Value.int .u8 0, Value.int .u8 0, Value.int .u8 0, Value.int .u8 0, Value.int .u8 0, Value.int .u8 0, Value.int .u8 0, Value.int .u8 0, Value.int .u8 0, Value.int .u8 0, Value.int .u8 0, Value.int .u8 0, Value.int .u8 0, Value.int .u8 0, Value.int .u8 0, Value.int .u8 0, Value.int .u8 0, Value.int .u8 0, Value.int .u8 0, Value.int .u8 0, Value.int .u8 0, Value.int .u8 0, Value.int .u8 0, Value.int .u8 0, Value.int .u8 0, Value.int .u8 0, Value.int .u8 0, Value.int .u8 0, Value.int .u8 0, Value.int .u8 0, Value.int .u8 0, Value.int .u8 0, Value.int .u8 0, Value.int .u8 0, Value.int .u8 0, Value.int .u8 0, Value.int .u8 0, Value.int .u8 0, Value.int .u8 0, Value.int .u8 0]) := by
  have far : ∀ {w : World} {b t : Nat} {c : Array Value} (vs : List Value) (o : Nat), Blk w b c t → db ≠ b → Blk (w.setCells db o vs) b c t := by
    intro w b t c vs
    induction vs generalizing w with
    | nil => intro o h _; exact h
    | cons v r ih => intro o h hn; exact ih (o + 1) (h.set_other (a := ⟨db, o, none⟩) hn v) hn
  refine ⟨far _ _ (h.hp.set_other (a := ⟨ob, k, none⟩) (fun e => h.n2 e.symm) _).drew (fun e => h.n1 e.symm), ?_, ?_, Kept.setCells (.inr (.inl rfl)) _ _ _ ((Kept.refl _ _).setIn _ _ _ (.inr (.inr rfl))).drew⟩
  · refine Blk.cells (Blk.setCells _ _ _ _ (h.hd.set_other (a := ⟨ob, k, none⟩) (fun e => h.n3 e.symm) _).drew (by simp only [List.length_cons, List.length_nil]; omega)) (row_congr fun j _ => ?_)
    simp only [List.length_cons, List.length_nil, Nat.zero_add, Nat.reduceAdd]
    by_cases e : k * 64 ≤ j ∧ j < k * 64 + 64
    · rw [if_pos e, if_pos e, List.getD_eq_getElem?_getD, zeros_at _ (by omega)]; rfl
    · rw [if_neg e, if_neg e]
  · refine far _ _ ((h.ho.set k _).cells ?_).drew h.n3
    rw [row_set]
    refine row_congr fun i _ => ?_
    by_cases e : i = k
    · rw [if_pos e]; simp [updI, e]
    · rw [if_neg e]; simp [updI, e]

theorem size38 : (Try.prog.info? 38).map (·.size) = some 64 := by kernel_rfl

set_option maxRecDepth 100000 in
set_option maxHeartbeats 1000000 in
theorem alloc_any (pb db ob : Nat) (P : Pool) (o : Int) (w : World) (hP : PoolAt w pb db ob P) :
    Calls Try.prog 18 #[.pointer (some ⟨pb, 0, none⟩), .int .u64 o] w fun e w' => e = .returned (.int .i64 (P.allocRet o)) ∧ PoolAt w' pb db ob (P.alloc o) ∧ Kept (PS pb db ob) w w' := by
  have hc := hP.hp.cell
  have hfp := hP.hp.free
  have hfo := hP.ho.free
  have hn1 := hP.n1
  have hn2 := hP.n2
  have hn3 := hP.n3
  have hhi := hP.hi
  have hll := freeTo_le P.O P.n
  have hll : P.left ≤ 4096 := by unfold Pool.left; omega
  have HP := Lib.hid hP; clear hP
  by_cases h0 : P.left = 0
  · have Hr : Hid (P.allocRet o = 0 ∧ P.alloc o = P) := by
      have : firstFree P.O P.n = P.n := (freeTo_pos P.O P.n).1 h0
      constructor
      · unfold Pool.allocRet; rw [if_neg (by omega)]
      · unfold Pool.alloc; rw [if_neg (by omega)]
    have h0b : ((P.left : Int) == 0) = true := by simpa using h0
    clear h0
    go_enter Try.func18, Try.ntmps18
    go_wp2_with (go_at_call 20; refine (left_any pb db ob P _ HP.out).mono ?_; rintro e w' ⟨rfl, rfl⟩)
    go_ret
    exact ⟨by rw [Hr.out.1]; rfl, by rw [Hr.out.2]; exact HP.out, Kept.refl _ _⟩
  by_cases ho0 : o = 0
  · have Hr : Hid (P.allocRet o = 0 ∧ P.alloc o = P) := by
      constructor
      · unfold Pool.allocRet; rw [if_neg (by omega)]
      · unfold Pool.alloc; rw [if_neg (by omega)]
    have h0b : ((P.left : Int) == 0) = false := by simpa using h0
    have ho0b : (o == 0) = true := by simpa using ho0
    clear h0 ho0
    go_enter Try.func18, Try.ntmps18
    go_wp2_with (go_at_call 20; refine (left_any pb db ob P _ HP.out).mono ?_; rintro e w' ⟨rfl, rfl⟩)
    go_ret
    exact ⟨by rw [Hr.out.1]; rfl, by rw [Hr.out.2]; exact HP.out, Kept.refl _ _⟩
  have hff : firstFree P.O P.n < P.n := by
    have h1 := firstFree_le P.O P.n
    have h2 : ¬ firstFree P.O P.n = P.n := fun e => h0 ((freeTo_pos P.O P.n).2 e)
    omega
  have h0b : ((P.left : Int) == 0) = false := by simpa using h0
  have ho0b : (o == 0) = false := by simpa using ho0
  have Hff := Lib.hid hff; clear hff
  have Ho0 := Lib.hid ho0; clear ho0
  have H0 := Lib.hid h0; clear h0
  go_enter Try.func18, Try.ntmps18
  go_wp2_with (go_at_call 20; refine (left_any pb db ob P _ HP.out).mono ?_; rintro e w' ⟨rfl, rfl⟩)
  go_loopg [5, 6, 19] P.n (fun g _ _ i wx => ∃ k : Nat, k + g = P.n ∧ i = .int .i64 k ∧ (∀ j, j < k → P.O j ≠ 0) ∧ wx = w)
  case atStart => exact ⟨0, by omega, rfl, by omega, rfl⟩
  case round =>
    obtain ⟨k, hk, rfl, hno, rfl⟩ := hrel
    have Hno := Lib.hid hno; clear hno
    have hkn : k < P.n := by
      have h1 := Hff.out
      have h2 := Hno.out (firstFree P.O P.n)
      have h3 := firstFree_free P.O P.n h1
      omega
    have ho := HP.out.ho.rowAt k hkn
    cases e1 : (P.O k == 0)
    · go_wp2_with fail
      go_roundg (P.n - (k + 1))
      case measure => omega
      case rel =>
        refine ⟨k + 1, by omega, by go_num, fun j hj => ?_, rfl⟩
        rcases Nat.lt_or_eq_of_le (Nat.le_of_lt_succ hj) with h | h
        · exact Hno.out j h
        · subst h; simpa using e1
    · have hki : (k : Int) < P.n := by omega
      have hk0 : (0 : Int) ≤ (k : Int) := by omega
      have hu := Try.underlying38
      have hz1 : ∀ v ∈ [Value.int .u8 0, Value.int .u8 0, Value.int .u8 0, Value.int .u8 0, Value.int .u8 0, Value.int .u8 0, Value.int .u8 0, Value.int .u8 0, Value.int .u8 0, Value.int .u8 0, Value.int .u8 0, Value.int .u8 0, Value.int .u8 0, Value.int .u8 0, Value.int .u8 0, Value.int .u8 0, Value.int .u8 0, Value.int .u8 0, Value.int .u8 0, Value.int .u8 0, Value.int .u8 0, Value.int .u8 0, Value.int .u8 0, Value.int .u8 0, Value.int .u8 0, Value.int .u8 0, Value.int .u8 0, Value.int .u8 0, Value.int .u8 0, Value.int .u8 0, Value.int .u8 0, Value.int .u8 0, Value.int .u8 0, Value.int .u8 0, Value.int .u8 0, Value.int .u8 0, Value.int .u8 0, Value.int .u8 0, Value.int .u8 0, Value.int .u8 0, Value.int .u8 0, Value.int .u8 0, Value.int .u8 0, Value.int .u8 0, Value.int .u8 0, Value.int .u8 0, Value.int .u8 0, Value.int .u8 0, Value.int .u8 0, Value.int .u8 0, Value.int .u8 0, Value.int .u8 0, Value.int .u8 0, Value.int .u8 0, Value.int .u8 0, Value.int .u8 0, Value.int .u8 0, Value.int .u8 0, Value.int .u8 0, Value.int .u8 0, Value.int .u8 0, Value.int .u8 0, Value.int .u8 0, Value.int .u8 0], v.oneCell' = true := zeros_one
      have hi : (Try.prog.info? 38).map (·.size) = some [Value.int .u8 0, Value.int .u8 0, Value.int .u8 0, Value.int .u8 0, Value.int .u8 0, Value.int .u8 0, Value.int .u8 0, Value.int .u8 0, Value.int .u8 0, Value.int .u8 0, Value.int .u8 0, Value.int .u8 0, Value.int .u8 0, Value.int .u8 0, Value.int .u8 0, Value.int .u8 0, Value.int .u8 0, Value.int .u8 0, Value.int .u8 0, Value.int .u8 0, Value.int .u8 0, Value.int .u8 0, Value.int .u8 0, Value.int .u8 0, Value.int .u8 0, Value.int .u8 0, Value.int .u8 0, Value.int .u8 0, Value.int .u8 0, Value.int .u8 0, Value.int .u8 0, Value.int .u8 0, Value.int .u8 0, Value.int .u8 0, Value.int .u8 0, Value.int .u8 0, Value.int .u8 0, Value.int .u8 0, Value.int .u8 0, Value.int .u8 0, Value.int .u8 0, Value.int .u8 0, Value.int .u8 0, Value.int .u8 0, Value.int .u8 0, Value.int .u8 0, Value.int .u8 0, Value.int .u8 0, Value.int .u8 0, Value.int .u8 0, Value.int .u8 0, Value.int .u8 0, Value.int .u8 0, Value.int .u8 0, Value.int .u8 0, Value.int .u8 0, Value.int .u8 0, Value.int .u8 0, Value.int .u8 0, Value.int .u8 0, Value.int .u8 0, Value.int .u8 0, Value.int .u8 0, Value.int .u8 0].length := size38
      have hth : wr.there db (k * 64) 64 := by
        intro j hj
        have := HP.out.hd.rowAt (k * 64 + j) (by omega)
        exact ⟨by rw [this]; rfl, HP.out.hd.free _⟩
      have hS : AllocS wr pb db ob P.n k := ⟨by rw [HP.out.hp.cell]; rfl, by rw [HP.out.hp.cell]; rfl, hth⟩
      go_wp2_with fail
      go_region_held3 (fun w' => w'.cell? ⟨pb, 0, none⟩ = some (.slice (some ⟨db, 0, none⟩) P.n P.n) ∧ w'.cell? ⟨pb, 1, none⟩ = some (.slice (some ⟨ob, 0, none⟩) P.n P.n) ∧ w'.there db (k * 64) 64) (first | exact hS.drew | exact (hS.set (fun e => hn2 e.symm) _ _).drew | exact ((hS.set (fun e => hn2 e.symm) _ _).drew.sets hn1 _ _)) (fail)
      obtain ⟨h1, h2, h3, h4⟩ := HP.out.charge k hkn o
      have hkf : Hid (firstFree P.O P.n = k) := firstFree_eq P.O P.n k (by omega) Hno.out (fun _ => by simpa using e1)
      have Hr : Hid (P.allocRet o = (k : Int) + 1 ∧ P.alloc o = ⟨P.n, updI P.O k o, fun j => if k * 64 ≤ j ∧ j < k * 64 + 64 then 0 else P.D j⟩) := by
        constructor
        · unfold Pool.allocRet; rw [if_pos ⟨Ho0.out, Hff.out⟩, hkf.out]
        · unfold Pool.alloc; rw [if_pos ⟨Ho0.out, Hff.out⟩, hkf.out]
      have hup := freeTo_upd P.O o k P.n hkn
      have e2 : P.O k = 0 := by simpa using e1
      rw [if_pos e2, if_neg Ho0.out] at hup
      have Hup := Lib.hid hup; clear hup
      clear e1 e2 hS hth hu hi hz1 ho hc hfp hfo
      generalize World.setCells _ _ _ _ = w2 at *
      have hc := h1.cell
      have hf := h1.free
      have H1 := Lib.hid h1; have H2 := Lib.hid h2; have H3 := Lib.hid h3; have H4 := Lib.hid h4; clear h1 h2 h3 h4
      have hlp : 1 ≤ P.left := by have := H0.out; omega
      go_wp2_with fail
      go_ret
      have hupp := Hup.out
      refine ⟨by rw [Hr.out.1]; rfl, ?_, ?_⟩
      · rw [Hr.out.2]
        refine ⟨Blk.cells (H1.out.set 2 _) ?_, H2.out.set_other (a := ⟨pb, 2, none⟩) hn1 _, H3.out.set_other (a := ⟨pb, 2, none⟩) hn2 _, hn1, hn2, hn3, HP.out.lo, HP.out.hi, fun i => ?_⟩
        · simp [Pool.left] at hupp hlp ⊢
          omega
        · have := HP.out.bd i
          show 0 ≤ (if k * 64 ≤ i ∧ i < k * 64 + 64 then (0 : Int) else P.D i) ∧ (if k * 64 ≤ i ∧ i < k * 64 + 64 then (0 : Int) else P.D i) ≤ 255
          split <;> omega
      · exact H4.out.setIn _ _ _ (.inl rfl)
end Go.Proofs.Ytndnjimiabpkpaa
