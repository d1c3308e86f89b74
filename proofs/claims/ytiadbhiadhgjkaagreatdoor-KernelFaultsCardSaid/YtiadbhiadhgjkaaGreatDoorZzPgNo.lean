/- Of the proof of this claim: a joined text. -/
import Derived.Test.YtiadbhiadhgjkaaGreatDoorZzPgD
import Derived.Deep.LoopGhost
import Derived.Test.YtiadbhiadhgjkaaGreatDoorZzLib
import Derived.Test.YtiadbhiadhgjkaaGreatDoorZzKm
import Derived.Test.YtiadbhiadhgjkaaGreatDoorZzWoHm
import Derived.Test.YtiadbhiadhgjkaaGreatDoorZzSgR
import Derived.Test.YtiadbhiadhgjkaaGreatDoorZzTl
namespace Go.Proofs.YtiadbhiadhgjkaaGreatDoor
open Go.RowKit
attribute [local irreducible] World.setCell World.alloc World.drew World.setRow Calls Code.wp row
theorem madeL_step {N' : Nat -> Int} {p a l : Nat} {t : Int} (hp : p < 4096) (ha : a <= l) (hl : l < 3) : madeL (updI N' (nd p (l + 1)) t) p a (l + 1) = madeL N' p a l ++ [t] := by
 unfold madeL;rw [show l + 1 - a = (l - a) + 1 by omega, List.range_succ, List.map_append];congr 1
 ·refine List.map_congr_left fun j hj => ?_
  have hj' : j < l - a := by simpa using hj
  exact updI_other _ _ _ _ (fun e => by have := nd_inj p _ _ hp (by omega) (by omega) e; omega)
 ·simp [show a + 1 + (l - a) = l + 1 by omega, updI_same]
theorem madeL_nil (N' : Nat -> Int) (p a : Nat) : madeL N' p a a = [] := by simp [madeL]
end Go.Proofs.YtiadbhiadhgjkaaGreatDoor
namespace Go.Proofs.YtiadbhiadhgjkaaGreatDoor
open Go.RowKit
structure MapAt (w : World) (r : Nat) (es : List (Int × Value)) : Prop where
 at_ : ∃ arr clock, w.heap[r]? = some (.map arr clock) /\ arr.toList.map (fun e => (e.key, e.val)) = es.map (fun p => (Value.int .u64 p.1, p.2)) /\ (∀ e ∈ arr.toList, e.born < clock) /\ (arr.toList.map (·.born)).Nodup
 nd : (es.map (·.1)).Nodup
def look (es : List (Int × Value)) (k : Int) : Option Value := (es.find? (fun p => p.1 == k)).map (·.2)
def put (es : List (Int × Value)) (k : Int) (v : Value) : List (Int × Value) := if (look es k).isSome then es.map (fun p => if p.1 = k then (k, v) else p) else es ++ [(k, v)]
theorem look_nil (k : Int) : look [] k = none := rfl
theorem look_cons (p : Int × Value) (es : List (Int × Value)) (k : Int) : look (p :: es) k = if p.1 = k then some p.2 else look es k := by
 unfold look;rw [List.find?_cons];by_cases h : p.1 = k
 ·have : (p.1 == k) = true := by simpa using h
  rw [this, if_pos h]; rfl
 ·have : (p.1 == k) = false := by simpa using h
  rw [this, if_neg h]
theorem look_none {es : List (Int × Value)} {k : Int} : look es k = none ↔ ∀ p ∈ es, p.1 ≠ k := by
 induction es with
 | nil => simp [look_nil]
 | cons p es ih =>
  rw [look_cons];by_cases e : p.1 = k
  ·rw [if_pos e]; simp [e]
  ·rw [if_neg e, ih]; simp [e]
theorem look_append (es : List (Int × Value)) (p : Int × Value) (k : Int) : look (es ++ [p]) k = (look es k).or (if p.1 = k then some p.2 else none) := by
 induction es with
 | nil => rw [List.nil_append, look_cons, look_nil]; simp
 | cons q es ih =>
  rw [List.cons_append, look_cons, look_cons, ih];by_cases e : q.1 = k
  ·rw [if_pos e, if_pos e]; rfl
  ·rw [if_neg e, if_neg e]
theorem look_map (es : List (Int × Value)) (k : Int) (v : Value) (j : Int) : look (es.map (fun p => if p.1 = k then (k, v) else p)) j = if j = k /\ (look es k).isSome then some v else look es j := by
 induction es with
 | nil => simp [look_nil]
 | cons p es ih =>
  rw [List.map_cons, look_cons, look_cons, look_cons, ih];by_cases e : p.1 = k
  ·rw [if_pos e]
   by_cases e2 : k = j
   ·subst e2; simp [e]
   ·rw [if_neg e2, if_neg (fun h => e2 h.1.symm), if_neg (fun h => e2 h.1.symm), if_neg (by omega)]
  ·rw [if_neg e]
   by_cases e2 : p.1 = j
   ·rw [if_pos e2, if_pos e2, if_neg (by omega)]
   ·rw [if_neg e2, if_neg e2, if_neg e]
theorem look_put (es : List (Int × Value)) (k : Int) (v : Value) (j : Int) : look (put es k v) j = if j = k then some v else look es j := by
 unfold put;by_cases h : (look es k).isSome = true
 ·rw [if_pos h, look_map]
  by_cases e : j = k
  ·rw [if_pos ⟨e, h⟩, if_pos e]
  ·rw [if_neg (fun x => e x.1), if_neg e]
 ·rw [if_neg h, look_append]
  have hn : look es k = none := by simpa using h
  by_cases e : k = j
  ·subst e; rw [hn, if_pos rfl]; simp
  ·simp only [if_neg e]; rw [if_neg (fun x => e x.symm)]; simp
theorem keys_map (es : List (Int × Value)) (k : Int) (v : Value) : (es.map (fun p => if p.1 = k then (k, v) else p)).map (·.1) = es.map (·.1) := by
 rw [List.map_map];refine List.map_congr_left fun p _ => ?_
 show (if p.1 = k then (k, v) else p).1 = p.1
 split
 ·symm; assumption
 ·rfl
theorem put_nodup {es : List (Int × Value)} (h : (es.map (·.1)).Nodup) (k : Int) (v : Value) : ((put es k v).map (·.1)).Nodup := by
 unfold put;split
 ·rw [keys_map]; exact h
 ·rename_i hn
  have hn' : look es k = none := by simpa using hn
  rw [List.map_append, List.nodup_append];refine ⟨h, by simp, ?_⟩;intro a ha b hb;simp at hb;subst hb;obtain ⟨p, hp, rfl⟩ := List.mem_map.1 ha;exact look_none.1 hn' p hp
theorem MapAt.new (w : World) : MapAt (w.alloc (.map #[] 0)) w.heap.size [] := by
 refine ⟨⟨#[], 0, ?_, rfl, by simp, by simp⟩, by simp⟩;show (w.heap.push _)[w.heap.size]? = _
 simp
theorem MapAt.lt {w : World} {r : Nat} {es : List (Int × Value)} (h : MapAt w r es) : r < w.heap.size := by
 obtain ⟨arr, clock, hh, _⟩ := h.at_;exact (Array.getElem?_eq_some_iff.1 hh).1
theorem MapAt.kept {S : Nat -> Prop} {w w' : World} {r : Nat} {es : List (Int × Value)} (h : MapAt w r es) (k : Kept S w w') (hs : ¬ S r) : MapAt w' r es := by
 have hl := h.lt;obtain ⟨⟨arr, clock, hh, r1⟩, nd⟩ := h;exact ⟨⟨arr, clock, by rw [k.block r hl hs]; exact hh, r1⟩, nd⟩
theorem MapAt.below {B : Nat} {w w' : World} {r : Nat} {es : List (Int × Value)} (h : MapAt w r es) (k : Below B w w') (hs : r < B) : MapAt w' r es := by
 obtain ⟨⟨arr, clock, hh, r1⟩, nd⟩ := h;exact ⟨⟨arr, clock, by rw [k.block r hs]; exact hh, r1⟩, nd⟩
theorem MapAt.alloc {w : World} {r : Nat} {es : List (Int × Value)} (h : MapAt w r es) (o : Obj) : MapAt (w.alloc o) r es :=
 h.kept (S := fun _ => False) ((Kept.refl _ _).alloc o) (fun h => h)
theorem MapAt.drew {w : World} {r : Nat} {es : List (Int × Value)} (h : MapAt w r es) : MapAt w.drew r es := ⟨h.at_, h.nd⟩
section
variable {P : Program}
theorem findNow_none (k : Int) : ∀ (l : List MapEntry) (es : List (Int × Value)) (i : Nat), l.map (fun e => (e.key, e.val)) = es.map (fun p => (Value.int .u64 p.1, p.2)) -> look es k = none ->
  Instr.findNow (.int .u64) (.int .u64 k) l i = some none
 | [], _, _, _, _ => rfl
 | e :: l, [], _, h, _ => by simp at h
 | e :: l, p :: es, i, h, hn => by
  simp only [List.map_cons, List.cons.injEq, Prod.mk.injEq] at h;obtain ⟨⟨h1, h2⟩, h3⟩ := h;rw [look_cons] at hn;by_cases e1 : p.1 = k
  ·rw [if_pos e1] at hn; cases hn
  ·rw [if_neg e1] at hn
   have e2 : (k == p.1) = false := by simp; omega
   unfold Instr.findNow;rw [h1];simp only [Instr.sameNow, e2, if_true];exact findNow_none k l es (i + 1) h3 hn
theorem findNow_some (k : Int) (v : Value) : ∀ (l : List MapEntry) (es : List (Int × Value)) (i : Nat), l.map (fun e => (e.key, e.val)) = es.map (fun p => (Value.int .u64 p.1, p.2)) -> look es k = some v ->
  ∃ j, Instr.findNow (.int .u64) (.int .u64 k) l i = some (some (i + j, v)) /\ (l[j]?).map (·.key) = some (.int .u64 k) /\ j < l.length
 | [], [], _, _, hn => by cases hn
 | [], p :: es, _, h, _ => by simp at h
 | e :: l, [], _, h, _ => by simp at h
 | e :: l, p :: es, i, h, hn => by
  simp only [List.map_cons, List.cons.injEq, Prod.mk.injEq] at h;obtain ⟨⟨h1, h2⟩, h3⟩ := h;rw [look_cons] at hn;by_cases e1 : p.1 = k
  ·rw [if_pos e1] at hn
   cases hn;refine ⟨0, ?_, by simp [h1, e1], by simp⟩;unfold Instr.findNow;rw [h1, e1, h2];simp [Instr.sameNow]
  ·rw [if_neg e1] at hn
   have e2 : (k == p.1) = false := by simp; omega
   obtain ⟨j, hj, hk, hl⟩ := findNow_some k v l es (i + 1) h3 hn;refine ⟨j + 1, ?_, by simpa using hk, by simp; omega⟩;unfold Instr.findNow;rw [h1];simp only [Instr.sameNow, e2, if_true];rw [hj]; simp [Nat.add_assoc, Nat.add_comm 1 j]
theorem run_checkKey_int {K : TypeId} (hK : P.underlying K = some (.int .u64)) (b : Bool) (n : Nat) (k : Int) (w : World) : (Instr.checkKey b (n + 1) K (.int .u64 k)).run P w = .ok () w := by
 simp [Instr.checkKey, run_underlying hK]
theorem run_findKey {K : TypeId} (hK : P.underlying K = some (.int .u64)) (l : List MapEntry) (k : Int) (w : World) {r : Option (Nat × Value)} (h : Instr.findNow (.int .u64) (.int .u64 k) l 0 = some r) :
  (Instr.findKey K (.int .u64 k) l).run P w = .ok r w := by
 simp [Instr.findKey, run_underlying hK, h]
theorem run_getObj_map {w : World} {r : Nat} {arr : Array MapEntry} {clock : Nat} (h : w.heap[r]? = some (.map arr clock)) : (getObj r).run P w = .ok (.map arr clock) w := by
 simp [getObj, Sem.run, h]
theorem MapAt.run_lookup {w : World} {r : Nat} {es : List (Int × Value)} (h : MapAt w r es) {T K E : TypeId} (hT : P.underlying T = some (.map K E)) (hK : P.underlying K = some (.int .u64)) {z : Value} (hz : ∀ w, (zeroValue E).run P w = .ok z w) (k : Int) :
  (Instr.lookup T (.map (some r)) (.int .u64 k) false).run P w = .ok ((look es k).getD z) w := by
 obtain ⟨⟨arr, clock, hh, hm, _⟩, _⟩ := h;unfold Instr.lookup
 cases hl : look es k with
 | none =>
  have hf := findNow_none k arr.toList es 0 hm hl;simp [run_underlying hT, run_getObj_map hh, run_checkKey_int hK, run_findKey hK _ _ _ hf, hz, Result.andThen]
 | some v =>
  obtain ⟨j, hf, _⟩ := findNow_some k v arr.toList es 0 hm hl;simp [run_underlying hT, run_getObj_map hh, run_checkKey_int hK, run_findKey hK _ _ _ hf, Result.andThen]
theorem run_setObj_map {w : World} {r : Nat} {arr : Array MapEntry} {clock : Nat} (h : w.heap[r]? = some (.map arr clock)) (o : Obj) :
  (setObj r o).run P w = .ok () { w with heap := w.heap.setIfInBounds r o } := by
 simp [setObj, Sem.run, h]
theorem kept_setObj (w : World) (r : Nat) (o : Obj) : Kept (· = r) w { w with heap := w.heap.setIfInBounds r o } :=
 ⟨rfl, rfl, rfl, by simp, fun k _ hs => by
  show (w.heap.setIfInBounds r o)[k]? = _
  rw [Array.getElem?_setIfInBounds_ne (fun e => hs e.symm)]⟩
theorem setObj_at {w : World} {r : Nat} {arr : Array MapEntry} {clock : Nat} (h : w.heap[r]? = some (.map arr clock)) (o : Obj) : ({ w with heap := w.heap.setIfInBounds r o } : World).heap[r]? = some o := by
 show (w.heap.setIfInBounds r o)[r]? = _
 rw [Array.getElem?_setIfInBounds_self, if_pos (Array.getElem?_eq_some_iff.1 h).1]
theorem list_modify_map {α β : Type} (f : α -> β) (g : α -> α) (h : β -> β) : ∀ (l : List α) (j : Nat) (_ : ∀ a, f (g a) = h (f a)), (l.modify j g).map f = (l.map f).modify j h
 | [], _, _ => by simp
 | a :: l, 0, hh => by simp [hh]
 | a :: l, j + 1, hh => by simp [list_modify_map f g h l j hh]
theorem modify_keys (k : Int) (v : Value) : ∀ (l : List MapEntry) (es : List (Int × Value)) (j : Nat), l.map (fun e => (e.key, e.val)) = es.map (fun p => (Value.int .u64 p.1, p.2)) -> (es.map (·.1)).Nodup ->
  (l[j]?).map (·.key) = some (.int .u64 k) -> (l.modify j fun e => { e with key := .int .u64 k, val := v }).map (fun e => (e.key, e.val)) = (es.map (fun p => if p.1 = k then (k, v) else p)).map (fun p => (Value.int .u64 p.1, p.2))
 | [], es, j, _, _, h => by simp at h
 | e :: l, [], _, h, _, _ => by simp at h
 | e :: l, p :: es, 0, h, nd, hk => by
  simp only [List.map_cons, List.cons.injEq, Prod.mk.injEq] at h;obtain ⟨⟨h1, h2⟩, h3⟩ := h;simp at hk;rw [h1] at hk;simp at hk;simp only [List.map_cons, List.nodup_cons] at nd
  have hrest : es.map (fun p => if p.1 = k then (k, v) else p) = es := by
   have : es.map (fun p => if p.1 = k then (k, v) else p) = es.map id := by
    refine List.map_congr_left fun q hq => ?_
    have : q.1 ≠ k := fun e => nd.1 (by rw [hk, <- e]; exact List.mem_map.2 ⟨q, hq, rfl⟩)
    simp [this]
   simpa using this
  simp [hk, hrest, h3]
 | e :: l, p :: es, j + 1, h, nd, hk => by
  simp only [List.map_cons, List.cons.injEq, Prod.mk.injEq] at h;obtain ⟨⟨h1, h2⟩, h3⟩ := h;simp only [List.map_cons, List.nodup_cons] at nd;have hk' : (l[j]?).map (·.key) = some (.int .u64 k) := by simpa using hk
  have hpk : p.1 ≠ k := by
   intro e1;apply nd.1;rw [e1]
   have hm : (Value.int .u64 k) ∈ l.map (·.key) := by
    cases hlj : l[j]? with
    | none => rw [hlj] at hk'; cases hk'
    | some x => rw [hlj] at hk'; simp at hk'; rw [<- hk']; exact List.mem_map.2 ⟨x, List.mem_of_getElem? hlj, rfl⟩
   have he : l.map (·.key) = es.map (fun p => Value.int .u64 p.1) := by
    have := congrArg (List.map Prod.fst) h3;simpa [List.map_map, Function.comp_def] using this
   rw [he] at hm;obtain ⟨q, hq, e2⟩ := List.mem_map.1 hm;simp at e2;exact List.mem_map.2 ⟨q, hq, e2⟩
  have ih := modify_keys k v l es j h3 nd.2 hk';simp only [List.modify_succ_cons, List.map_cons, if_neg hpk, h1, h2];rw [ih]
theorem MapAt.run_update {w : World} {r : Nat} {es : List (Int × Value)} (h : MapAt w r es) {T K E : TypeId} (hT : P.underlying T = some (.map K E)) (hK : P.underlying K = some (.int .u64)) (k : Int) (v : Value) :
  ∃ w', (Instr.mapUpdate T (.map (some r)) (.int .u64 k) v).run P w = .ok () w' /\ MapAt w' r (put es k v) /\ Kept (· = r) w w' := by
 obtain ⟨⟨arr, clock, hh, hm, hb, hbn⟩, nd⟩ := h;unfold Instr.mapUpdate
 cases hl : look es k with
 | none =>
  have hf := findNow_none k arr.toList es 0 hm hl;refine ⟨{ w with heap := w.heap.setIfInBounds r (.map (arr.push { key := .int .u64 k, val := v, born := clock }) (clock + 1)) }, ?_, ⟨⟨_, _, setObj_at hh _, ?_, ?_, ?_⟩, put_nodup nd k v⟩, kept_setObj _ _ _⟩
  ·simp [run_underlying hT, run_getObj_map hh, run_checkKey_int hK, run_findKey hK _ _ _ hf, Result.andThen, run_setObj_map hh]
  ·have : put es k v = es ++ [(k, v)] := by unfold put; rw [hl]; rfl
   rw [this]; simp [hm]
  ·intro e he
   rw [Array.toList_push, List.mem_append] at he;rcases he with he | he
   ·have := hb e he; omega
   ·simp at he; subst he; simp
  ·rw [Array.toList_push, List.map_append, List.nodup_append]
   refine ⟨hbn, by simp, ?_⟩;intro a ha b hb';simp at hb';subst hb';obtain ⟨x, hx, rfl⟩ := List.mem_map.1 ha;have := hb x hx;omega
 | some u =>
  obtain ⟨j, hf, hkey, hjl⟩ := findNow_some k u arr.toList es 0 hm hl;have hkey' : (arr[j]?).map (·.key) = some (.int .u64 k) := by simpa using hkey
  have hstay : ∀ w, (Instr.keyThatStays (.int .u64 k) (.int .u64 k)).run P w = .ok (.int .u64 k) w := fun w => by simp [Instr.keyThatStays, Instr.sameBits]
  have hbo : (arr.toList.modify j fun e => { e with key := .int .u64 k, val := v }).map (·.born) = arr.toList.map (·.born) := by
   rw [list_modify_map (fun e : MapEntry => e.born) (fun e => { e with key := .int .u64 k, val := v }) (fun x => x) arr.toList j (fun _ => rfl)];exact List.modify_id _ _
  refine ⟨{ w with heap := w.heap.setIfInBounds r (.map (arr.modify j fun e => { e with key := .int .u64 k, val := v }) clock) }, ?_, ⟨⟨_, _, setObj_at hh _, ?_, ?_, ?_⟩, put_nodup nd k v⟩, kept_setObj _ _ _⟩
  ·simp [run_underlying hT, run_getObj_map hh, run_checkKey_int hK, run_findKey hK _ _ _ hf, Result.andThen, hkey', hstay, run_setObj_map hh]
  ·have : put es k v = es.map (fun p => if p.1 = k then (k, v) else p) := by unfold put; rw [hl]; rfl
   rw [this, Array.toList_modify];exact modify_keys k v arr.toList es j hm nd hkey
  ·intro e he
   rw [Array.toList_modify] at he;have hmem : e.born ∈ (arr.toList.modify j fun e => { e with key := .int .u64 k, val := v }).map (·.born) := List.mem_map.2 ⟨e, he, rfl⟩;rw [hbo] at hmem;simp at hmem;obtain ⟨x, hx, e1⟩ := hmem;rw [<- e1]; exact hb x (by simpa using hx)
  ·rw [Array.toList_modify, hbo]
   exact hbn
end
end Go.Proofs.YtiadbhiadhgjkaaGreatDoor
namespace Go.Proofs.YtiadbhiadhgjkaaGreatDoor
open Go.RowKit
structure Gh where
 (kb tb mb pb db ob cb : Nat)
 (A : Nat -> Option (Int × Nat)) (bl tl : Int -> Nat)
 (P : Pool) (mt : Int -> Int) (fr : Int -> List Int) (root tabs : Int -> Int) (N F : Int -> Nat -> Int) (Y : Int -> Nat -> Bool)
 (tlb : Nat -> Pl) (flush : Nat -> Bool) (last : Nat -> Int) (ths : List Int)
def Mild (w : World) (S : Nat -> Prop) : Prop := ∀ b cs ty fz, S b -> w.heap[b]? = some (.cells cs ty fz) -> ty ≠ 111 /\ ty ≠ 5
theorem Mild.of {w : World} {b : Nat} {cs : Array Value} {ty : TypeId} (h : Blk w b cs ty) (h1 : ty ≠ 111 /\ ty ≠ 5) : Mild w (· = b) := by
 intro c ds t fz e hh
 cases e;unfold Blk at h;rw [h] at hh
 cases hh; exact h1
theorem Mild.none (w : World) : Mild w (fun _ => False) := fun _ _ _ _ e => e.elim
theorem PairsIn.mild {w w' : World} {v : Value} {ps : List (Nat × Nat)} (h : PairsIn w v ps) {S : Nat -> Prop} (k : Kept S w w') (ht : Mild w S) : PairsIn w' v ps := RowAt.kept h k (fun b cs fz hs hh => (ht b cs _ fz hs hh).1 rfl)
theorem DataIn.mild {w w' : World} {v : Value} {ps : List UInt8} (h : DataIn w v ps) {S : Nat -> Prop} (k : Kept S w w') (ht : Mild w S) : DataIn w' v ps := RowAt.kept h k (fun b cs fz hs hh => (ht b cs _ fz hs hh).2 rfl)
structure Own (w : World) (A : Nat -> Option (Int × Nat)) (tg : Int × Nat) (e size : Nat) (v : Value) (n : Nat) (xs : List Value) : Prop where
 row : w.ownsRow 0 e size v n xs
 tag : ∀ b, v.ownBlock = some b -> A b = some tg
def NumsIn (w : World) (A : Nat -> Option (Int × Nat)) (tg : Int × Nat) (v : Value) (l : List Int) : Prop := Own w A tg 37 1 v l.length (l.map (.int .u64))
theorem own_lt {w : World} {base e size n : Nat} {v : Value} {xs : List Value} (h : w.ownsRow base e size v n xs) {b : Nat} (hb : v.ownBlock = some b) : b < w.heap.size := by
 obtain ⟨cur, hh, -⟩ := row_type h hb;exact (Array.getElem?_eq_some_iff.1 hh).1
theorem Own.kept {w w' : World} {A A' : Nat -> Option (Int × Nat)} {tg : Int × Nat} {e size n : Nat} {v : Value} {xs : List Value} (h : Own w A tg e size v n xs) {S : Nat -> Prop} (k : Kept S w w') (hs : ∀ b, S b -> b < w.heap.size -> A b ≠ some tg) (hA : ∀ b tg, A b = some tg -> A' b = some tg) : Own w' A' tg e size v n xs :=
 ⟨row_kept h.row k (fun b hb q => hs b q (own_lt h.row hb) (h.tag b hb)), fun b hb => hA b _ (h.tag b hb)⟩
theorem Own.nil (w : World) (A : Nat -> Option (Int × Nat)) (tg : Int × Nat) (e size : Nat) : Own w A tg e size (.slice none 0 0) 0 [] := ⟨World.ownsRow_nil _ _ _ _, fun b hb => by cases hb⟩
structure Ts where
 (cp al locks reads seen picks : Value)
def thC (t : Th) (x : Ts) (root tabs : Int) : Array Value := #[.int .u64 (t.r 0), .int .u64 (t.r 1), .int .u64 (t.r 2), .int .u64 (t.r 3), .int .u64 (t.r 4), .int .u64 (t.r 5), .int .u64 (t.r 6), .int .u64 (t.r 7), .int .u64 (t.r 8), .int .u64 (t.r 9), .int .u64 (t.r 10), .int .u64 (t.r 11), .int .u64 (t.r 12), .int .u64 (t.r 13), .int .u64 (t.r 14), .int .u64 (t.r 15),
 .int .u64 t.pc, .int .i64 (t.clear.d : Nat), x.cp, .int .u64 t.space, .int .i64 t.state, .int .i64 t.on, .int .i64 root, .int .i64 tabs, .int .i64 t.made, .int .i64 t.fault,
 .int .u64 t.wait.seg, .int .i64 t.wait.off, .int .u64 t.wait.val, .int .u64 t.wait.wakes, .int .u64 t.wait.until_, x.al,
 .int .i64 t.cont.phase, x.locks, .int .i64 t.cont.next, x.reads, x.seen, .int .i64 t.cont.tries, x.picks]
structure ThRows (w : World) (A : Nat -> Option (Int × Nat)) (n : Int) (t : Th) (x : Ts) : Prop where
 clr : PairsIn w x.cp t.clear.ps
 al : NumsIn w A (n, 11) x.al t.alerts
 locks : NumsIn w A (n, 12) x.locks t.cont.locks
 reads : NumsIn w A (n, 13) x.reads t.cont.reads
 seen : NumsIn w A (n, 14) x.seen t.cont.seen
 picks : NumsIn w A (n, 15) x.picks t.cont.picks
 regs : ∀ i, 0 <= t.r i /\ t.r i <= 18446744073709551615
 pc : 0 <= t.pc /\ t.pc <= 18446744073709551615
 cok : LabOk t.clear
theorem ThRows.kept {w w' : World} {A A' : Nat -> Option (Int × Nat)} {n : Int} {t : Th} {x : Ts} (h : ThRows w A n t x) {S : Nat -> Prop} (k : Kept S w w') (ht : Mild w S) (hs : ∀ b, S b -> b < w.heap.size -> ∀ i, 11 <= i -> A b ≠ some (n, i)) (hA : ∀ b tg, A b = some tg -> A' b = some tg) : ThRows w' A' n t x :=
 ⟨h.clr.mild k ht, Own.kept h.al k (fun b q l => hs b q l _ (by omega)) hA, Own.kept h.locks k (fun b q l => hs b q l _ (by omega)) hA, Own.kept h.reads k (fun b q l => hs b q l _ (by omega)) hA, Own.kept h.seen k (fun b q l => hs b q l _ (by omega)) hA, Own.kept h.picks k (fun b q l => hs b q l _ (by omega)) hA, h.regs, h.pc, h.cok⟩
structure ThIn (w : World) (A : Nat -> Option (Int × Nat)) (n : Int) (b : Nat) (t : Th) (root tabs : Int) : Prop where
 tag : A b = some (n, 10)
 ex : ∃ x, Blk w b (thC t x root tabs) 52 /\ ThRows w A n t x
structure Os where
 (q kids fr maps lp cp out : Value) (inn : Nat -> Value) (rat : Nat)
def obC (o : Ob) (s : Os) (mt : Int) (T : Value) : Array Value := #[s.q, .int .u64 o.ver, .int .u64 o.name, .int .i64 o.kind, .int .i64 (o.lab.d : Nat), s.lp, .int .u64 o.home, .int .u64 o.info, .int .i64 mt,
 .int .i64 o.purse.lim, .int .i64 o.purse.used, .int .i64 o.purse.given, .int .u64 o.names.lo, .int .u64 o.names.next, .int .u64 o.names.hi, s.kids, s.fr, .int .u64 o.wakes, s.maps, T, .int .i64 (o.clear.d : Nat), s.cp, .int .u64 o.space, .int .u64 o.pc,
 s.inn 0, s.inn 1, s.inn 2, s.inn 3, s.inn 4, s.inn 5, s.inn 6, s.inn 7, .int .i64 (s.rat : Nat), .int .i64 (o.ring.length : Nat), .int .i64 o.lost, s.out]
structure ObRows (w : World) (A : Nat -> Option (Int × Nat)) (b : Nat) (o : Ob) (s : Os) (fr : List Int) : Prop where
 lab : PairsIn w s.lp o.lab.ps
 clr : PairsIn w s.cp o.clear.ps
 q : NumsIn w A (o.name, 1) s.q o.q
 kids : NumsIn w A (o.name, 2) s.kids o.kids
 frs : FrIn w (b + 1) s.fr fr
 frt : ∀ c, s.fr.ownBlock = some c -> A c = some (o.name, 3)
 maps : Own w A (o.name, 4) 125 5 s.maps o.maps.length (o.maps.flatMap mapV)
 out : NumsIn w A (o.name, 5) s.out o.out
 rat : s.rat < 8
 rn : o.ring.length <= 8
 ring : ∀ i p, o.ring[i]? = some p -> DataIn w (s.inn ((s.rat + i) % 8)) p
 ok : LabOk o.lab /\ LabOk o.clear
theorem ObRows.kept {w w' : World} {A A' : Nat -> Option (Int × Nat)} {b : Nat} {o : Ob} {s : Os} {fr : List Int} (h : ObRows w A b o s fr) {S : Nat -> Prop} (k : Kept S w w') (ht : Mild w S) (hs : ∀ c, S c -> c < w.heap.size -> ∀ i, 1 <= i -> i <= 5 -> A c ≠ some (o.name, i)) (hA : ∀ b tg, A b = some tg -> A' b = some tg) : ObRows w' A' b o s fr :=
 ⟨h.lab.mild k ht, h.clr.mild k ht, Own.kept h.q k (fun c q l => hs c q l _ (by omega) (by omega)) hA, Own.kept h.kids k (fun c q l => hs c q l _ (by omega) (by omega)) hA,
  h.frs.kept k (fun c hc q => hs c q (h.frs.lt c hc).2 3 (by omega) (by omega) (h.frt c hc)), fun c hc => hA c _ (h.frt c hc),
  Own.kept h.maps k (fun c q l => hs c q l _ (by omega) (by omega)) hA, Own.kept h.out k (fun c q l => hs c q l _ (by omega) (by omega)) hA, h.rat, h.rn, fun i p hp => (h.ring i p hp).mild k ht, h.ok⟩
section
variable {w w' : World} {A A' : Nat -> Option (Int × Nat)} {b : Nat} {o : Ob} {s : Os} {fr : List Int} {S : Nat -> Prop}
theorem ObRows.but (h : ObRows w A b o s fr) (k : Kept S w w') (ht : Mild w S) (j : Nat) (hs : ∀ c, S c -> c < w.heap.size -> ∀ i, 1 <= i -> i <= 5 -> i ≠ j -> A c ≠ some (o.name, i)) (hA : ∀ b tg, A b = some tg -> A' b = some tg) :
  PairsIn w' s.lp o.lab.ps /\ PairsIn w' s.cp o.clear.ps /\ (j ≠ 1 -> NumsIn w' A' (o.name, 1) s.q o.q) /\ (j ≠ 2 -> NumsIn w' A' (o.name, 2) s.kids o.kids) /\ (j ≠ 3 -> FrIn w' (b + 1) s.fr fr /\ ∀ c, s.fr.ownBlock = some c -> A' c = some (o.name, 3)) /\
  (j ≠ 4 -> Own w' A' (o.name, 4) 125 5 s.maps o.maps.length (o.maps.flatMap mapV)) /\ (j ≠ 5 -> NumsIn w' A' (o.name, 5) s.out o.out) /\ ∀ i p, o.ring[i]? = some p -> DataIn w' (s.inn ((s.rat + i) % 8)) p :=
 ⟨h.lab.mild k ht, h.clr.mild k ht, fun e => Own.kept h.q k (fun c q l => hs c q l _ (by omega) (by omega) (by omega)) hA, fun e => Own.kept h.kids k (fun c q l => hs c q l _ (by omega) (by omega) (by omega)) hA,
  fun e => ⟨h.frs.kept k (fun c hc q => hs c q (h.frs.lt c hc).2 3 (by omega) (by omega) (by omega) (h.frt c hc)), fun c hc => hA c _ (h.frt c hc)⟩,
  fun e => Own.kept h.maps k (fun c q l => hs c q l _ (by omega) (by omega) (by omega)) hA, fun e => Own.kept h.out k (fun c q l => hs c q l _ (by omega) (by omega) (by omega)) hA, fun i p hp => (h.ring i p hp).mild k ht⟩
theorem ObRows.setKids (h : ObRows w A b o s fr) (k : Kept S w w') (ht : Mild w S) (hs : ∀ c, S c -> c < w.heap.size -> ∀ i, 1 <= i -> i <= 5 -> i ≠ 2 -> A c ≠ some (o.name, i)) (hA : ∀ b tg, A b = some tg -> A' b = some tg) {v : Value} {l : List Int} (hv : NumsIn w' A' (o.name, 2) v l) : ObRows w' A' b { o with kids := l } { s with kids := v } fr := by
 obtain ⟨h1, h2, h3, h4, h5, h6, h7, h8⟩ := h.but k ht 2 hs hA;exact ⟨h1, h2, h3 (by omega), hv, (h5 (by omega)).1, (h5 (by omega)).2, h6 (by omega), h7 (by omega), h.rat, h.rn, h8, h.ok⟩
theorem ObRows.setMaps (h : ObRows w A b o s fr) (k : Kept S w w') (ht : Mild w S) (hs : ∀ c, S c -> c < w.heap.size -> ∀ i, 1 <= i -> i <= 5 -> i ≠ 4 -> A c ≠ some (o.name, i)) (hA : ∀ b tg, A b = some tg -> A' b = some tg) {v : Value} {l : List WMap} (hv : Own w' A' (o.name, 4) 125 5 v l.length (l.flatMap mapV)) : ObRows w' A' b { o with maps := l } { s with maps := v } fr := by
 obtain ⟨h1, h2, h3, h4, h5, h6, h7, h8⟩ := h.but k ht 4 hs hA;exact ⟨h1, h2, h3 (by omega), h4 (by omega), (h5 (by omega)).1, (h5 (by omega)).2, hv, h7 (by omega), h.rat, h.rn, h8, h.ok⟩
end
theorem NumsIn.grown {w' : World} {A : Nat -> Option (Int × Nat)} {tg : Int × Nat} {l : List Int} {g5 cap n : Nat} {x : Int} (hrow : w'.ownsRow 0 37 1 (.slice (some ⟨g5, 0, none⟩) n cap) n (l.map (.int .u64) ++ [.int .u64 x])) (hn : n = l.length + 1) : NumsIn w' (fun c => if c = g5 then some tg else A c) tg (.slice (some ⟨g5, 0, none⟩) n cap) (l ++ [x]) := by
 subst hn;refine ⟨?_, fun b hb => by cases hb; exact if_pos rfl⟩;rw [List.map_append, List.length_append];exact hrow
structure ObIn (w : World) (g : Gh) (o : Ob) : Prop where
 pos : 0 < o.name
 tag : g.A (g.bl o.name) = some (o.name, 0)
 late : g.pb < g.bl o.name /\ g.db < g.bl o.name /\ g.ob < g.bl o.name
 ex : ∃ s T, Blk w (g.bl o.name) (obC o s (g.mt o.name) T) 68 /\ ObRows w g.A (g.bl o.name) o s (g.fr o.name) /\
  (o.kind = 3 -> T = .pointer (some ⟨g.tl o.name, 0, none⟩) /\ ThIn w g.A o.name (g.tl o.name) o.th (g.root o.name) (g.tabs o.name)) /\ (o.kind ≠ 3 -> T = .pointer none)
structure Alike1 (g g' : Gh) (n : Int) : Prop where
 bl : g'.bl n = g.bl n
 tl : g'.tl n = g.tl n
 mt : g'.mt n = g.mt n
 fr : g'.fr n = g.fr n
 root : g'.root n = g.root n
 tabs : g'.tabs n = g.tabs n
theorem ObIn.kept {w w' : World} {g g' : Gh} {o : Ob} (h : ObIn w g o) {S : Nat -> Prop} (k : Kept S w w') (ht : Mild w S) (hs : ∀ b, S b -> b < w.heap.size -> ∀ i, g.A b ≠ some (o.name, i)) (hA : ∀ b tg, g.A b = some tg -> g'.A b = some tg) (hl : Alike1 g g' o.name) (hp : g'.pb = g.pb /\ g'.db = g.db /\ g'.ob = g.ob) : ObIn w' g' o := by
 obtain ⟨s, T, hB, hR, h3, hn⟩ := h.ex;have hlt := hB.lt;refine ⟨h.pos, by rw [hl.bl]; exact hA _ _ h.tag, by rw [hl.bl, hp.1, hp.2.1, hp.2.2]; exact h.late, s, T, ?_, ?_, fun e => ?_, hn⟩
 ·rw [hl.bl, hl.mt]; exact k.blk hB (fun q => hs _ q hlt 0 h.tag)
 ·rw [hl.bl, hl.fr]; exact hR.kept k ht (fun c q l i _ _ => hs c q l i) hA
 ·obtain ⟨e1, hT⟩ := h3 e
  obtain ⟨x, hb, hr⟩ := hT.ex;refine ⟨by rw [hl.tl]; exact e1, ?_⟩;rw [hl.tl, hl.root, hl.tabs];exact ⟨hA _ _ hT.tag, x, k.blk hb (fun q => hs _ q hb.lt 10 hT.tag), hr.kept k ht (fun c q l i _ => hs c q l i) hA⟩
def coreC (c : KCore) (t : Pl) (fl : Bool) (la : Int) : List Value := [.int .i64 c.slot, .int .i64 c.left, .int .u64 c.ticks, .int .u64 (c.turns 0), .int .u64 (c.turns 1), .int .u64 (c.turns 2), .int .u64 (c.turns 3), .int .u64 (c.turns 4), .int .u64 (c.turns 5), .int .u64 (c.turns 6), .int .u64 (c.turns 7),
 .int .i64 (t.p 0), .int .i64 (t.f 0), .bool (t.w 0), .int .i64 (t.p 1), .int .i64 (t.f 1), .bool (t.w 1), .int .i64 (t.p 2), .int .i64 (t.f 2), .bool (t.w 2), .int .i64 (t.p 3), .int .i64 (t.f 3), .bool (t.w 3), .int .i64 t.n, .bool fl, .int .u64 la, .int .u64 c.picks]
structure CoreOk (c : KCore) (n : Nat) : Prop where
 slot : 0 <= c.slot /\ c.slot < n
 left : 1 <= c.left /\ c.left <= 16
 ticks : 0 <= c.ticks /\ c.ticks <= 18446744073709551615
 turns : ∀ i, 0 <= c.turns i /\ c.turns i <= 18446744073709551615
 picks : 0 <= c.picks /\ c.picks <= 18446744073709551615
structure CoresIn (w : World) (g : Gh) (nc : Nat) (f : Nat -> KCore) (ns : Nat) : Prop where
 ex : 0 < nc -> g.A g.cb = some (0, 6) /\ ∃ cs, Blk w g.cb cs 162 /\ ∀ i, i < nc -> In cs (i * 27) (coreC (f i) (g.tlb i) (g.flush i) (g.last i))
 ok : ∀ i, i < nc -> CoreOk (f i) ns
 nc : nc <= 4
 ns : ns <= 8
def kernC (g : Gh) (cv sv dv : Value) (done : Bool) : Array Value := #[.pointer (some ⟨g.tb, 0, none⟩), .pointer (some ⟨g.pb, 0, none⟩), cv, sv, dv, .bool done]
def CoreV (g : Gh) (nc : Nat) (cv : Value) : Prop := (nc = 0 /\ cv = .slice none 0 0) \/ ∃ cap, cv = .slice (some ⟨g.cb, 0, none⟩) nc cap /\ nc <= cap /\ cap <= maxLen /\ 0 < nc
structure TagsIn (g : Gh) : Prop where
 kb : g.A g.kb = some (0, 0)
 tb : g.A g.tb = some (0, 1)
 mb : g.A g.mb = some (0, 2)
 pb : g.A g.pb = some (0, 3)
 db : g.A g.db = some (0, 4)
 ob : g.A g.ob = some (0, 5)
structure KernIn (w : World) (g : Gh) (nc : Nat) (slots : List (Int × Int)) (devs : List Int) (done : Bool) : Prop where
 ex : ∃ cv sv dv, CoreV g nc cv /\ Blk w g.kb (kernC g cv sv dv done) 88 /\ Own w g.A (0, 7) 127 2 sv slots.length (slots.flatMap slotV) /\ NumsIn w g.A (0, 8) dv devs
structure TabIn (w : World) (g : Gh) (f : Int -> Option Ob) : Prop where
 tab : Blk w g.tb #[.map (some g.mb)] 137
 map : ∃ es, MapAt w g.mb es /\ ∀ n, look es n = (f n).map fun _ => Value.pointer (some ⟨g.bl n, 0, none⟩)
structure KIn (w : World) (g : Gh) (K : Km) : Prop where
 tags : TagsIn g
 nrm : ∀ b, w.heap.size <= b -> g.A b = none
 kern : KernIn w g K.nc K.slots K.devs K.done
 tab : TabIn w g K.obj
 pool : PoolAt w g.pb g.db g.ob g.P
 cores : CoresIn w g K.nc K.cores K.slots.length
 slot : ∀ s ∈ K.slots, 1 <= s.2 /\ s.2 <= 16
 objs : ∀ n o, K.obj n = some o -> o.name = n /\ ObIn w g o
structure Alike0 (g g' : Gh) : Prop where
 kb : g'.kb = g.kb
 tb : g'.tb = g.tb
 mb : g'.mb = g.mb
 pb : g'.pb = g.pb
 db : g'.db = g.db
 ob : g'.ob = g.ob
 cb : g'.cb = g.cb
 A : ∀ b tg, g.A b = some tg -> g'.A b = some tg
theorem Alike0.refl (g : Gh) : Alike0 g g := ⟨rfl, rfl, rfl, rfl, rfl, rfl, rfl, fun _ _ h => h⟩
theorem Alike0.trans {g g' g'' : Gh} (h : Alike0 g g') (k : Alike0 g' g'') : Alike0 g g'' := ⟨k.kb.trans h.kb, k.tb.trans h.tb, k.mb.trans h.mb, k.pb.trans h.pb, k.db.trans h.db, k.ob.trans h.ob, k.cb.trans h.cb, fun b tg e => k.A b tg (h.A b tg e)⟩
theorem Alike1.refl (g : Gh) (n : Int) : Alike1 g g n := ⟨rfl, rfl, rfl, rfl, rfl, rfl⟩
theorem Alike1.trans {g g' g'' : Gh} {n : Int} (h : Alike1 g g' n) (k : Alike1 g' g'' n) : Alike1 g g'' n := ⟨k.bl.trans h.bl, k.tl.trans h.tl, k.mt.trans h.mt, k.fr.trans h.fr, k.root.trans h.root, k.tabs.trans h.tabs⟩
theorem TagsIn.alike {g g' : Gh} (h : TagsIn g) (l : Alike0 g g') : TagsIn g' :=
 ⟨by rw [l.kb]; exact l.A _ _ h.kb, by rw [l.tb]; exact l.A _ _ h.tb, by rw [l.mb]; exact l.A _ _ h.mb, by rw [l.pb]; exact l.A _ _ h.pb, by rw [l.db]; exact l.A _ _ h.db, by rw [l.ob]; exact l.A _ _ h.ob⟩
def Free (g : Gh) (K : Km) (b : Nat) : Prop := g.A b = none \/ ∃ n i, g.A b = some (n, i) /\ n ≠ 0 /\ K.obj n = none
theorem Free.zero {g : Gh} {K : Km} {b i : Nat} (h : Free g K b) : g.A b ≠ some (0, i) := fun e => by
 rcases h with h | ⟨n, j, h, hn, -⟩
 ·rw [h] at e; cases e
 ·rw [h] at e; cases e; exact hn rfl
theorem Free.ob {g : Gh} {K : Km} {b i : Nat} {n : Int} {o : Ob} (h : Free g K b) (ho : K.obj n = some o) : g.A b ≠ some (n, i) := fun e => by
 rcases h with h | ⟨m, j, h, hn, hm⟩
 ·rw [h] at e; cases e
 ·rw [h] at e; cases e; rw [ho] at hm; cases hm
section
variable {w w' : World} {g g' : Gh} {K K' : Km} {S : Nat -> Prop}
theorem KernIn.kept {nc : Nat} {slots : List (Int × Int)} {devs : List Int} {done : Bool} (h : KernIn w g nc slots devs done) (ht : TagsIn g) (k : Kept S w w') (l : Alike0 g g') (hs : ∀ b, S b -> b < w.heap.size -> g.A b ≠ some (0, 0) /\ g.A b ≠ some (0, 7) /\ g.A b ≠ some (0, 8)) : KernIn w' g' nc slots devs done := by
 obtain ⟨cv, sv, dv, h1, h3, h4, h6⟩ := h.ex;refine ⟨cv, sv, dv, ?_, ?_, Own.kept h4 k (fun b q hl => (hs b q hl).2.1) l.A, Own.kept h6 k (fun b q hl => (hs b q hl).2.2) l.A⟩
 ·unfold CoreV at h1 ⊢; rw [l.cb]; exact h1
 ·unfold kernC at h3 ⊢
  rw [l.kb, l.tb, l.pb];exact k.blk h3 (fun q => (hs _ q h3.lt).1 ht.kb)
theorem TabIn.kept {f : Int -> Option Ob} (h : TabIn w g f) (ht : TagsIn g) (k : Kept S w w') (l : Alike0 g g') (hs : ∀ b, S b -> b < w.heap.size -> g.A b ≠ some (0, 1) /\ g.A b ≠ some (0, 2)) {f' : Int -> Option Ob} (hf : ∀ n, (f' n).isSome = (f n).isSome) (hbl : ∀ n o, f n = some o -> g'.bl n = g.bl n) : TabIn w' g' f' := by
 obtain ⟨h1, es, h2, h3⟩ := h;refine ⟨by rw [l.tb, l.mb]; exact k.blk h1 (fun q => (hs _ q h1.lt).1 ht.tb), es, by rw [l.mb]; exact h2.kept k (fun q => (hs _ q h2.lt).2 ht.mb), fun n => ?_⟩;rw [h3 n];have := hf n
 cases e : f n with
 | none => rw [e] at this; cases e' : f' n with
  | none => rfl
  | some o => rw [e'] at this; cases this
 | some o => rw [e] at this; cases e' : f' n with
  | none => rw [e'] at this; cases this
  | some o' => simp [hbl n o e]
theorem CoresIn.kept {nc : Nat} {f : Nat -> KCore} {ns : Nat} (h : CoresIn w g nc f ns) (k : Kept S w w') (l : Alike0 g g') (hs : ∀ b, S b -> b < w.heap.size -> g.A b ≠ some (0, 6)) (ht2 : g'.tlb = g.tlb /\ g'.flush = g.flush /\ g'.last = g.last) : CoresIn w' g' nc f ns := by
 refine ⟨fun h0 => ?_, h.ok, h.nc, h.ns⟩;obtain ⟨h3, cs, h1, h2⟩ := h.ex h0;refine ⟨by rw [l.cb]; exact l.A _ _ h3, cs, by rw [l.cb]; exact k.blk h1 (fun q => hs _ q h1.lt h3), ?_⟩;rw [ht2.1, ht2.2.1, ht2.2.2]; exact h2
theorem PoolAt.tagged {P : Pool} (h : PoolAt w g.pb g.db g.ob P) (ht : TagsIn g) (k : Kept S w w') (l : Alike0 g g') (hs : ∀ b, S b -> b < w.heap.size -> ∀ i, 3 <= i -> i <= 5 -> g.A b ≠ some (0, i)) : PoolAt w' g'.pb g'.db g'.ob P := by
 rw [l.pb, l.db, l.ob];exact h.kept k (fun q => hs _ q h.hp.lt 3 (by omega) (by omega) ht.pb) (fun q => hs _ q h.hd.lt 4 (by omega) (by omega) ht.db) (fun q => hs _ q h.ho.lt 5 (by omega) (by omega) ht.ob)
theorem KIn.kept (h : KIn w g K) (k : Kept S w w') (hm : Mild w S) (hs : ∀ b, S b -> b < w.heap.size -> Free g K b) : KIn w' g K := by
 have l := Alike0.refl g;have hn : ∀ b i, S b -> b < w.heap.size -> g.A b ≠ some (0, i) := fun b i q ql => (hs b q ql).zero
 exact ⟨h.tags, fun b hb => h.nrm b (Nat.le_trans k.size hb), h.kern.kept h.tags k l (fun b q ql => ⟨hn b _ q ql, hn b _ q ql, hn b _ q ql⟩), h.tab.kept h.tags k l (fun b q ql => ⟨hn b _ q ql, hn b _ q ql⟩) (fun _ => rfl) (fun _ _ _ => rfl),
  h.pool.tagged h.tags k l (fun b q ql i _ _ => hn b _ q ql), h.cores.kept k l (fun b q ql => hn b _ q ql) ⟨rfl, rfl, rfl⟩, h.slot,
  fun n o e => ⟨(h.objs n o e).1, (h.objs n o e).2.kept k hm (fun b q ql i => by rw [(h.objs n o e).1]; exact (hs b q ql).ob e) l.A (Alike1.refl _ _) ⟨rfl, rfl, rfl⟩⟩⟩
theorem KIn.below (h : KIn w g K) (k : Below w.heap.size w w') : KIn w' g K := h.kept (S := fun _ => False) (Kept.of_below k) (Mild.none w) (fun _ q => q.elim)
theorem KIn.alloc (h : KIn w g K) (o : Obj) : KIn (w.alloc o) g K := h.below ((Below.refl _ _).alloc (Nat.le_refl _) o)
theorem KIn.drew (h : KIn w g K) : KIn w.drew g K := h.below ((Below.refl _ _).drew)
theorem KIn.setCell (h : KIn w g K) {b ty : Nat} {cs : Array Value} (hB : Blk w b cs ty) (hA : Free g K b) (h1 : ty ≠ 111 /\ ty ≠ 5) (i : Nat) (v : Value) : KIn (w.setCell ⟨b, i, none⟩ v) g K :=
 h.kept (S := (· = b)) ((Kept.refl _ _).setIn b i v rfl) (Mild.of hB h1) (fun c e _ => by cases e; exact hA)
theorem KIn.setPool (h : KIn w g K) (k : Kept S w w') (hm : Mild w S) (hs : ∀ b, S b -> b < w.heap.size -> Free g K b \/ b = g.pb \/ b = g.db \/ b = g.ob) {P' : Pool} (hP : PoolAt w' g.pb g.db g.ob P') : KIn w' { g with P := P' } K := by
 have l : Alike0 g { g with P := P' } := ⟨rfl, rfl, rfl, rfl, rfl, rfl, rfl, fun _ _ h => h⟩
 have hn : ∀ b tg, tg ≠ (0, 3) -> tg ≠ (0, 4) -> tg ≠ (0, 5) -> (tg.1 = 0 \/ ∃ o, K.obj tg.1 = some o) -> S b -> b < w.heap.size -> g.A b ≠ some tg := fun b tg h3 h4 h5 h6 q ql e => by
  rcases hs b q ql with e1 | e1 | e1 | e1
  ·obtain ⟨n, i⟩ := tg
   rcases h6 with h6 | ⟨o, h6⟩
   ·cases h6; exact e1.zero e
   ·exact e1.ob h6 e
  ·rw [e1, h.tags.pb] at e; cases e; exact h3 rfl
  ·rw [e1, h.tags.db] at e; cases e; exact h4 rfl
  ·rw [e1, h.tags.ob] at e; cases e; exact h5 rfl
 have h0 : ∀ b i, i < 3 \/ 5 < i -> S b -> b < w.heap.size -> g.A b ≠ some (0, i) := fun b i hi q ql => hn b _ (by intro e; cases e; omega) (by intro e; cases e; omega) (by intro e; cases e; omega) (.inl rfl) q ql
 exact ⟨h.tags.alike l, fun b hb => h.nrm b (Nat.le_trans k.size hb), h.kern.kept h.tags k l (fun b q ql => ⟨h0 b _ (by omega) q ql, h0 b _ (by omega) q ql, h0 b _ (by omega) q ql⟩), h.tab.kept h.tags k l (fun b q ql => ⟨h0 b _ (by omega) q ql, h0 b _ (by omega) q ql⟩) (fun _ => rfl) (fun _ _ _ => rfl),
  hP, h.cores.kept k l (fun b q ql => h0 b _ (by omega) q ql) ⟨rfl, rfl, rfl⟩, h.slot,
  fun n o e => by
   obtain ⟨e1, e2⟩ := h.objs n o e;have hp := e2.pos;have hz1 : ∀ i j : Nat, (o.name, i) = ((0 : Int), j) -> False := fun i j e => by have := congrArg Prod.fst e; simp only at this; omega
   exact ⟨e1, e2.kept k hm (fun b q ql i => hn b _ (fun e => hz1 i 3 e) (fun e => hz1 i 4 e) (fun e => hz1 i 5 e) (.inr ⟨o, by rw [e1]; exact e⟩) q ql) l.A ⟨rfl, rfl, rfl, rfl, rfl, rfl⟩ ⟨rfl, rfl, rfl⟩⟩⟩
theorem KIn.setOb (h : KIn w g K) (k : Kept S w w') (hm : Mild w S) {o o' : Ob} (ho : K.obj o.name = some o) (hs : ∀ b, S b -> b < w.heap.size -> Free g K b \/ ∃ i, g.A b = some (o.name, i)) (l : Alike0 g g') (hl : ∀ n, n ≠ o.name -> Alike1 g g' n) (hbl : g'.bl o.name = g.bl o.name)
  (ht2 : g'.tlb = g.tlb /\ g'.flush = g.flush /\ g'.last = g.last) (hP : g'.P = g.P) (hnrm : ∀ b, w'.heap.size <= b -> g'.A b = none) (hname : o'.name = o.name) (hO : ObIn w' g' o') : KIn w' g' (K.set o') := by
 have hp := (h.objs _ _ ho).2.pos
 have hn : ∀ b n i, n ≠ o.name -> (n = 0 \/ ∃ o, K.obj n = some o) -> S b -> b < w.heap.size -> g.A b ≠ some (n, i) := fun b n i hne h6 q ql e => by
  rcases hs b q ql with e1 | ⟨j, e1⟩
  ·rcases h6 with h6 | ⟨o, h6⟩
   ·cases h6; exact e1.zero e
   ·exact e1.ob h6 e
  ·rw [e1] at e; cases e; exact hne rfl
 have h0 : ∀ b i, S b -> b < w.heap.size -> g.A b ≠ some (0, i) := fun b i q ql => hn b 0 i (by omega) (.inl rfl) q ql
 refine ⟨h.tags.alike l, hnrm, h.kern.kept h.tags k l (fun b q ql => ⟨h0 b _ q ql, h0 b _ q ql, h0 b _ q ql⟩), h.tab.kept h.tags k l (fun b q ql => ⟨h0 b _ q ql, h0 b _ q ql⟩) (fun n => ?_) (fun n o1 e => ?_),
  by rw [hP]; exact h.pool.tagged h.tags k l (fun b q ql i _ _ => h0 b _ q ql), h.cores.kept k l (fun b q ql => h0 b _ q ql) ht2, h.slot, fun n o1 e => ?_⟩
 ·show ((if n = o'.name then some o' else K.obj n)).isSome = _
  by_cases e : n = o'.name
  ·rw [if_pos e, e, hname, ho]; rfl
  ·rw [if_neg e]
 ·by_cases e1 : n = o.name
  ·rw [e1]; exact hbl
  ·exact (hl n e1).bl
 ·have e' : (if n = o'.name then some o' else K.obj n) = some o1 := e
  by_cases e1 : n = o'.name
  ·rw [if_pos e1] at e'; cases e'; exact ⟨e1.symm, hO⟩
  ·rw [if_neg e1] at e'
   obtain ⟨e2, e3⟩ := h.objs n o1 e';have hne : o1.name ≠ o.name := by rw [e2]; rw [hname] at e1; exact e1
   exact ⟨e2, e3.kept k hm (fun b q ql i => hn b _ i hne (.inr ⟨o1, by rw [e2]; exact e'⟩) q ql) l.A (hl _ hne) ⟨l.pb, l.db, l.ob⟩⟩
theorem KIn.tag (h : KIn w g K) (l : Alike0 g g') (hl : ∀ n o, K.obj n = some o -> Alike1 g g' n) (ht2 : g'.tlb = g.tlb /\ g'.flush = g.flush /\ g'.last = g.last) (hP : g'.P = g.P) (hnrm : ∀ b, w.heap.size <= b -> g'.A b = none) : KIn w g' K := by
 have k : Kept (fun _ => False) w w := Kept.refl _ _
 refine ⟨h.tags.alike l, hnrm, h.kern.kept h.tags k l (fun b q => q.elim), h.tab.kept h.tags k l (fun b q => q.elim) (fun _ => rfl) (fun n o e => (hl n o e).bl), by rw [hP]; exact h.pool.tagged h.tags k l (fun b q => q.elim),
  h.cores.kept k l (fun b q => q.elim) ht2, h.slot, fun n o e => ⟨(h.objs n o e).1, (h.objs n o e).2.kept k (Mild.none w) (fun b q => q.elim) l.A (by rw [(h.objs n o e).1]; exact hl n o e) ⟨l.pb, l.db, l.ob⟩⟩⟩
theorem KIn.enter (h : KIn w g K) (k : Kept (· = g.mb) w w') {x : Ob} (hx : ObIn w g x) {es : List (Int × Value)} (hes : ∀ n, look es n = (K.obj n).map fun _ => Value.pointer (some ⟨g.bl n, 0, none⟩)) (hM : MapAt w' g.mb (put es x.name (.pointer (some ⟨g.bl x.name, 0, none⟩)))) : KIn w' g (K.set x) := by
 have l := Alike0.refl g
 have hm : Mild w (· = g.mb) := fun b cs ty fz e hh => by
  obtain ⟨es1, h1, -⟩ := h.tab.map;obtain ⟨⟨arr, clock, h2, -⟩, -⟩ := h1
  cases e; rw [h2] at hh; cases hh
 have hn6 : ∀ b tg, tg ≠ (0, 2) -> b = g.mb -> b < w.heap.size -> g.A b ≠ some tg := fun b tg ht e _ e2 => by
  rw [e, h.tags.mb] at e2; cases e2; exact ht rfl
 have hO : ∀ o : Ob, ObIn w g o -> ObIn w' g o := fun o ho => by
  have hp := ho.pos;exact ho.kept k hm (fun b q ql i => hn6 b _ (fun e => by have := congrArg Prod.fst e; simp only at this; omega) q ql) l.A (Alike1.refl _ _) ⟨rfl, rfl, rfl⟩
 refine ⟨h.tags, fun b hb => h.nrm b (Nat.le_trans k.size hb), h.kern.kept h.tags k l (fun b q ql => ⟨hn6 b _ (by simp) q ql, hn6 b _ (by simp) q ql, hn6 b _ (by simp) q ql⟩), ⟨k.blk h.tab.tab (fun q => hn6 g.tb (0, 1) (by simp) q h.tab.tab.lt h.tags.tb), _, hM, fun n => ?_⟩,
  h.pool.tagged h.tags k l (fun b q ql i h3 _ => hn6 b _ (by intro e; cases e; omega) q ql), h.cores.kept k l (fun b q ql => hn6 b _ (by simp) q ql) ⟨rfl, rfl, rfl⟩, h.slot, fun n o e => ?_⟩
 ·rw [look_put, hes n]
  show _ = ((if n = x.name then some x else K.obj n)).map _
  by_cases e : n = x.name
  ·rw [if_pos e, if_pos e, e]; rfl
  ·rw [if_neg e, if_neg e]
 ·have e' : (if n = x.name then some x else K.obj n) = some o := e
  by_cases e1 : n = x.name
  ·rw [if_pos e1] at e'; cases e'; exact ⟨e1.symm, hO _ hx⟩
  ·rw [if_neg e1] at e'; exact ⟨(h.objs n o e').1, hO _ (h.objs n o e').2⟩
theorem KIn.setCores (h : KIn w g K) (k : Kept S w w') (hm : Mild w S) (hcb : g.A g.cb = some (0, 6)) (hs : ∀ b, S b -> b < w.heap.size -> Free g K b \/ b = g.cb) {f : Nat -> KCore} {tlb : Nat -> Pl} {flush : Nat -> Bool} {last : Nat -> Int} (hC : CoresIn w' { g with tlb := tlb, flush := flush, last := last } K.nc f K.slots.length) : KIn w' { g with tlb := tlb, flush := flush, last := last } { K with cores := f } := by
 have l : Alike0 g { g with tlb := tlb, flush := flush, last := last } := ⟨rfl, rfl, rfl, rfl, rfl, rfl, rfl, fun _ _ h => h⟩
 have hn : ∀ b tg, tg ≠ (0, 6) -> (tg.1 = 0 \/ ∃ o, K.obj tg.1 = some o) -> S b -> b < w.heap.size -> g.A b ≠ some tg := fun b tg h3 h6 q ql e => by
  rcases hs b q ql with e1 | e1
  ·obtain ⟨n, i⟩ := tg
   rcases h6 with h6 | ⟨o, h6⟩
   ·cases h6; exact e1.zero e
   ·exact e1.ob h6 e
  ·rw [e1, hcb] at e; cases e; exact h3 rfl
 have h0 : ∀ b i, i ≠ 6 -> S b -> b < w.heap.size -> g.A b ≠ some (0, i) := fun b i hi q ql => hn b _ (by intro e; cases e; omega) (.inl rfl) q ql
 exact ⟨h.tags.alike l, fun b hb => h.nrm b (Nat.le_trans k.size hb), h.kern.kept h.tags k l (fun b q ql => ⟨h0 b _ (by omega) q ql, h0 b _ (by omega) q ql, h0 b _ (by omega) q ql⟩), h.tab.kept h.tags k l (fun b q ql => ⟨h0 b _ (by omega) q ql, h0 b _ (by omega) q ql⟩) (fun _ => rfl) (fun _ _ _ => rfl),
  h.pool.tagged h.tags k l (fun b q ql i _ _ => h0 b _ (by omega) q ql), hC, h.slot,
  fun n o e => by
   obtain ⟨e1, e2⟩ := h.objs n o e;have hp := e2.pos;have hz1 : ∀ i j : Nat, (o.name, i) = ((0 : Int), j) -> False := fun i j e => by have := congrArg Prod.fst e; simp only at this; omega
   exact ⟨e1, e2.kept k hm (fun b q ql i => hn b _ (fun e => hz1 i 6 e) (.inr ⟨o, by rw [e1]; exact e⟩) q ql) l.A ⟨rfl, rfl, rfl, rfl, rfl, rfl⟩ ⟨rfl, rfl, rfl⟩⟩⟩
end
structure Ext (g g' : Gh) (w w' : World) : Prop where
 al : Alike0 g g'
 kept : Kept (fun b => g.A b ≠ none) w w'
 tag : ∀ b, b < w.heap.size -> g.A b = none -> g'.A b = none
 bl : ∀ n, g.A (g.bl n) = some (n, 0) -> g'.bl n = g.bl n /\ g'.tl n = g.tl n
theorem Ext.refl (g : Gh) (w : World) : Ext g g w w := ⟨Alike0.refl g, Kept.refl _ _, fun _ _ h => h, fun _ _ => ⟨rfl, rfl⟩⟩
theorem Ext.trans {g g1 g2 : Gh} {w w1 w2 : World} (h : Ext g g1 w w1) (k : Ext g1 g2 w1 w2) : Ext g g2 w w2 :=
 ⟨h.al.trans k.al, h.kept.then k.kept (fun i hi hs e => hs (h.tag i hi e)), fun b hb e => k.tag b (Nat.lt_of_lt_of_le hb h.kept.size) (h.tag b hb e), fun n e => by
  obtain ⟨e1, e2⟩ := h.bl n e;obtain ⟨e3, e4⟩ := k.bl n (by rw [e1]; exact h.al.A _ _ e);exact ⟨e3.trans e1, e4.trans e2⟩⟩
theorem Ext.below {g : Gh} {w w' : World} (h : Below w.heap.size w w') : Ext g g w w' := ⟨Alike0.refl g, (Kept.of_below h), fun _ _ h => h, fun _ _ => ⟨rfl, rfl⟩⟩
theorem Ext.wrote {g g' : Gh} {w w' : World} {S : Nat -> Prop} (l : Alike0 g g') (k : Kept S w w') (hs : ∀ b, S b -> b < w.heap.size -> ∃ tg, g.A b = some tg) (ht : ∀ b, b < w.heap.size -> g.A b = none -> g'.A b = none) (hb : ∀ n, g.A (g.bl n) = some (n, 0) -> g'.bl n = g.bl n /\ g'.tl n = g.tl n) : Ext g g' w w' :=
 ⟨l, k.mono (fun b hb q e => by obtain ⟨tg, h⟩ := hs b q hb; rw [h] at e; cases e), ht, hb⟩
def Gh.own (g : Gh) (b : Nat) (tg : Int × Nat) : Gh := { g with A := fun c => if c = b then some tg else g.A c }
theorem Gh.own_A (g : Gh) (b : Nat) (tg : Int × Nat) (c : Nat) : (g.own b tg).A c = if c = b then some tg else g.A c := rfl
theorem Alike0.own (g : Gh) {b : Nat} {tg : Int × Nat} (h : g.A b = none \/ g.A b = some tg) : Alike0 g (g.own b tg) := ⟨rfl, rfl, rfl, rfl, rfl, rfl, rfl, fun c t e => by
 rw [Gh.own_A];split
 ·subst c; rcases h with h | h
  ·rw [h] at e; cases e
  ·rw [h] at e; exact e
 ·exact e⟩
theorem Alike1.own (g : Gh) (b : Nat) (tg : Int × Nat) (n : Int) : Alike1 g (g.own b tg) n := ⟨rfl, rfl, rfl, rfl, rfl, rfl⟩
end Go.Proofs.YtiadbhiadhgjkaaGreatDoor
namespace Go.Proofs.YtiadbhiadhgjkaaGreatDoor
open Go.RowKit
def Sm (x : Int) : Prop := -1099511627776 <= x /\ x <= 1099511627776
def Purse.list (p : Purse) : List Value := [.int .i64 p.lim, .int .i64 p.used, .int .i64 p.given]
def Purse.v (p : Purse) : Value := .agg #[.int .i64 p.lim, .int .i64 p.used, .int .i64 p.given]
def Rng.list (r : Rng) : List Value := [.int .u64 r.lo, .int .u64 r.next, .int .u64 r.hi]
def Rng.v (r : Rng) : Value := .agg #[.int .u64 r.lo, .int .u64 r.next, .int .u64 r.hi]
structure Purse.sm (p : Purse) : Prop where
 lim : Sm p.lim
 used : Sm p.used
 given : Sm p.given
structure Rng.ok (r : Rng) : Prop where
 next : 0 <= r.next /\ r.next <= r.hi
 hi : r.hi <= 4194304
attribute [local irreducible] World.setCell World.alloc World.drew World.setRow Calls Code.wp
theorem pleft_any (p : Purse) (w : World) (h : p.sm) :
  Calls Tryz.prog 61 #[p.v] w fun e w' => e = .returned (.int .i64 p.left) /\ Below w.heap.size w w' := by
 obtain ⟨⟨a1, a2⟩, ⟨a3, a4⟩, a5, a6⟩ := h;obtain ⟨l, u, g⟩ := p;unfold Purse.v Purse.left;simp only at *;go_enter Tryz.func61, Tryz.ntmps61
 go_wp2
 go_ret;exact ⟨rfl, (Below.refl _ _).alloc (Nat.le_refl _) _⟩
theorem rleft_any (r : Rng) (w : World) (h : r.ok) :
  Calls Tryz.prog 85 #[r.v] w fun e w' => e = .returned (.int .i64 r.left) /\ Below w.heap.size w w' := by
 obtain ⟨⟨a1, a2⟩, a3⟩ := h;obtain ⟨l, n, g⟩ := r;unfold Rng.v Rng.left;simp only at *;go_enter Tryz.func85, Tryz.ntmps85
 go_wp2
 go_ret;exact ⟨rfl, (Below.refl _ _).alloc (Nat.le_refl _) _⟩
theorem ptake_any (p : Purse) (n : Int) (b o ty : Nat) (cs : Array Value) (w : World) (hB : Blk w b cs ty) (hI : In cs o p.list) (h : p.sm) (hn : 0 <= n /\ n <= p.left) :
  Calls Tryz.prog 37 #[.pointer (some ⟨b, o, none⟩), .int .i64 n] w fun e w' => e = .returned (.int .i64 0) /\ Piece w w' b ty o cs 3 (Purse.list { p with used := p.used + n }) := by
 have c0 : w.cell? ⟨b, o, none⟩ = some (.int .i64 p.lim) := hI.cell hB 0 rfl;have c1 : w.cell? ⟨b, o + 1, none⟩ = some (.int .i64 p.used) := hI.cell hB 1 rfl;have c2 : w.cell? ⟨b, o + 2, none⟩ = some (.int .i64 p.given) := hI.cell hB 2 rfl;have HB := Lib.hid hB; have HI := Lib.hid hI; have H := Lib.hid h;have HP := Lib.hid (show Piece w w b ty o cs 3 p.list from Piece.refl hB hI);obtain ⟨⟨a1, a2⟩, ⟨a3, a4⟩, a5, a6⟩ := h;obtain ⟨n0, n1⟩ := hn;have hlt := hB.lt;clear hB hI;go_enter Tryz.func37, Tryz.ntmps37
 go_wp2_with fail
 refine (pleft_any p _ H.out).mono ?_;rintro e w1 ⟨rfl, hb⟩;have hB1 := HB.out.below hb HB.out.lt;have d1 : w1.cell? ⟨b, o + 1, none⟩ = some (.int .i64 p.used) := HI.out.cell hB1 1 rfl;have hf := hB1.free;have HP1 := Lib.hid (HP.out.below hb);have hl : p.left = p.lim - p.used - p.given := rfl;have hnl : ¬ p.left < n := by omega
 have hu : IntKind.i64.wrap (p.used + n) = p.used + n := IntWalk.i64_in _ (by omega);clear hb hB1 hl n1;go_wp2_with fail
 go_ret;exact ⟨rfl, HP1.out.set 1 _ (by omega)⟩
theorem rtake_any (r : Rng) (b o ty : Nat) (cs : Array Value) (w : World) (hB : Blk w b cs ty) (hI : In cs o r.list) (h : r.ok) (hn : 1 <= r.left) :
  Calls Tryz.prog 86 #[.pointer (some ⟨b, o, none⟩)] w fun e w' => e = .returned (.int .u64 r.next) /\ Piece w w' b ty o cs 3 (Rng.list { r with next := r.next + 1 }) := by
 have c0 : w.cell? ⟨b, o, none⟩ = some (.int .u64 r.lo) := hI.cell hB 0 rfl;have c1 : w.cell? ⟨b, o + 1, none⟩ = some (.int .u64 r.next) := hI.cell hB 1 rfl;have c2 : w.cell? ⟨b, o + 2, none⟩ = some (.int .u64 r.hi) := hI.cell hB 2 rfl;have HB := Lib.hid hB; have HI := Lib.hid hI; have H := Lib.hid h;have HP := Lib.hid (show Piece w w b ty o cs 3 r.list from Piece.refl hB hI);obtain ⟨⟨a1, a2⟩, a3⟩ := h;have hne : (r.left == 0) = false := by simp; omega
 clear hB hI;go_enter Tryz.func86, Tryz.ntmps86
 go_wp2_with fail
 refine (rleft_any r _ H.out).mono ?_;rintro e w1 ⟨rfl, hb⟩;have hB1 := HB.out.below hb HB.out.lt;have d1 : w1.cell? ⟨b, o + 1, none⟩ = some (.int .u64 r.next) := HI.out.cell hB1 1 rfl;have hf := hB1.free;have HP1 := Lib.hid (HP.out.below hb);have hl : r.left = r.hi - r.next := rfl;have hlt : r.next + 1 <= 4194304 := by omega
 clear hb hB1 hl;go_wp2_with fail
 go_ret;exact ⟨rfl, HP1.out.set 1 _ (by omega)⟩
theorem pgive_any (p : Purse) (n : Int) (b o ty : Nat) (cs : Array Value) (w : World) (hB : Blk w b cs ty) (hI : In cs o p.list) (h : p.sm) (hn : 0 <= n /\ n <= p.left) :
  Calls Tryz.prog 87 #[.pointer (some ⟨b, o, none⟩), .int .i64 n] w fun e w' => e = .returned (.tuple #[Purse.v ⟨n, 0, 0⟩, .int .i64 0]) /\ Piece w w' b ty o cs 3 (Purse.list { p with given := p.given + n }) := by
 have c0 : w.cell? ⟨b, o, none⟩ = some (.int .i64 p.lim) := hI.cell hB 0 rfl;have c1 : w.cell? ⟨b, o + 1, none⟩ = some (.int .i64 p.used) := hI.cell hB 1 rfl;have c2 : w.cell? ⟨b, o + 2, none⟩ = some (.int .i64 p.given) := hI.cell hB 2 rfl;have HB := Lib.hid hB; have HI := Lib.hid hI; have H := Lib.hid h;have HP := Lib.hid (show Piece w w b ty o cs 3 p.list from Piece.refl hB hI);obtain ⟨⟨a1, a2⟩, ⟨a3, a4⟩, a5, a6⟩ := h;obtain ⟨n0, n1⟩ := hn;have hlt := hB.lt;clear hB hI;go_enter Tryz.func87, Tryz.ntmps87
 go_wp2_with fail
 refine (pleft_any p _ H.out).mono ?_;rintro e w1 ⟨rfl, hb⟩;have hz := hb.size;rw [World.size_alloc] at hz;have hB1 := (HB.out.alloc (.cells #[.int .i64 0, .int .i64 0, .int .i64 0] 56)).below hb (HB.out.alloc _).lt;have d1 : w1.cell? ⟨b, o + 2, none⟩ = some (.int .i64 p.given) := HI.out.cell hB1 2 rfl;have hf := hB1.free;have hR := (Blk.new w #[.int .i64 0, .int .i64 0, .int .i64 0] 56).below hb (by simp);have hRc := hR.cell; have hRf := hR.free;have HP1 := Lib.hid ((HP.out.alloc (.cells #[.int .i64 0, .int .i64 0, .int .i64 0] 56)).below hb);have hl : p.left = p.lim - p.used - p.given := rfl;have hnl : ¬ p.left < n := by omega
 have hu : IntKind.i64.wrap (p.given + n) = p.given + n := IntWalk.i64_in _ (by omega);have hne : b ≠ w.heap.size := by omega
 clear hb hB1 hl n1 hR;go_wp2_with fail
 refine bodyPost_ret (v := .tuple #[Purse.v ⟨n, 0, 0⟩, .int .i64 0]) (by simp [results, Tryz.results87, go_sem, hRc, Purse.v]) rfl ⟨rfl, ?_⟩;exact (((HP1.out.set 2 (.int .i64 (p.given + n)) (by omega)).setNew _ 0 _ (Nat.le_refl _) hne).setNew _ 1 _ (Nat.le_refl _) hne).setNew _ 2 _ (Nat.le_refl _) hne
theorem split_any (r : Rng) (n : Int) (b o ty : Nat) (cs : Array Value) (w : World) (hB : Blk w b cs ty) (hI : In cs o r.list) (h : r.ok) (hn : 0 <= n /\ n <= r.left) :
  Calls Tryz.prog 88 #[.pointer (some ⟨b, o, none⟩), .int .i64 n] w fun e w' => e = .returned (.tuple #[Rng.v ⟨r.hi - n, r.hi - n, r.hi⟩, .bool true]) /\ Piece w w' b ty o cs 3 (Rng.list { r with hi := r.hi - n }) := by
 have c0 : w.cell? ⟨b, o, none⟩ = some (.int .u64 r.lo) := hI.cell hB 0 rfl;have c1 : w.cell? ⟨b, o + 1, none⟩ = some (.int .u64 r.next) := hI.cell hB 1 rfl;have c2 : w.cell? ⟨b, o + 2, none⟩ = some (.int .u64 r.hi) := hI.cell hB 2 rfl;have HB := Lib.hid hB; have HI := Lib.hid hI; have H := Lib.hid h;have HP := Lib.hid (show Piece w w b ty o cs 3 r.list from Piece.refl hB hI);obtain ⟨⟨a1, a2⟩, a3⟩ := h;obtain ⟨n0, n1⟩ := hn;have hlt := hB.lt;clear hB hI;have hn0 : decide (n < 0) = false := by simp; omega
 go_enter Tryz.func88, Tryz.ntmps88
 go_wp2_with fail
 refine (rleft_any r _ H.out).mono ?_;rintro e w1 ⟨rfl, hb⟩;have hz := hb.size;rw [World.size_alloc] at hz;have hB1 := (HB.out.alloc (.cells #[.int .u64 0, .int .u64 0, .int .u64 0] 58)).below hb (HB.out.alloc _).lt;have d1 : w1.cell? ⟨b, o + 2, none⟩ = some (.int .u64 r.hi) := HI.out.cell hB1 2 rfl;have hf := hB1.free;have hR := (Blk.new w #[.int .u64 0, .int .u64 0, .int .u64 0] 58).below hb (by simp);have hRc := hR.cell; have hRf := hR.free;have HP1 := Lib.hid ((HP.out.alloc (.cells #[.int .u64 0, .int .u64 0, .int .u64 0] 58)).below hb);have hl : r.left = r.hi - r.next := rfl;have hnl : ¬ r.left < n := by omega
 have hc1 : IntKind.u64.wrap n = n := IntWalk.u64_in _ (by omega);have hu : IntKind.u64.wrap (r.hi - n) = r.hi - n := IntWalk.u64_in _ (by omega);have hu2 : IntKind.u64.wrap (r.hi - n + n) = r.hi := by rw [show r.hi - n + n = r.hi by omega]; exact IntWalk.u64_in _ (by omega)
 have hne : b ≠ w.heap.size := by omega
 clear hb hB1 hl n1 hR;go_wp2_with fail
 go_region
 go_wp2_with fail
 refine bodyPost_ret (v := .tuple #[Rng.v ⟨r.hi - n, r.hi - n, r.hi⟩, .bool true]) (by simp [results, Tryz.results88, go_sem, hRc, Rng.v]) rfl ⟨rfl, ?_⟩;exact ((((HP1.out.set 2 (.int .u64 (r.hi - n)) (by omega)).setNew _ 0 _ (Nat.le_refl _) hne).setNew _ 1 _ (Nat.le_refl _) hne).setNew _ 2 _ (Nat.le_refl _) hne).drew
end Go.Proofs.YtiadbhiadhgjkaaGreatDoor
namespace Go.Proofs.YtiadbhiadhgjkaaGreatDoor
open Go.RowKit
section
variable {w w5 : World} {g : Gh} {K : Km} {o : Ob} {v : Value} {tg : Int × Nat} {B ty g5 ci : Nat} {cs : Array Value}
def GrowS (v : Value) (B : Nat) : Nat -> Prop := fun b => v.ownBlock = some b \/ b = B
theorem grow_mild {e : TypeId} {size n base : Nat} {xs : List Value} (hB : Blk w B cs ty) (hv : w.ownsRow base e size v n xs) (h1 : ty ≠ 111 /\ ty ≠ 5) (h2 : e ≠ 111 /\ e ≠ 5) : Mild w (GrowS v B) := by
 intro b cs' ty' fz hS hh;rcases hS with e1 | e1
 ·obtain ⟨cur, hc, -⟩ := row_type hv e1
  rw [hc] at hh; cases hh; exact h2
 ·cases e1
  unfold Blk at hB; rw [hB] at hh; cases hh; exact h1
theorem grow_kept (hk : Kept (fun b => v.ownBlock = some b) w w5) (x : Value) : Kept (GrowS v B) w (w5.setCell ⟨B, ci, none⟩ x) :=
 (hk.mono (fun _ _ q => .inl q)).setCell (.inr (.inr rfl)) x
theorem grow_old {hv : ∀ b, v.ownBlock = some b -> g.A b = some tg} (hn : ∀ b, w.heap.size <= b -> g.A b = none) (hg5 : v.ownBlock = some g5 \/ w.heap.size <= g5) : g.A g5 = none \/ g.A g5 = some tg := by
 rcases hg5 with h | h
 ·exact .inr (hv _ h)
 ·exact .inl (hn _ h)
end
section
variable {w w' : World} {g g' : Gh} {K : Km} {o o' : Ob}
theorem KIn.wrote (h : KIn w g K) {S : Nat -> Prop} (k : Kept S w w') (hm : Mild w S) (ho : K.obj o.name = some o) (hs : ∀ b, S b -> b < w.heap.size -> ∃ i, g.A b = some (o.name, i)) (l : Alike0 g g') (hl : ∀ n, Alike1 g g' n) (ht2 : g'.tlb = g.tlb /\ g'.flush = g.flush /\ g'.last = g.last) (hP : g'.P = g.P)
  (hnew : ∀ b, b < w.heap.size -> g.A b = none -> g'.A b = none) (hnrm : ∀ b, w'.heap.size <= b -> g'.A b = none) (hname : o'.name = o.name) {s' : Os} {T : Value} (hB : Blk w' (g.bl o.name) (obC o' s' (g.mt o.name) T) 68) (hR : ObRows w' g'.A (g.bl o.name) o' s' (g.fr o.name))
  (h3 : o'.kind = 3 -> T = .pointer (some ⟨g.tl o.name, 0, none⟩) /\ ThIn w' g'.A o.name (g.tl o.name) o'.th (g.root o.name) (g.tabs o.name)) (hT : o'.kind ≠ 3 -> T = .pointer none) : KIn w' g' (K.set o') /\ Ext g g' w w' := by
 have hx := (h.objs _ _ ho).2;have hl1 := hl o.name;refine ⟨h.setOb k hm ho (fun b q ql => .inr (hs b q ql)) l (fun n _ => hl n) hl1.bl ht2 hP hnrm hname ⟨by rw [hname]; exact hx.pos, ?_, ?_, s', T, ?_, ?_, ?_, hT⟩, ?_⟩
 ·rw [hname, hl1.bl]; exact l.A _ _ hx.tag
 ·rw [hname, hl1.bl, l.pb, l.db, l.ob]; exact hx.late
 ·rw [hname, hl1.bl, hl1.mt]; exact hB
 ·rw [hname, hl1.bl, hl1.fr]; exact hR
 ·rw [hname, hl1.tl, hl1.root, hl1.tabs]; exact h3
 ·exact Ext.wrote l k (fun b q ql => by obtain ⟨i, e⟩ := hs b q ql; exact ⟨_, e⟩) hnew (fun n _ => ⟨(hl n).bl, (hl n).tl⟩)
theorem ThIn.kept {A A' : Nat -> Option (Int × Nat)} {n : Int} {b : Nat} {t : Th} {root tabs : Int} (h : ThIn w A n b t root tabs) {S : Nat -> Prop} (k : Kept S w w') (hm : Mild w S) (hs : ∀ c, S c -> c < w.heap.size -> ∀ i, 10 <= i -> A c ≠ some (n, i)) (hA : ∀ b tg, A b = some tg -> A' b = some tg) : ThIn w' A' n b t root tabs := by
 obtain ⟨x, hb, hr⟩ := h.ex;exact ⟨hA _ _ h.tag, x, k.blk hb (fun q => hs _ q hb.lt 10 (by omega) h.tag), hr.kept k hm (fun c q l i hi => hs c q l i (by omega)) hA⟩
theorem KIn.putKids (h : KIn w g K) (ho : K.obj o.name = some o) {s : Os} {T : Value} (hB : Blk w (g.bl o.name) (obC o s (g.mt o.name) T) 68) (hR : ObRows w g.A (g.bl o.name) o s (g.fr o.name))
  (h3 : o.kind = 3 -> T = .pointer (some ⟨g.tl o.name, 0, none⟩) /\ ThIn w g.A o.name (g.tl o.name) o.th (g.root o.name) (g.tabs o.name)) (hT : o.kind ≠ 3 -> T = .pointer none)
  {w5 : World} (hk : Kept (fun b => s.kids.ownBlock = some b) w w5) {g5 cap n : Nat} {x : Int} (hrow : w5.ownsRow 0 37 1 (.slice (some ⟨g5, 0, none⟩) n cap) n (o.kids.map (.int .u64) ++ [.int .u64 x])) (hn : n = o.kids.length + 1) (hg5 : s.kids.ownBlock = some g5 \/ w.heap.size <= g5) (hlt : g5 < w5.heap.size) :
  KIn (w5.setCell ⟨g.bl o.name, 15, none⟩ (.slice (some ⟨g5, 0, none⟩) n cap)) (g.own g5 (o.name, 2)) (K.set { o with kids := o.kids ++ [x] }) /\ Ext g (g.own g5 (o.name, 2)) w (w5.setCell ⟨g.bl o.name, 15, none⟩ (.slice (some ⟨g5, 0, none⟩) n cap)) := by
 have hx := (h.objs _ _ ho).2;have hkk := grow_kept (B := g.bl o.name) (ci := 15) hk (.slice (some ⟨g5, 0, none⟩) n cap);have hm : Mild w (GrowS s.kids (g.bl o.name)) := grow_mild hB hR.kids.row (by decide) (by decide);have hold := grow_old (hv := hR.kids.tag) h.nrm hg5
 have hs : ∀ b, GrowS s.kids (g.bl o.name) b -> g.A b = some (o.name, 2) \/ g.A b = some (o.name, 0) := fun b q => by
  rcases q with q | q
  ·exact .inl (hR.kids.tag b q)
  ·rw [q]; exact .inr hx.tag
 have hsz : (w5.setCell ⟨g.bl o.name, 15, none⟩ (.slice (some ⟨g5, 0, none⟩) n cap)).heap.size = w5.heap.size := by simp [World.setCell]
 have hB5 : Blk w5 (g.bl o.name) (obC o s (g.mt o.name) T) 68 := hk.blk hB (fun e => by have := hR.kids.tag _ e; rw [hx.tag] at this; cases this)
 have hnum : NumsIn (w5.setCell ⟨g.bl o.name, 15, none⟩ (.slice (some ⟨g5, 0, none⟩) n cap)) (g.own g5 (o.name, 2)).A (o.name, 2) (.slice (some ⟨g5, 0, none⟩) n cap) (o.kids ++ [x]) := by
  refine Own.kept (A := fun c => if c = g5 then some (o.name, 2) else g.A c) (NumsIn.grown hrow hn) (S := (· = g.bl o.name)) ((Kept.refl _ _).setIn _ _ _ rfl) (fun b q ql => ?_) (fun _ _ e => e)
  cases q;show (if g.bl o.name = g5 then some (o.name, 2) else g.A (g.bl o.name)) ≠ _
  rw [if_neg]
  ·rw [hx.tag]; simp
  ·intro e
   rcases hg5 with e1 | e1
   ·have := hR.kids.tag _ e1; rw [<- e, hx.tag] at this; cases this
   ·have := hB.lt; omega
 have hl0 := Alike0.own g (b := g5) (tg := (o.name, 2)) hold;refine h.wrote (o := o) (s' := { s with kids := .slice (some ⟨g5, 0, none⟩) n cap }) (T := T) hkk hm ho (fun b q ql => (hs b q).elim (fun e => ⟨2, e⟩) (fun e => ⟨0, e⟩)) hl0 (fun m => Alike1.own g g5 _ m) ⟨rfl, rfl, rfl⟩ rfl ?_ ?_ rfl ?_ ?_ ?_ hT
 ·intro b hb e
  rw [Gh.own_A, if_neg]; · exact e
  rintro rfl;rcases hg5 with e1 | e1
  ·have := hR.kids.tag _ e1; rw [e] at this; cases this
  ·omega
 ·intro b hb
  rw [hsz] at hb;rw [Gh.own_A, if_neg (by omega)];exact h.nrm b (Nat.le_trans hk.size hb)
 ·exact hB5.set 15 _
 ·exact hR.setKids hkk hm (fun c q ql i h1 h5 h2 e => by rcases hs c q with e1 | e1 <;> · rw [e1] at e; cases e; omega) hl0.A hnum
 ·intro e
  refine ⟨(h3 e).1, (h3 e).2.kept hkk hm (fun c q ql i h10 e2 => by rcases hs c q with e1 | e1 <;> · rw [e1] at e2; cases e2; omega) hl0.A⟩
theorem KIn.putMaps (h : KIn w g K) (ho : K.obj o.name = some o) {s : Os} {T : Value} (hB : Blk w (g.bl o.name) (obC o s (g.mt o.name) T) 68) (hR : ObRows w g.A (g.bl o.name) o s (g.fr o.name))
  (h3 : o.kind = 3 -> T = .pointer (some ⟨g.tl o.name, 0, none⟩) /\ ThIn w g.A o.name (g.tl o.name) o.th (g.root o.name) (g.tabs o.name)) (hT : o.kind ≠ 3 -> T = .pointer none)
  {w5 : World} (hk : Kept (fun b => s.maps.ownBlock = some b) w w5) {g5 cap n : Nat} {x : WMap} (hrow : w5.ownsRow 0 125 5 (.slice (some ⟨g5, 0, none⟩) n cap) n (o.maps.flatMap mapV ++ mapV x)) (hn : n = o.maps.length + 1) (hg5 : s.maps.ownBlock = some g5 \/ w.heap.size <= g5) (hlt : g5 < w5.heap.size) :
  KIn (w5.setCell ⟨g.bl o.name, 18, none⟩ (.slice (some ⟨g5, 0, none⟩) n cap)) (g.own g5 (o.name, 4)) (K.set { o with maps := o.maps ++ [x] }) /\ Ext g (g.own g5 (o.name, 4)) w (w5.setCell ⟨g.bl o.name, 18, none⟩ (.slice (some ⟨g5, 0, none⟩) n cap)) := by
 have hx := (h.objs _ _ ho).2;have hkk := grow_kept (B := g.bl o.name) (ci := 18) hk (.slice (some ⟨g5, 0, none⟩) n cap);have hm : Mild w (GrowS s.maps (g.bl o.name)) := grow_mild hB hR.maps.row (by decide) (by decide);have hold := grow_old (hv := hR.maps.tag) h.nrm hg5
 have hs : ∀ b, GrowS s.maps (g.bl o.name) b -> g.A b = some (o.name, 4) \/ g.A b = some (o.name, 0) := fun b q => by
  rcases q with q | q
  ·exact .inl (hR.maps.tag b q)
  ·rw [q]; exact .inr hx.tag
 have hsz : (w5.setCell ⟨g.bl o.name, 18, none⟩ (.slice (some ⟨g5, 0, none⟩) n cap)).heap.size = w5.heap.size := by simp [World.setCell]
 have hB5 : Blk w5 (g.bl o.name) (obC o s (g.mt o.name) T) 68 := hk.blk hB (fun e => by have := hR.maps.tag _ e; rw [hx.tag] at this; cases this)
 have hnum : Own (w5.setCell ⟨g.bl o.name, 18, none⟩ (.slice (some ⟨g5, 0, none⟩) n cap)) (g.own g5 (o.name, 4)).A (o.name, 4) 125 5 (.slice (some ⟨g5, 0, none⟩) n cap) (o.maps ++ [x]).length ((o.maps ++ [x]).flatMap mapV) := by
  refine Own.kept (A := fun c => if c = g5 then some (o.name, 4) else g.A c) ⟨?_, fun b hb => by cases hb; exact if_pos rfl⟩ (S := (· = g.bl o.name)) ((Kept.refl _ _).setIn _ _ _ rfl) (fun b q ql => ?_) (fun _ _ e => e)
  ·rw [List.length_append, List.flatMap_append]
   subst hn;have : ([x] : List WMap).flatMap mapV = mapV x := by simp
   rw [this]; exact hrow
  cases q;show (if g.bl o.name = g5 then some (o.name, 4) else g.A (g.bl o.name)) ≠ _
  rw [if_neg]
  ·rw [hx.tag]; simp
  ·intro e
   rcases hg5 with e1 | e1
   ·have := hR.maps.tag _ e1; rw [<- e, hx.tag] at this; cases this
   ·have := hB.lt; omega
 have hl0 := Alike0.own g (b := g5) (tg := (o.name, 4)) hold;refine h.wrote (o := o) (s' := { s with maps := .slice (some ⟨g5, 0, none⟩) n cap }) (T := T) hkk hm ho (fun b q ql => (hs b q).elim (fun e => ⟨4, e⟩) (fun e => ⟨0, e⟩)) hl0 (fun m => Alike1.own g g5 _ m) ⟨rfl, rfl, rfl⟩ rfl ?_ ?_ rfl ?_ ?_ ?_ hT
 ·intro b hb e
  rw [Gh.own_A, if_neg]; · exact e
  rintro rfl;rcases hg5 with e1 | e1
  ·have := hR.maps.tag _ e1; rw [e] at this; cases this
  ·omega
 ·intro b hb
  rw [hsz] at hb;rw [Gh.own_A, if_neg (by omega)];exact h.nrm b (Nat.le_trans hk.size hb)
 ·exact hB5.set 18 _
 ·exact hR.setMaps hkk hm (fun c q ql i h1 h5 h2 e => by rcases hs c q with e1 | e1 <;> · rw [e1] at e; cases e; omega) hl0.A hnum
 ·intro e
  refine ⟨(h3 e).1, (h3 e).2.kept hkk hm (fun c q ql i h10 e2 => by rcases hs c q with e1 | e1 <;> · rw [e1] at e2; cases e2; omega) hl0.A⟩
end
end Go.Proofs.YtiadbhiadhgjkaaGreatDoor
