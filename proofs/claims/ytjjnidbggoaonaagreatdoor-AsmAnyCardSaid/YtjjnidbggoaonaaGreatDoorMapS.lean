/- Maps with string keys that a call makes: an association list without a key twice; look-up, store, delete, length, clear. -/
import Derived.Test.YtjjnidbggoaonaaGreatDoorRow
import Derived.Test.YtjjnidbggoaonaaGreatDoorStrV
namespace Go.Proofs.YtjjnidbggoaonaaGreatDoor
namespace MapStr
open Go.RowKit

/-- The entries of block r: keys and values, each key once; their marks of birth. -/
structure MapAt (w : World) (r : Nat) (es : List (List UInt8 × Value)) : Prop where
  at_ : ∃ arr clock, w.heap[r]? = some (.map arr clock) ∧ arr.toList.map (fun e => (e.key, e.val)) = es.map (fun p => (strV p.1, p.2)) ∧ (∀ e ∈ arr.toList, e.born < clock) ∧ (arr.toList.map (·.born)).Nodup
  nd : (es.map (·.1)).Nodup

def look (es : List (List UInt8 × Value)) (k : List UInt8) : Option Value := (es.find? (fun p => p.1 == k)).map (·.2)
def put (es : List (List UInt8 × Value)) (k : List UInt8) (v : Value) : List (List UInt8 × Value) := if (look es k).isSome then es.map (fun p => if p.1 = k then (k, v) else p) else es ++ [(k, v)]
def del (es : List (List UInt8 × Value)) (k : List UInt8) : List (List UInt8 × Value) := es.filter (fun p => !(p.1 == k))

theorem strV_inj {a b : List UInt8} (h : strV a = strV b) : a = b := by
  simp only [strV, Value.string.injEq, ByteArray.mk.injEq] at h
  have := congrArg Array.toList h
  simpa using this
theorem bytes_beq (a b : ByteArray) : (a == b) = true ↔ a = b := by
  cases a with
  | mk x =>
    cases b with
    | mk y =>
      rw [show ((⟨x⟩ : ByteArray) == ⟨y⟩) = (x == y) from rfl]
      simp
theorem beqS_no {a b : List UInt8} (h : a ≠ b) : ((⟨a.toArray⟩ : ByteArray) == ⟨b.toArray⟩) = false := by
  rw [Bool.eq_false_iff]
  intro e
  exact h (strV_inj (congrArg Value.string ((bytes_beq _ _).1 e)))
theorem beqS_yes (a : List UInt8) : ((⟨a.toArray⟩ : ByteArray) == ⟨a.toArray⟩) = true := (bytes_beq _ _).2 rfl
theorem look_nil (k : List UInt8) : look [] k = none := rfl
theorem look_cons (p : List UInt8 × Value) (es : List (List UInt8 × Value)) (k : List UInt8) : look (p :: es) k = if p.1 = k then some p.2 else look es k := by
  unfold look
  rw [List.find?_cons]
  by_cases h : p.1 = k
  · have : (p.1 == k) = true := by simpa using h
    rw [this, if_pos h]; rfl
  · have : (p.1 == k) = false := by simpa using h
    rw [this, if_neg h]
theorem look_some {es : List (List UInt8 × Value)} {k : List UInt8} {v : Value} (h : look es k = some v) : (k, v) ∈ es := by
  induction es with
  | nil => cases h
  | cons p es ih =>
    rw [look_cons] at h
    by_cases e : p.1 = k
    · rw [if_pos e] at h; cases h; subst e; exact List.mem_cons_self
    · rw [if_neg e] at h; exact List.mem_cons_of_mem _ (ih h)
theorem look_none {es : List (List UInt8 × Value)} {k : List UInt8} : look es k = none ↔ ∀ p ∈ es, p.1 ≠ k := by
  induction es with
  | nil => simp [look_nil]
  | cons p es ih =>
    rw [look_cons]
    by_cases e : p.1 = k
    · rw [if_pos e]; simp [e]
    · rw [if_neg e, ih]; simp [e]
theorem look_append (es : List (List UInt8 × Value)) (p : List UInt8 × Value) (k : List UInt8) : look (es ++ [p]) k = (look es k).or (if p.1 = k then some p.2 else none) := by
  induction es with
  | nil => rw [List.nil_append, look_cons, look_nil]; simp
  | cons q es ih =>
    rw [List.cons_append, look_cons, look_cons, ih]
    by_cases e : q.1 = k
    · rw [if_pos e, if_pos e]; rfl
    · rw [if_neg e, if_neg e]
theorem look_map (es : List (List UInt8 × Value)) (k : List UInt8) (v : Value) (j : List UInt8) : look (es.map (fun p => if p.1 = k then (k, v) else p)) j = if j = k ∧ (look es k).isSome then some v else look es j := by
  induction es with
  | nil => simp [look_nil]
  | cons p es ih =>
    rw [List.map_cons, look_cons, look_cons, look_cons, ih]
    by_cases e : p.1 = k
    · rw [if_pos e]
      by_cases e2 : k = j
      · subst e2; simp [e]
      · rw [if_neg e2, if_neg (fun h => e2 h.1.symm), if_neg (fun h => e2 h.1.symm), if_neg (fun h => e2 (e.symm.trans h))]
    · rw [if_neg e]
      by_cases e2 : p.1 = j
      · rw [if_pos e2, if_pos e2, if_neg (fun h => e (e2.trans h.1))]
      · rw [if_neg e2, if_neg e2, if_neg e]
/-- What a store makes of the look-ups. -/
theorem look_put (es : List (List UInt8 × Value)) (k : List UInt8) (v : Value) (j : List UInt8) : look (put es k v) j = if j = k then some v else look es j := by
  unfold put
  by_cases h : (look es k).isSome = true
  · rw [if_pos h, look_map]
    by_cases e : j = k
    · rw [if_pos ⟨e, h⟩, if_pos e]
    · rw [if_neg (fun x => e x.1), if_neg e]
  · rw [if_neg h, look_append]
    have hn : look es k = none := by simpa using h
    by_cases e : k = j
    · subst e; rw [hn, if_pos rfl]; simp
    · simp only [if_neg e]; rw [if_neg (fun x => e x.symm)]; simp
theorem length_put (es : List (List UInt8 × Value)) (k : List UInt8) (v : Value) : (put es k v).length = es.length + (if (look es k).isSome then 0 else 1) := by
  unfold put; split <;> simp_all
theorem keys_map (es : List (List UInt8 × Value)) (k : List UInt8) (v : Value) : (es.map (fun p => if p.1 = k then (k, v) else p)).map (·.1) = es.map (·.1) := by
  rw [List.map_map]
  refine List.map_congr_left fun p _ => ?_
  show (if p.1 = k then (k, v) else p).1 = p.1
  split
  · symm; assumption
  · rfl
theorem put_nodup {es : List (List UInt8 × Value)} (h : (es.map (·.1)).Nodup) (k : List UInt8) (v : Value) : ((put es k v).map (·.1)).Nodup := by
  unfold put
  split
  · rw [keys_map]; exact h
  · rename_i hn
    have hn' : look es k = none := by simpa using hn
    rw [List.map_append, List.nodup_append]
    refine ⟨h, by simp, ?_⟩
    intro a ha b hb
    simp at hb
    subst hb
    obtain ⟨p, hp, rfl⟩ := List.mem_map.1 ha
    exact look_none.1 hn' p hp
theorem look_del (es : List (List UInt8 × Value)) (k j : List UInt8) : look (del es k) j = if j = k then none else look es j := by
  induction es with
  | nil => simp [del, look_nil]
  | cons p es ih =>
    unfold del at ih ⊢
    rw [List.filter_cons]
    by_cases e : p.1 = k
    · have : (!(p.1 == k)) = false := by simpa using e
      rw [this, if_neg (by simp), ih, look_cons]
      by_cases e2 : j = k
      · rw [if_pos e2, if_pos e2]
      · rw [if_neg e2, if_neg e2, if_neg (fun h => e2 (h.symm.trans e))]
    · have : (!(p.1 == k)) = true := by simpa using e
      rw [this, if_pos rfl, look_cons, look_cons, ih]
      by_cases e2 : p.1 = j
      · rw [if_pos e2, if_pos e2, if_neg (fun h => e (e2.trans h))]
      · rw [if_neg e2, if_neg e2]

theorem MapAt.new (w : World) : MapAt (w.alloc (.map #[] 0)) w.heap.size [] := by
  refine ⟨⟨#[], 0, ?_, rfl, by simp, by simp⟩, by simp⟩
  show (w.heap.push _)[w.heap.size]? = _
  simp
theorem MapAt.lt {w : World} {r : Nat} {es : List (List UInt8 × Value)} (h : MapAt w r es) : r < w.heap.size := by
  obtain ⟨arr, clock, hh, _⟩ := h.at_
  exact (Array.getElem?_eq_some_iff.1 hh).1
theorem MapAt.kept {S : Nat → Prop} {w w' : World} {r : Nat} {es : List (List UInt8 × Value)} (h : MapAt w r es) (k : Kept S w w') (hs : ¬ S r) : MapAt w' r es := by
  have hl := h.lt
  obtain ⟨⟨arr, clock, hh, r1⟩, nd⟩ := h
  exact ⟨⟨arr, clock, by rw [k.block r hl hs]; exact hh, r1⟩, nd⟩
theorem MapAt.below {B : Nat} {w w' : World} {r : Nat} {es : List (List UInt8 × Value)} (h : MapAt w r es) (k : Below B w w') (hs : r < B) : MapAt w' r es := by
  obtain ⟨⟨arr, clock, hh, r1⟩, nd⟩ := h
  exact ⟨⟨arr, clock, by rw [k.block r hs]; exact hh, r1⟩, nd⟩
theorem MapAt.alloc {w : World} {r : Nat} {es : List (List UInt8 × Value)} (h : MapAt w r es) (o : Obj) : MapAt (w.alloc o) r es :=
  h.kept (S := fun _ => False) ((Kept.refl _ _).alloc o) (fun h => h)
theorem MapAt.drew {w : World} {r : Nat} {es : List (List UInt8 × Value)} (h : MapAt w r es) : MapAt w.drew r es := ⟨h.at_, h.nd⟩

section
variable {P : Program}
theorem findNow_none (k : List UInt8) : ∀ (l : List MapEntry) (es : List (List UInt8 × Value)) (i : Nat), l.map (fun e => (e.key, e.val)) = es.map (fun p => (strV p.1, p.2)) → look es k = none →
    Instr.findNow .string (strV k) l i = some none
  | [], _, _, _, _ => rfl
  | e :: l, [], _, h, _ => by simp at h
  | e :: l, p :: es, i, h, hn => by
    simp only [List.map_cons, List.cons.injEq, Prod.mk.injEq] at h
    obtain ⟨⟨h1, h2⟩, h3⟩ := h
    rw [look_cons] at hn
    by_cases e1 : p.1 = k
    · rw [if_pos e1] at hn; cases hn
    · rw [if_neg e1] at hn
      have e2 : ((⟨k.toArray⟩ : ByteArray) == ⟨p.1.toArray⟩) = false := beqS_no fun h => e1 h.symm
      unfold Instr.findNow
      rw [h1]
      simp only [Instr.sameNow, e2]
      exact findNow_none k l es (i + 1) h3 hn
theorem findNow_some (k : List UInt8) (v : Value) : ∀ (l : List MapEntry) (es : List (List UInt8 × Value)) (i : Nat), l.map (fun e => (e.key, e.val)) = es.map (fun p => (strV p.1, p.2)) → look es k = some v →
    ∃ j, Instr.findNow .string (strV k) l i = some (some (i + j, v)) ∧ (l[j]?).map (·.key) = some (strV k) ∧ j < l.length
  | [], [], _, _, hn => by cases hn
  | [], p :: es, _, h, _ => by simp at h
  | e :: l, [], _, h, _ => by simp at h
  | e :: l, p :: es, i, h, hn => by
    simp only [List.map_cons, List.cons.injEq, Prod.mk.injEq] at h
    obtain ⟨⟨h1, h2⟩, h3⟩ := h
    rw [look_cons] at hn
    by_cases e1 : p.1 = k
    · rw [if_pos e1] at hn
      cases hn
      refine ⟨0, ?_, by simp [h1, e1], by simp⟩
      unfold Instr.findNow
      rw [h1, e1, h2]
      simp [Instr.sameNow, beqS_yes]
    · rw [if_neg e1] at hn
      have e2 : ((⟨k.toArray⟩ : ByteArray) == ⟨p.1.toArray⟩) = false := beqS_no fun h => e1 h.symm
      obtain ⟨j, hj, hk, hl⟩ := findNow_some k v l es (i + 1) h3 hn
      refine ⟨j + 1, ?_, by simpa using hk, by simp; omega⟩
      unfold Instr.findNow
      rw [h1]
      simp only [Instr.sameNow, e2]
      rw [hj]; simp [Nat.add_assoc, Nat.add_comm 1 j]

theorem run_checkKey_int {K : TypeId} (hK : P.underlying K = some .string) (b : Bool) (n : Nat) (k : List UInt8) (w : World) : (Instr.checkKey b (n + 1) K (strV k)).run P w = .ok () w := by
  simp [Instr.checkKey, run_underlying hK]

theorem run_findKey {K : TypeId} (hK : P.underlying K = some .string) (l : List MapEntry) (k : List UInt8) (w : World) {r : Option (Nat × Value)} (h : Instr.findNow .string (strV k) l 0 = some r) :
    (Instr.findKey K (strV k) l).run P w = .ok r w := by
  simp [Instr.findKey, run_underlying hK, h]

theorem run_getObj_map {w : World} {r : Nat} {arr : Array MapEntry} {clock : Nat} (h : w.heap[r]? = some (.map arr clock)) : (getObj r).run P w = .ok (.map arr clock) w := by
  simp [getObj, Sem.run, h]

/-- v := m[k] -/
theorem MapAt.run_lookup {w : World} {r : Nat} {es : List (List UInt8 × Value)} (h : MapAt w r es) {T K E : TypeId} (hT : P.underlying T = some (.map K E)) (hK : P.underlying K = some .string) {z : Value} (hz : ∀ w, (zeroValue E).run P w = .ok z w) (k : List UInt8) :
    (Instr.lookup T (.map (some r)) (strV k) false).run P w = .ok ((look es k).getD z) w := by
  obtain ⟨⟨arr, clock, hh, hm, _⟩, _⟩ := h
  unfold Instr.lookup
  cases hl : look es k with
  | none =>
    have hf := findNow_none k arr.toList es 0 hm hl
    simp [run_underlying hT, run_getObj_map hh, run_checkKey_int hK, run_findKey hK _ _ _ hf, hz, Result.andThen]
  | some v =>
    obtain ⟨j, hf, _⟩ := findNow_some k v arr.toList es 0 hm hl
    simp [run_underlying hT, run_getObj_map hh, run_checkKey_int hK, run_findKey hK _ _ _ hf, Result.andThen]
/-- v, ok := m[k] -/
theorem MapAt.run_lookup_ok {w : World} {r : Nat} {es : List (List UInt8 × Value)} (h : MapAt w r es) {T K E : TypeId} (hT : P.underlying T = some (.map K E)) (hK : P.underlying K = some .string) {z : Value} (hz : ∀ w, (zeroValue E).run P w = .ok z w) (k : List UInt8) :
    (Instr.lookup T (.map (some r)) (strV k) true).run P w = .ok (.tuple #[(look es k).getD z, .bool (look es k).isSome]) w := by
  obtain ⟨⟨arr, clock, hh, hm, _⟩, _⟩ := h
  unfold Instr.lookup
  cases hl : look es k with
  | none =>
    have hf := findNow_none k arr.toList es 0 hm hl
    simp [run_underlying hT, run_getObj_map hh, run_checkKey_int hK, run_findKey hK _ _ _ hf, hz, Result.andThen]
  | some v =>
    obtain ⟨j, hf, _⟩ := findNow_some k v arr.toList es 0 hm hl
    simp [run_underlying hT, run_getObj_map hh, run_checkKey_int hK, run_findKey hK _ _ _ hf, Result.andThen]
/-- len(m) -/
theorem MapAt.run_len {w : World} {r : Nat} {es : List (List UInt8 × Value)} (h : MapAt w r es) {T K E : TypeId} (hT : P.underlying T = some (.map K E)) (ty : TypeId) :
    (Builtin.len_ #[T] ty #[.map (some r)]).run P w = .ok (.int .i64 es.length) w := by
  obtain ⟨⟨arr, clock, hh, hm, _⟩, _⟩ := h
  have hl : arr.size = es.length := by simpa using congrArg List.length hm
  simp [Builtin.len_, run_underlying hT, run_getObj_map hh, Result.andThen, goInt, hl]

/-- The block r becomes o, where it was a map. -/
theorem run_setObj_map {w : World} {r : Nat} {arr : Array MapEntry} {clock : Nat} (h : w.heap[r]? = some (.map arr clock)) (o : Obj) :
    (setObj r o).run P w = .ok () { w with heap := w.heap.setIfInBounds r o } := by
  simp [setObj, Sem.run, h]
theorem kept_setObj (w : World) (r : Nat) (o : Obj) : Kept (· = r) w { w with heap := w.heap.setIfInBounds r o } :=
  ⟨rfl, rfl, rfl, by simp, fun k _ hs => by
    show (w.heap.setIfInBounds r o)[k]? = _
    rw [Array.getElem?_setIfInBounds_ne (fun e => hs e.symm)]⟩
theorem setObj_at {w : World} {r : Nat} {arr : Array MapEntry} {clock : Nat} (h : w.heap[r]? = some (.map arr clock)) (o : Obj) : ({ w with heap := w.heap.setIfInBounds r o } : World).heap[r]? = some o := by
  show (w.heap.setIfInBounds r o)[r]? = _
  rw [Array.getElem?_setIfInBounds_self, if_pos (Array.getElem?_eq_some_iff.1 h).1]

theorem list_modify_map {α β : Type} (f : α → β) (g : α → α) (h : β → β) : ∀ (l : List α) (j : Nat) (_ : ∀ a, f (g a) = h (f a)), (l.modify j g).map f = (l.map f).modify j h
  | [], _, _ => by simp
  | a :: l, 0, hh => by simp [hh]
  | a :: l, j + 1, hh => by simp [list_modify_map f g h l j hh]

theorem modify_keys (k : List UInt8) (v : Value) : ∀ (l : List MapEntry) (es : List (List UInt8 × Value)) (j : Nat), l.map (fun e => (e.key, e.val)) = es.map (fun p => (strV p.1, p.2)) → (es.map (·.1)).Nodup →
    (l[j]?).map (·.key) = some (strV k) → (l.modify j fun e => { e with key := strV k, val := v }).map (fun e => (e.key, e.val)) = (es.map (fun p => if p.1 = k then (k, v) else p)).map (fun p => (strV p.1, p.2))
  | [], es, j, _, _, h => by simp at h
  | e :: l, [], _, h, _, _ => by simp at h
  | e :: l, p :: es, 0, h, nd, hk => by
    simp only [List.map_cons, List.cons.injEq, Prod.mk.injEq] at h
    obtain ⟨⟨h1, h2⟩, h3⟩ := h
    simp at hk
    rw [h1] at hk
    simp at hk
    simp only [List.map_cons, List.nodup_cons] at nd
    have hrest : es.map (fun p => if p.1 = k then (k, v) else p) = es := by
      have : es.map (fun p => if p.1 = k then (k, v) else p) = es.map id := by
        refine List.map_congr_left fun q hq => ?_
        have : q.1 ≠ k := fun e => nd.1 (by rw [hk, ← e]; exact List.mem_map.2 ⟨q, hq, rfl⟩)
        simp [this]
      simpa using this
    simp [hk, hrest, h3]
  | e :: l, p :: es, j + 1, h, nd, hk => by
    simp only [List.map_cons, List.cons.injEq, Prod.mk.injEq] at h
    obtain ⟨⟨h1, h2⟩, h3⟩ := h
    simp only [List.map_cons, List.nodup_cons] at nd
    have hk' : (l[j]?).map (·.key) = some (strV k) := by simpa using hk
    have hpk : p.1 ≠ k := by
      intro e1
      apply nd.1
      rw [e1]
      have hm : (strV k) ∈ l.map (·.key) := by
        cases hlj : l[j]? with
        | none => rw [hlj] at hk'; cases hk'
        | some x => rw [hlj] at hk'; simp at hk'; rw [← hk']; exact List.mem_map.2 ⟨x, List.mem_of_getElem? hlj, rfl⟩
      have he : l.map (·.key) = es.map (fun p => strV p.1) := by
        have := congrArg (List.map Prod.fst) h3
        simpa [List.map_map, Function.comp_def] using this
      rw [he] at hm
      obtain ⟨q, hq, e2⟩ := List.mem_map.1 hm
      simp at e2
      exact List.mem_map.2 ⟨q, hq, e2⟩
    have ih := modify_keys k v l es j h3 nd.2 hk'
    simp only [List.modify_succ_cons, List.map_cons, if_neg hpk, h1, h2]
    rw [ih]

/-- m[k] = v -/
theorem MapAt.run_update {w : World} {r : Nat} {es : List (List UInt8 × Value)} (h : MapAt w r es) {T K E : TypeId} (hT : P.underlying T = some (.map K E)) (hK : P.underlying K = some .string) (k : List UInt8) (v : Value) :
    ∃ w', (Instr.mapUpdate T (.map (some r)) (strV k) v).run P w = .ok () w' ∧ MapAt w' r (put es k v) ∧ Kept (· = r) w w' := by
  obtain ⟨⟨arr, clock, hh, hm, hb, hbn⟩, nd⟩ := h
  unfold Instr.mapUpdate
  cases hl : look es k with
  | none =>
    have hf := findNow_none k arr.toList es 0 hm hl
    refine ⟨{ w with heap := w.heap.setIfInBounds r (.map (arr.push { key := strV k, val := v, born := clock }) (clock + 1)) }, ?_, ⟨⟨_, _, setObj_at hh _, ?_, ?_, ?_⟩, put_nodup nd k v⟩, kept_setObj _ _ _⟩
    · simp [run_underlying hT, run_getObj_map hh, run_checkKey_int hK, run_findKey hK _ _ _ hf, Result.andThen, run_setObj_map hh]
    · have : put es k v = es ++ [(k, v)] := by unfold put; rw [hl]; rfl
      rw [this]; simp [hm]
    · intro e he
      rw [Array.toList_push, List.mem_append] at he
      rcases he with he | he
      · have := hb e he; omega
      · simp at he; subst he; simp
    · rw [Array.toList_push, List.map_append, List.nodup_append]
      refine ⟨hbn, by simp, ?_⟩
      intro a ha b hb'
      simp at hb'
      subst hb'
      obtain ⟨x, hx, rfl⟩ := List.mem_map.1 ha
      have := hb x hx
      omega
  | some u =>
    obtain ⟨j, hf, hkey, hjl⟩ := findNow_some k u arr.toList es 0 hm hl
    have hkey' : (arr[j]?).map (·.key) = some (strV k) := by simpa using hkey
    have hstay : ∀ w, (Instr.keyThatStays (strV k) (strV k)).run P w = .ok (strV k) w := fun w => by simp [Instr.keyThatStays, Instr.sameBits, beqS_yes]
    have hbo : (arr.toList.modify j fun e => { e with key := strV k, val := v }).map (·.born) = arr.toList.map (·.born) := by
      rw [list_modify_map (fun e : MapEntry => e.born) (fun e => { e with key := strV k, val := v }) (fun x => x) arr.toList j (fun _ => rfl)]
      exact List.modify_id _ _
    refine ⟨{ w with heap := w.heap.setIfInBounds r (.map (arr.modify j fun e => { e with key := strV k, val := v }) clock) }, ?_, ⟨⟨_, _, setObj_at hh _, ?_, ?_, ?_⟩, put_nodup nd k v⟩, kept_setObj _ _ _⟩
    · simp [run_underlying hT, run_getObj_map hh, run_checkKey_int hK, run_findKey hK _ _ _ hf, Result.andThen, hkey', hstay, run_setObj_map hh]
    · have : put es k v = es.map (fun p => if p.1 = k then (k, v) else p) := by unfold put; rw [hl]; rfl
      rw [this, Array.toList_modify]
      exact modify_keys k v arr.toList es j hm nd hkey
    · intro e he
      rw [Array.toList_modify] at he
      have hmem : e.born ∈ (arr.toList.modify j fun e => { e with key := strV k, val := v }).map (·.born) := List.mem_map.2 ⟨e, he, rfl⟩
      rw [hbo] at hmem
      simp at hmem
      obtain ⟨x, hx, e1⟩ := hmem
      rw [← e1]; exact hb x (by simpa using hx)
    · rw [Array.toList_modify, hbo]
      exact hbn
end
end MapStr
end Go.Proofs.YtjjnidbggoaonaaGreatDoor
