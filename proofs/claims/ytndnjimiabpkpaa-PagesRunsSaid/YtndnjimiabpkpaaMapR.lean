/- Ranging over a map with int keys: which entries are left, one step, the entry at hand. No condition. -/
import Derived.Test.YtndnjimiabpkpaaMap
import Derived.Maps.RangeRun
namespace Go.Proofs.Ytndnjimiabpkpaa
open Go.RowKit

/-- An iterator in block b over the map in block r: what is left, and the entry at hand. -/
structure RangeAt (w : World) (b r : Nat) (left : List (Int × Value)) (cur : Option (Int × Value)) : Prop where
  at_ : ∃ arr clock since seen c0, w.heap[b]? = some (.mapIter (some r) since seen c0) ∧ w.heap[r]? = some (.map arr clock) ∧ (∀ e ∈ arr.toList, e.born < since) ∧ since ≤ c0 ∧ since ≤ clock ∧ (arr.toList.map (·.born)).Nodup ∧
    (leftOf arr seen).toList.map (fun e => (e.key, e.val)) = left.map (fun p => (Value.int .i64 p.1, p.2)) ∧
    ∀ p, cur = some p → ∃ (seen' : Array Nat) (e : MapEntry), seen = seen'.push e.born ∧ c0 = clock ∧ e ∈ arr.toList ∧ e.key = .int .i64 p.1 ∧ e.val = p.2

section
variable {P : Program} {w w' : World} {b r : Nat} {left : List (Int × Value)} {cur : Option (Int × Value)}
theorem RangeAt.kept {S : Nat → Prop} (h : RangeAt w b r left cur) (k : Kept S w w') (h1 : ¬ S b) (h2 : ¬ S r) : RangeAt w' b r left cur := by
  obtain ⟨arr, clock, since, seen, c0, hb, hr, h⟩ := h
  exact ⟨arr, clock, since, seen, c0, by rw [k.block b (Array.getElem?_eq_some_iff.1 hb).1 h1]; exact hb, by rw [k.block r (Array.getElem?_eq_some_iff.1 hr).1 h2]; exact hr, h⟩
theorem RangeAt.lt (h : RangeAt w b r left cur) : b < w.heap.size := by
  obtain ⟨arr, clock, since, seen, c0, hb, hr, h⟩ := h
  exact (Array.getElem?_eq_some_iff.1 hb).1
theorem RangeAt.below {B : Nat} (h : RangeAt w b r left cur) (k : Below B w w') (h1 : b < B) (h2 : r < B) : RangeAt w' b r left cur := by
  obtain ⟨arr, clock, since, seen, c0, hb, hr, h⟩ := h
  exact ⟨arr, clock, since, seen, c0, by rw [k.block b h1]; exact hb, by rw [k.block r h2]; exact hr, h⟩

theorem leftOf_none (arr : Array MapEntry) : leftOf arr #[] = arr := by
  unfold leftOf
  exact Array.filter_eq_self.2 (fun x _ => by simp)
/-- 'range': a new iterator, all is left. -/
theorem RangeAt.begin {es : List (Int × Value)} (h : MapAt w r es) {T K E : TypeId} (hT : P.underlying T = some (.map K E)) :
    ∃ o, (Instr.range T (.map (some r))).run P w = .ok (.pointer (some ⟨w.heap.size, 0, none⟩)) (w.alloc o) ∧ RangeAt (w.alloc o) w.heap.size r es none := by
  obtain ⟨⟨arr, clock, hh, hm, hb, hn⟩, nd⟩ := h
  refine ⟨_, run_range_map w T K E r arr clock hT hh, arr, clock, clock, #[], clock, ?_, ?_, hb, Nat.le_refl _, Nat.le_refl _, hn, by rw [leftOf_none]; exact hm, fun p hp => by cases hp⟩
  · exact heap_alloc_new _ _
  · rw [Below.heap_alloc _ _ _ (Array.getElem?_eq_some_iff.1 hh).1]; exact hh
theorem leftOf_push (arr : Array MapEntry) (seen : Array Nat) (e : MapEntry) : (leftOf arr (seen.push e.born)).toList = (leftOf arr seen).toList.filter (fun x => !(x.born == e.born)) := by
  unfold leftOf
  rw [Array.toList_filter, Array.toList_filter, List.filter_filter]
  congr 1
  funext x
  by_cases h : x.born = e.born <;> simp [h]
theorem filter_one (e : MapEntry) : ∀ (l1 l2 : List MapEntry), ((l1 ++ e :: l2).map (·.born)).Nodup → (l1 ++ e :: l2).filter (fun x => !(x.born == e.born)) = l1 ++ l2 := by
  intro l1 l2 hn
  rw [List.map_append, List.map_cons, List.nodup_append] at hn
  obtain ⟨h1, h2, h3⟩ := hn
  rw [List.nodup_cons] at h2
  rw [List.filter_append, List.filter_cons]
  have e0 : (!(e.born == e.born)) = false := by simp
  rw [e0]
  have e1 : l1.filter (fun x => !(x.born == e.born)) = l1 := List.filter_eq_self.2 (fun x hx => by
    have := h3 x.born (List.mem_map.2 ⟨x, hx, rfl⟩) e.born (by simp)
    simpa using this)
  have e2 : l2.filter (fun x => !(x.born == e.born)) = l2 := List.filter_eq_self.2 (fun x hx => by
    have : x.born ≠ e.born := fun q => h2.1 (List.mem_map.2 ⟨x, hx, q⟩)
    simpa using this)
  rw [e1, e2]; rfl
theorem setBlock_kept (w : World) (b : Nat) (o : Obj) : Kept (· = b) w (Go.ChangeMaps.setBlock w b o) :=
  ⟨rfl, rfl, rfl, by simp [Go.ChangeMaps.setBlock], fun k _ h => by
    show (w.heap.setIfInBounds b o)[k]? = _
    rw [Array.getElem?_setIfInBounds_ne (fun e => h e.symm)]⟩
/-- 'next': none is left; or one of those that are left comes, whichever. -/
theorem RangeAt.next (h : RangeAt w b r left cur) (ty : TypeId) :
    (left = [] ∧ (Instr.next (.pointer (some ⟨b, 0, none⟩)) false ty).run P w = .ok (.tuple #[.bool false]) w) ∨
    ∃ p l1 l2, left = l1 ++ p :: l2 ∧ ∃ w', (Instr.next (.pointer (some ⟨b, 0, none⟩)) false ty).run P w = .ok (.tuple #[.bool true, .int .i64 p.1, p.2]) w' ∧ RangeAt w' b r (l1 ++ l2) (some p) ∧ Kept (· = b) w w' := by
  obtain ⟨arr, clock, since, seen, c0, hb, hr, hold, hsc, hck, hn, hl, hc⟩ := h
  rcases run_next_at (P := P) w ty b r since c0 seen arr clock hb hr hold hsc with ⟨h0, hrun⟩ | ⟨e, he, w1, hw1, hrun⟩
  · left
    refine ⟨?_, hrun⟩
    have h1 : ((leftOf arr seen).toList.map (fun e => (e.key, e.val))).length = 0 := by simpa using h0
    rw [hl] at h1
    exact List.eq_nil_of_length_eq_zero (by simpa using h1)
  · right
    obtain ⟨L1, L2, hL⟩ := List.append_of_mem he
    have hl' := hl
    rw [hL, List.map_append, List.map_cons] at hl'
    obtain ⟨l1, l2', hl1, hm1, hm2⟩ := List.map_eq_append_iff.1 hl'.symm
    obtain ⟨p, l2, hl2, hp, hm3⟩ := List.map_eq_cons_iff.1 hm2
    subst hl2
    have hk : e.key = .int .i64 p.1 := by have := congrArg Prod.fst hp; exact this.symm
    have hv : e.val = p.2 := by have := congrArg Prod.snd hp; exact this.symm
    have hbr : b ≠ r := by rintro rfl; rw [hb] at hr; cases hr
    have hb1 : b < w1.heap.size := by
      have := (Array.getElem?_eq_some_iff.1 hb).1
      rcases hw1 with rfl | rfl <;> exact this
    have hmem : e ∈ arr.toList := by
      unfold leftOf at he
      rw [Array.toList_filter] at he
      exact (List.mem_filter.1 he).1
    refine ⟨p, l1, l2, hl1, _, by rw [hrun, hk, hv], ⟨arr, clock, since, seen.push e.born, clock, ?_, ?_, hold, hck, hck, hn, ?_, fun q hq => ?_⟩, ?_⟩
    · show (w1.heap.setIfInBounds b _)[b]? = _
      rw [Array.getElem?_setIfInBounds_self_of_lt hb1]
    · show (w1.heap.setIfInBounds b _)[r]? = _
      rw [Array.getElem?_setIfInBounds_ne hbr]
      rcases hw1 with rfl | rfl <;> exact hr
    · rw [leftOf_push, hL, filter_one e L1 L2 (by
        have : ((leftOf arr seen).toList.map (·.born)).Nodup := by
          unfold leftOf
          rw [Array.toList_filter]
          exact List.Nodup.sublist (List.Sublist.map _ List.filter_sublist) hn
        rw [hL] at this; exact this)]
      rw [List.map_append, List.map_append, hm1, hm3]
    · cases hq
      exact ⟨seen, e, rfl, rfl, hmem, hk, hv⟩
    · have h1 := setBlock_kept w1 b (.mapIter (some r) since (seen.push e.born) clock)
      rcases hw1 with rfl | rfl
      · exact h1
      · exact ((Kept.refl _ w).drew).trans h1
/-- 'entry': the key and the value at hand. -/
theorem RangeAt.entry {p : Int × Value} (h : RangeAt w b r left (some p)) : (Instr.entry (.pointer (some ⟨b, 0, none⟩))).run P w = .ok (.tuple #[.int .i64 p.1, p.2]) w := by
  obtain ⟨arr, clock, since, seen, c0, hb, hr, hold, hsc, hck, hn, hl, hc⟩ := h
  obtain ⟨seen', e, rfl, rfl, he, hk, hv⟩ := hc p rfl
  rw [run_entry_at w b r since seen' arr _ e hb hr he hn, hk, hv]
end
end Go.Proofs.Ytndnjimiabpkpaa
