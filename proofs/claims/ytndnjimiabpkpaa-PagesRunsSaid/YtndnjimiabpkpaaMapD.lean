/- Deleting from a map with int keys, also of the entry at hand while one ranges over it; clearing one. No condition. -/
import Derived.Test.YtndnjimiabpkpaaMapR
namespace Go.Proofs.Ytndnjimiabpkpaa
open Go.RowKit
section
variable {P : Program}
theorem erase_map {α β : Type} (f : α → β) : ∀ (l : List α) (j : Nat), (l.eraseIdx j).map f = (l.map f).eraseIdx j
  | [], _ => by simp
  | a :: l, 0 => by simp
  | a :: l, j + 1 => by simp [erase_map f l j]
theorem erase_del (k : Int) : ∀ (es : List (Int × Value)) (j : Nat), (es.map (·.1)).Nodup → (es[j]?).map (·.1) = some k → es.eraseIdx j = del es k
  | [], _, _, h => by simp at h
  | p :: es, 0, hn, h => by
    simp at h
    rw [List.map_cons, List.nodup_cons] at hn
    have e : es.filter (fun q => !(q.1 == k)) = es := List.filter_eq_self.2 (fun q hq => by
      have : q.1 ≠ k := fun e => hn.1 (List.mem_map.2 ⟨q, hq, by rw [e, h]⟩)
      simpa using this)
    unfold del
    simp [h, e]
  | p :: es, j + 1, hn, h => by
    rw [List.map_cons, List.nodup_cons] at hn
    have h' : (es[j]?).map (·.1) = some k := by simpa using h
    have ih := erase_del k es j hn.2 h'
    have hp : p.1 ≠ k := by
      intro e
      rcases hq : es[j]? with _ | q
      · rw [hq] at h'; simp at h'
      · rw [hq] at h'; simp at h'
        exact hn.1 (List.mem_map.2 ⟨q, List.mem_of_getElem? hq, by rw [h', e]⟩)
    unfold del at ih ⊢
    simp [hp, ih]
theorem del_none {es : List (Int × Value)} {k : Int} (h : look es k = none) : del es k = es :=
  List.filter_eq_self.2 (fun q hq => by have := look_none.1 h q hq; simpa using this)
theorem del_nodup {es : List (Int × Value)} (h : (es.map (·.1)).Nodup) (k : Int) : ((del es k).map (·.1)).Nodup := h.sublist (List.Sublist.map _ List.filter_sublist)

/-- delete(m, k): the entry is gone; an iterator that has passed it by sees no difference. -/
theorem MapAt.run_delete {w : World} {r : Nat} {es : List (Int × Value)} (h : MapAt w r es) {T K E : TypeId} (hT : P.underlying T = some (.map K E)) (hK : P.underlying K = some (.int .i64)) (k : Int) (ty : TypeId) :
    ∃ w', (Builtin.delete_ #[T, K] ty #[.map (some r), .int .i64 k]).run P w = .ok (.tuple #[]) w' ∧ MapAt w' r (del es k) ∧ Kept (· = r) w w' ∧
      ∀ b left v, RangeAt w b r left (some (k, v)) → RangeAt w' b r left none := by
  obtain ⟨⟨arr, clock, hh, hm, hb, hbn⟩, nd⟩ := h
  unfold Builtin.delete_
  cases hl : look es k with
  | none =>
    have hf := findNow_none k arr.toList es 0 hm hl
    refine ⟨{ w with heap := w.heap.setIfInBounds r (.map arr clock) }, ?_, ⟨⟨arr, clock, setObj_at hh _, by rw [del_none hl]; exact hm, hb, hbn⟩, del_nodup nd k⟩, kept_setObj _ _ _, ?_⟩
    · simp [run_underlying hT, run_getObj_map hh, run_checkKey_int hK, run_findKey hK _ _ _ hf, Result.andThen, run_setObj_map hh]
    · rintro b left v ⟨arr', clock', since, seen, c0, hb', hr', hold, hsc, hck, hn, hleft, hc⟩
      rw [hh] at hr'
      cases hr'
      have hbr : b ≠ r := by rintro rfl; rw [hh] at hb'; cases hb'
      refine ⟨arr, clock, since, seen, c0, ?_, setObj_at hh _, hold, hsc, hck, hn, hleft, fun p hp => by cases hp⟩
      show (w.heap.setIfInBounds r _)[b]? = _
      rw [Array.getElem?_setIfInBounds_ne hbr.symm]; exact hb'
  | some u =>
    obtain ⟨j, hf, hkey, hjl⟩ := findNow_some k u arr.toList es 0 hm hl
    have hjl' : j < arr.size := by simpa using hjl
    have hke : (es[j]?).map (·.1) = some k := by
      have h1 := congrArg (fun l => l[j]?) hm
      simp only [List.getElem?_map] at h1
      rcases hq : es[j]? with _ | q
      · rw [hq] at h1
        rcases ha : arr.toList[j]? with _ | a
        · rw [List.getElem?_eq_none_iff] at ha; omega
        · rw [ha] at h1; simp at h1
      · rw [hq] at h1
        rcases ha : arr.toList[j]? with _ | a
        · rw [ha] at h1; simp at h1
        · rw [ha] at h1 hkey
          simp at h1 hkey
          rw [hkey] at h1
          have := h1.1
          simp at this
          simp [this]
    have hlist : (arr.eraseIdxIfInBounds j).toList = arr.toList.eraseIdx j := by
      unfold Array.eraseIdxIfInBounds
      rw [dif_pos hjl']; simp
    have hsub : (arr.toList.eraseIdx j).Sublist arr.toList := List.eraseIdx_sublist _ _
    refine ⟨{ w with heap := w.heap.setIfInBounds r (.map (arr.eraseIdxIfInBounds j) clock) }, ?_, ⟨⟨_, clock, setObj_at hh _, ?_, ?_, ?_⟩, del_nodup nd k⟩, kept_setObj _ _ _, ?_⟩
    · simp [run_underlying hT, run_getObj_map hh, run_checkKey_int hK, run_findKey hK _ _ _ hf, Result.andThen, run_setObj_map hh]
    · rw [hlist, erase_map, hm, ← erase_map, erase_del k es j nd hke]
    · intro e he
      rw [hlist] at he
      exact hb e (hsub.subset he)
    · rw [hlist]
      exact hbn.sublist (List.Sublist.map _ hsub)
    · rintro b left v ⟨arr', clock', since, seen, c0, hb', hr', hold, hsc, hck, hn, hleft, hc⟩
      rw [hh] at hr'
      cases hr'
      have hbr : b ≠ r := by rintro rfl; rw [hh] at hb'; cases hb'
      obtain ⟨seen', e, hs, -, he, hek, -⟩ := hc _ rfl
      -- the entry at hand is the one that is erased
      have hej : arr.toList[j]? = some e := by
        obtain ⟨i, hi⟩ := List.getElem?_of_mem he
        have hij : i = j := by
          have hkn : (arr.toList.map (fun e => e.key)).Nodup := by
            have h1 := congrArg (List.map Prod.fst) hm
            simp only [List.map_map, Function.comp_def] at h1
            rw [h1]
            have : es.map (fun p => Value.int .i64 p.1) = (es.map (·.1)).map (Value.int .i64) := by simp [List.map_map, Function.comp_def]
            rw [this]
            exact List.Pairwise.map _ (fun a b hab e => hab (by simpa using e)) nd
          have hki : (arr.toList.map (fun e => e.key))[i]? = some (.int .i64 k) := by rw [List.getElem?_map, hi]; simp [hek]
          have hkj : (arr.toList.map (fun e => e.key))[j]? = some (.int .i64 k) := by
            rw [List.getElem?_map]; exact hkey
          exact (List.getElem?_inj (by rw [List.length_map]; exact (List.getElem?_eq_some_iff.1 hi).1) hkn).1 (hki.trans hkj.symm)
        rw [← hij]; exact hi
      have hlo : (leftOf (arr.eraseIdxIfInBounds j) seen).toList = (leftOf arr seen).toList := by
        unfold leftOf
        rw [Array.toList_filter, Array.toList_filter, hlist]
        have hsplit : ∀ (l : List MapEntry) (j : Nat), l[j]? = some e → (l.eraseIdx j).filter (fun x => !seen.contains x.born) = l.filter (fun x => !seen.contains x.born) := by
          intro l
          induction l with
          | nil => intro j h; simp at h
          | cons a l ih =>
            intro j h
            cases j with
            | zero =>
              simp at h; subst h
              have : seen.contains a.born = true := by rw [hs]; simp
              show l.filter _ = (a :: l).filter _
              rw [List.filter_cons, this]; rfl
            | succ j =>
              have h' : l[j]? = some e := by simpa using h
              simp only [List.eraseIdx_cons_succ, List.filter_cons, ih j h']
        exact hsplit _ j hej
      refine ⟨_, clock, since, seen, c0, ?_, setObj_at hh _, fun x hx => ?_, hsc, hck, ?_, by rw [hlo]; exact hleft, fun p hp => by cases hp⟩
      · show (w.heap.setIfInBounds r _)[b]? = _
        rw [Array.getElem?_setIfInBounds_ne hbr.symm]; exact hb'
      · rw [hlist] at hx; exact hold x (hsub.subset hx)
      · rw [hlist]; exact hn.sublist (List.Sublist.map _ hsub)
/-- clear(m) -/
theorem MapAt.run_clear {w : World} {r : Nat} {es : List (Int × Value)} (h : MapAt w r es) {T K E : TypeId} (hT : P.underlying T = some (.map K E)) (ty : TypeId) :
    ∃ w', (Builtin.clear_ #[T] ty #[.map (some r)]).run P w = .ok (.tuple #[]) w' ∧ MapAt w' r [] ∧ Kept (· = r) w w' := by
  obtain ⟨⟨arr, clock, hh, hm, hb, hbn⟩, nd⟩ := h
  refine ⟨{ w with heap := w.heap.setIfInBounds r (.map #[] clock) }, ?_, ⟨⟨#[], clock, setObj_at hh _, rfl, fun e he => by simp at he, by simp⟩, by simp⟩, kept_setObj _ _ _⟩
  unfold Builtin.clear_
  simp [run_underlying hT, run_getObj_map hh, Result.andThen, run_setObj_map hh]
end
end Go.Proofs.Ytndnjimiabpkpaa
