/- PagesRuns, plainly: entries that are deleted while one ranges over their map. -/
import Derived.Test.YtndnjimiabpkpaaPgRm
namespace Go.Proofs.Ytndnjimiabpkpaa
open Go.RowKit
attribute [local irreducible] World.setCell World.alloc World.drew World.setRow Calls Code.wp row

theorem ofFr_count (F : Nat → Int) (f : Int) (hf : f ≠ 0) : ∀ n, (pgs F 0 n).length = (pgs (wipeF F f) 0 n).length + (ofFr f (pgs F 0 n)).length
  | 0 => by simp [pgs, ofFr]
  | n + 1 => by
    have ih := ofFr_count F f hf n
    have e : ofFr f (pgs F 0 (n + 1)) = ofFr f (pgs F 0 n) ++ (if F (0 + n) = f then [((0 + n : Nat) : Int)] else []) := by
      show ofFr f (pgs F 0 n ++ (if F (0 + n) = 0 then [] else [(0 + n, F (0 + n))])) = _
      by_cases c : F (0 + n) = 0
      · rw [if_pos c, if_neg (by rw [c]; exact fun e => hf e.symm)]; simp
      · rw [if_neg c]
        by_cases d : F (0 + n) = f
        · rw [ofFr_hit f _ _ d, if_pos d]
        · rw [ofFr_miss f _ _ d, if_neg d, List.append_nil]
    rw [e]
    show (pgs F 0 n ++ (if F (0 + n) = 0 then [] else [(0 + n, F (0 + n))])).length = (pgs (wipeF F f) 0 n ++ (if wipeF F f (0 + n) = 0 then [] else [(0 + n, wipeF F f (0 + n))])).length + _
    rw [List.length_append, List.length_append, List.length_append, ih]
    have hwf : wipeF F f (0 + n) = if F (0 + n) = f then 0 else F (0 + n) := rfl
    rw [hwf]
    generalize F (0 + n) = x
    by_cases d : x = f
    · rw [if_pos d, if_pos rfl, if_pos d, if_neg (by rw [d]; exact hf)]; simp; omega
    · rw [if_neg d, if_neg d]
      by_cases c : x = 0
      · rw [if_pos c]; simp
      · rw [if_neg c]; simp; omega

theorem del_one : ∀ {es : List (Int × Value)} {q : Int × Value}, (es.map (·.1)).Nodup → q ∈ es → (del es q.1).length + 1 = es.length
  | [], _, _, h => by simp at h
  | x :: es, q, hn, h => by
    rw [List.map_cons, List.nodup_cons] at hn
    rcases List.mem_cons.1 h with rfl | h
    · have : del es q.1 = es := del_none (look_none.2 fun y hy e => hn.1 (List.mem_map.2 ⟨y, hy, e⟩))
      unfold del at this ⊢
      rw [List.filter_cons, if_neg (by simp), this]; rfl
    · have ih := del_one hn.2 h
      have hx : x.1 ≠ q.1 := fun e => hn.1 (List.mem_map.2 ⟨q, h, e.symm⟩)
      unfold del at ih ⊢
      rw [List.filter_cons, if_pos (by simpa using hx)]
      simp at ih ⊢; omega

/-- While one ranges: what is left of the map, what is left to come, how many are gone. -/
structure Wiping (es cur left : List (Int × Value)) (F : Nat → Int) (f : Int) (c : Nat) : Prop where
  a : ∀ q ∈ cur, q ∈ es ∧ (q ∈ left ∨ F q.1.toNat ≠ f)
  b : ∀ q ∈ es, F q.1.toNat ≠ f → q ∈ cur
  rest : ∀ q ∈ left, q ∈ cur
  nd : (left.map (·.1)).Nodup
  len : c + cur.length = es.length
theorem Wiping.start {es : List (Int × Value)} (hn : (es.map (·.1)).Nodup) (F : Nat → Int) (f : Int) : Wiping es es es F f 0 :=
  ⟨fun q hq => ⟨hq, .inl hq⟩, fun q hq _ => hq, fun q hq => hq, hn, by omega⟩
theorem mid_sub {l1 l2 : List (Int × Value)} {q x : Int × Value} (h : x ∈ l1 ++ l2) : x ∈ l1 ++ q :: l2 := by
  rw [List.mem_append] at h ⊢
  rcases h with h | h
  · exact .inl h
  · exact .inr (List.mem_cons_of_mem _ h)
theorem mid_or {l1 l2 : List (Int × Value)} {q x : Int × Value} (h : x ∈ l1 ++ q :: l2) : x = q ∨ x ∈ l1 ++ l2 := by
  rw [List.mem_append] at h ⊢
  rcases h with h | h
  · exact .inr (.inl h)
  · rcases List.mem_cons.1 h with h | h
    · exact .inl h
    · exact .inr (.inr h)
theorem mid_nd {l1 l2 : List (Int × Value)} {q : Int × Value} (h : ((l1 ++ q :: l2).map (·.1)).Nodup) : ((l1 ++ l2).map (·.1)).Nodup ∧ ∀ x ∈ l1 ++ l2, x.1 ≠ q.1 := by
  have hp : ((l1 ++ q :: l2).map (·.1)).Perm ((q :: (l1 ++ l2)).map (·.1)) := (List.perm_middle).map _
  have h' := hp.nodup_iff.1 h
  rw [List.map_cons, List.nodup_cons] at h'
  exact ⟨h'.2, fun x hx e => h'.1 (List.mem_map.2 ⟨x, hx, e⟩)⟩
section
variable {es cur l1 l2 : List (Int × Value)} {q : Int × Value} {F F' : Nat → Int} {Y : Nat → Bool} {f : Int} {c : Nat}
theorem Wiping.keep (h : Wiping es cur (l1 ++ q :: l2) F f c) (hq : F q.1.toNat ≠ f) : Wiping es cur (l1 ++ l2) F f c := by
  obtain ⟨hn1, hn2⟩ := mid_nd h.nd
  refine ⟨fun x hx => ?_, h.b, fun x hx => h.rest x (mid_sub hx), hn1, h.len⟩
  obtain ⟨h1, h2⟩ := h.a x hx
  refine ⟨h1, ?_⟩
  rcases h2 with h2 | h2
  · rcases mid_or h2 with rfl | h3
    · exact .inr hq
    · exact .inl h3
  · exact .inr h2
theorem Wiping.drop (h : Wiping es cur (l1 ++ q :: l2) F f c) (hq : F q.1.toNat = f) (hc : (cur.map (·.1)).Nodup) : Wiping es (del cur q.1) (l1 ++ l2) F f (c + 1) := by
  obtain ⟨hn1, hn2⟩ := mid_nd h.nd
  refine ⟨fun x hx => ?_, fun x hx hF => ?_, fun x hx => mem_del.2 ⟨h.rest x (mid_sub hx), hn2 x hx⟩, hn1, ?_⟩
  · obtain ⟨h0, h0'⟩ := mem_del.1 hx
    obtain ⟨h1, h2⟩ := h.a x h0
    refine ⟨h1, ?_⟩
    rcases h2 with h2 | h2
    · rcases mid_or h2 with rfl | h3
      · exact absurd rfl h0'
      · exact .inl h3
    · exact .inr h2
  · refine mem_del.2 ⟨h.b x hx hF, fun e => hF (by rw [e]; exact hq)⟩
  · have := del_one hc (h.rest q (by simp)); have := h.len; omega
theorem Wiping.done (h : Wiping es cur [] F f c) (hA : AlikeW es F Y) (hes : (es.map (·.1)).Nodup) (hc : (cur.map (·.1)).Nodup) (hf : f ≠ 0) (hF : ∀ p, p < 4096 → F' p = wipeF F f p) :
    AlikeW cur F' Y ∧ c = (ofFr f (pgs F 0 4096)).length := by
  have hw : ∀ p : Nat, wipeF F f p ≠ 0 → F p ≠ 0 ∧ F p ≠ f ∧ wipeF F f p = F p := fun p hp => by
    unfold wipeF at hp ⊢
    by_cases d : F p = f
    · rw [if_pos d] at hp; exact absurd rfl hp
    · rw [if_neg d] at hp ⊢; exact ⟨hp, d, rfl⟩
  have hin : ∀ p : Nat, p < 4096 → wipeF F f p ≠ 0 → ((p : Int), wayV (F p) (Y p)) ∈ cur := fun p hp hp0 => by
    obtain ⟨h1, h2, _⟩ := hw p hp0
    exact h.b _ (look_some (by rw [hA.1 p hp, if_neg h1])) (by simpa using h2)
  have hof : ∀ q ∈ cur, ∃ p : Nat, p < 4096 ∧ q = ((p : Int), wayV (F p) (Y p)) ∧ wipeF F f p ≠ 0 := fun q hq => by
    obtain ⟨h1, h2⟩ := h.a q hq
    obtain ⟨p, hp, rfl, hp0⟩ := hA.2 q h1
    refine ⟨p, hp, rfl, ?_⟩
    have : F p ≠ f := by rcases h2 with h2 | h2
                         · simp at h2
                         · simpa using h2
    unfold wipeF; rw [if_neg this]; exact hp0
  refine ⟨⟨fun p hp => ?_, fun q hq => ?_⟩, ?_⟩
  · rw [hF p hp]
    by_cases d : wipeF F f p = 0
    · rw [if_pos d]
      refine look_none.2 fun q hq e => ?_
      obtain ⟨p', hp', rfl, hp0⟩ := hof q hq
      have : p' = p := by have : (p' : Int) = p := e
                          omega
      subst this; exact hp0 d
    · rw [if_neg d, (hw p d).2.2]
      cases hl : look cur p with
      | none => exact absurd rfl (look_none.1 hl _ (hin p hp d))
      | some v =>
        obtain ⟨p', hp', he, _⟩ := hof _ (look_some hl)
        have e1 : (p : Int) = p' := congrArg Prod.fst he
        have e2 : v = wayV (F p') (Y p') := congrArg Prod.snd he
        have : p' = p := by omega
        subst this; rw [e2]
  · obtain ⟨p, hp, rfl, hp0⟩ := hof q hq
    refine ⟨p, hp, ?_, by rw [hF p hp]; exact hp0⟩
    rw [hF p hp, (hw p hp0).2.2]
  · have h1 := count_like (F := F) hes (fun q hq => by obtain ⟨p, h1, rfl, h2⟩ := hA.2 q hq; exact ⟨p, h1, rfl, h2⟩) (fun p hp hF => ⟨((p : Int), wayV (F p) (Y p)), look_some (by rw [hA.1 p hp, if_neg hF]), rfl⟩)
    have h2 := count_like (F := wipeF F f) hc (fun q hq => by obtain ⟨p, h1, rfl, h2⟩ := hof q hq; exact ⟨p, h1, rfl, h2⟩) (fun p hp hF => ⟨_, hin p hp hF, rfl⟩)
    have h3 := ofFr_count F f hf 4096
    have h4 := h.len
    omega
end
theorem RunW.wiped {w w' : World} {base pb db ob mb kb : Nat} {R : Int} {N F F' : Nat → Int} {Y : Nat → Bool} {es ks cur : List (Int × Value)} {P P' : Pool} {j : Nat} (h : RunW w base pb db ob mb kb R N F Y es ks P j)
    (hpool : PoolAt w' pb db ob P') (hT : Tab P' R 9 N F' Y) (hm : MapAt w' mb cur) (hk : MapAt w' kb ks) (hA : AlikeW cur F' Y) (hmv : SegMv P P' 9) (hl : P'.left = P.left) (hO : P'.O = P.O) : RunW w' base pb db ob mb kb R N F' Y cur ks P' (j + 1) :=
  ⟨hpool, hT, hm, hk, hA, h.keys, h.ways, by rw [hmv.n, h.n], by rw [hmv.n, hO]; exact h.cnt, by rw [hl]; exact h.left, by have := h.most; omega, h.ne, h.base⟩
end Go.Proofs.Ytndnjimiabpkpaa
