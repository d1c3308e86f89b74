/- whole: a map of ways tells just what the table tells. -/
import Derived.Test.YtndnjimiabpkpaaPgWipe
import Derived.Test.YtndnjimiabpkpaaPgTabs
namespace Go.Proofs.Ytndnjimiabpkpaa
open Go.RowKit Go.Shelf
attribute [local irreducible] World.setCell World.alloc World.drew World.setRow Calls Code.wp row
attribute [local go_sem] Oper.semAt_some

def wayV (f : Int) (y : Bool) : Value := .agg #[.int .i64 f, .bool y]
/-- A map of ways and a table tell the same. -/
def AlikeW (es : List (Int × Value)) (F : Nat → Int) (Y : Nat → Bool) : Prop :=
  (∀ p : Nat, p < 4096 → look es p = if F p = 0 then none else some (wayV (F p) (Y p))) ∧ ∀ q ∈ es, ∃ p : Nat, p < 4096 ∧ q = ((p : Int), wayV (F p) (Y p)) ∧ F p ≠ 0
theorem AlikeW.nil (Y : Nat → Bool) : AlikeW [] noF Y := ⟨fun p _ => by simp [look_nil, noF], fun q hq => by simp at hq⟩
theorem AlikeW.put {es : List (Int × Value)} {F : Nat → Int} {Y : Nat → Bool} (h : AlikeW es F Y) (p : Nat) (hp : p < 4096) (f : Int) (hf : f ≠ 0) (y : Bool) : AlikeW (put es p (wayV f y)) (updI F p f) (updB Y p y) := by
  refine ⟨fun q hq => ?_, fun q hq => ?_⟩
  · rw [look_put]
    by_cases e : q = p
    · subst e; rw [if_pos rfl, updI_same, if_neg hf]; unfold updB; rw [if_pos rfl]
    · rw [if_neg (by omega), updI_other _ _ _ _ e]; unfold updB; rw [if_neg e]; exact h.1 q hq
  · rcases mem_put hq with rfl | ⟨h1, h2⟩
    · exact ⟨p, hp, by rw [updI_same]; unfold updB; rw [if_pos rfl], by rw [updI_same]; exact hf⟩
    · obtain ⟨p', h3, h4, h5⟩ := h.2 q h1
      have hne : p' ≠ p := by rintro rfl; rw [h4] at h2; exact h2 rfl
      exact ⟨p', h3, by rw [updI_other _ _ _ _ hne]; unfold updB; rw [if_neg hne]; exact h4, by rw [updI_other _ _ _ _ hne]; exact h5⟩
/-- What is found of a page, 0 and no if nothing. -/
theorem AlikeW.get {es : List (Int × Value)} {F : Nat → Int} {Y : Nat → Bool} (h : AlikeW es F Y) (p : Nat) : ∃ f y, (look es p).getD (wayV 0 false) = wayV f y ∧ (p < 4096 → f = F p) := by
  by_cases hp : p < 4096
  · rw [h.1 p hp]
    by_cases c : F p = 0
    · exact ⟨0, false, by rw [if_pos c]; rfl, fun _ => c.symm⟩
    · exact ⟨_, _, by rw [if_neg c]; rfl, fun _ => rfl⟩
  · have : look es p = none := look_none.2 fun q hq e => by
      obtain ⟨p', h1, rfl, h2⟩ := h.2 q hq
      have : (p' : Int) = p := e
      omega
    rw [this]
    exact ⟨0, false, rfl, fun e => absurd e hp⟩

def lastOf (y : List (Nat × Int)) : Int := ((y.getLast?).map fun q => (q.1 : Int)).getD (-1)
theorem lastOf_push (y : List (Nat × Int)) (z : Nat × Int) : lastOf (y ++ [z]) = z.1 := by simp [lastOf]
theorem pgs_sorted (F : Nat → Int) (a : Nat) : ∀ n : Nat, ((pgs F a n).Pairwise fun x y => x.1 < y.1) ∧ ∀ q ∈ pgs F a n, q.1 < a + n
  | 0 => by simp [pgs]
  | n + 1 => by
    obtain ⟨h1, h2⟩ := pgs_sorted F a n
    unfold pgs
    refine ⟨List.pairwise_append.2 ⟨h1, ?_, fun x hx y hy => ?_⟩, fun q hq => ?_⟩
    · split <;> simp
    · have := h2 x hx
      by_cases c : F (a + n) = 0
      · rw [if_pos c] at hy; simp at hy
      · rw [if_neg c] at hy; simp at hy; subst hy; exact this
    · rcases List.mem_append.1 hq with hq | hq
      · have := h2 q hq; omega
      · by_cases c : F (a + n) = 0
        · rw [if_pos c] at hq; simp at hq
        · rw [if_neg c] at hq; simp at hq; subst hq; show a + n < _; omega
theorem lastOf_lt (F : Nat → Int) (n : Nat) (y : List (Nat × Int)) (z : Nat × Int) (h : y ++ [z] <+: pgs F 0 n) : lastOf y < z.1 := by
  have hs := (pgs_sorted F 0 n).1.sublist h.sublist
  rw [List.pairwise_append] at hs
  unfold lastOf
  rcases hy : y.getLast? with _ | x
  · simp; omega
  · simp
    have := hs.2.2 x (List.mem_of_getLast? hy) z (by simp)
    omega
/-- A page that should not come. -/
def BadW (es : List (Int × Value)) (pre : List (Nat × Int)) : Prop := ∃ y z, pre = y ++ [z] ∧ ((z.1 : Int) ≤ lastOf y ∨ ∃ f b, (look es z.1).getD (wayV 0 false) = wayV f b ∧ f ≠ z.2)
theorem BadW.none {es : List (Int × Value)} {F : Nat → Int} {Y : Nat → Bool} (h : AlikeW es F Y) (n : Nat) (hn : n ≤ 4096) (pre : List (Nat × Int)) (hp : pre <+: pgs F 0 n) : ¬ BadW es pre := by
  rintro ⟨y, z, rfl, hb⟩
  have h1 := lastOf_lt F n y z hp
  obtain ⟨j, hj, rfl, hF⟩ := (pgs_mem F 0 n z).1 (hp.subset (by simp))
  rcases hb with hb | ⟨f, b, hf, hne⟩
  · omega
  · obtain ⟨f', b', e1, e2⟩ := h.get (0 + j)
    have : wayV f b = wayV f' b' := hf.symm.trans e1
    unfold wayV at this
    simp at this
    exact hne (this.1.trans (e2 (by omega)))

set_option maxRecDepth 100000 in
set_option maxHeartbeats 4000000 in
theorem whole_any (pb db ob mb : Nat) (P : Pool) (r o : Int) (N F : Nat → Int) (Y : Nat → Bool) (es : List (Int × Value)) (w : World) (hP : PoolAt w pb db ob P) (hT : Tab P r o N F Y) (hM : MapAt w mb es) (hA : AlikeW es F Y) :
    Calls Try.prog 47 #[.pointer (some ⟨pb, 0, none⟩), .int .i64 r, .map (some mb)] w fun e w' => e = .returned (.bool true) ∧ Below w.heap.size w w' := by
  have HP := Lib.hid hP; have HT := Lib.hid hT; have HM := Lib.hid hM; have HA := Lib.hid hA
  clear hP hT hM hA
  refine calls_of_wp_marks Try.func47 rfl ?_
  simp only [Try.ntmps47, List.size_toArray, List.length_cons, List.length_nil, Nat.reduceAdd, Nat.reduceSub, Array.replicate_succ, Array.replicate_zero, List.push_toArray, List.append_toArray, List.nil_append, List.cons_append]
  have Hel := Lib.hid (fun w => each_made pb r w)
  go_wp2_with fail
  refine (Hel.out _).mono ?_
  rintro e w6 ⟨rfl, rfl⟩
  go_wp2_with fail
  obtain ⟨h0, hh0⟩ : ∃ h0, h0 = w.heap.size := ⟨_, rfl⟩
  obtain ⟨w8, hw8⟩ : ∃ w8 : World, w8 = (((((w.alloc (.cells #[.map (some mb)] 84)).alloc (.cells #[.bool false] 4)).alloc (.cells #[.int .i64 (-1)] 3)).alloc (.cells #[.int .i64 0] 3)).alloc (.cells #[.pointer (some ⟨pb, 0, none⟩)] 24)).alloc (.cells #[.int .i64 r] 3) := ⟨_, rfl⟩
  have hz8 : w8.heap.size = h0 + 6 := by rw [hw8, hh0]; simp
  have hlow : pb < h0 ∧ db < h0 ∧ ob < h0 ∧ mb < h0 := by rw [hh0]; exact ⟨HP.out.hp.lt, HP.out.hd.lt, HP.out.ho.lt, HM.out.lt⟩
  have HP8 : Hid (PoolAt w8 pb db ob P) := by rw [hw8]; exact (((((HP.out.alloc _).alloc _).alloc _).alloc _).alloc _).alloc _
  have HM8 : Hid (MapAt w8 mb es) := by rw [hw8]; exact (((((HM.out.alloc _).alloc _).alloc _).alloc _).alloc _).alloc _
  have HX5 : Hid (Blk w8 h0 #[.map (some mb)] 84) := by rw [hw8, hh0]; exact (((((Blk.new w _ _).alloc _).alloc _).alloc _).alloc _).alloc _
  have HX6 : Hid (Blk w8 (h0 + 1) #[.bool false] 4) := by rw [hw8, hh0]; exact ((((blk_new_at _ _ _ _ (by simp)).alloc _).alloc _).alloc _).alloc _
  have HX7 : Hid (Blk w8 (h0 + 1 + 1) #[.int .i64 (-1)] 3) := by rw [hw8, hh0]; exact (((blk_new_at _ _ _ _ (by simp)).alloc _).alloc _).alloc _
  have HX8 : Hid (Blk w8 (h0 + 1 + 1 + 1) #[.int .i64 0] 3) := by rw [hw8, hh0]; exact ((blk_new_at _ _ _ _ (by simp)).alloc _).alloc _
  have HB1 : Hid (Blk w8 (h0 + 1 + 1 + 1 + 1) #[.pointer (some ⟨pb, 0, none⟩)] 24) := by rw [hw8, hh0]; exact (blk_new_at _ _ _ _ (by simp)).alloc _
  have HB2 : Hid (Blk w8 (h0 + 1 + 1 + 1 + 1 + 1) #[.int .i64 r] 3) := by rw [hw8, hh0]; exact blk_new_at _ _ _ _ (by simp)
  have Hb8 : Hid (Below w.heap.size w w8) := by rw [hw8]; exact ((((((Below.refl _ w).alloc (Nat.le_refl _) _).alloc (by simp) _).alloc (by simp; omega) _).alloc (by simp; omega) _).alloc (by simp; omega) _).alloc (by simp; omega) _
  rw [← hw8]
  try simp only [World.size_alloc]
  rw [← hh0] at Hb8 ⊢
  have Hh0 := Lib.hid hh0
  clear hw8 hh0 HP HM
  have hseq := each_stops pb db ob P r o N F Y HT.out 4 (h0 + 1 + 1 + 1 + 1) (h0 + 1 + 1 + 1 + 1 + 1) (h0 + 1) w8 HP8.out ⟨by omega, by omega, by omega⟩ (by omega) (HB1.out.cell 0) (HB2.out.cell 0) (by omega)
  have hcnt := count_like (F := F) HM8.out.nd (fun q hq => by obtain ⟨p, h1, rfl, h2⟩ := HA.out.2 q hq; exact ⟨p, h1, rfl, h2⟩)
    (fun p hp hF => ⟨((p : Int), wayV (F p) (Y p)), look_some (by rw [HA.out.1 p hp, if_neg hF]), rfl⟩)
  have hbad := fun pre => BadW.none HA.out 4096 (Nat.le_refl _) pre
  have hlen := pgs_len F 0 4096
  obtain ⟨Lp, hLp⟩ : ∃ Lp, pgs F 0 4096 = Lp := ⟨_, rfl⟩
  rw [hLp] at hseq hcnt hlen
  simp only [hLp] at hbad
  have Hcnt := Lib.hid hcnt; have Hbad := Lib.hid hbad
  clear hLp hcnt hbad
  refine (wpIn_wide (n := 5)).1 ?_
  refine' wpIn_rangeFunc_ownF (F := Fence.wide) (n := 5) rfl (by omega) (gf := 60) (lb := #[.pointer (some ⟨h0 + 1 + 1 + 1 + 1, 0, none⟩), .pointer (some ⟨h0 + 1 + 1 + 1 + 1 + 1, 0, none⟩)]) rfl trivial (enters_of Try.func60 (by kernel_rfl) rfl)
    hseq (fun h k => h.trans k) (belowK_b (by omega)) (Below.refl _ _) (fun _ => rfl)
    (fun pre W => ((W.cell? ⟨h0 + 1 + 1, 0, none⟩ = some (.int .i64 (lastOf pre)) ∧ W.frozen? ⟨h0 + 1 + 1, 0, none⟩ = false) ∧ (W.cell? ⟨h0 + 1 + 1 + 1, 0, none⟩ = some (.int .i64 pre.length) ∧ W.frozen? ⟨h0 + 1 + 1 + 1, 0, none⟩ = false) ∧ (W.cell? ⟨h0 + 1, 0, none⟩ = some (.bool false) ∧ W.frozen? ⟨h0 + 1, 0, none⟩ = false)) ∧ Below (h0 + 1) w8 W)
    (fun _ pre _ => BadW es pre)
    (OwnFrom.and (Own.from (fun s A B row hs hg hr => ⟨⟨cell_kept hs.1.1 hg hr, (frozen_kept hs.1.1 hg hr).trans hs.1.2⟩, ⟨cell_kept hs.2.1.1 hg hr, (frozen_kept hs.2.1.1 hg hr).trans hs.2.1.2⟩, ⟨cell_kept hs.2.2.1 hg hr, (frozen_kept hs.2.2.1 hg hr).trans hs.2.2.2⟩⟩) _) (ownFrom_below (by omega) (by omega)))
    (fun _ _ _ _ _ hs _ _ => hs)
    ⟨⟨⟨HX7.out.cell 0, HX7.out.free 0⟩, ⟨HX8.out.cell 0, HX8.out.free 0⟩, ⟨HX6.out.cell 0, HX6.out.free 0⟩⟩, Below.refl _ _⟩ _ ?assign ?body ?done ?stop
  case assign =>
    intro l x W K hK
    gi_wp2
    exact hK
  case body =>
    rintro l pre ⟨pg, fr⟩ W ⟨⟨⟨c7, f7⟩, ⟨c8, f8⟩, ⟨c6, f6⟩⟩, hB⟩ hlt
    have c5 : W.cell? ⟨h0, 0, none⟩ = some (.map (some mb)) := (HX5.out.below hB (by omega)).cell 0
    have hM := HM8.out.below hB (by omega)
    obtain ⟨fv, yv, hlk, hfv⟩ := HA.out.get pg
    have hlo := hM.run_lookup (P := Try.prog) Try.underlying84 Try.underlying3 (z := wayV 0 false) (fun w => by kernel_rfl) (pg : Int)
    rw [hlk] at hlo
    have HB := Lib.hid hB; have Hf7 := Lib.hid f7; have Hf8 := Lib.hid f8; have Hf6 := Lib.hid f6; have Hc6 := Lib.hid c6; have Hlk := Lib.hid hlk
    obtain ⟨la, hla⟩ : ∃ la, lastOf pre = la := ⟨_, rfl⟩
    rw [hla] at c7
    have Hla := Lib.hid hla
    unfold wayV at hlo
    have hfd : ∀ w : World, (Instr.field 89 (.agg #[.int .i64 fv, .bool yv]) 0).run Try.prog w = .ok (.int .i64 fv) w := fun _ => by kernel_rfl
    have hpl : pre.length < 4096 := by omega
    clear hB hM hlk hfv hseq hla
    by_cases hle : (pg : Int) ≤ la
    · have hbb : decide ((pg : Int) ≤ la) = true := by simpa using hle
      gi_wp2
      exact ⟨KeepsOthers.setCell _ _ _, pre, (pg, fr), rfl, .inl (by rw [Hla.out]; exact hle)⟩
    · have hbb : decide ((pg : Int) ≤ la) = false := by simpa using hle
      by_cases hne : fv = fr
      · subst hne
        have hb2 : (fv != fv) = false := by simp
        gi_wp2
        refine ⟨(KeepsOthers.setCell _ _ _).trans (KeepsOthers.setCell _ _ _), ((Below.refl (h0 + 1) W).setCell (p := ⟨h0 + 1 + 1, 0, none⟩) (by simp) _).setCell (p := ⟨h0 + 1 + 1 + 1, 0, none⟩) (show h0 + 1 ≤ h0 + 1 + 1 + 1 by omega) _, ⟨⟨?_, ?_⟩, ⟨?_, ?_⟩, ⟨?_, ?_⟩⟩, (HB.out.setCell (p := ⟨h0 + 1 + 1, 0, none⟩) (by simp) _).setCell (p := ⟨h0 + 1 + 1 + 1, 0, none⟩) (show h0 + 1 ≤ h0 + 1 + 1 + 1 by omega) _⟩
        · rw [lastOf_push, World.cell?_setCell_far _ _ _ _ (by simp <;> omega), World.cell?_setCell_same' _ _ _ (by rw [c7]; rfl)]
        · rw [World.frozen?_setCell, World.frozen?_setCell]; exact Hf7.out
        · rw [World.cell?_setCell_same' _ _ _ (by rw [World.cell?_setCell_far _ _ _ _ (by simp <;> omega), c8]; rfl)]; simp
        · rw [World.frozen?_setCell, World.frozen?_setCell]; exact Hf8.out
        · rw [World.cell?_setCell_far _ _ _ _ (by simp <;> omega), World.cell?_setCell_far _ _ _ _ (by simp <;> omega)]; exact Hc6.out
        · rw [World.frozen?_setCell, World.frozen?_setCell]; exact Hf6.out
      · have hb2 : (fv != fr) = true := by simpa using hne
        gi_wp2
        exact ⟨KeepsOthers.setCell _ _ _, pre, (pg, fr), rfl, .inr ⟨fv, yv, Hlk.out, hne⟩⟩
  case stop =>
    rintro D c pre W hD hS hX _
    exact absurd hX (Hbad.out pre hS)
  case done =>
    rintro D ys W hD hys ⟨⟨⟨c7, f7⟩, ⟨c8, f8⟩, ⟨c6, f6⟩⟩, hB⟩ hK
    rw [hys, ← Hcnt.out] at c8
    have c5 : W.cell? ⟨h0, 0, none⟩ = some (.map (some mb)) := (HX5.out.below hB (by omega)).cell 0
    have hM := HM8.out.below hB (by omega)
    have hln := hM.run_len (P := Try.prog) Try.underlying84
    have HD := Lib.hid hK
    have HB := Lib.hid hB
    have hee : ((es.length : Int) == (es.length : Int)) = true := by simp
    have hDz := (Array.getElem?_eq_some_iff.1 hK).1
    have Hc6 := Lib.hid c6
    clear hys hseq hM hK hB
    go_wp2_with fail
    have HDx : Hid ((W.setCell ⟨h0 + 1, 0, none⟩ (.bool true)).heap[D]? = some (.deferred (some []))) := by
      rw [(Kept.refl (· = h0 + 1) W).setCell (a := ⟨h0 + 1, 0, none⟩) (.inr rfl) (.bool true) |>.block D hDz (by omega)]; exact HD.out
    have hcx : ((W.setCell ⟨h0 + 1, 0, none⟩ (.bool true)).putObj D (.deferred none)).cell? ⟨h0 + 1, 0, none⟩ = some (.bool true) := by
      rw [World.cell?_of_block (w := W.setCell ⟨h0 + 1, 0, none⟩ (.bool true)) ((putObj_kept _ D _).block (h0 + 1) (by have := HB.out.size; simp; omega) (by omega))]
      exact World.cell?_setCell_same' _ _ _ (by rw [Hc6.out]; rfl)
    exact ⟨by simp, .inl ⟨D, _, rfl, run_takeDeferred HDx.out, .bool true, by simp [results, Try.results47, hcx, go_sem], rfl, by
      rw [← Hh0.out]
      have h1 := Hb8.out.trans (HB.out.mono (by omega : h0 ≤ h0 + 1))
      exact (h1.setCell (p := ⟨h0 + 1, 0, none⟩) (by simp) _).trans ((putObj_kept _ D _).below (B := h0) (by have := HB.out.size; simp; omega) (fun k hk e => by omega))⟩⟩
end Go.Proofs.Ytndnjimiabpkpaa
