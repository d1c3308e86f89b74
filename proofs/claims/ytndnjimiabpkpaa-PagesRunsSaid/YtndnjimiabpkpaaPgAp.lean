/- Two tables of one pool, each beside a map: plainly, and in memory: the invariant of glacislaw07.PagesApart. -/
import Derived.Test.YtndnjimiabpkpaaPgE
import Derived.Test.YtndnjimiabpkpaaPgS
import Derived.Test.YtndnjimiabpkpaaMapR
namespace Go.Proofs.Ytndnjimiabpkpaa
open Go.RowKit
attribute [local irreducible] World.setCell World.alloc World.drew World.setRow Calls Code.wp row

theorem cntN_iff (N M : Nat → Int) (k : Nat) (h : ∀ j, j < k → (N j = 0 ↔ M j = 0)) : cntN N k = cntN M k := by
  induction k with
  | zero => rfl
  | succ k ih =>
    unfold cntN
    rw [ih (fun j hj => h j (by omega))]
    by_cases c : N k = 0
    · rw [if_pos c, if_pos ((h k (by omega)).1 c)]
    · rw [if_neg c, if_neg (fun q => c ((h k (by omega)).2 q))]
theorem cntN_add (N : Nat → Int) (c k : Nat) (hc : c < k) (v : Int) (hv : v ≠ 0) : cntN (updI N c v) k = cntN N k + (if N c = 0 then 1 else 0) := by
  induction k with
  | zero => omega
  | succ k ih =>
    unfold cntN
    by_cases e : c = k
    · subst e
      rw [cntN_congr (updI N c v) N c (fun j hj => updI_other _ _ _ _ (by omega)), updI_same, if_neg hv]
      by_cases c0 : N c = 0
      · simp [c0]
      · simp [c0]
    · rw [ih (by omega), updI_other _ _ _ _ (show k ≠ c by omega)]; omega
section
variable {P : Pool} {r o : Int} {N N' F : Nat → Int} {Y : Nat → Bool}
/-- As many tables more as page p lacked. -/
theorem Tab.more (h : Tab P r o N F Y) (p : Nat) (hp : p < 4096) (hn : ∀ n, N' n ≠ 0 ↔ N n ≠ 0 ∨ n = nd p 1 ∨ n = nd p 2 ∨ n = nd p 3) : cntN N' 585 = cntN N 585 + needT N p := by
  have l1 := nd_lt p 1 hp; have l2 := nd_lt p 2 hp; have l3 := nd_lt p 3 hp
  have n12 : nd p 1 ≠ nd p 2 := by simp only [nd]; omega
  have n13 : nd p 1 ≠ nd p 3 := by simp only [nd]; omega
  have n23 : nd p 2 ≠ nd p 3 := by simp only [nd]; omega
  rw [cntN_iff N' (updI (updI (updI N (nd p 1) 1) (nd p 2) 1) (nd p 3) 1) 585 (fun j hj => ?_),
    cntN_add _ _ _ l3 1 (by omega), cntN_add _ _ _ l2 1 (by omega), cntN_add _ _ _ l1 1 (by omega), updI_other _ _ _ _ n23.symm, updI_other _ _ _ _ n13.symm, updI_other _ _ _ _ n12.symm]
  · have g1 := h.gap hp 1 2 (by omega) (by omega); have g2 := h.gap hp 2 3 (by omega) (by omega)
    unfold needT
    by_cases c1 : N (nd p 1) = 0
    · have c2 := g1 c1; have c3 := g2 c2
      simp [c1, c2, c3]
    · by_cases c2 : N (nd p 2) = 0
      · have c3 := g2 c2
        simp [c1, c2, c3]
      · by_cases c3 : N (nd p 3) = 0
        · simp [c1, c2, c3]
        · simp [c1, c2, c3]
  · have hj' := hn j
    by_cases e3 : j = nd p 3
    · subst e3; rw [updI_same]
      have : N' (nd p 3) ≠ 0 := hj'.2 (.inr (.inr (.inr rfl)))
      simp [this]
    · rw [updI_other _ _ _ _ e3]
      by_cases e2 : j = nd p 2
      · subst e2; rw [updI_same]
        have : N' (nd p 2) ≠ 0 := hj'.2 (.inr (.inr (.inl rfl)))
        simp [this]
      · rw [updI_other _ _ _ _ e2]
        by_cases e1 : j = nd p 1
        · subst e1; rw [updI_same]
          have : N' (nd p 1) ≠ 0 := hj'.2 (.inr (.inl rfl))
          simp [this]
        · rw [updI_other _ _ _ _ e1]
          constructor
          · intro q
            by_cases c : N j = 0
            · exact c
            · exact absurd q (hj'.2 (.inl c))
          · intro q
            by_cases c : N' j = 0
            · exact c
            · rcases hj'.1 c with c' | c' | c' | c'
              · exact absurd q c'
              · exact absurd c' e1
              · exact absurd c' e2
              · exact absurd c' e3
theorem needT_le (N : Nat → Int) (p : Nat) : needT N p ≤ 3 := by unfold needT; (repeat' split) <;> omega
theorem cntN_two (N : Nat → Int) (a b k : Nat) (hab : a < b) (hb : b < k) (ha : N a ≠ 0) (hb' : N b ≠ 0) : 2 ≤ cntN N k := by
  have h1 := cntN_cut N b k hb hb'
  have h2 := cntN_cut (updI N b 0) a k (by omega) (by rw [updI_other _ _ _ _ (by omega)]; exact ha)
  omega
end

/-- A map and a table tell the same. -/
def Alike (es : List (Int × Value)) (F : Nat → Int) : Prop :=
  (∀ p : Nat, p < 4096 → look es p = if F p = 0 then none else some (.int .i64 (F p))) ∧ ∀ q ∈ es, ∃ p : Nat, p < 4096 ∧ q = ((p : Int), .int .i64 (F p)) ∧ F p ≠ 0
theorem Alike.nil : Alike [] noF := ⟨fun p _ => by simp [look_nil, noF], fun q hq => by simp at hq⟩
theorem mem_put {es : List (Int × Value)} {k : Int} {v : Value} {q : Int × Value} (h : q ∈ put es k v) : q = (k, v) ∨ (q ∈ es ∧ q.1 ≠ k) := by
  unfold put at h
  split at h
  · obtain ⟨x, hx, e⟩ := List.mem_map.1 h
    by_cases c : x.1 = k
    · rw [if_pos c] at e; exact .inl e.symm
    · rw [if_neg c] at e; subst e; exact .inr ⟨hx, c⟩
  · rename_i hn
    rcases List.mem_append.1 h with h | h
    · have : look es k = none := by
        cases hl : look es k
        · rfl
        · rw [hl] at hn; simp at hn
      exact .inr ⟨h, look_none.1 this q h⟩
    · simp at h; exact .inl h
theorem Alike.put {es : List (Int × Value)} {F : Nat → Int} (h : Alike es F) (p : Nat) (hp : p < 4096) (f : Int) (hf : f ≠ 0) : Alike (put es p (.int .i64 f)) (updI F p f) := by
  refine ⟨fun q hq => ?_, fun q hq => ?_⟩
  · rw [look_put]
    by_cases e : q = p
    · subst e; rw [if_pos rfl, updI_same, if_neg hf]
    · rw [if_neg (by omega), updI_other _ _ _ _ e]; exact h.1 q hq
  · rcases mem_put hq with rfl | ⟨h1, h2⟩
    · exact ⟨p, hp, by rw [updI_same], by rw [updI_same]; exact hf⟩
    · obtain ⟨p', h3, h4, h5⟩ := h.2 q h1
      have hne : p' ≠ p := by rintro rfl; rw [h4] at h2; exact h2 rfl
      exact ⟨p', h3, by rw [updI_other _ _ _ _ hne]; exact h4, by rw [updI_other _ _ _ _ hne]; exact h5⟩
theorem put_ne_nil (es : List (Int × Value)) (k : Int) (v : Value) : put es k v ≠ [] := by
  intro h
  have := length_put es k v
  rw [h] at this
  cases es with
  | nil => simp [look_nil] at this
  | cons a l =>
    simp at this
    split at this <;> omega

def upd' {α : Type} (f : Nat → α) (i : Nat) (a : α) : Nat → α := fun j => if j = i then a else f j
theorem upd'_same {α : Type} (f : Nat → α) (i : Nat) (a : α) : upd' f i a i = a := if_pos rfl
theorem upd'_ne {α : Type} (f : Nat → α) (i j : Nat) (a : α) (h : j ≠ i) : upd' f i a j = f j := if_neg h

/-- Two tables of one pool, of the owners 1 and 2, each beside a map. -/
structure Apart (w : World) (base pb db ob mb : Nat) (R : Nat → Int) (r : Nat → Nat) (N F : Nat → Nat → Int) (Y : Nat → Nat → Bool) (es : Nat → List (Int × Value)) (P : Pool) (j : Nat) : Prop where
  pool : PoolAt w pb db ob P
  tab : ∀ k : Nat, k < 2 → Tab P (R k) ((k : Int) + 1) (N k) (F k) (Y k)
  map : ∀ k, k < 2 → MapAt w (r k) (es k)
  like : ∀ k, k < 2 → Alike (es k) (F k)
  cnt : ∀ k : Nat, k < 2 → countTo P.O ((k : Int) + 1) P.n = cntN (N k) 585
  one : ∀ k, k < 2 → (es k = [] ↔ cntN (N k) 585 = 1)
  left : 398 ≤ P.left + 3 * j
  hmb : Blk w mb #[.map (some (r 0)), .map (some (r 1))] 80
  rr : r 0 ≠ r 1
  rm : ∀ k, k < 2 → r k ≠ mb
  ps : pb < mb ∧ db < mb ∧ ob < mb ∧ pb < r 0 ∧ db < r 0 ∧ ob < r 0 ∧ pb < r 1 ∧ db < r 1 ∧ ob < r 1
  bs : base ≤ pb ∧ base ≤ db ∧ base ≤ ob
section
variable {w w' : World} {base pb db ob mb : Nat} {R : Nat → Int} {r : Nat → Nat} {N F : Nat → Nat → Int} {Y : Nat → Nat → Bool} {es : Nat → List (Int × Value)} {P : Pool} {j : Nat}
theorem Apart.nps (h : Apart w base pb db ob mb R r N F Y es P j) {k : Nat} (hk : k < 2) : ¬ PS pb db ob (r k) := by
  have := h.ps
  obtain rfl | rfl : k = 0 ∨ k = 1 := by omega
  · rintro (e | e | e) <;> omega
  · rintro (e | e | e) <;> omega
theorem Apart.nmb (h : Apart w base pb db ob mb R r N F Y es P j) : ¬ PS pb db ob mb := by
  have := h.ps; rintro (e | e | e) <;> omega
theorem Apart.below (h : Apart w base pb db ob mb R r N F Y es P j) (k : Below w.heap.size w w') : Apart w' base pb db ob mb R r N F Y es P j :=
  ⟨h.pool.below k, h.tab, fun i hi => (h.map i hi).below k (h.map i hi).lt, h.like, h.cnt, h.one, h.left, h.hmb.below k h.hmb.lt, h.rr, h.rm, h.ps, h.bs⟩
theorem Apart.kept1 (h : Apart w base pb db ob mb R r N F Y es P j) {b : Nat} (k : Kept (· = b) w w') (hb : w.heap.size ≤ b) : Apart w' base pb db ob mb R r N F Y es P j :=
  h.below (k.below (Nat.le_refl _) (fun i hi e => by omega))
theorem Apart.keptS {S : Nat → Prop} (h : Apart w base pb db ob mb R r N F Y es P j) (k : Kept S w w') (h1 : ¬ S pb) (h2 : ¬ S db) (h3 : ¬ S ob) (h4 : ¬ S mb) (h5 : ∀ i, i < 2 → ¬ S (r i)) : Apart w' base pb db ob mb R r N F Y es P j :=
  ⟨h.pool.kept k h1 h2 h3, h.tab, fun i hi => (h.map i hi).kept k (h5 i hi), h.like, h.cnt, h.one, h.left, k.blk h.hmb h4, h.rr, h.rm, h.ps, h.bs⟩
/-- A page is filled in table k, and told in map k. -/
theorem Apart.fill (h : Apart w base pb db ob mb R r N F Y es P j) {k : Nat} (hk : k < 2) {p : Nat} (hp : p < 4096) {f : Int} (hf : f ≠ 0) {b : Bool} {P' : Pool} {N' : Nat → Int} {w2 : World} (hF : Filled w w' pb db ob P (R k) ((k : Int) + 1) (N k) (F k) (Y k) p f b P' N')
    (hm : MapAt w2 (r k) (Go.Proofs.Ytndnjimiabpkpaa.put (es k) p (.int .i64 f))) (hK : Kept (· = r k) w' w2) :
    Apart w2 base pb db ob mb R r (upd' N k N') (upd' F k (updI (F k) p f)) (upd' Y k (updB (Y k) p b)) (upd' es k (Go.Proofs.Ytndnjimiabpkpaa.put (es k) p (.int .i64 f))) P' (j + 1) := by
  have hps := h.ps
  have nk : ∀ b, b < r 0 → b < r 1 → ¬ b = r k := fun b h0 h1 => by
    obtain rfl | rfl : k = 0 ∨ k = 1 := by omega
    · omega
    · omega
  have hmore := (h.tab k hk).more p hp hF.new
  refine ⟨hF.pool.kept hK (nk _ (by omega) (by omega)) (nk _ (by omega) (by omega)) (nk _ (by omega) (by omega)), fun i hi => ?_, fun i hi => ?_, fun i hi => ?_, fun i hi => ?_, fun i hi => ?_, ?_, ?_, h.rr, h.rm, h.ps, h.bs⟩
  · by_cases e : i = k
    · subst e; rw [upd'_same, upd'_same, upd'_same]; exact hF.tab
    · rw [upd'_ne _ _ _ _ e, upd'_ne _ _ _ _ e, upd'_ne _ _ _ _ e]; exact (h.tab i hi).mv hF.mv (by omega)
  · by_cases e : i = k
    · subst e; rw [upd'_same]; exact hm
    · rw [upd'_ne _ _ _ _ e]
      refine ((h.map i hi).kept hF.kept (h.nps hi)).kept hK (fun q => ?_)
      have := h.rr
      obtain rfl | rfl : k = 0 ∨ k = 1 := by omega
      · obtain rfl : i = 1 := by omega
        exact this q.symm
      · obtain rfl : i = 0 := by omega
        exact this q
  · by_cases e : i = k
    · subst e; rw [upd'_same, upd'_same]; exact (h.like i hi).put p hp f hf
    · rw [upd'_ne _ _ _ _ e, upd'_ne _ _ _ _ e]; exact h.like i hi
  · by_cases e : i = k
    · subst e
      rw [upd'_same, hmore, ← h.cnt i hi, ← hF.cnt, hF.mv.n]
    · rw [upd'_ne _ _ _ _ e, ← h.cnt i hi, hF.mv.n]
      exact hF.mv.cnt _ (by omega) (by omega)
  · by_cases e : i = k
    · subst e
      rw [upd'_same, upd'_same]
      have h1 := put_ne_nil (es i) p (.int .i64 f)
      have h2 : 2 ≤ cntN N' 585 := cntN_two N' 0 (nd p 1) 585 (nd_pos p 0) (nd_lt p 1 hp) ((hF.new 0).2 (.inl (by rw [(h.tab i hi).root]; exact (h.tab i hi).r0))) ((hF.new _).2 (.inr (.inl rfl)))
      exact ⟨fun q => absurd q h1, fun q => by omega⟩
    · rw [upd'_ne _ _ _ _ e, upd'_ne _ _ _ _ e]; exact h.one i hi
  · have := h.left; have := hF.left; have := needT_le (N k) p; omega
  · exact hK.blk (hF.kept.blk h.hmb h.nmb) (fun e => h.rm k hk e.symm)
end
end Go.Proofs.Ytndnjimiabpkpaa
