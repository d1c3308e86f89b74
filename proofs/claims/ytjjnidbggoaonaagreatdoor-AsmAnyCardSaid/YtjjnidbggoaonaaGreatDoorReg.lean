/- A rule for a region that draws its order: an invariant over which operations are done, and one step for each operation. No condition. -/
import Derived.Test.YtjjnidbggoaonaaGreatDoorRows
import Derived.Orders
import Derived.WalkKit
namespace Go.Proofs.YtjjnidbggoaonaaGreatDoor
open Go

/-- Each operation's edges that bind go back. -/
def back (ops : Array Oper) : Bool := (List.range ops.size).all fun i => ((ops[i]?).map fun o => o.after.all fun e => !Region.binds .any e || decide (e.on < i)).getD true

theorem back_spec {ops : Array Oper} (h : back ops = true) {i : Nat} {o : Oper} (ho : ops[i]? = some o) {e : Edge} (he : e ∈ o.after) (hbd : Region.binds .any e = true) : e.on < i := by
  have hi := (Array.getElem?_eq_some_iff.1 ho).1
  have h1 := List.all_eq_true.1 h i (List.mem_range.2 hi)
  rw [ho] at h1
  have h2 := Array.all_eq_true_iff_forall_mem.1 h1 e he
  rw [hbd] at h2
  simpa using h2

theorem ready_nil {ops : Array Oper} (hb : back ops = true) {l : Array Bool} (hl : l.size = ops.size) (hr : Region.ready .any ops l = []) : ∀ i, i < ops.size → l[i]? = some true := by
  intro i
  induction i using Nat.strongRecOn with
  | _ i ih =>
    intro hi
    rcases hb' : l[i]? with _ | b
    · rw [Array.getElem?_eq_none_iff] at hb'; omega
    · cases b
      · have hm : i ∈ Region.ready .any ops l := by
          rw [mem_ready]
          have ho : ops[i]? = some ops[i] := Array.getElem?_eq_getElem hi
          refine ⟨by simp [hb'], _, ho, fun e he hbd => ?_⟩
          have hlt := back_spec hb ho he hbd
          simp [ih _ hlt (by omega)]
        rw [hr] at hm; cases hm
      · rfl

/-- Whatever is done, what it waits for is done. -/
def Closed (ops : Array Oper) (l : Array Bool) : Prop := ∀ (j : Nat) (o : Oper), ops[j]? = some o → l[j]? = some true → ∀ e ∈ o.after, Region.binds .any e = true → l[e.on]? = some true
/-- Operation j waits for operation k. -/
def dep (ops : Array Oper) (j k : Nat) : Bool := ((ops[j]?).map fun o => o.after.toList.any fun e => Region.binds .any e && e.on == k).getD false
theorem dep_spec {ops : Array Oper} {j k : Nat} {o : Oper} (ho : ops[j]? = some o) (h : dep ops j k = true) : ∃ e ∈ o.after, Region.binds .any e = true ∧ e.on = k := by
  unfold dep at h
  rw [ho] at h
  simp only [Option.map_some, Option.getD_some] at h
  obtain ⟨e, he, hb⟩ := List.any_eq_true.1 h
  simp only [Bool.and_eq_true, beq_iff_eq] at hb
  exact ⟨e, Array.mem_toList_iff.1 he, hb⟩
theorem Closed.of {ops : Array Oper} {l : Array Bool} (h : Closed ops l) {j : Nat} (k : Nat) (hd : dep ops j k = true) (hj : l[j]? = some true) : l[k]? = some true := by
  rcases ho : ops[j]? with _ | o
  · unfold dep at hd; rw [ho] at hd; cases hd
  · obtain ⟨e, he, hb, rfl⟩ := dep_spec ho hd
    exact h j o ho hj e he hb

/-- What is done of a region, at any of its orders: the invariant I holds at the start; each operation whose edges are done keeps it; at the end it gives what is wanted. -/
theorem wp_region_inv {P : Program} {ops : Array Oper} {Q : Exit → Act → World → Prop} {id : Nat} {a : Act} {w : World} (hm : P.follows .mixedOrders = true) (hb : back ops = true)
    (I : Array Bool → Act → World → Prop) (h0 : I (Array.replicate ops.size false) a w.drew)
    (hs : ∀ (i : Nat) (l : Array Bool) (a : Act) (w : World), i < ops.size → l.size = ops.size → l[i]? = some false → (∀ k, dep ops i k = true → l[k]? = some true) → Closed ops l → I l a w →
      wpOp P ops Q i (I (l.setIfInBounds i true)) a w)
    (he : ∀ (l : Array Bool) (a : Act) (w : World), (∀ i, i < ops.size → l[i]? = some true) → I l a w → Q .normal a w) : (Code.region id ops true).wp P Q a w := by
  refine wp_region_any hm ?_
  have key : ∀ (fuel : Nat) (l : Array Bool) (a : Act) (w : World), l.size = ops.size → l.count false ≤ fuel → Closed ops l → I l a w → wpAny P .any ops Q fuel l a w := by
    intro fuel
    induction fuel with
    | zero =>
      intro l a w hl hc hcl hI
      have hr : Region.ready .any ops l = [] := by
        cases hr : Region.ready .any ops l with
        | nil => rfl
        | cons i r =>
          have hm : i ∈ Region.ready .any ops l := by rw [hr]; exact List.mem_cons_self
          obtain ⟨h1, o, ho, _⟩ := mem_ready.1 hm
          have hi : i < l.size := by rw [hl]; exact (Array.getElem?_eq_some_iff.1 ho).1
          have hmem : false ∈ l := by
            have : l[i] = false := by simpa [hi] using h1
            exact this ▸ Array.getElem_mem hi
          have := Array.count_pos_iff.2 hmem
          omega
      exact ⟨hr, he l a w (ready_nil hb hl hr) hI⟩
    | succ fuel ih =>
      intro l a w hl hc hcl hI
      refine ⟨fun hr => he l a w (ready_nil hb hl hr) hI, fun i hi => ?_⟩
      obtain ⟨h1, o, ho, h2⟩ := mem_ready.1 hi
      have hil : i < l.size := by rw [hl]; exact (Array.getElem?_eq_some_iff.1 ho).1
      have hli : l[i]? = some false := by
        rw [Array.getElem?_eq_getElem hil]
        have : l[i] = false := by simpa [hil] using h1
        rw [this]
      have hdeps : ∀ e ∈ o.after, Region.binds .any e = true → l[e.on]? = some true := fun e he' hbd => by
        have := h2 e he' hbd
        rcases hq : l[e.on]? with _ | b
        · simp [hq] at this
        · simp [hq] at this; rw [this]
      refine wpOp_mono (fun a' w' hI' => ih _ a' w' (by simpa using hl) ?_ (fun j o' hj hlj e he' hbd => ?_) hI') (hs i l a w (by rw [← hl]; exact hil) hl hli (fun k hk => by obtain ⟨e, he, hb', rfl⟩ := dep_spec ho hk; exact hdeps e he hb') hcl hI)
      · have hset : l.setIfInBounds i true = l.set i true hil := by simp [Array.setIfInBounds, hil]
        have hlt : l[i] = false := by
          have := hli; rw [Array.getElem?_eq_getElem hil] at this; simpa using this
        have hpos : 0 < l.count false := Array.count_pos_iff.2 (hlt ▸ Array.getElem_mem hil)
        rw [hset, Array.count_set]
        simp [hlt]
        omega
      · have hup : ∀ k, l[k]? = some true → (l.setIfInBounds i true)[k]? = some true := fun k hk => by
          by_cases e1 : i = k
          · rw [← e1, Array.getElem?_setIfInBounds, if_pos rfl, if_pos hil]
          · rw [Array.getElem?_setIfInBounds_ne e1]; exact hk
        by_cases e1 : i = j
        · subst e1
          rw [ho] at hj; cases hj
          exact hup _ (hdeps e he' hbd)
        · rw [Array.getElem?_setIfInBounds_ne e1] at hlj
          exact hup _ (hcl j o' hj hlj e he' hbd)
  exact key ops.size (Array.replicate ops.size false) _ _ (by simp) (by simp) (fun j o _ hj => by
    rw [Array.getElem?_replicate] at hj
    split at hj <;> simp at hj) h0

/-- Which slot an operation writes. -/
def dstOf (ops : Array Oper) (i : Nat) : Option Tmp := (ops[i]?).bind (·.dst)
/-- No two operations write one slot. -/
def oneEach (ops : Array Oper) : Bool := (List.range ops.size).all fun i => (List.range i).all fun j => (dstOf ops i).isNone || decide (dstOf ops i ≠ dstOf ops j)
theorem oneEach_spec {ops : Array Oper} (h : oneEach ops = true) {i j : Nat} {d : Tmp} (hi : dstOf ops i = some d) (hj : dstOf ops j = some d) : i = j := by
  have key : ∀ {i j : Nat}, dstOf ops i = some d → dstOf ops j = some d → j < i → False := by
    intro i j hi hj hlt
    have hs : i < ops.size := by
      rcases Nat.lt_or_ge i ops.size with h' | h'
      · exact h'
      · simp [dstOf, Array.getElem?_eq_none h'] at hi
    have h1 := List.all_eq_true.1 (List.all_eq_true.1 h i (List.mem_range.2 hs)) j (List.mem_range.2 hlt)
    rw [hi, hj] at h1
    simp at h1
  rcases Nat.lt_trichotomy i j with h' | h' | h'
  · exact absurd h' (fun q => key hj hi q)
  · exact h'
  · exact absurd h' (fun q => key hi hj q)

/-- The frame in the midst of a region: slots of done operations hold what V says; others are as they were. -/
structure RInv (ops : Array Oper) (a0 : Act) (V : Nat → Value → Prop) (l : Array Bool) (a : Act) : Prop where
  size : a.tmps.size = a0.tmps.size
  defers : a.defers = a0.defers
  base : ∀ t, (∀ i, l[i]? = some true → dstOf ops i ≠ some t) → a.tmps[t]? = a0.tmps[t]?
  slot : ∀ i d, l[i]? = some true → dstOf ops i = some d → V i (a.tmps.getD d undef)

theorem RInv.start (ops : Array Oper) (a0 : Act) (V : Nat → Value → Prop) : RInv ops a0 V (Array.replicate ops.size false) a0 where
  size := rfl
  defers := rfl
  base _ _ := rfl
  slot i d h := by
    rw [Array.getElem?_replicate] at h
    split at h <;> simp at h
theorem RInv.put {ops : Array Oper} {a0 : Act} {V : Nat → Value → Prop} {l : Array Bool} {a : Act} (h : RInv ops a0 V l a) (hu : oneEach ops = true) {i : Nat} (hi : i < l.size) {d : Tmp} (hd : dstOf ops i = some d) (hds : d < a0.tmps.size) {v : Value} (hv : V i v) :
    RInv ops a0 V (l.setIfInBounds i true) (a.put (some d) v) where
  size := by simp [Act.put, h.size]
  defers := h.defers
  base t ht := by
    have hne : d ≠ t := fun e => ht i (by simp [hi]) (e ▸ hd)
    show (a.tmps.setIfInBounds d v)[t]? = _
    rw [Array.getElem?_setIfInBounds_ne hne]
    refine h.base t fun j hj => ht j ?_
    by_cases e : i = j
    · subst e; simp [hi]
    · rw [Array.getElem?_setIfInBounds_ne e]; exact hj
  slot j e hj he := by
    show V j ((a.tmps.setIfInBounds d v).getD e undef)
    by_cases hij : i = j
    · subst hij
      rw [hd] at he; cases he
      have hd' : d < a.tmps.size := by rw [h.size]; exact hds
      simp [hd', hv]
    · have hne : d ≠ e := fun q => hij (oneEach_spec hu hd (q ▸ he))
      rw [Array.getElem?_setIfInBounds_ne hij] at hj
      have := h.slot j e hj he
      simpa [Array.getElem?_setIfInBounds_ne hne] using this
/-- An operation that writes no slot. -/
theorem RInv.done {ops : Array Oper} {a0 : Act} {V : Nat → Value → Prop} {l : Array Bool} {a : Act} (h : RInv ops a0 V l a) {i : Nat} (hd : dstOf ops i = none) : RInv ops a0 V (l.setIfInBounds i true) a where
  size := h.size
  defers := h.defers
  base t ht := h.base t fun j hj => ht j (by
    by_cases e : i = j
    · subst e
      have hi := (Array.getElem?_eq_some_iff.1 hj).1
      simp [hi]
    · rw [Array.getElem?_setIfInBounds_ne e]; exact hj)
  slot j e hj he := by
    by_cases hij : i = j
    · subst hij; rw [hd] at he; cases he
    · rw [Array.getElem?_setIfInBounds_ne hij] at hj; exact h.slot j e hj he
/-- No operation of the region writes the slot. -/
def noDst (ops : Array Oper) (t : Tmp) : Bool := (List.range ops.size).all fun i => dstOf ops i != some t
theorem noDst_spec {ops : Array Oper} {t : Tmp} (h : noDst ops t = true) (i : Nat) : dstOf ops i ≠ some t := by
  rcases Nat.lt_or_ge i ops.size with h' | h'
  · simpa using List.all_eq_true.1 h i (List.mem_range.2 h')
  · simp [dstOf, Array.getElem?_eq_none h']
theorem RInv.was {ops : Array Oper} {a0 : Act} {V : Nat → Value → Prop} {l : Array Bool} {a : Act} (h : RInv ops a0 V l a) (t : Tmp) (ht : noDst ops t = true) : a.tmps.getD t undef = a0.tmps.getD t undef := by
  have := h.base t fun i _ => noDst_spec ht i
  simp [this]
/-- The frame behind a region, slot by slot. -/
def fill (ops : Array Oper) (t0 t : Array Value) : Array Value := ((List.range t0.size).map fun k => if noDst ops k then t0.getD k undef else t.getD k undef).toArray
theorem RInv.fill {ops : Array Oper} {a0 : Act} {V : Nat → Value → Prop} {l : Array Bool} {a : Act} (h : RInv ops a0 V l a) : a = ⟨fill ops a0.tmps a.tmps, a0.defers⟩ := by
  obtain ⟨t, d⟩ := a
  have hd := h.defers
  have hs := h.size
  simp only at hd hs
  subst hd
  congr 1
  apply Array.ext_getElem?
  intro k
  unfold Go.Proofs.YtjjnidbggoaonaaGreatDoor.fill
  by_cases hk : k < a0.tmps.size
  · have hm : ∀ f : Nat → Value, ((List.range a0.tmps.size).map f).toArray[k]? = some (f k) := fun f => by
      rw [List.getElem?_toArray, List.getElem?_map, List.getElem?_range hk]; rfl
    rw [hm]
    by_cases hn : noDst ops k = true
    · rw [if_pos hn, h.base k fun i _ => noDst_spec hn i]
      simp [hk]
    · rw [if_neg hn]
      have hk' : k < t.size := by omega
      simp [hk']
  · rw [Array.getElem?_eq_none (by omega), Array.getElem?_eq_none (by simp; omega)]
theorem foldl_set (g : Tmp → Value) (k : Nat) : ∀ (ds : List Tmp) (c : Array Value), (ds.foldl (fun c d => c.setIfInBounds d (g d)) c)[k]? = if k ∈ ds then (if k < c.size then some (g k) else none) else c[k]?
  | [], c => by simp
  | d :: ds, c => by
    rw [List.foldl_cons, foldl_set g k ds]
    by_cases h : k ∈ ds
    · simp [h]
    · by_cases e : d = k
      · subst e
        rw [if_neg h, if_pos (by simp), Array.getElem?_setIfInBounds, if_pos rfl]
      · rw [if_neg h, if_neg (by simp [h]; exact fun q => e q.symm), Array.getElem?_setIfInBounds_ne e]
/-- The frame behind a region: the slots that it writes are put, one by one. -/
theorem RInv.fold {ops : Array Oper} {a0 : Act} {V : Nat → Value → Prop} {l : Array Bool} {a : Act} (h : RInv ops a0 V l a) (ds : List Tmp) (hds : (List.range ops.size).filterMap (dstOf ops) = ds) :
    a = ⟨ds.foldl (fun c d => c.setIfInBounds d (a.tmps.getD d undef)) a0.tmps, a0.defers⟩ := by
  have hd := h.defers
  have hs := h.size
  have hf : a.tmps = ds.foldl (fun c d => c.setIfInBounds d (a.tmps.getD d undef)) a0.tmps := by
    apply Array.ext_getElem?
    intro k
    rw [foldl_set]
    by_cases hk : k < a0.tmps.size
    · by_cases hm : k ∈ ds
      · rw [if_pos hm, if_pos hk]
        have hk' : k < a.tmps.size := by omega
        simp [hk']
      · rw [if_neg hm]
        refine h.base k fun i _ hi => hm ?_
        rw [← hds, List.mem_filterMap]
        refine ⟨i, List.mem_range.2 ?_, hi⟩
        rcases Nat.lt_or_ge i ops.size with h' | h'
        · exact h'
        · simp [dstOf, Array.getElem?_eq_none h'] at hi
    · have h1 : a.tmps[k]? = none := Array.getElem?_eq_none (by omega)
      have h2 : a0.tmps[k]? = none := Array.getElem?_eq_none (by omega)
      rw [h1, h2, if_neg hk]
      split <;> rfl
  obtain ⟨t, d⟩ := a
  simp only at hf hd ⊢
  rw [← hf, hd]
theorem RInv.old {ops : Array Oper} {a0 : Act} {V : Nat → Value → Prop} {l : Array Bool} {a : Act} (h : RInv ops a0 V l a) {t : Tmp} (ht : ∀ i, i < ops.size → dstOf ops i ≠ some t) : a.tmps.getD t undef = a0.tmps.getD t undef := by
  have := h.base t fun i _ hd => by
    rcases Nat.lt_or_ge i ops.size with h' | h'
    · exact ht i h' hd
    · simp [dstOf, Array.getElem?_eq_none h'] at hd
  simp [this]
/-- At the end: each slot is what it was, or what its operation gave. -/
theorem RInv.end_ {ops : Array Oper} {a0 : Act} {f : Nat → Value} {l : Array Bool} {a : Act} (h : RInv ops a0 (fun i v => v = f i) l a) (hl : ∀ i, i < ops.size → l[i]? = some true) (c : Array Value) (hc : c.size = a0.tmps.size)
    (h1 : ∀ t, t < a0.tmps.size → (∀ i, i < ops.size → dstOf ops i ≠ some t) → c[t]? = a0.tmps[t]?)
    (h2 : ∀ i d, i < ops.size → dstOf ops i = some d → d < a0.tmps.size → c[d]? = some (f i)) : a = ⟨c, a0.defers⟩ := by
  obtain ⟨t, d⟩ := a
  have hd := h.defers
  have hs := h.size
  simp only at hd hs
  subst hd
  congr 1
  apply Array.ext_getElem?
  intro k
  by_cases hk : k < a0.tmps.size
  · by_cases he : ∃ i, i < ops.size ∧ dstOf ops i = some k
    · obtain ⟨i, hi, hik⟩ := he
      have := h.slot i k (hl i hi) hik
      rw [h2 i k hi hik hk]
      have hk' : k < t.size := by omega
      simp [hk'] at this
      rw [Array.getElem?_eq_getElem hk', this]
    · have hn : ∀ i, i < ops.size → dstOf ops i ≠ some k := fun i hi e => he ⟨i, hi, e⟩
      rw [h1 k hk hn]
      exact h.base k fun i hi e => by
        rcases Nat.lt_or_ge i ops.size with h' | h'
        · exact hn i h' e
        · simp [dstOf, Array.getElem?_eq_none h'] at e
  · rw [Array.getElem?_eq_none (by omega), Array.getElem?_eq_none (by omega)]

/-- The rule, the frame's part laid. -/
theorem wp_region_rinv {P : Program} {ops : Array Oper} {Q : Exit → Act → World → Prop} {id : Nat} {a : Act} {w : World} (hm : P.follows .mixedOrders = true) (hb : back ops = true) (hu : oneEach ops = true)
    (V : Nat → Value → Prop) (W : Array Bool → Act → World → Prop) (h0 : W (Array.replicate ops.size false) a w.drew)
    (hs : oneEach ops = true → ∀ (i : Nat) (l : Array Bool) (a' : Act) (w' : World), i < ops.size → l.size = ops.size → l[i]? = some false → (∀ k, dep ops i k = true → l[k]? = some true) → Closed ops l → RInv ops a V l a' → W l a' w' →
      wpOp P ops Q i (fun a'' w'' => RInv ops a V (l.setIfInBounds i true) a'' ∧ W (l.setIfInBounds i true) a'' w'') a' w')
    (he : ∀ (l : Array Bool) (a' : Act) (w' : World), (∀ i, i < ops.size → l[i]? = some true) → RInv ops a V l a' → W l a' w' → Q .normal a' w') : (Code.region id ops true).wp P Q a w :=
  wp_region_inv hm hb (fun l a' w' => RInv ops a V l a' ∧ W l a' w') ⟨RInv.start _ _ _, h0⟩ (fun i l a' w' h1 h2 h3 h4 h5 h6 => hs hu i l a' w' h1 h2 h3 h4 h5 h6.1 h6.2) (fun l a' w' h1 h2 => he l a' w' h1 h2.1 h2.2)

section
variable {P : Program} {ops : Array Oper} {Q : Exit → Act → World → Prop} {i : Nat} {o : Oper} {a : Act} {w w' : World} {K : Act → World → Prop} {v : Value}
theorem wpOp_val {d : Tmp} (ho : ops[i]? = some o) (hd : dstOf ops i = some d) (hw : Region.wanted o (yielded ops a.tmps) = true) (hr : (execOp a.eval o).run P w = .ok (.value v) w') (hk : K (a.put (some d) v) w') : wpOp P ops Q i K a w := by
  unfold wpOp
  unfold dstOf at hd
  rw [ho] at hd
  have hd : o.dst = some d := hd
  simp only [ho, hw, if_true, Oper.wp, hr, Oper.upon, hd]
  exact .inl hk
/-- A store: no slot is written. -/
theorem wpOp_unit (ho : ops[i]? = some o) (hd : dstOf ops i = none) (hw : Region.wanted o (yielded ops a.tmps) = true) (hr : (execOp a.eval o).run P w = .ok .skip w') (hk : K a w') : wpOp P ops Q i K a w := by
  unfold wpOp
  unfold dstOf at hd
  rw [ho] at hd
  have hd : o.dst = none := hd
  simp only [ho, hw, if_true, Oper.wp, hr, Oper.upon, hd]
  exact .inl hk
theorem wpOp_skip {d : Tmp} (ho : ops[i]? = some o) (hd : dstOf ops i = some d) (hw : Region.wanted o (yielded ops a.tmps) = false) (hk : K (a.put (some d) undef) w) : wpOp P ops Q i K a w := by
  unfold wpOp
  unfold dstOf at hd
  rw [ho] at hd
  have hd : o.dst = some d := hd
  simp only [ho, hw]
  rw [hd]
  exact hk
theorem wpOp_call {d : Tmp} {f : FuncId} {args : Array Value} {R : Value → World → Prop} (ho : ops[i]? = some o) (hd : dstOf ops i = some d) (hw : Region.wanted o (yielded ops a.tmps) = true) (hr : (execOp a.eval o).run P w = .ok (.enter f args) w)
    (hc : Calls P f args w fun e w' => ∃ v, e = .returned v ∧ R v w') (hk : ∀ v w', R v w' → K (a.put (some d) v) w') : wpOp P ops Q i K a w := by
  unfold wpOp
  unfold dstOf at hd
  rw [ho] at hd
  have hd : o.dst = some d := hd
  simp only [ho, hw, if_true, Oper.wp, hr, Oper.upon, hd]
  refine .inl (hc.mono ?_)
  rintro e w' ⟨v, rfl, h⟩
  exact hk v w' h
theorem wanted_plain (h : o.guard = none) (y : Nat → Option Bool) : Region.wanted o y = true := by
  unfold Region.wanted; rw [h]
/-- A guarded operation is wanted, or not, by what its guard's slot holds. -/
theorem wanted_slot {g : Nat} {want b : Bool} {d : Tmp} (h : o.guard = some (g, want)) (hd : dstOf ops g = some d) (hs : a.tmps.getD d undef = .bool b) : Region.wanted o (yielded ops a.tmps) = (b == want) := by
  have hy : yielded ops a.tmps g = some b := by
    unfold dstOf at hd
    unfold yielded
    rw [hd]
    have hs' : a.tmps[d]? = some (.bool b) := by
      rcases hq : a.tmps[d]? with _ | x
      · simp [hq, undef] at hs
      · simp [hq] at hs; rw [hs]
    simp [hs']
  unfold Region.wanted
  rw [h]
  simp [hy]
end

theorem set_self {l : Array Bool} {i : Nat} (h : i < l.size) : (l.setIfInBounds i true)[i]? = some true := by
  rw [Array.getElem?_setIfInBounds, if_pos rfl, if_pos h]
theorem set_other {l : Array Bool} {i j : Nat} (h : i ≠ j) : (l.setIfInBounds i true)[j]? = l[j]? := Array.getElem?_setIfInBounds_ne h
theorem put_self {a : Act} {d : Tmp} {v : Value} (h : d < a.tmps.size) : (a.put (some d) v).tmps.getD d undef = v := by
  show (a.tmps.setIfInBounds d v).getD d undef = v
  simp [h]
theorem put_other {a : Act} {d t : Tmp} {v : Value} (h : d ≠ t) : (a.put (some d) v).tmps.getD t undef = a.tmps.getD t undef := by
  show (a.tmps.setIfInBounds d v).getD t undef = _
  simp [Array.getElem?_setIfInBounds_ne h]

/-! What single operations give. -/
section
variable {P : Program} {a : Act} {w w' : World} {d : Option Tmp} {t : TypeId} {p : String} {e : Array Edge} {g : Option (Nat × Bool)} {x y z : Operand} {u v s : Value}
theorem ex_move (h : a.eval x = v) : (execOp a.eval ⟨d, .move x, t, p, e, g⟩).run P w = .ok (.value v) w := by
  simp [execOp, h]
theorem ex_assign (h : a.eval x = v) : (execOp a.eval ⟨d, .assign x, t, p, e, g⟩).run P w = .ok (.value v) w := by
  simp [execOp, h]
theorem ex_pick_true (h : a.eval x = .bool true) (h1 : a.eval y = v) : (execOp a.eval ⟨d, .pick x y z, t, p, e, g⟩).run P w = .ok (.value v) w := by
  simp [execOp, h, h1, asBool]
theorem ex_pick_false (h : a.eval x = .bool false) (h1 : a.eval z = v) : (execOp a.eval ⟨d, .pick x y z, t, p, e, g⟩).run P w = .ok (.value v) w := by
  simp [execOp, h, h1, asBool]
theorem ex_not {b : Bool} {T : TypeId} (h : a.eval x = .bool b) : (execOp a.eval ⟨d, .unOp .not T x, t, p, e, g⟩).run P w = .ok (.value (.bool (!b))) w := by
  simp [execOp, h, Op.unary]
theorem ex_convert {S D : TypeId} (h : a.eval x = u) (hr : (convert S D u).run P w = .ok v w') : (execOp a.eval ⟨d, .convert S D x, t, p, e, g⟩).run P w = .ok (.value v) w' := by
  simp [execOp, h, hr, Result.andThen]
theorem ex_makeSlice {T : TypeId} (h : a.eval x = u) (h1 : a.eval y = s) (hr : (Instr.makeSlice T u s).run P w = .ok v w') : (execOp a.eval ⟨d, .makeSlice T x y, t, p, e, g⟩).run P w = .ok (.value v) w' := by
  simp [execOp, h, h1, hr, Result.andThen]
theorem ex_bin {o : BinOp} {T S : TypeId} (h : a.eval x = u) (h1 : a.eval y = s) (hg : ∀ w, (eqGuard o T x y u s).run P w = .ok () w) (hr : (binOp o T u s).run P w = .ok v w') : (execOp a.eval ⟨d, .binOp o T x y S, t, p, e, g⟩).run P w = .ok (.value v) w' := by
  simp [execOp, h, h1, hr, hg, Result.andThen]
theorem enters_fn {f : FuncId} {fn : Func} {c : Code} (hf : P.funcs[f]? = some fn) (hname : (fn.name == "runtime.NumGoroutine") = false) (hb : fn.body = some c) (vs : Array Value) (w : World) : (callFunc f vs).run P w = .ok (.enter f vs) w := by
  have h1 : fn.name ≠ "runtime.NumGoroutine" := by simpa using hname
  simp [callFunc, hf, h1, hb, mark]
theorem ex_call {f : FuncId} {args : Array Operand} {ts : Array TypeId} {vs : Array Value} (hv : args.map a.eval = vs) (he : ∀ vs w, (callFunc f vs).run P w = .ok (.enter f vs) w) :
    (execOp a.eval ⟨d, .call { callee := .value (.func f), args := args, argTypes := ts }, t, p, e, g⟩).run P w = .ok (.enter f vs) w := by
  have hr : (resolve a.eval { callee := .value (.func f), args := args, argTypes := ts } t).run P w = .ok { target := .fn (.func f) #[], args := vs } w := by
    simp [resolve, Deferred.ofValue, Act.eval, hv]
  simp only [execOp]
  rw [Sem.run_bind, hr]
  simp [Result.andThen, invoke, he]
theorem ex_len {S : TypeId} {E : TypeId} {b : Option Addr} {n c : Nat} (hs : P.underlying S = some (.slice E)) (h : a.eval x = .slice b n c) :
    (execOp a.eval ⟨d, .call { callee := .builtin .len, args := #[x], argTypes := #[S] }, t, p, e, g⟩).run P w = .ok (.value (.int .i64 n)) w := by
  have hE : P.elem S = E := by simp [Program.elem, hs]
  have := run_len_slice (P := P) (w := w) S t b n c (by rw [hE]; exact hs)
  simp [execOp, resolve, h, invoke, builtin, this, Result.andThen]
  rfl
theorem ex_load {T : TypeId} (h : a.eval x = u) (hr : (Instr.loadAt T u).run P w = .ok v w') : (execOp a.eval ⟨d, .load T x, t, p, e, g⟩).run P w = .ok (.value v) w' := by
  simp [execOp, h, hr, Result.andThen]
theorem ex_indexAddr {T : TypeId} (h : a.eval x = u) (h1 : a.eval y = s) (hr : (Instr.indexAt T u s).run P w = .ok v w') : (execOp a.eval ⟨d, .indexAddr T x y, t, p, e, g⟩).run P w = .ok (.value v) w' := by
  simp [execOp, h, h1, hr, Result.andThen]
theorem ex_fieldAddr {T : TypeId} {f : Nat} (h : a.eval x = u) (hr : (Instr.fieldAt T u f).run P w = .ok v w') : (execOp a.eval ⟨d, .fieldAddr T x f, t, p, e, g⟩).run P w = .ok (.value v) w' := by
  simp [execOp, h, hr, Result.andThen]
end
end Go.Proofs.YtjjnidbggoaonaaGreatDoor
