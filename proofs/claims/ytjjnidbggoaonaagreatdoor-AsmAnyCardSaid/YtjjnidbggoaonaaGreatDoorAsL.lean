/- A line of a text is read: what the source is in memory; comment and label. -/
import Derived.Test.YtjjnidbggoaonaaGreatDoorAsK
import Derived.Deep.AppendLies
import Derived.Shelf.Strings.IndexAnyAll
import Derived.Test.YtjjnidbggoaonaaGreatDoorReg
namespace Go.Proofs.YtjjnidbggoaonaaGreatDoor
open Go.RowKit
attribute [local irreducible] World.setCell World.alloc World.drew Calls Code.wp
attribute [local go_sem] Oper.semAt_some

/-- Bounds of a line. -/
structure LineOk (al : ALine) : Prop where
  at_ : al.at_ ≤ 1048576
  len : al.len ≤ 128
  word : al.word.length ≤ 100000
  args : ∀ a ∈ al.args, a.length ≤ 100000
/-- Strings in a row of strings. -/
def StrsT (w : World) (S : Nat → Prop) (A : Value) (l : List (List UInt8)) : Prop := StrsAt w S A l ∧ ∀ b c, A = .slice (some ⟨b, 0, none⟩) l.length c → l ≠ [] → ∃ cs fz, w.heap[b]? = some (.cells cs 9 fz)
theorem StrsT.kept {w w' : World} {S : Nat → Prop} {A : Value} {l : List (List UInt8)} (h : StrsT w S A l) {T : Nat → Prop} (k : Kept T w w') (hs : ∀ b, (∃ cs fz, w.heap[b]? = some (.cells cs 9 fz)) → ¬ S b → ¬ T b) : StrsT w' S A l := by
  obtain ⟨⟨x, c, rfl, h⟩, h2⟩ := h
  rcases h with rfl | ⟨b, rfl, h1, h3, h4⟩
  · exact ⟨⟨x, c, rfl, .inl rfl⟩, fun _ _ _ h => absurd rfl h⟩
  · by_cases hl : l = []
    · subst hl
      exact ⟨⟨_, c, rfl, .inl rfl⟩, fun _ _ _ h => absurd rfl h⟩
    · obtain ⟨cs, fz, hh⟩ := h2 b c rfl hl
      have hT := hs b ⟨cs, fz, hh⟩ h1
      refine ⟨⟨_, c, rfl, .inr ⟨b, rfl, h1, Nat.lt_of_lt_of_le h3 k.size, fun j hj => ?_⟩⟩, fun b' c' e _ => ?_⟩
      · rw [k.cellAt h3 hT]; exact h4 j hj
      · cases e
        exact ⟨cs, fz, by rw [k.block b h3 hT]; exact hh⟩
/-- The cells of the lines read. -/
def rowC (ps : List (ALine × Value)) : List Value := ps.flatMap fun p => (lineC p.1 p.2).toList
theorem rowC_len (ps : List (ALine × Value)) : (rowC ps).length = ps.length * 5 := by
  induction ps with
  | nil => rfl
  | cons p r ih =>
    have : rowC (p :: r) = (lineC p.1 p.2).toList ++ rowC r := rfl
    rw [this, List.length_append, ih]
    simp [lineC]; omega
/-- A source in memory: the text so far. -/
structure SrcAt (w : World) (g0 sb mb : Nat) (s : ASrc) (Lv : Value) (ps : List (ALine × Value)) : Prop where
  has : AsIn g0 w
  src : Blk w sb (srcC Lv (.map (some mb)) (s.fk, s.fl)) 73
  mp : MapStr.MapAt w mb (labV s.labels)
  row : w.ownsRow g0 77 5 Lv ps.length (rowC ps)
  eq : ps.map (·.1) = s.lines
  args : ∀ p ∈ ps, StrsT w (fun b => b = sb ∨ b = mb) p.2 p.1.args
  ok : ∀ p ∈ ps, LineOk p.1
  lab : ∀ p ∈ s.labels, p.2 ≤ 1048576
theorem row_kept {w w' : World} {T : Nat → Prop} {base e size n : Nat} {v : Value} {xs : List Value} (h : w.ownsRow base e size v n xs) (k : Kept T w w') (hs : ∀ b, v.ownBlock = some b → ¬ T b) : w'.ownsRow base e size v n xs := by
  refine ⟨h.1, ?_⟩
  rcases h.2 with h | ⟨g, cap, cur, rfl, hb, hg, r⟩
  · exact .inl h
  · exact .inr ⟨g, cap, cur, rfl, hb, by rw [k.block g (Array.getElem?_eq_some_iff.1 hg).1 (hs g rfl)]; exact hg, r⟩
theorem row_base {w : World} {base base' e size n : Nat} {v : Value} {xs : List Value} (h : w.ownsRow base e size v n xs) (hb : base' ≤ base) : w.ownsRow base' e size v n xs := by
  refine ⟨h.1, ?_⟩
  rcases h.2 with h | ⟨g, cap, cur, rfl, h1, r⟩
  · exact .inl h
  · exact .inr ⟨g, cap, cur, rfl, Nat.le_trans hb h1, r⟩
theorem row_type {w : World} {base e size n : Nat} {v : Value} {xs : List Value} (h : w.ownsRow base e size v n xs) {b : Nat} (hb : v.ownBlock = some b) : ∃ cur, w.heap[b]? = some (.cells cur e (0, 0)) ∧ base ≤ b := by
  rcases h.2 with ⟨rfl, _⟩ | ⟨g, cap, cur, rfl, hg, hh, r⟩
  · cases hb
  · cases hb; exact ⟨cur, hh, hg⟩
section
variable {w w' : World} {g0 sb mb : Nat} {s : ASrc} {Lv : Value} {ps : List (ALine × Value)}
theorem SrcAt.free (h : SrcAt w g0 sb mb s Lv ps) (hk : Kept (fun _ => False) w w') : SrcAt w' g0 sb mb s Lv ps :=
  ⟨h.has.kept hk (fun _ h => h.elim), h.src.below' hk (fun h => h), h.mp.kept hk (fun h => h), row_kept h.row hk (fun _ _ h => h), h.eq, fun p hp => (h.args p hp).kept hk (fun _ _ _ h => h), h.ok, h.lab⟩
theorem SrcAt.row_sb (h : SrcAt w g0 sb mb s Lv ps) : Lv.ownBlock ≠ some sb := fun e => by
  obtain ⟨cur, hh, _⟩ := row_type h.row e
  have := h.src
  unfold Blk at this
  rw [this] at hh
  simp at hh
theorem SrcAt.row_mb (h : SrcAt w g0 sb mb s Lv ps) : Lv.ownBlock ≠ some mb := fun e => by
  obtain ⟨cur, hh, _⟩ := row_type h.row e
  obtain ⟨arr, clock, h2, _⟩ := h.mp.at_
  rw [h2] at hh
  simp at hh
theorem SrcAt.fault (h : SrcAt w g0 sb mb s Lv ps) (hsm : sb ≠ mb) (hgs : g0 ≤ sb) {f : Nat × Nat} (hS : Blk w' sb (srcC Lv (.map (some mb)) f) 73) (hK : Kept (· = sb) w w') : SrcAt w' g0 sb mb { s with fk := f.1, fl := f.2 } Lv ps :=
  ⟨h.has.kept hK (fun b e => by rw [e]; exact hgs), hS, h.mp.kept hK (fun e => hsm e.symm), row_kept h.row hK (fun b hb e => h.row_sb (by rw [hb, e])), h.eq, fun p hp => (h.args p hp).kept hK (fun _ _ h1 h2 => h1 (.inl h2)), h.ok, h.lab⟩
theorem put_labV (labels : List (List UInt8 × Nat)) (k : List UInt8) (v : Nat) : MapStr.put (labV labels) k (.int .i64 (v : Nat)) = labV (putL labels k v) := by
  unfold MapStr.put putL
  rw [look_labV]
  cases h : lookL labels k with
  | none => simp [labV]
  | some t =>
    simp only [Option.map_some, Option.isSome_some, if_true]
    unfold labV
    rw [List.map_map, List.map_map]
    refine List.map_congr_left fun p _ => ?_
    show (if p.1 = k then _ else _) = _
    by_cases e : p.1 = k
    · rw [if_pos e]; simp [e]
    · rw [if_neg e]; simp [e]
theorem putL_bd {labels : List (List UInt8 × Nat)} {B : Nat} (h : ∀ p ∈ labels, p.2 ≤ B) (k : List UInt8) {v : Nat} (hv : v ≤ B) : ∀ p ∈ putL labels k v, p.2 ≤ B := by
  unfold putL
  split
  · intro p hp
    obtain ⟨q, hq, rfl⟩ := List.mem_map.1 hp
    split
    · exact hv
    · exact h q hq
  · intro p hp
    rcases List.mem_append.1 hp with hp | hp
    · exact h p hp
    · rw [List.mem_singleton] at hp; subst hp; exact hv
theorem SrcAt.label (h : SrcAt w g0 sb mb s Lv ps) (hsm : sb ≠ mb) (hgm : g0 ≤ mb) (k : List UInt8) (v : Nat) (hv : v ≤ 1048576) (hM : MapStr.MapAt w' mb (MapStr.put (labV s.labels) k (.int .i64 (v : Nat)))) (hK : Kept (· = mb) w w') : SrcAt w' g0 sb mb { s with labels := putL s.labels k v } Lv ps :=
  ⟨h.has.kept hK (fun b e => by rw [e]; exact hgm), h.src.below' hK hsm, by rw [put_labV] at hM; exact hM, row_kept h.row hK (fun b hb e => h.row_mb (by rw [hb, e])), h.eq, fun p hp => (h.args p hp).kept hK (fun _ _ h1 h2 => h1 (.inr h2)), h.ok, putL_bd h.lab k hv⟩
end

theorem ix_cases (c : Nat) (l : List UInt8) : ∃ x : Int, (∀ w, Calls Tryz.prog 60 #[S l, .int .u8 c] w fun e w' => e = .returned (.int .i64 x) ∧ w = w') ∧
    ((x = -1 ∧ cutAt (UInt8.ofNat c) l = none) ∨ ∃ i : Nat, x = i ∧ i < l.length ∧ cutAt (UInt8.ofNat c) l = some (l.take i, l.drop (i + 1))) := by
  refine ⟨_, fun w => ix_any l c w, ?_⟩
  rcases cut_index (UInt8.ofNat c) l with ⟨h1, h2⟩ | ⟨i, h1, h2, h3⟩
  · exact .inl ⟨h1, h2⟩
  · exact .inr ⟨i, h1, h2, h3⟩
theorem ia_cases (l : List UInt8) : (Lib.indexAny l [32, 9] = -1 ∧ wordOf l = l ∧ argsOf l = []) ∨ ∃ i : Nat, Lib.indexAny l [32, 9] = i ∧ i < l.length ∧ wordOf l = l.take i ∧ argsOf l = (partsAt 44 (l.drop i)).map trimB := by
  induction l with
  | nil => exact .inl ⟨rfl, rfl, rfl⟩
  | cons c r ih =>
    unfold Lib.indexAny
    rw [bl_contains]
    cases hc : isBl c
    · rw [if_neg (by simp)]
      have hw : wordOf (c :: r) = c :: wordOf r := by unfold wordOf; rw [List.takeWhile_cons, hc]; rfl
      have ha : argsOf (c :: r) = argsOf r := by unfold argsOf; rw [List.dropWhile_cons, hc]; rfl
      rcases ih with ⟨h1, h2, h3⟩ | ⟨i, h1, h2, h3, h4⟩
      · rw [h1, hw, ha, h2, h3]; exact .inl ⟨rfl, rfl, rfl⟩
      · rw [h1, hw, ha, h3, h4, if_neg (by simp)]
        exact .inr ⟨i + 1, by simp, by simpa using h2, by simp, by simp⟩
    · rw [if_pos rfl]
      refine .inr ⟨0, rfl, by simp, ?_, ?_⟩
      · unfold wordOf; rw [List.takeWhile_cons, hc]; rfl
      · unfold argsOf; rw [List.dropWhile_cons, hc]; rfl
/-- IndexAny does its work at this text. -/
def IaT (l : List UInt8) : Prop := ∀ w, Calls Tryz.prog 64 #[S l, S [32, 9]] w fun e w' => e = .returned (.int .i64 (Lib.indexAny l [32, 9])) ∧ Below w.heap.size w w'
theorem iaT_long (l : List UInt8) (h : 8 < l.length) (hl : l.length ≤ 1000000) : IaT l := fun w => by
  have hz := zero_of_info (P := Tryz.prog) (t := 170) (v := .agg (Array.replicate 256 (.bool false))) (n := 256) (by kernel_rfl)
  have := Any.strings_IndexAny_long Tryz.lays153 hz.1 hz.2 ⟨l.toArray⟩ ⟨[32, 9].toArray⟩ w (by decide) (by rw [sz]; exact h) (by rw [sz]; omega) (by decide) (by rw [dl]; exact ascii_bl)
  rw [dl, dl] at this
  refine this.mono ?_
  rintro e w' ⟨rfl, rfl⟩
  exact ⟨rfl, ((Below.refl _ _).alloc (Nat.le_refl _) _).alloc (by simp) _⟩
theorem iaT_short (l : List UInt8) (h : l.length ≤ 8) (ha : ∀ c ∈ l, c.toNat < 128) : IaT l := fun w => by
  have := Any.strings_IndexAny_short Tryz.lays153 ⟨l.toArray⟩ ⟨[32, 9].toArray⟩ w (by decide) (by rw [sz]; exact h) (by rw [dl]; intro j b hb; exact ha b (List.mem_of_getElem? hb))
  rw [dl, dl] at this
  refine this.mono ?_
  rintro e w' ⟨rfl, pos, rfl⟩
  exact ⟨rfl, (Below.refl _ w).alloc (Nat.le_refl _) _⟩
theorem iaT_ascii (l : List UInt8) (hl : l.length ≤ 1000000) (ha : ∀ c ∈ l, c.toNat < 128) : IaT l := by
  by_cases h : 8 < l.length
  · exact iaT_long l h hl
  · exact iaT_short l (by omega) ha
/-- A call at a step of a region that draws. -/
theorem step_call {P : Program} {ops : Array Oper} {o : Oper} {a : Act} {w : World} {K : Act → World → Prop} {Q : Exit → Act → World → Prop} {E : Prop} {f : FuncId} {args : Array Value} {R : Value → World → Prop} (hgd : o.guard = none) (hr : (execOp a.eval o).run P w = .ok (.enter f args) w)
    (hc : Calls P f args w fun e w' => ∃ v, e = .returned v ∧ R v w') (hk : ∀ v w', R v w' → K (a.put o.dst v) w') : if Region.wanted o (yielded ops a.tmps) = true then Oper.wp P o a w K Q else E := by
  have hw : Region.wanted o (yielded ops a.tmps) = true := by simp [Region.wanted, hgd]
  rw [if_pos hw]
  simp only [Oper.wp, hr, Oper.upon]
  refine hc.mono ?_
  rintro e w' ⟨v, rfl, h⟩
  exact hk v w' h
theorem ext_take (l : List UInt8) (i : Nat) : (⟨l.toArray⟩ : ByteArray).extract 0 i = ⟨(l.take i).toArray⟩ := by
  apply ByteArray.ext
  simp
theorem ext_drop (l : List UInt8) (i : Nat) : (⟨l.toArray⟩ : ByteArray).extract i l.length = ⟨(l.drop i).toArray⟩ := by
  apply ByteArray.ext
  simp [List.take_of_length_le]
/-- Strings in a row of the call's own. -/
theorem own_strs {w : World} {base : Nat} {A : Value} {l : List (List UInt8)} (h : w.ownsRow base 9 1 A l.length (l.map S)) {T : Nat → Prop} (hT : ∀ b, base ≤ b → ¬ T b) : StrsT w T A l := by
  rcases h.2 with ⟨rfl, h0⟩ | ⟨g, cap, cur, rfl, hb, hh, _⟩
  · obtain rfl : l = [] := List.eq_nil_of_length_eq_zero h0
    exact ⟨⟨_, _, rfl, .inl rfl⟩, fun _ _ _ e => absurd rfl e⟩
  · refine ⟨⟨_, _, rfl, .inr ⟨g, rfl, hT g hb, (Array.getElem?_eq_some_iff.1 hh).1, fun j hj => ?_⟩⟩, fun b c e _ => ?_⟩
    · rw [h.cellAt j (by omega)]
      simp [hj, List.getD]
    · cases e; exact ⟨cur, _, hh⟩
theorem trimB_sub {l : List UInt8} : ∀ c ∈ trimB l, c ∈ l := fun c h => by
  unfold trimB at h
  have h1 := (List.dropWhile_sublist (p := isBl) (l := (l.reverse.dropWhile isBl).reverse)).subset h
  have h2 := (List.dropWhile_sublist (p := isBl) (l := l.reverse)).subset (List.mem_reverse.1 h1)
  exact List.mem_reverse.1 h2
theorem cutAt_sub {k : UInt8} {l a b : List UInt8} (h : cutAt k l = some (a, b)) : (∀ c ∈ a, c ∈ l) ∧ ∀ c ∈ b, c ∈ l := by
  rcases cut_index k l with ⟨_, h2⟩ | ⟨i, _, _, h3⟩
  · rw [h2] at h; cases h
  · rw [h3] at h; cases h
    exact ⟨fun c hc => List.mem_of_mem_take hc, fun c hc => List.mem_of_mem_drop hc⟩
theorem bare_sub {l : List UInt8} : ∀ c ∈ bare l, c ∈ l := fun c h => by
  unfold bare at h
  have h1 := trimB_sub c h
  cases hc : cutAt 35 l with
  | none => rw [hc] at h1; exact h1
  | some p => obtain ⟨a, b⟩ := p; rw [hc] at h1; exact (cutAt_sub hc).1 c h1
theorem label_sub {s : ASrc} {l : List UInt8} {n at_ : Nat} : ∀ c ∈ (readLabel s l n at_).2, c ∈ l := fun c h => by
  unfold readLabel at h
  cases hc : cutAt 58 l with
  | none => rw [hc] at h; exact h
  | some p => obtain ⟨a, b⟩ := p; rw [hc] at h; exact (cutAt_sub hc).2 c (trimB_sub c h)
theorem info_str : (Tryz.prog.info? 9).map (fun i => (i.zero, i.size, i.bytes)) = some (some (.string ByteArray.empty), 1, 16) := by kernel_rfl
theorem kept_grown {w w' : World} {row : Option Nat} (h : w.grownBy w' row) : Kept (fun b => row = some b) w w' := ⟨h.os, h.tape, h.output, h.size, fun k hk hs => h.block k hk (fun e => hs e.symm)⟩
end Go.Proofs.YtjjnidbggoaonaaGreatDoor
