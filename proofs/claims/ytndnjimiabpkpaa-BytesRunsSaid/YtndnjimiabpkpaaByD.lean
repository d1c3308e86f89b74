/- Parts of a list of bytes, and what a copy or a store makes of it; two segments behind a write and behind a change of size. -/
import Derived.Test.YtndnjimiabpkpaaByC
import Derived.Test.YtndnjimiabpkpaaSgE
import Derived.Test.YtndnjimiabpkpaaSgF
namespace Go.Proofs.Ytndnjimiabpkpaa
open Go.RowKit
attribute [local irreducible] World.setCell World.alloc World.drew World.setRow Calls Code.wp row

theorem row_sub {X : Value} {N : Nat} {D : Nat → Int} {w : World} {lo : Nat} (h : RowIn w lo X N D) (q m : Nat) (hqm : q + m ≤ N) (hN : N ≤ 1024) :
    ∃ xa : Option Addr, (∀ w, (Instr.slice 32 X (some (.int .i64 q)) (some (.int .i64 ((q : Int) + m))) none).run Try.prog w = .ok (.slice xa m (N - q)) w) ∧
      (0 < m → ∃ g, X.ownBlock = some g ∧ xa = some ⟨g, q, none⟩) ∧ ∀ w' E, RowIn w' lo X N E → BytesIn w' xa m (fun j => E (q + j)) := by
  have hq0 : (0 : Int) ≤ q := by omega
  have hqm1 : (q : Int) ≤ (q : Int) + m := by omega
  have hqm2 : (q : Int) + m ≤ N := by omega
  have e1 : ((q : Int) + m).toNat = q + m := by omega
  rcases h with ⟨rfl, rfl⟩ | ⟨g, rfl, hg, hb⟩
  · obtain rfl : q = 0 := by omega
    obtain rfl : m = 0 := by omega
    refine ⟨none, fun w => ?_, fun h => absurd h (by omega), fun w' E _ => .inl rfl⟩
    go_simp; try rfl
  · obtain ⟨o, ho⟩ : ∃ o : Nat, (if N = q then 0 else q) = o := ⟨_, rfl⟩
    refine ⟨some ⟨g, o, none⟩, fun w => ?_, fun h => ?_, fun w' E hw' => ?_⟩
    · rw [← ho]
      go_simp
      rw [← ho]; split <;> rfl
    · rw [if_neg (by omega)] at ho
      subst ho
      exact ⟨g, rfl, rfl⟩
    · rcases hw' with ⟨e, _⟩ | ⟨g', e, hg', hb'⟩
      · cases e
      · have e' : (Value.slice (some ⟨g, 0, none⟩) N N).ownBlock = (Value.slice (some ⟨g', 0, none⟩) N N).ownBlock := by rw [e]
        have e'' : some g = some g' := e'
        cases e''
        by_cases hm : m = 0
        · exact .inl hm
        · rw [if_neg (by omega)] at ho
          subst ho
          exact .inr ⟨g, q, rfl, fun j hj => hb'.rowAt (q + j) (by omega)⟩
theorem row_from {X : Value} {N : Nat} {D : Nat → Int} {w : World} {lo : Nat} (h : RowIn w lo X N D) (q : Nat) (hqm : q ≤ N) (hN : N ≤ 1024) :
    ∃ xa : Option Addr, (∀ w, (Instr.slice 32 X (some (.int .i64 q)) none none).run Try.prog w = .ok (.slice xa (N - q) (N - q)) w) ∧
      (q < N → ∃ g, X.ownBlock = some g ∧ xa = some ⟨g, q, none⟩) := by
  have hq0 : (0 : Int) ≤ q := by omega
  have hqm2 : (q : Int) ≤ N := by omega
  rcases h with ⟨rfl, rfl⟩ | ⟨g, rfl, hg, hb⟩
  · obtain rfl : q = 0 := by omega
    refine ⟨none, fun w => ?_, fun h => absurd h (by omega)⟩
    go_simp; try rfl
  · obtain ⟨o, ho⟩ : ∃ o : Nat, (if N = q then 0 else q) = o := ⟨_, rfl⟩
    refine ⟨some ⟨g, o, none⟩, fun w => ?_, fun h => ?_⟩
    · rw [← ho]
      go_simp
      rw [← ho]; split <;> rfl
    · rw [if_neg (by omega)] at ho
      subst ho
      exact ⟨g, rfl, rfl⟩
theorem row_whole {X : Value} {N : Nat} {D : Nat → Int} {w : World} {lo : Nat} (h : RowIn w lo X N D) : ∃ xa, X = .slice xa N N ∧ (0 < N → ∃ g, X.ownBlock = some g ∧ xa = some ⟨g, 0, none⟩) ∧ ∀ w' E, RowIn w' lo X N E → BytesIn w' xa N E := by
  rcases h with ⟨rfl, rfl⟩ | ⟨g, rfl, hg, hb⟩
  · exact ⟨none, rfl, fun h => absurd h (by omega), fun _ _ _ => .inl rfl⟩
  · refine ⟨_, rfl, fun _ => ⟨g, rfl, rfl⟩, fun w' E hw' => ?_⟩
    rcases hw' with ⟨e, _⟩ | ⟨g', e, hg', hb'⟩
    · cases e
    · have e' : (Value.slice (some ⟨g, 0, none⟩) N N).ownBlock = (Value.slice (some ⟨g', 0, none⟩) N N).ownBlock := by rw [e]
      have e'' : some g = some g' := e'
      cases e''
      exact .inr ⟨g, 0, rfl, fun j hj => by rw [Nat.zero_add]; exact hb'.rowAt j hj⟩

/-- copy into a part of a list of bytes. -/
theorem wpList_copy_rowIn {w : World} {ops : Array Oper} {rest : List Oper} {o : Oper} {a : Act} {Q : Exit → Act → World → Prop} (hgd : o.guard = none) (d s : Operand)
    (ho : o.op = .call { callee := .builtin .copy, args := #[d, s], argTypes := #[32, 32] }) {X : Value} {N : Nat} {D B : Nat → Int} {lo : Nat} (q m dLen dCap sLen sCap : Nat) (dp sp : Option Addr)
    (h : RowIn w lo X N D) (hd : a.eval d = .slice dp dLen dCap) (hs : a.eval s = .slice sp sLen sCap) (hmin : m = Nat.min sLen dLen) (hb : BytesIn w sp m B) (hqm : q + m ≤ N) (hdp : 0 < m → ∃ g, X.ownBlock = some g ∧ dp = some ⟨g, q, none⟩)
    (hk : ∀ w', Hid (Kept (fun k => X.ownBlock = some k) w w') → Hid (RowIn w' lo X N (fun j => if q ≤ j ∧ j < q + m then B (j - q) else D j)) → wpList Try.prog ops Q rest (a.put o.dst (goInt m)) w') : wpList Try.prog ops Q (o :: rest) a w := by
  by_cases hm : m = 0
  · subst hm
    refine wpList_copy_nothing hgd d s _ _ ho 5 Try.underlying32 (by kernel_rfl) _ _ _ _ _ _ hd hs hmin.symm ?_
    exact hk w (Kept.refl _ _) (h.congr fun j _ => by rw [if_neg (by omega)])
  · obtain ⟨g, hg, rfl⟩ := hdp (by omega)
    obtain ⟨bb, bo, rfl, hbb⟩ := hb.resolve_left hm
    rcases h with ⟨rfl, _⟩ | ⟨g', rfl, hg', hbl⟩
    · cases hg
    · obtain rfl : g' = g := by injection hg
      have hl : ((List.range m).map (fun j => Value.int .u8 (B j))).length = m := by simp
      refine wpList_copy_own hgd d s _ _ ho 5 Try.underlying32 (by kernel_rfl) g' q _ _ ⟨bb, bo, none⟩ _ _ hd hs _ _ hbl ((List.range m).map fun j => Value.int .u8 (B j)) (by rw [hl]; exact hmin) (copy_src hbb) (by rw [row_size, hl]; exact hqm) (fun v hv => by obtain ⟨j, _, rfl⟩ := List.mem_map.1 hv; rfl) ?_
      rw [hl]
      refine hk _ (Kept.setRow (S := fun k => (Value.slice (some ⟨g', 0, none⟩) N N).ownBlock = some k) (Kept.refl _ w) (.inr rfl) _) (.inr ⟨g', rfl, hg', ?_⟩)
      refine Blk.cells (hbl.setRow _) ?_
      have := row_splice N (fun j => Value.int .u8 (D j)) q ((List.range m).map fun j => Value.int .u8 (B j)) (fun j => .int .u8 (B j)) (range_get m B) (by rw [hl]; exact hqm)
      rw [hl] at this
      rw [this]
      refine row_congr fun j _ => ?_
      by_cases c : q ≤ j ∧ j < q + m
      · simp [if_pos c]
      · simp [if_neg c]
/-- .. at a step of a region that draws its order. -/
theorem step_copy_rowIn {w : World} {ops : Array Oper} {o : Oper} {a : Act} {K : Act → World → Prop} {Q : Exit → Act → World → Prop} {Z : Prop} (hgd : o.guard = none) (d s : Operand)
    (ho : o.op = .call { callee := .builtin .copy, args := #[d, s], argTypes := #[32, 32] }) {X : Value} {N : Nat} {D B : Nat → Int} {lo : Nat} (q m dLen dCap sLen sCap : Nat) (dp sp : Option Addr)
    (h : RowIn w lo X N D) (hd : a.eval d = .slice dp dLen dCap) (hs : a.eval s = .slice sp sLen sCap) (hmin : m = Nat.min sLen dLen) (hb : BytesIn w sp m B) (hqm : q + m ≤ N) (hdp : 0 < m → ∃ g, X.ownBlock = some g ∧ dp = some ⟨g, q, none⟩)
    (hk : ∀ w', Hid (Kept (fun k => X.ownBlock = some k) w w') → Hid (RowIn w' lo X N (fun j => if q ≤ j ∧ j < q + m then B (j - q) else D j)) → K (a.put o.dst (goInt m)) w') :
    if Region.wanted o (yielded ops a.tmps) = true then Oper.wp Try.prog o a w K Q else Z := by
  have hw : Region.wanted o (yielded ops a.tmps) = true := by simp [Region.wanted, hgd]
  rw [if_pos hw]
  by_cases hm : m = 0
  · subst hm
    have hrun := run_copy_none (P := Try.prog) w 32 32 o.type 5 dp sp dLen dCap sLen sCap Try.underlying32 (by kernel_rfl) hmin.symm
    unfold Oper.wp
    simp [execOp, ho, resolve, invoke, builtin, hd, hs, hrun, Result.andThen]
    exact hk w (Kept.refl _ _) (h.congr fun j _ => by rw [if_neg (by omega)])
  · obtain ⟨g, hg, rfl⟩ := hdp (by omega)
    obtain ⟨bb, bo, rfl, hbb⟩ := hb.resolve_left hm
    rcases h with ⟨rfl, _⟩ | ⟨g', rfl, hg', hbl⟩
    · cases hg
    · obtain rfl : g' = g := by injection hg
      have hl : ((List.range m).map (fun j => Value.int .u8 (B j))).length = m := by simp
      have hrun := run_copy_row (P := Try.prog) w 32 32 o.type 5 g' q dLen dCap ⟨bb, bo, none⟩ sLen sCap _ _ ((List.range m).map fun j => Value.int .u8 (B j)) Try.underlying32 (by kernel_rfl) hbl (by rw [hl]; exact hmin) (copy_src hbb) (by rw [row_size, hl]; exact hqm) (fun v hv => by obtain ⟨j, _, rfl⟩ := List.mem_map.1 hv; rfl)
      rw [hl] at hrun
      unfold Oper.wp
      simp [execOp, ho, resolve, invoke, builtin, hd, hs, hrun, Result.andThen]
      have e := row_splice N (fun j => Value.int .u8 (D j)) q ((List.range m).map fun j => Value.int .u8 (B j)) (fun j => .int .u8 (B j)) (range_get m B) (by rw [hl]; exact hqm)
      rw [hl] at e
      refine hk _ (Kept.setRow (S := fun k => (Value.slice (some ⟨g', 0, none⟩) N N).ownBlock = some k) (Kept.refl _ w) (.inr rfl) _) (.inr ⟨g', rfl, hg', ?_⟩)
      refine Blk.cells (hbl.setRow _) ?_
      refine Eq.trans (by simp) (e.trans (row_congr fun j _ => ?_))
      by_cases c : q ≤ j ∧ j < q + m
      · simp [if_pos c]
      · simp [if_neg c]
theorem bytesIn_own {w : World} {base m : Nat} {B : Nat → Int} {v : Value} (h : w.ownsRow base 5 1 v m ((List.range m).map fun j => Value.int .u8 (B j))) : ∃ A c, v = .slice A m c ∧ BytesIn w A m B := by
  rcases h.2 with ⟨e, h0⟩ | ⟨g, cap, cur, e, _⟩
  · exact ⟨none, 0, by rw [e, h0], .inl h0⟩
  · subst e
    refine ⟨_, _, rfl, .inr ⟨g, 0, rfl, fun j hj => ?_⟩⟩
    rw [Nat.zero_add, h.cellAt j (by omega)]; simp [hj]
set_option maxRecDepth 20000 in
/-- append(nil, bytes...) at a step of a region that draws its order. -/
theorem step_append_bytes {w0 w : World} {ops : Array Oper} {o : Oper} {a : Act} {K : Act → World → Prop} {Q : Exit → Act → World → Prop} {Z : Prop} (hgd : o.guard = none) (x : Operand)
    (ho : o.op = .call { callee := .builtin .append, args := #[.const (.slice none 0 0), x], argTypes := #[32, 32] }) {B : Nat → Int} (A : Option Addr) (m c : Nat) (hx : a.eval x = .slice A m c) (hb : BytesIn w A m B) (hm : m ≤ 1024) (h0 : Below w0.heap.size w0 w)
    (hk : ∀ A' c' w', Hid (BytesIn w' A' m B) → Hid (Below w0.heap.size w0 w') → K (a.put o.dst (.slice A' m c')) w') :
    if Region.wanted o (yielded ops a.tmps) = true then Oper.wp Try.prog o a w K Q else Z := by
  have hw : Region.wanted o (yielded ops a.tmps) = true := by simp [Region.wanted, hgd]
  rw [if_pos hw]
  obtain ⟨i, hi, hz, hs, hby⟩ : ∃ i, Try.prog.info? 5 = some i ∧ i.zero = some (.int .u8 0) ∧ i.size = 1 ∧ i.bytes = 1 := info_parts (by kernel_rfl)
  have hown : w.ownsRow w.heap.size 5 1 (.slice none 0 0) 0 [] := World.ownsRow_nil _ _ _ _
  have hrun : ∃ v' w', (Builtin.append_ #[32, 32] o.type #[.slice none 0 0, .slice A m c]).run Try.prog w = .ok v' w' ∧ w'.ownsRow w.heap.size 5 1 v' m ((List.range m).map fun j => Value.int .u8 (B j)) ∧ w.grownBy w' none := by
    by_cases hA : A = none
    · subst hA
      have hm0 : m = 0 := hb.resolve_right (by rintro ⟨_, _, e, _⟩; cases e)
      subst hm0
      refine ⟨.slice none 0 0, w, ?_, by simpa using hown, World.grownBy.refl w _⟩
      simp [Builtin.append_, run_underlying Try.underlying32, sizeOf, typeInfo, hi, Builtin.lenOf, Builtin.firstCells]
    · obtain ⟨ad, rfl⟩ : ∃ ad, A = some ad := by
        cases A with
        | none => exact absurd rfl hA
        | some ad => exact ⟨ad, rfl⟩
      have hcl : ∀ j u, ((List.range m).map fun j => Value.int .u8 (B j))[j]? = some u → w.cell? (ad.add j) = some u := by
        intro j u hu
        have hj : j < m := by
          rcases Nat.lt_or_ge j m with h' | h'
          · exact h'
          · rw [List.getElem?_eq_none (by simpa using h')] at hu; cases hu
        rcases hb with h | ⟨b, o, e, hcell⟩
        · omega
        · injection e with e; subst e
          exact copy_src (B := B) hcell j u hu
      obtain ⟨v', w', h1, h2, h3, _⟩ := run_append_own (P := Try.prog) w w.heap.size 32 o.type 5 i (.int .u8 0) 1 1 Try.underlying32 hi hz hs hby rfl (by omega) (.slice none 0 0) 0 [] hown ad m c ((List.range m).map fun j => Value.int .u8 (B j)) (by simp) hcl (fun v hv => by obtain ⟨j, _, rfl⟩ := List.mem_map.1 hv; rfl) (by unfold maxLen; omega) (by omega) (Nat.le_refl _)
      exact ⟨v', w', h1, by simpa using h2, h3⟩
  obtain ⟨v', w', hr, h2, h3⟩ := hrun
  obtain ⟨A', c', rfl, hb'⟩ := bytesIn_own h2
  have hbel : Below w0.heap.size w0 w' := h0.trans (Below.mono (Below.grown (Below.refl w.heap.size w) h3 (Nat.le_refl _) (fun k hk => by cases hk)) h0.size)
  unfold Oper.wp execOp
  have hec : a.eval (.const (.slice none 0 0)) = .slice none 0 0 := rfl
  simp only [ho, resolve, invoke, builtin, Sem.run_bind, Sem.run_pure, Result.andThen_ok, List.map_toArray, List.map_cons, List.map_nil, hec, hx, hr]
  exact hk A' c' w' hb' hbel
/-- A byte of it is stored. -/
theorem RowIn.store {w : World} {lo : Nat} {X : Value} {N : Nat} {D : Nat → Int} {g : Nat} (h : RowIn w lo X N D) (hg : X.ownBlock = some g) (q : Nat) (b : Int) : RowIn (w.setCell ⟨g, q, none⟩ (.int .u8 b)) lo X N (fun j => if j = q then b else D j) := by
  rcases h with ⟨rfl, _⟩ | ⟨g', rfl, hg', hbl⟩
  · cases hg
  · obtain rfl : g' = g := by injection hg
    refine .inr ⟨g', rfl, hg', Blk.cells (hbl.set q _) ?_⟩
    rw [row_set]
    refine row_congr fun j _ => ?_
    by_cases c : j = q
    · simp [c]
    · simp [c]

section
variable {w w2 w3 : World} {base sb mb pb db ob lo : Nat} {v x : Nat → Value} {L : Nat → List Int} {P P2 : Pool}
theorem Two.nps (h : Two w base sb mb pb db ob lo v x L P) : ∀ g, lo ≤ g → ¬ PS pb db ob g := by
  have := h.sg.lp; have := h.sg.sl; intro g hg; rintro (e | e | e) <;> omega
theorem Two.nmb (h : Two w base sb mb pb db ob lo v x L P) : ¬ PS pb db ob mb := by
  have := h.lm; rintro (e | e | e) <;> omega
/-- A segment's size changes. -/
theorem Two.sized {i n : Nat} {v' : Value} {L' : List Int} (h : Two w base sb mb pb db ob lo v x L P) (hi : i < 2) (hR : Resized w w2 sb i pb db ob (duo v) lo (v i) (L i) P ((i : Int) + 1) n v' L' P2) : Segs w2 sb pb db ob lo (upd v i v') (upd L i L') P2 ∧ P2.left + (upd L i L' 0).length + (upd L i L' 1).length = 20 := by
  have hvl := fun k hk => (h.sg.fr k hk).lt
  have hsz := hR.kept.size
  have hlo := h.sg.hlo
  have hsl := h.sg.sl; have hlp := h.sg.lp
  have nother : ∀ k, k < 2 → k ≠ i → ∀ g, (v k).ownBlock = some g → ¬ RS pb db ob sb (v i) g := fun k hk e g hg hr => by
    have := (hvl k hk g hg).1
    rcases hr with (e1 | e1 | e1) | e1 | e1
    · omega
    · omega
    · omega
    · omega
    · exact h.sg.vv k i hk hi e g hg e1
  refine ⟨⟨hR.pool, ?_, ?_, ?_, ?_, ?_, h.sg.sl, h.sg.lp, Nat.le_trans hlo hsz⟩, ?_⟩
  · have := hR.seg.hb; rw [duo_set v i hi] at this; exact this
  · intro k hk
    by_cases e : k = i
    · subst e; rw [upd_same, upd_same]; exact hR.seg.hv
    · rw [upd_ne _ _ _ _ e, upd_ne _ _ _ _ e]; exact (h.sg.fr k hk).kept hR.kept (nother k hk e)
  · intro k hk
    by_cases e : k = i
    · subst e; rw [upd_same]; exact hR.seg.h16
    · rw [upd_ne _ _ _ _ e]; exact h.sg.h16 k hk
  · intro k hk
    by_cases e : k = i
    · subst e; rw [upd_same]; exact hR.inn
    · rw [upd_ne _ _ _ _ e]; exact hR.mv.segIn (h.sg.inn k hk) (by omega)
  · intro j k hj hk hne g hg
    have key : ∀ k, k < 2 → k ≠ i → ∀ g, v'.ownBlock = some g → (v k).ownBlock ≠ some g := fun k hk e g hg hk' => by
      rcases hR.own g hg with e1 | e1
      · exact h.sg.vv i k hi hk (fun q => e q.symm) g e1 hk'
      · have := (hvl k hk g hk').2; omega
    by_cases e : j = i
    · subst e
      rw [upd_same] at hg
      rw [upd_ne _ _ _ _ (fun q => hne q.symm)]
      exact key k hk (fun q => hne q.symm) g hg
    · rw [upd_ne _ _ _ _ e] at hg
      by_cases e' : k = i
      · subst e'
        rw [upd_same]
        exact fun q => key j hj e g q hg
      · rw [upd_ne _ _ _ _ e']
        exact h.sg.vv j k hj hk hne g hg
  · have h1 := hR.left; have h2 := hR.len; have h3 := h.left
    obtain rfl | rfl : i = 0 ∨ i = 1 := by omega
    · rw [upd_same, upd_ne L 0 1 L' (by omega)]; omega
    · rw [upd_same, upd_ne L 1 0 L' (by omega)]; omega
theorem Segs.kept {S : Nat → Prop} (h : Segs w sb pb db ob lo v L P) (k : Kept S w w2) (h1 : ¬ S pb) (h2 : ¬ S db) (h3 : ¬ S ob) (h4 : ¬ S sb) (h5 : ∀ i, i < 2 → ∀ g, (v i).ownBlock = some g → ¬ S g) : Segs w2 sb pb db ob lo v L P :=
  ⟨h.pool.kept k h1 h2 h3, k.blk h.hb h4, fun i hi => (h.fr i hi).kept k (h5 i hi), h.h16, h.inn, h.vv, h.sl, h.lp, Nat.le_trans h.hlo k.size⟩
/-- A segment's size changes, and its list is another one, in a new block. -/
theorem Two.resized {i n g0 : Nat} {v' X : Value} {L' : List Int} {D : Nat → Int} (h : Two w base sb mb pb db ob lo v x L P) (hi : i < 2) (hR : Resized w w2 sb i pb db ob (duo v) lo (v i) (L i) P ((i : Int) + 1) n v' L' P2)
    (hb : Below w2.heap.size w2 w3) (hX : X.ownBlock = some g0) (hg0 : w2.heap.size ≤ g0) (hrow : RowIn w3 lo X (n * 64) D) (hD : ∀ j, j < n * 64 → D j = if j < (L i).length * 64 then segD P (L i) j else 0) :
    Two (w3.setCell ⟨mb, i, none⟩ X) base sb mb pb db ob lo (upd v i v') (upd x i X) (upd L i L') P2 := by
  obtain ⟨s1, hleft⟩ := h.sized hi hR
  have hlt := fun k hk => (h.ls.r k hk).lt
  have hvl := fun k hk => (s1.fr k hk).lt
  have hvo := fun k hk => (h.sg.fr k hk).lt
  have hlo := h.nps
  have hml := h.ls.ml; have hsl := h.sg.sl; have hlp := h.sg.lp; have hlm := h.lm
  have hsz := hR.kept.size
  have s2 := s1.below hb
  have hK3 : Kept (fun k => k = mb) w3 (w3.setCell ⟨mb, i, none⟩ X) := (Kept.refl (fun k => k = mb) w3).setIn mb i X rfl
  have nrs : ∀ k, k < 2 → ∀ g, (x k).ownBlock = some g → ¬ RS pb db ob sb (v i) g := fun k hk g hg hr => by
    have := (hlt k hk g hg).1
    rcases hr with (e1 | e1 | e1) | e1 | e1
    · omega
    · omega
    · omega
    · omega
    · exact h.vx i k hi hk g e1 hg
  have nmb : ¬ RS pb db ob sb (v i) mb := by
    rintro ((e1 | e1 | e1) | e1 | e1)
    · omega
    · omega
    · omega
    · omega
    · have := (hvo i hi mb e1).1; omega
  refine ⟨s2.kept hK3 (by omega) (by omega) (by omega) (by omega) (fun k hk g hg => by have := (hvl k hk g hg).1; omega), ⟨?_, fun k hk => ?_, ?_, h.ls.ml⟩, ?_, h.lm, hleft, h.bs⟩
  · have := ((hR.kept.blk h.ls.hb nmb).below hb (by have := h.ls.hb.lt; omega)).set i X
    rw [duo_set x i hi] at this; exact this
  · by_cases e : k = i
    · subst e
      show RowIn _ _ (upd x k X k) ((upd L k L' k).length * 64) (segD P2 (upd L k L' k))
      rw [upd_same, upd_same, hR.len]
      refine (hrow.kept hK3 (fun g hg => ?_)).congr fun j hj => ?_
      · have := (hrow.lt g hg).1; omega
      · rw [hR.data j hj]; exact hD j hj
    · show RowIn _ _ (upd x i X k) ((upd L i L' k).length * 64) (segD P2 (upd L i L' k))
      rw [upd_ne _ _ _ _ e, upd_ne _ _ _ _ e]
      refine RowIn.congr (D := fun j => segD P (L k) j) ((((h.ls.r k hk).kept hR.kept (nrs k hk)).kept (S := fun _ => False) (Kept.of_below hb) (fun _ _ h => h)).kept hK3 (fun g hg => by have := (hlt k hk g hg).1; omega)) fun j hj => ?_
      exact (hR.mv.segD (h.sg.inn k hk) (by omega) j hj).symm
  · intro j k hj hk hne g hg
    have key : ∀ k, k < 2 → (x k).ownBlock ≠ some g0 := fun k hk hk' => by have := (hlt k hk g0 hk').2; omega
    by_cases e : j = i
    · subst e
      rw [upd_same, hX] at hg
      rw [upd_ne _ _ _ _ (fun q => hne q.symm)]
      obtain rfl : g0 = g := by injection hg
      exact key k hk
    · rw [upd_ne _ _ _ _ e] at hg
      by_cases e' : k = i
      · subst e'
        rw [upd_same, hX]
        intro q
        obtain rfl : g0 = g := by injection q
        exact key j hj hg
      · rw [upd_ne _ _ _ _ e']
        exact h.ls.xx j k hj hk hne g hg
  · intro j k hj hk g hg
    by_cases e : k = i
    · subst e
      rw [upd_same, hX]
      intro q
      obtain rfl : g0 = g := by injection q
      have := (hvl j hj g0 hg).2; omega
    · rw [upd_ne _ _ _ _ e]
      by_cases e' : j = i
      · subst e'
        rw [upd_same] at hg
        rcases hR.own g hg with e1 | e1
        · exact h.vx j k hj hk g e1
        · intro q; have := (hlt k hk g q).2; omega
      · rw [upd_ne _ _ _ _ e'] at hg
        exact h.vx j k hj hk g hg
theorem run_makeBytes (n : Nat) (h : n ≤ 16) (w : World) : (Instr.makeSlice 32 (.int .i64 ((n : Int) * 64)) (.int .i64 ((n : Int) * 64))).run Try.prog w =
    .ok (.slice (some ⟨w.heap.size, 0, none⟩) (n * 64) (n * 64)) (w.alloc (.cells (row (n * 64) fun _ => .int .u8 0) 5)) := by
  obtain ⟨i, hi, hz, hs, hb⟩ : ∃ i, Try.prog.info? 5 = some i ∧ i.zero = some (.int .u8 0) ∧ i.size = 1 ∧ i.bytes = 1 :=
    info_parts (by kernel_rfl)
  have := run_make (P := Try.prog) w 32 5 i _ Try.underlying32 hi hz .i64 .i64 ((n : Int) * 64) ((n : Int) * 64) (by omega) (by omega) (by rw [hb]; omega) (by omega)
  rw [this, hs]
  have e : ((n : Int) * 64).toNat = n * 64 := by omega
  rw [e, made_row _ (.int .u8 0) _ (by simp [Value.cells]) (fun i hi => by
    simp [Value.cells] at hi ⊢; subst hi; rfl), Nat.mul_one]
/-- Bytes are written in the pool and in the list alike. -/
theorem Two.write {i q m : Nat} {B : Nat → Int} (h : Two w base sb mb pb db ob lo v x L P) (hi : i < 2) (hP : PoolAt w2 pb db ob P2) (hD : SegPut P P2 (L i) q m B) (hK : Kept (PS pb db ob) w w2)
    (hK3 : Kept (fun k => (x i).ownBlock = some k) w2 w3) (hR : RowIn w3 lo (x i) ((L i).length * 64) (fun j => if q ≤ j ∧ j < q + m then B (j - q) else segD P (L i) j)) : Two w3 base sb mb pb db ob lo v x L P2 := by
  have hlo := h.nps
  have hlt := fun k hk => (h.ls.r k hk).lt
  have hvl := fun k hk => (h.sg.fr k hk).lt
  have s1 := h.sg.put hP hD hK
  have hml := h.ls.ml; have hsl := h.sg.sl; have hlp := h.sg.lp
  have nlow : ∀ k, k < lo → ¬ (x i).ownBlock = some k := fun k hk e => by have := (hlt i hi k e).1; omega
  have s2 : Segs w3 sb pb db ob lo v L P2 := by
    refine ⟨s1.pool.kept hK3 (nlow _ (by omega)) (nlow _ (by omega)) (nlow _ (by omega)), hK3.blk s1.hb (nlow _ hsl), fun j hj => (s1.fr j hj).kept hK3 (fun g hg => h.vx j i hj hi g hg), s1.h16, s1.inn, s1.vv, s1.sl, s1.lp, Nat.le_trans s1.hlo hK3.size⟩
  refine ⟨s2, ⟨hK3.blk (hK.blk h.ls.hb h.nmb) (nlow _ hml), fun k hk => ?_, h.ls.xx, h.ls.ml⟩, h.vx, h.lm, by rw [hD.left]; exact h.left, h.bs⟩
  by_cases e : k = i
  · subst e
    refine hR.congr fun j hj => ?_
    rw [hD.D j hj]
  · refine RowIn.congr (D := fun j => segD P (L k) j) (((h.ls.r k hk).kept hK (fun g hg => hlo g (hlt k hk g hg).1)).kept hK3 (fun g hg => h.ls.xx k i hk hi e g hg)) fun j hj => ?_
    exact (hD.apart (h.sg.inn i hi) (h.sg.inn k hk) (by omega) j hj).symm
end
end Go.Proofs.Ytndnjimiabpkpaa
