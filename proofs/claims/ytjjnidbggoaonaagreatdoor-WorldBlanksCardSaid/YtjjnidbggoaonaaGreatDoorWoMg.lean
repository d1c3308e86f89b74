/- Labels merged: what is owned at rest. -/
import Derived.Test.YtjjnidbggoaonaaGreatDoorWoE
import Derived.Laws.AppendOwnNone
namespace Go.Proofs.YtjjnidbggoaonaaGreatDoor
open Go.RowKit
attribute [local irreducible] World.setCell World.alloc World.drew World.setRow Calls Code.wp
attribute [local go_sem] Oper.semAt_some

/-- What a merge makes of one category. -/
def mrg (f : Nat → Nat → Nat) (D : Nat) (p : Nat × Nat × Nat) : Option (Nat × Nat) := if f p.2.1 p.2.2 = D then none else some (p.1, f p.2.1 p.2.2)
/-- A level's function: a closure that reads its boxes alone. -/
def LevF (lv : Value) (f : Nat → Nat → Nat) (W : World) : Prop := ∃ lid caps, lv = .func (.func lid) #[] caps ∧ (∀ args w, (callFunc lid args).run Tryz.prog w = .ok (.enter lid args) w) ∧
  ∀ x y : Nat, x < 1000 → y < 1000 → Calls Tryz.prog lid (#[.int .i64 (x : Nat), .int .i64 (y : Nat)] ++ caps) W fun e W' => e = .returned (.int .i64 (f x y : Nat)) ∧ W' = W
/-- The merge's outcome so far. -/
structure OutAt (W : World) (base ob d : Nat) (ps : List (Nat × Nat)) : Prop where
  row : ∃ s, Blk W ob #[.int .i64 (d : Nat), s] 104 ∧ W.ownsRow base 144 2 s ps.length (ps.flatMap pairV)
theorem info_pair' : (Tryz.prog.info? 144).map (fun i => (i.zero, i.size, i.bytes)) = some (some (.agg #[.int .u32 0, .int .i64 0]), 2, 16) := by kernel_rfl
set_option maxRecDepth 100000 in
set_option maxHeartbeats 4000000 in
/-- The default. -/
theorem merge1_zero (f : Nat → Nat → Nat) (lb ob base d x y : Nat) (tl : TypeId) (lv : Value) (W : World) (hx : x < 1000 ∧ y < 1000) (hl : Blk W lb #[lv] tl) (hF : LevF lv f W) (ho : OutAt W base ob d []) (_ : lb ≠ ob) :
    Calls Tryz.prog 175 #[.int .u32 0, .int .i64 (x : Nat), .int .i64 (y : Nat), .pointer (some ⟨lb, 0, none⟩), .pointer (some ⟨ob, 0, none⟩)] W fun e W' => e = .returned (.bool true) ∧ OutAt W' base ob (f x y) [] ∧ Kept (· = ob) W W' := by
  obtain ⟨lid, caps, rfl, hE, hc⟩ := hF
  have Hc := Lib.hid (hc x y hx.1 hx.2)
  obtain ⟨s, h1, h2⟩ := ho.row
  have hlc := hl.cell
  have hoc := h1.cell
  have hof := h1.free
  have HF : Hid (OutAt (W.setCell ⟨ob, 0, none⟩ (.int .i64 (f x y : Nat))) base ob (f x y) []) := ⟨s, (h1.set 0 _).cells rfl, by
    refine row_kept (T := (· = ob)) h2 ((Kept.refl (· = ob) W).setIn ob 0 _ rfl) (fun b hb e => ?_)
    obtain ⟨cur, hh, _⟩ := row_type h2 hb
    rw [e] at hh
    unfold Blk at h1
    rw [h1] at hh
    simp at hh⟩
  have HK : Hid (Kept (· = ob) W (W.setCell ⟨ob, 0, none⟩ (.int .i64 (f x y : Nat)))) := (Kept.refl _ W).setIn ob 0 _ rfl
  clear hc hl ho h1 h2
  go_enter Tryz.func175, Tryz.ntmps175
  go_wp2_with fail
  refine Hc.out.mono ?_
  rintro e W1 ⟨rfl, rfl⟩
  go_wp2_with fail
  go_ret
  exact ⟨rfl, HF.out, HK.out⟩
set_option maxRecDepth 100000 in
set_option maxHeartbeats 4000000 in
/-- One more category. -/
theorem merge1_next (f : Nat → Nat → Nat) (lb ob base D c x y : Nat) (ps : List (Nat × Nat)) (tl : TypeId) (lv : Value) (W : World) (hx : x < 1000 ∧ y < 1000) (hc0 : c ≠ 0) (hps : ps.length ≤ 100000) (hbase : base ≤ W.heap.size) (hl : Blk W lb #[lv] tl) (hF : LevF lv f W) (ho : OutAt W base ob D ps) (hob : ob < base) :
    Calls Tryz.prog 175 #[.int .u32 (c : Nat), .int .i64 (x : Nat), .int .i64 (y : Nat), .pointer (some ⟨lb, 0, none⟩), .pointer (some ⟨ob, 0, none⟩)] W fun e W' => e = .returned (.bool true) ∧ OutAt W' base ob D (ps ++ (mrg f D (c, x, y)).toList) ∧ Kept (fun b => b = ob ∨ base ≤ b) W W' := by
  obtain ⟨lid, caps, rfl, hE, hc⟩ := hF
  have Hc := Lib.hid (hc x y hx.1 hx.2)
  obtain ⟨s, h1, h2⟩ := ho.row
  have hlc := hl.cell
  have hoc := h1.cell
  have hof := h1.free
  have hcb : ((c : Int) == 0) = false := by simp; omega
  obtain ⟨n, hn⟩ : ∃ n, f x y = n := ⟨_, rfl⟩
  rw [hn] at Hc
  clear hc hl
  by_cases hD : n = D
  · have hm : mrg f D (c, x, y) = none := by unfold mrg; rw [if_pos (by rw [hn]; exact hD)]
    have hnb : ((n : Int) != D) = false := by simp [hD]
    have HO := Lib.hid ho
    have Hm := Lib.hid hm
    clear hm h1 h2 ho hn
    go_enter Tryz.func175, Tryz.ntmps175
    go_wp2_with fail
    refine Hc.out.mono ?_
    rintro e W1 ⟨rfl, rfl⟩
    go_wp2_with fail
    go_ret
    exact ⟨rfl, by rw [Hm.out]; simpa using HO.out, Kept.refl _ _⟩
  · have hm : mrg f D (c, x, y) = some (c, n) := by unfold mrg; rw [if_neg (by rw [hn]; exact hD), hn]
    have hnb : ((n : Int) != D) = true := by simp; omega
    have Hm := Lib.hid hm
    obtain ⟨i0, hi, hz0, hz1, hz2⟩ := info_parts info_pair'
    have Hi := Lib.hid hi; have Hz0 := Lib.hid hz0; have Hz1 := Lib.hid hz1; have Hz2 := Lib.hid hz2
    have H1 := Lib.hid h1; have H2 := Lib.hid h2
    have Hsl : Hid (ps.length + 1 ≤ maxLen) := by show _ ≤ _; unfold maxLen; omega
    have hone : ∀ (j : Nat) (u : Value), [Value.int .u32 (c : Nat), Value.int .i64 (n : Nat)][j]? = some u → (W.alloc (.cells #[.int .u32 (c : Nat), .int .i64 (n : Nat)] 144)).cell? ((⟨W.heap.size, 0, none⟩ : Addr).add j) = some u := fun j u hu => by
      rw [Addr.add_lit, (Blk.new W #[.int .u32 (c : Nat), .int .i64 (n : Nat)] 144).cell]
      simpa using hu
    have Hone := Lib.hid hone
    have hg : ∀ w6, (W.alloc (.cells #[.int .u32 (c : Nat), .int .i64 (n : Nat)] 144)).grownBy w6 s.ownBlock → Blk w6 ob #[.int .i64 (D : Nat), s] 104 ∧ Kept (fun b => b = ob ∨ base ≤ b) W w6 := fun w6 hg => by
      have hk := kept_grown hg
      have hob2 : ¬ s.ownBlock = some ob := fun e => by
        obtain ⟨cur, hh, hb⟩ := row_type h2 e
        omega
      refine ⟨Blk.below' (h1.alloc _) hk hob2, ((Kept.refl _ W).alloc _).then hk (fun i _ e => ?_)⟩
      obtain ⟨cur, hh, hb⟩ := row_type h2 e
      exact .inr hb
    have HG := Lib.hid hg
    clear hg
    clear hm hi hz0 hz1 hz2 h1 h2 ho hn hone
    go_enter Tryz.func175, Tryz.ntmps175
    go_wp2_with fail
    refine Hc.out.mono ?_
    rintro e W1 ⟨rfl, rfl⟩
    go_wp2_with (at_builtin; refine wpList_append_own _ rfl _ _ 102 rfl base 144 i0 (.agg #[.int .u32 0, .int .i64 0]) 2 16 Tryz.underlying102 Hi.out Hz0.out Hz1.out Hz2.out rfl (by decide) _ _ _ rfl (H2.out.alloc _) ⟨W1.heap.size, 0, none⟩ 1 1 [.int .u32 (c : Nat), .int .i64 (n : Nat)] rfl rfl Hone.out (fun u hu => by simp at hu; rcases hu with rfl | rfl <;> rfl) Hsl.out (by omega) (by rw [World.size_alloc]; omega) ?_; intro v' w6 hown6 hgrow6 _; obtain ⟨h6, k6⟩ := HG.out w6 hgrow6; have hc6 := h6.cell; have hf6 := h6.free; obtain ⟨av, cv, rfl, -, -⟩ := RowAt.form (RowAt.own hown6))
    have HF : Hid (OutAt (w6.setCell ⟨ob, 1, none⟩ (.slice av (ps.length + 1) cv)) base ob D (ps ++ [(c, n)])) := ⟨.slice av (ps.length + 1) cv, (h6.set 1 _).cells rfl, by
      rw [List.length_append, List.flatMap_append]
      refine row_kept (T := (· = ob)) hown6 ((Kept.refl (· = ob) w6).setIn ob 1 _ rfl) (fun b hb e => ?_)
      obtain ⟨cur, hh, hb2⟩ := row_type hown6 hb
      omega⟩
    have HK : Hid (Kept (fun b => b = ob ∨ base ≤ b) W1 (w6.setCell ⟨ob, 1, none⟩ (.slice av (ps.length + 1) cv))) := k6.setIn ob 1 _ (.inl rfl)
    go_ret
    refine ⟨rfl, ?_, HK.out⟩
    rw [Hm.out]
    exact HF.out
theorem bothF_len (da db : Nat) : ∀ (g : Nat) (l m : List (Nat × Nat)), (bothF da db g l m).length ≤ g
  | 0, _, _ => Nat.le_refl _
  | g + 1, [], [] => Nat.zero_le _
  | g + 1, (c, x) :: r, [] => by have := bothF_len da db g r []; simp only [bothF, List.length_cons]; omega
  | g + 1, [], (e, y) :: s => by have := bothF_len da db g [] s; simp only [bothF, List.length_cons]; omega
  | g + 1, (c, x) :: r, (e, y) :: s => by
    have h1 := bothF_len da db g r ((e, y) :: s)
    have h2 := bothF_len da db g ((c, x) :: r) s
    have h3 := bothF_len da db g r s
    unfold bothF
    split
    · simp only [List.length_cons]; omega
    · split
      · simp only [List.length_cons]; omega
      · simp only [List.length_cons]; omega
theorem bothF_mem (da db : Nat) (P : Nat × Nat → Prop) : ∀ (g : Nat) (l m : List (Nat × Nat)), (∀ p ∈ l, P p) → (∀ p ∈ m, P p) → ∀ q ∈ bothF da db g l m, (∃ p, P p ∧ q.1 = p.1) ∧ (q.2.1 = da ∨ ∃ p, P p ∧ q.2.1 = p.2) ∧ (q.2.2 = db ∨ ∃ p, P p ∧ q.2.2 = p.2)
  | 0, _, _, _, _, q, hq => by cases hq
  | g + 1, [], [], _, _, q, hq => by cases hq
  | g + 1, (c, x) :: r, [], h1, h2, q, hq => by
    simp only [bothF] at hq
    rcases List.mem_cons.1 hq with rfl | hq
    · exact ⟨⟨_, h1 _ List.mem_cons_self, rfl⟩, .inr ⟨_, h1 _ List.mem_cons_self, rfl⟩, .inl rfl⟩
    · exact bothF_mem da db P g r [] (fun p hp => h1 p (List.mem_cons_of_mem _ hp)) h2 q hq
  | g + 1, [], (e, y) :: s, h1, h2, q, hq => by
    simp only [bothF] at hq
    rcases List.mem_cons.1 hq with rfl | hq
    · exact ⟨⟨_, h2 _ List.mem_cons_self, rfl⟩, .inl rfl, .inr ⟨_, h2 _ List.mem_cons_self, rfl⟩⟩
    · exact bothF_mem da db P g [] s h1 (fun p hp => h2 p (List.mem_cons_of_mem _ hp)) q hq
  | g + 1, (c, x) :: r, (e, y) :: s, h1, h2, q, hq => by
    have k1 : ∀ p ∈ r, P p := fun p hp => h1 p (List.mem_cons_of_mem _ hp)
    have k2 : ∀ p ∈ s, P p := fun p hp => h2 p (List.mem_cons_of_mem _ hp)
    unfold bothF at hq
    split at hq
    · rcases List.mem_cons.1 hq with rfl | hq
      · exact ⟨⟨_, h1 _ List.mem_cons_self, rfl⟩, .inr ⟨_, h1 _ List.mem_cons_self, rfl⟩, .inl rfl⟩
      · exact bothF_mem da db P g r _ k1 h2 q hq
    · split at hq
      · rcases List.mem_cons.1 hq with rfl | hq
        · exact ⟨⟨_, h2 _ List.mem_cons_self, rfl⟩, .inl rfl, .inr ⟨_, h2 _ List.mem_cons_self, rfl⟩⟩
        · exact bothF_mem da db P g _ s h1 k2 q hq
      · rcases List.mem_cons.1 hq with rfl | hq
        · exact ⟨⟨_, h1 _ List.mem_cons_self, rfl⟩, .inr ⟨_, h1 _ List.mem_cons_self, rfl⟩, .inr ⟨_, h2 _ List.mem_cons_self, rfl⟩⟩
        · exact bothF_mem da db P g r s k1 k2 q hq
/-- A label whose categories are none of them 0, its levels small. -/
structure LabOk (l : Lab) : Prop where
  d : l.d < 1000
  n : l.ps.length ≤ 1000
  ps : ∀ p ∈ l.ps, p.1 ≠ 0 ∧ p.2 < 1000
theorem prefix_at {α : Type} {pre l : List α} {x : α} (h : pre ++ [x] <+: l) : l[pre.length]? = some x := by
  obtain ⟨r, rfl⟩ := h
  simp
set_option maxRecDepth 100000 in
set_option maxHeartbeats 4000000 in
/-- All of both, merged into out. -/
theorem merge_both (f : Nat → Nat → Nat) (a b : Lab) (A B lb ob base : Nat) (tl : TypeId) (lv : Value) (W2 : World) (ha : LabOk a) (hb : LabOk b) (hA : LabBox W2 A a) (hB : LabBox W2 B b) (hl : Blk W2 lb #[lv] tl) (hbase : base = W2.heap.size)
    (ho : Blk W2 ob #[.int .i64 0, .slice none 0 0] 104) (hne : A ≠ ob ∧ B ≠ ob ∧ lb ≠ ob) (hF : ∀ W', Kept (fun b => b = ob ∨ base ≤ b) W2 W' → LevF lv f W') :
    Calls Tryz.prog 174 #[.func (.func 175) #[] #[.pointer (some ⟨lb, 0, none⟩), .pointer (some ⟨ob, 0, none⟩)], .pointer (some ⟨A, 0, none⟩), .pointer (some ⟨B, 0, none⟩)] W2 fun e W' =>
      e = .returned (.tuple #[]) ∧ OutAt W' base ob (Lab.merge f a b).d (Lab.merge f a b).ps ∧ Kept (fun b => b = ob ∨ base ≤ b) W2 W' := by
  have hlen : (bothL a b).length ≤ 2000 := by
    have := bothF_len a.d b.d (a.ps.length + b.ps.length) a.ps b.ps
    have h1 := ha.n; have h2 := hb.n
    unfold bothL; omega
  have hmem := bothF_mem a.d b.d (fun p => p.1 ≠ 0 ∧ p.2 < 1000) (a.ps.length + b.ps.length) a.ps b.ps ha.ps hb.ps
  have hS : ∀ (b : Nat) (cs : Array Value) (fz : Nat × Nat), (b = ob ∨ base ≤ b) → W2.heap[b]? = some (.cells cs 144 fz) → False := fun b cs fz h hh => by
    rcases h with rfl | h
    · unfold Blk at ho; rw [ho] at hh; simp at hh
    · have := (Array.getElem?_eq_some_iff.1 hh).1; omega
  have hob : ob < base := by rw [hbase]; exact ho.lt
  have hbox : ∀ (X : Nat) (l : Lab) (W' : World), LabBox W2 X l → X ≠ ob → Kept (fun b => b = ob ∨ base ≤ b) W2 W' → LabBox W' X l := fun X l W' h hX k => by
    obtain ⟨s, h1, h2⟩ := h
    have := h1.lt
    exact ⟨s, h1.below' k (fun e => e.elim hX (fun e => by omega)), RowAt.kept h2 k hS⟩
  refine (both_in a b A B 175 #[.pointer (some ⟨lb, 0, none⟩), .pointer (some ⟨ob, 0, none⟩)]
    (fun pre W' => OutAt W' base ob (if pre = [] then 0 else f a.d b.d) (pre.tail.filterMap (mrg f (f a.d b.d))) ∧ Kept (fun b => b = ob ∨ base ≤ b) W2 W') (fun _ _ => False) W2
    (enters_of Tryz.func175 (by kernel_rfl) rfl) ⟨ha.n, hb.n⟩ (fun pre W' h => ⟨hbox A a W' hA hne.1 h.2, hbox B b W' hB hne.2.1 h.2⟩)
    (fun pre W' n h => ⟨?_, h.2.trans (Kept.of_below (below_dr W' n))⟩) ?_ ⟨⟨_, ho, World.ownsRow_nil _ _ _ _⟩, Kept.refl _ _⟩).mono ?_
  · obtain ⟨s, h1, h2⟩ := h.1.row
    exact ⟨s, Blk.below h1 (below_dr W' n) h1.lt, row_kept (T := fun _ => False) h2 (Kept.of_below (below_dr W' n)) (fun _ _ e => e)⟩
  · rintro pre ⟨c, x, y⟩ W' ⟨ho', hk⟩ hpre
    have hx := prefix_at hpre
    have hlW : Blk W' lb #[lv] tl := hl.below' hk (fun e => e.elim hne.2.2 (fun e => by have := hl.lt; omega))
    cases pre with
    | nil =>
      have hx' : (0, a.d, b.d) = (c, x, y) := by simpa [bothY] using hx
      obtain ⟨rfl, rfl, rfl⟩ : 0 = c ∧ a.d = x ∧ b.d = y := by simpa using hx'
      refine (merge1_zero f lb ob base 0 a.d b.d tl lv W' ⟨ha.d, hb.d⟩ hlW (hF W' hk) ho' hne.2.2).mono ?_
      rintro e W3 ⟨rfl, h3, k3⟩
      exact .inl ⟨rfl, h3, hk.trans (k3.mono (fun _ _ e => .inl e))⟩
    | cons p0 pre =>
      have hin : (c, x, y) ∈ bothL a b := by
        have : (bothL a b)[pre.length]? = some (c, x, y) := by simpa [bothY] using hx
        exact List.mem_of_getElem? this
      obtain ⟨⟨q, hq, hc⟩, hx1, hy1⟩ := hmem _ hin
      have hxb : x < 1000 := by
        rcases hx1 with e | ⟨q, hq, e⟩
        · have := ha.d; simp only at e; omega
        · simp only at e; omega
      have hyb : y < 1000 := by
        rcases hy1 with e | ⟨q, hq, e⟩
        · have := hb.d; simp only at e; omega
        · simp only at e; omega
      have hpl : (pre.filterMap (mrg f (f a.d b.d))).length ≤ 100000 := by
        have h1 := List.length_filterMap_le (mrg f (f a.d b.d)) pre
        have h2 := hpre.length_le
        unfold bothY at h2
        simp only [List.length_append, List.length_cons] at h2
        omega
      refine (merge1_next f lb ob base (f a.d b.d) c x y _ tl lv W' ⟨hxb, hyb⟩ (by simp only at hc; rw [hc]; exact hq.1) hpl (by rw [hbase]; exact hk.size) hlW (hF W' hk) ho' hob).mono ?_
      rintro e W3 ⟨rfl, h3, k3⟩
      refine .inl ⟨rfl, ?_, hk.trans k3⟩
      have e1 : (p0 :: pre ++ [(c, x, y)]).tail.filterMap (mrg f (f a.d b.d)) = pre.filterMap (mrg f (f a.d b.d)) ++ (mrg f (f a.d b.d) (c, x, y)).toList := by
        show (pre ++ [(c, x, y)]).filterMap _ = _
        rw [List.filterMap_append]
        cases e : mrg f (f a.d b.d) (c, x, y) <;> simp [e]
      rw [e1, if_neg (by simp)]
      exact h3
  · rintro e W' ⟨rfl, h | ⟨_, _, h⟩⟩
    · refine ⟨rfl, ?_, h.2⟩
      have h1 := h.1
      rw [if_neg (by unfold bothY; simp)] at h1
      exact h1
    · exact h.elim
end Go.Proofs.YtjjnidbggoaonaaGreatDoor
