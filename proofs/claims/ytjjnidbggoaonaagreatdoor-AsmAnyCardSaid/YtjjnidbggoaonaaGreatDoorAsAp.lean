/- What any text is assembled to: bytes within the bounds, or a fault with a line that there is. No program. -/
import Derived.Test.YtjjnidbggoaonaaGreatDoorAsM
namespace Go.Proofs.YtjjnidbggoaonaaGreatDoor

/-- A fault has a line of the first n. -/
def okF (n : Nat) (f : Nat × Nat) : Prop := f.1 ≠ 0 → 1 ≤ f.2 ∧ f.2 ≤ n
theorem okF.fail {n : Nat} {f : Nat × Nat} (h : okF n f) (k : Nat) {m : Nat} (h1 : 1 ≤ m) (h2 : m ≤ n) : okF n (failF f k m) := by
  unfold failF
  split
  · exact fun _ => ⟨h1, h2⟩
  · exact h
section
variable {n m : Nat} {f : Nat × Nat} (h : okF n f) (h1 : 1 ≤ m) (h2 : m ≤ n)
include h h1 h2
theorem okF_reg (a : List UInt8) : okF n (regA f a m).1 := by
  unfold regA; split
  · exact h
  · exact h.fail _ h1 h2
theorem okF_imm (a : List UInt8) : okF n (immA f a m).1 := h.fail _ h1 h2
theorem okF_there (labels : List (List UInt8 × Nat)) (a : List UInt8) (at_ : Nat) : okF n (thereA labels f a m at_).1 := by
  unfold thereA; split
  · split
    · exact h
    · exact h.fail _ h1 h2
  · exact okF_imm h h1 h2 a
theorem okF_regs (args : List (List UInt8)) (k i : Nat) : okF n (regsOf f args m k i).1 := by
  unfold regsOf; split
  · exact okF_reg h h1 h2 _
  · exact h
theorem okF_mem (x : Ins) (a : List UInt8) : okF n (memA f x a m).1 := by
  unfold memA; split
  · exact h.fail _ h1 h2
  · split
    · exact okF_imm (okF_reg h h1 h2 _) h1 h2 _
    · exact h.fail _ h1 h2
end
theorem okF_operands {n : Nat} {f : Nat × Nat} (h : okF n f) (labels : List (List UInt8 × Nat)) (op : Nat) (l : ALine) (h1 : 1 ≤ l.n) (h2 : l.n ≤ n) : okF n (operandsA labels f op l).1 := by
  have hr := okF_regs (okF_regs (okF_regs h h1 h2 l.args (regsA (formA op)) 0) h1 h2 l.args (regsA (formA op)) 1) h1 h2 l.args (regsA (formA op)) 2
  unfold operandsA
  simp only
  split
  · exact h.fail _ h1 h2
  · split
    · exact okF_imm hr h1 h2 _
    · split
      · exact okF_mem hr h1 h2 _ _
      · split
        · exact okF_there hr h1 h2 _ _ _
        · exact hr
theorem okF_make {n : Nat} {f : Nat × Nat} (h : okF n f) (labels : List (List UInt8 × Nat)) (l : ALine) (h1 : 1 ≤ l.n) (h2 : l.n ≤ n) : okF n (makeA labels f l).1 := by
  unfold makeA
  split
  · simp only
    split
    · exact h
    · exact h.fail _ h1 h2
  · split
    · split
      · exact h.fail _ h1 h2
      · exact h.fail _ h1 h2
    · simp only
      split
      · exact h.fail _ h1 h2
      · exact okF_operands h _ _ _ h1 h2
theorem okF_all {n : Nat} (labels : List (List UInt8 × Nat)) : ∀ (ls : List ALine) (f : Nat × Nat) (out : List Int), okF n f → (∀ l ∈ ls, 1 ≤ l.n ∧ l.n ≤ n) → okF n (makeAll labels f ls out).1
  | [], f, out, h, _ => h
  | l :: r, f, out, h, hl => by
    unfold makeAll
    have h0 := hl l List.mem_cons_self
    split
    · exact okF_all labels r _ _ (okF_make h labels l h0.1 h0.2) fun x hx => hl x (List.mem_cons_of_mem _ hx)
    · exact okF_all labels r f out h fun x hx => hl x (List.mem_cons_of_mem _ hx)

/-- What a text is while it is read. -/
structure RI (n : Nat) (s : ASrc) (at_ : Nat) : Prop where
  ok : okF n (s.fk, s.fl)
  ln : ∀ l ∈ s.lines, (1 ≤ l.n ∧ l.n ≤ n) ∧ (l.word ≠ zeroW → l.len = 1)
  at0 : at_ = min ((s.lines.map (·.len)).sum) 1048576
theorem RI.fail {n : Nat} {s : ASrc} {at_ : Nat} (h : RI n s at_) (k : Nat) {m : Nat} (h1 : 1 ≤ m) (h2 : m ≤ n) : RI n (s.fail k m) at_ :=
  ⟨h.ok.fail k h1 h2, h.ln, h.at0⟩
theorem RI.label {n : Nat} {s : ASrc} {at_ : Nat} (h : RI n s at_) (t : List UInt8) {m : Nat} (h1 : 1 ≤ m) (h2 : m ≤ n) (b : Nat) : RI n (readLabel s t m b).1 at_ := by
  unfold readLabel
  split
  · exact h
  · simp only
    split
    · exact ⟨(h.fail 3 h1 h2).ok, h.ln, h.at0⟩
    · split
      · exact ⟨h.ok, h.ln, h.at0⟩
      · exact ⟨(h.fail 10 h1 h2).ok, h.ln, h.at0⟩
theorem RI.len {n : Nat} {s : ASrc} {at_ : Nat} (h : RI n s at_) (word : List UInt8) (args : List (List UInt8)) {m : Nat} (h1 : 1 ≤ m) (h2 : m ≤ n) : RI n (lenOf s word args m).1 at_ ∧ (word ≠ zeroW → (lenOf s word args m).2 = 1) := by
  unfold lenOf
  split
  · split
    · rename_i hw
      refine ⟨?_, fun hne => absurd hw hne⟩
      simp only
      split
      · exact h.fail _ h1 h2
      · split
        · exact h.fail _ h1 h2
        · exact h
    · exact ⟨h, fun _ => rfl⟩
  · exact ⟨h, fun _ => rfl⟩
theorem RI.read {n : Nat} {s : ASrc} {at_ : Nat} (h : RI n s at_) (text : List UInt8) {m : Nat} (h1 : 1 ≤ m) (h2 : m ≤ n) : RI n (readA s text m at_).1 (readA s text m at_).2 := by
  have hl := h.label (bare text) h1 h2 at_
  unfold readA
  simp only
  split
  · exact hl
  · obtain ⟨hq, hw⟩ := hl.len (wordOf (readLabel s (bare text) m at_).2) (argsOf (readLabel s (bare text) m at_).2) h1 h2
    refine ⟨hq.ok, fun l hm => ?_, ?_⟩
    · rcases List.mem_append.1 hm with hm | hm
      · exact hq.ln l hm
      · rw [List.mem_singleton] at hm
        subst hm
        exact ⟨⟨h1, h2⟩, hw⟩
    · simp only [List.map_append, List.map_cons, List.map_nil, List.sum_append, List.sum_cons, List.sum_nil]
      have := hq.at0
      omega
theorem RI.all {n : Nat} : ∀ (ls : List (List UInt8)) {s : ASrc} {at_ m : Nat}, RI n s at_ → 1 ≤ m → m + ls.length ≤ n + 1 → RI n (readAll s ls m at_).1 (readAll s ls m at_).2
  | [], s, at_, m, h, _, _ => h
  | l :: r, s, at_, m, h, h1, h2 => by
    simp only [List.length_cons] at h2
    unfold readAll
    exact RI.all r (h.read l h1 (by omega)) (by omega) (by omega)

theorem failF_zero {f : Nat × Nat} {k m : Nat} (h : (failF f k m).1 = 0) (hk : k ≠ 0) : False := by
  unfold failF at h
  split at h
  · exact hk h
  · contradiction
theorem make_bytes (labels : List (List UInt8 × Nat)) (f : Nat × Nat) (l : ALine) (hl : l.word ≠ zeroW → l.len = 1) (h : (makeA labels f l).1.1 = 0) : (makeA labels f l).2.length = 8 * l.len := by
  unfold makeA at h ⊢
  split
  · simp
  · rename_i hz
    rw [if_neg hz] at h
    rw [hl hz]
    split
    · rename_i hw
      rw [if_pos hw] at h
      split
      · simp [be8]
      · exfalso
        rename_i hn
        revert h
        split
        · rename_i a ha; exact absurd ha (hn a)
        · exact fun h => failF_zero h (by decide)
    · rename_i hw
      rw [if_neg hw] at h
      simp only at h ⊢
      split
      · rename_i ho
        rw [if_pos ho] at h
        exact (failF_zero h (by decide)).elim
      · simp [Ins.enc]
theorem makeAll_bad (labels : List (List UInt8 × Nat)) : ∀ (ls : List ALine) (f : Nat × Nat) (out : List Int), f.1 ≠ 0 → makeAll labels f ls out = (f, out)
  | [], _, _, _ => rfl
  | l :: r, f, out, h => by
    unfold makeAll
    rw [if_neg h]
    exact makeAll_bad labels r f out h
theorem all_bytes (labels : List (List UInt8 × Nat)) : ∀ (ls : List ALine) (f : Nat × Nat) (out : List Int), (∀ l ∈ ls, l.word ≠ zeroW → l.len = 1) → (makeAll labels f ls out).1.1 = 0 → (makeAll labels f ls out).2.length = out.length + 8 * (ls.map (·.len)).sum
  | [], f, out, _, _ => by simp [makeAll]
  | l :: r, f, out, hl, h => by
    unfold makeAll at h ⊢
    by_cases hf : f.1 = 0
    · rw [if_pos hf] at h ⊢
      have h1 : (makeA labels f l).1.1 = 0 := by
        refine Classical.byContradiction fun hne => ?_
        rw [makeAll_bad labels r _ _ hne] at h
        exact hne h
      have h2 := make_bytes labels f l (hl l List.mem_cons_self) h1
      rw [all_bytes labels r _ _ (fun x hx => hl x (List.mem_cons_of_mem _ hx)) h, List.length_append, h2]
      simp only [List.map_cons, List.sum_cons]
      omega
    · rw [if_neg hf, makeAll_bad labels r f out hf] at h
      exact absurd h hf
/-- How many lines there are. -/
def nlines (l : List UInt8) : Nat := (l.filter (· == 10)).length + 1
theorem parts_nlines : ∀ l : List UInt8, (partsAt 10 l).length = nlines l
  | [] => rfl
  | x :: r => by
    have ih := parts_nlines r
    unfold nlines at ih ⊢
    rw [partsAt, List.filter_cons]
    cases hx : x == (10 : UInt8)
    · simp only [Bool.false_eq_true, if_false]
      split
      · rename_i e; rw [e] at ih; simp at ih
      · rename_i p ps e; rw [e] at ih; simpa using ih
    · simp only [if_true, List.length_cons]
      omega
/-- Any text: bytes within the bounds, or a fault with its line. -/
theorem any_plain (text : List UInt8) :
    ((assemble text).2.1 = 0 → (assemble text).2.2 = 0 ∧ (assemble text).1.length % 8 = 0 ∧ (assemble text).1.length ≤ 1024) ∧
    ((assemble text).2.1 ≠ 0 → (assemble text).1 = [] ∧ (assemble text).2.2 ≤ nlines text ∧ (0 < (assemble text).2.2 ∨ (assemble text).2.1 = 7)) := by
  have hI := RI.all (n := nlines text) (partsAt 10 text) (s := ⟨[], [], 0, 0⟩) (at_ := 0) (m := 1) ⟨fun h => absurd rfl h, fun l hl => (by cases hl), rfl⟩ (by omega) (by rw [parts_nlines]; omega)
  unfold assemble
  split
  · exact ⟨fun h => by simp at h, fun _ => ⟨rfl, by simp, .inr rfl⟩⟩
  · simp only
    generalize readAll ⟨[], [], 0, 0⟩ (partsAt 10 text) 1 0 = p at hI
    split
    · exact ⟨fun h => by simp at h, fun _ => ⟨rfl, by simp, .inr rfl⟩⟩
    · rename_i hbig
      have hok := okF_all p.1.labels p.1.lines (p.1.fk, p.1.fl) [] hI.ok fun l hl => (hI.ln l hl).1
      have hby := all_bytes p.1.labels p.1.lines (p.1.fk, p.1.fl) [] fun l hl => (hI.ln l hl).2
      have hz : (makeAll p.1.labels (p.1.fk, p.1.fl) p.1.lines []).1.1 = 0 → p.1.fk = 0 := fun h => Classical.byContradiction fun hne => by
        rw [makeAll_bad p.1.labels p.1.lines (p.1.fk, p.1.fl) [] hne] at h
        exact hne h
      generalize makeAll p.1.labels (p.1.fk, p.1.fl) p.1.lines [] = q at hok hby hz
      split
      · rename_i hq
        exact ⟨fun h => absurd h hq, fun _ => ⟨rfl, (hok hq).2, .inl (hok hq).1⟩⟩
      · rename_i hq
        have hq0 : q.1.1 = 0 := by omega
        have h1 := hby hq0
        have h2 := hz hq0
        have h3 := hI.at0
        simp only [List.length_nil, Nat.zero_add] at h1
        exact ⟨fun _ => ⟨rfl, by simp only; omega, by simp only; omega⟩, fun h => by simp at h⟩
end Go.Proofs.YtjjnidbggoaonaaGreatDoor
