/- Lines with blanks and comments make what they make without them. No program. -/
import Derived.Test.YtjjnidbggoaonaaGreatDoorAsLs
namespace Go.Proofs.YtjjnidbggoaonaaGreatDoor

theorem asm_pairs (ps : List (List UInt8 × List Int)) (h1 : ∀ p ∈ ps, Makes p.1 p.2 ∧ (10 : UInt8) ∉ p.1 ∧ p.1.length ≤ 100) (h2 : ps.length ≤ 150) (h3 : (ps.map (·.2)).flatten.length ≤ 1024) :
    assemble (joinL (ps.map (·.1))) = ((ps.map (·.2)).flatten, 0, 0) := by
  have hlen := joinL_len 100 (ps.map (·.1)) (fun l hl => by
    obtain ⟨p, hp, rfl⟩ := List.mem_map.1 hl
    exact (h1 p hp).2.2)
  rw [List.length_map] at hlen
  have hp : partsAt 10 (joinL (ps.map (·.1))) = ps.map (·.1) ++ [[]] := by
    have := parts_join (ps.map (·.1)) [] (fun l hl => by
      obtain ⟨p, hp, rfl⟩ := List.mem_map.1 hl
      exact (h1 p hp).2.1)
    rw [List.append_nil] at this
    exact this
  have hfl : (List.map (fun p : List UInt8 × List Int => p.2) ps ++ [[]]).flatten = (ps.map (·.2)).flatten := by simp
  have := assemble_makes (bs := ps.map (·.2) ++ [[]]) hp (by omega) (by simp; omega) (by simp) (fun i t b e1 e2 => by
    rcases Nat.lt_trichotomy i ps.length with hi | hi | hi
    · rw [List.getElem?_append_left (by simpa using hi)] at e1 e2
      simp [hi] at e1 e2
      rw [← e1, ← e2]; exact (h1 _ (List.getElem_mem _)).1
    · subst hi
      rw [List.getElem?_append_right (by simp)] at e1 e2
      simp at e1 e2
      rw [e1, e2]; exact makes_nil
    · rw [List.getElem?_append_right (by simp; omega)] at e1
      simp [show ¬ (i - ps.length = 0) by omega] at e1) (by rw [hfl]; exact h3)
  rw [this, hfl]

/-- What may stand ahead of a line, and behind it. -/
def preB (k : Nat) : List UInt8 := [[], [32], [9], [32, 32]].getD k []
def sufB (k : Nat) : List UInt8 := [[], [32, 35, 32, 114, 49, 44, 32, 58], [9, 35], [10, 10]].getD k []
/-- A listed instruction. -/
structure Ins.listed (y : Ins) : Prop where
  right : y.right = true
  plain : plainA y = y
  i0 : -2147483648 ≤ y.imm
  i1 : y.imm ≤ 2147483647
def pairsK (y : Ins) (k : Nat) : List (List UInt8 × List Int) :=
  if k / 4 = 3 then [(preB (k % 4) ++ insLine y, y.enc), ([], []), ([], [])] else [(preB (k % 4) ++ insLine y ++ sufB (k / 4), y.enc)]
theorem pairsK_join (y : Ins) (k : Nat) : joinL ((pairsK y k).map (·.1)) = preB (k % 4) ++ insLine y ++ sufB (k / 4) ++ [10] := by
  unfold pairsK
  split
  · rename_i h; rw [h]; simp [joinL, sufB]
  · simp [joinL]
theorem preB_len (k : Nat) : (preB (k % 4)).length ≤ 2 ∧ (preB (k % 4)).all isBl = true ∧ (10 : UInt8) ∉ preB (k % 4) := by
  have : ∀ q, q < 4 → (preB q).length ≤ 2 ∧ (preB q).all isBl = true ∧ (10 : UInt8) ∉ preB q := by decide
  exact this _ (Nat.mod_lt _ (by omega))
theorem pairsK_ok (y : Ins) (hy : y.listed) (k : Nat) (hk : k < 16) : ∀ p ∈ pairsK y k, Makes p.1 p.2 ∧ (10 : UInt8) ∉ p.1 ∧ p.1.length ≤ 100 := by
  obtain ⟨e1, e2, e3, e4⟩ := insLine_ends y hy.right
  have hl := insLine_len y hy.right hy.i0 hy.i1
  obtain ⟨p1, p2, p3⟩ := preB_len k
  have mk : ∀ suf com : List UInt8, suf.all isBl = true → (com = [] ∨ ∃ r, com = 35 :: r) → Makes (preB (k % 4) ++ insLine y ++ suf ++ com) y.enc := fun suf com h1 h2 =>
    makes_ins y hy.right hy.i0 hy.i1 hy.plain _ (bare_line e1 e3 e4 p2 h1 h2)
  have hq : k / 4 = 0 ∨ k / 4 = 1 ∨ k / 4 = 2 ∨ k / 4 = 3 := by omega
  intro p hp
  unfold pairsK at hp
  rcases hq with hq | hq | hq | hq
  · rw [hq, if_neg (by decide), List.mem_singleton] at hp
    subst hp
    have := mk [] [] rfl (.inl rfl)
    refine ⟨by simpa [sufB] using this, ?_, ?_⟩
    · simp [sufB, e2, p3]
    · simp [sufB]; omega
  · rw [hq, if_neg (by decide), List.mem_singleton] at hp
    subst hp
    have := mk [32] [35, 32, 114, 49, 44, 32, 58] rfl (.inr ⟨_, rfl⟩)
    refine ⟨by simpa [sufB] using this, ?_, ?_⟩
    · simp [sufB, e2, p3]
    · simp [sufB]; omega
  · rw [hq, if_neg (by decide), List.mem_singleton] at hp
    subst hp
    have := mk [9] [35] rfl (.inr ⟨_, rfl⟩)
    refine ⟨by simpa [sufB] using this, ?_, ?_⟩
    · simp [sufB, e2, p3]
    · simp [sufB]; omega
  · rw [hq, if_pos rfl] at hp
    simp only [List.mem_cons, List.not_mem_nil, or_false] at hp
    rcases hp with rfl | rfl | rfl
    · have := mk [] [] rfl (.inl rfl)
      refine ⟨by simpa using this, ?_, ?_⟩
      · simp [e2, p3]
      · simp; omega
    · exact ⟨makes_nil, by simp, by simp⟩
    · exact ⟨makes_nil, by simp, by simp⟩
/-- Both texts of some instructions. -/
def textS (Y : Nat → Ins) (n : Nat) : List UInt8 := joinL (((List.range n).map fun i => (insLine (Y i), (Y i).enc)).map (·.1))
def textT (Y : Nat → Ins) (K : Nat → Nat) (n : Nat) : List UInt8 := joinL (((List.range n).flatMap fun i => pairsK (Y i) (K i)).map (·.1))
def bytesS (Y : Nat → Ins) (n : Nat) : List Int := ((List.range n).map fun i => (Y i).enc).flatten
theorem joinL_append (l m : List (List UInt8)) : joinL (l ++ m) = joinL l ++ joinL m := by simp [joinL]
theorem textS_succ (Y : Nat → Ins) (n : Nat) : textS Y (n + 1) = textS Y n ++ (insLine (Y n) ++ [10]) := by
  unfold textS
  rw [List.range_succ, List.map_append, List.map_append, joinL_append]
  simp [joinL]
theorem textT_succ (Y : Nat → Ins) (K : Nat → Nat) (n : Nat) : textT Y K (n + 1) = textT Y K n ++ (preB (K n % 4) ++ insLine (Y n) ++ sufB (K n / 4) ++ [10]) := by
  unfold textT
  rw [List.range_succ, List.flatMap_append, List.map_append, joinL_append]
  congr 1
  rw [← pairsK_join]
  simp
theorem bytesS_len (Y : Nat → Ins) (n : Nat) : (bytesS Y n).length = 8 * n := by
  unfold bytesS
  induction n with
  | zero => rfl
  | succ m ih => rw [List.range_succ, List.map_append, List.flatten_append, List.length_append, ih]; simp [Ins.enc]; omega
theorem textS_asm (Y : Nat → Ins) (n : Nat) (hn : n ≤ 40) (hY : ∀ i, i < n → (Y i).listed) : assemble (textS Y n) = (bytesS Y n, 0, 0) := by
  have e : ((List.range n).map fun i => (insLine (Y i), (Y i).enc)).map (·.2) = (List.range n).map fun i => (Y i).enc := by simp
  have := asm_pairs ((List.range n).map fun i => (insLine (Y i), (Y i).enc)) (fun p hp => by
    obtain ⟨i, hi, rfl⟩ := List.mem_map.1 hp
    have hy := hY i (by simpa using hi)
    obtain ⟨e1, e2, e3, e4⟩ := insLine_ends (Y i) hy.right
    have hb : bare (insLine (Y i)) = insLine (Y i) := by
      have := bare_line (m := insLine (Y i)) (pre := []) (suf := []) (com := []) e1 e3 e4 rfl rfl (.inl rfl)
      simpa using this
    exact ⟨makes_ins _ hy.right hy.i0 hy.i1 hy.plain _ hb, e2, by have := insLine_len _ hy.right hy.i0 hy.i1; simp only; omega⟩) (by simp; omega) (by rw [e]; have := bytesS_len Y n; unfold bytesS at this; omega)
  rw [e] at this
  exact this
theorem pairs_bytes (Y : Nat → Ins) (K : Nat → Nat) (n : Nat) : (((List.range n).flatMap fun i => pairsK (Y i) (K i)).map (·.2)).flatten = bytesS Y n := by
  unfold bytesS
  induction n with
  | zero => rfl
  | succ m ih =>
    rw [List.range_succ, List.flatMap_append, List.map_append, List.flatten_append, ih, List.map_append, List.flatten_append]
    congr 1
    simp only [List.flatMap_cons, List.flatMap_nil, List.append_nil, List.map_cons, List.map_nil, List.flatten_cons, List.flatten_nil]
    unfold pairsK
    split <;> simp
theorem pairs_len (Y : Nat → Ins) (K : Nat → Nat) (n : Nat) : ((List.range n).flatMap fun i => pairsK (Y i) (K i)).length ≤ 3 * n := by
  induction n with
  | zero => simp
  | succ m ih =>
    rw [List.range_succ, List.flatMap_append, List.length_append]
    have : (pairsK (Y m) (K m)).length ≤ 3 := by unfold pairsK; split <;> simp
    simp only [List.flatMap_cons, List.flatMap_nil, List.append_nil]; omega
theorem textT_asm (Y : Nat → Ins) (K : Nat → Nat) (n : Nat) (hn : n ≤ 40) (hY : ∀ i, i < n → (Y i).listed) (hK : ∀ i, i < n → K i < 16) : assemble (textT Y K n) = (bytesS Y n, 0, 0) := by
  have := asm_pairs ((List.range n).flatMap fun i => pairsK (Y i) (K i)) (fun p hp => by
    obtain ⟨i, hi, hp⟩ := List.mem_flatMap.1 hp
    have hi' : i < n := by simpa using hi
    exact pairsK_ok (Y i) (hY i hi') (K i) (hK i hi') p hp) (by have := pairs_len Y K n; omega) (by rw [pairs_bytes]; have := bytesS_len Y n; omega)
  rw [pairs_bytes] at this
  exact this
theorem textS_len (Y : Nat → Ins) (n : Nat) (hY : ∀ i, i < n → (Y i).listed) : (textS Y n).length ≤ 81 * n := by
  induction n with
  | zero => simp [textS, joinL]
  | succ m ih =>
    have h1 := ih fun i hi => hY i (by omega)
    have hy := hY m (by omega)
    have h2 := insLine_len (Y m) hy.right hy.i0 hy.i1
    rw [textS_succ]; simp; omega
theorem sufB_len (q : Nat) : (sufB q).length ≤ 8 := by
  rcases Nat.lt_or_ge q 4 with h | h
  · have : ∀ q, q < 4 → (sufB q).length ≤ 8 := by decide
    exact this q h
  · unfold sufB; rw [List.getD, List.getElem?_eq_none (by simpa using h)]; simp
theorem textT_len (Y : Nat → Ins) (K : Nat → Nat) (n : Nat) (hY : ∀ i, i < n → (Y i).listed) : (textT Y K n).length ≤ 100 * n := by
  induction n with
  | zero => simp [textT, joinL]
  | succ m ih =>
    have h1 := ih fun i hi => hY i (by omega)
    have hy := hY m (by omega)
    have h2 := insLine_len (Y m) hy.right hy.i0 hy.i1
    have h3 := (preB_len (K m)).1
    have h4 := sufB_len (K m / 4)
    rw [textT_succ]; simp; omega
theorem preB_asc (q : Nat) : AscL (preB q) := by
  rcases Nat.lt_or_ge q 4 with h | h
  · have : ∀ q, q < 4 → ∀ c ∈ preB q, c.toNat < 128 := by decide
    exact this q h
  · unfold preB; rw [List.getD, List.getElem?_eq_none (by simpa using h)]; intro c hc; cases hc
theorem sufB_asc (q : Nat) : AscL (sufB q) := by
  rcases Nat.lt_or_ge q 4 with h | h
  · have : ∀ q, q < 4 → ∀ c ∈ sufB q, c.toNat < 128 := by decide
    exact this q h
  · unfold sufB; rw [List.getD, List.getElem?_eq_none (by simpa using h)]; intro c hc; cases hc
theorem asc_nl : AscL [10] := by unfold AscL; decide
theorem textS_asc (Y : Nat → Ins) (n : Nat) (hY : ∀ i, i < n → (Y i).listed) : AscL (textS Y n) := by
  induction n with
  | zero => intro c hc; simp [textS, joinL] at hc
  | succ m ih => rw [textS_succ]; exact (ih fun i hi => hY i (by omega)).append ((ascL_ins _ (hY m (by omega)).right).append asc_nl)
theorem textT_asc (Y : Nat → Ins) (K : Nat → Nat) (n : Nat) (hY : ∀ i, i < n → (Y i).listed) : AscL (textT Y K n) := by
  induction n with
  | zero => intro c hc; simp [textT, joinL] at hc
  | succ m ih => rw [textT_succ]; exact (ih fun i hi => hY i (by omega)).append ((((preB_asc _).append (ascL_ins _ (hY m (by omega)).right)).append (sufB_asc _)).append asc_nl)
end Go.Proofs.YtjjnidbggoaonaaGreatDoor
