/- Bytes listed xs a text, and back. No program. -/
import Derived.Test.YtjjnidbggoaonaaGreatDoorAsR
import Derived.Test.YtjjnidbggoaonaaGreatDoorIsaD
namespace Go.Proofs.YtjjnidbggoaonaaGreatDoor

/-- Has it nothing in what its form doesn't use? -/
def isPlain (x : Ins) : Bool := decide ((plainA x).a = x.a) && (decide ((plainA x).b = x.b) && (decide ((plainA x).c = x.c) && decide ((plainA x).imm = x.imm)))
theorem plainA_op (x : Ins) : (plainA x).op = x.op := by
  unfold plainA; simp only; repeat' split
  all_goals rfl
theorem isPlain_iff {x : Ins} : isPlain x = true ↔ plainA x = x := by
  unfold isPlain
  simp only [Bool.and_eq_true, decide_eq_true_eq]
  constructor
  · rintro ⟨h1, h2, h3, h4⟩
    have h0 := plainA_op x
    generalize plainA x = y at *
    cases x; cases y; simp_all
  · intro h; rw [h]; simp
/-- The number of eight bytes, the highest first. -/
def beU (B : Nat → Int) : Nat := (((((((((B 0).toNat * 256 + (B 1).toNat) * 256 + (B 2).toNat) * 256 + (B 3).toNat) * 256 + (B 4).toNat) * 256 + (B 5).toNat) * 256 + (B 6).toNat) * 256 + (B 7).toNat))
def wordPre : List UInt8 := [46, 119, 111, 114, 100, 32, 48, 120]
/-- The line of eight bytes. -/
def lineOf (B : Nat → Int) : List UInt8 := if (decB B).right = true ∧ isPlain (decB B) = true then insLine (decB B) else wordPre ++ hexD (beU B)
def eight (B : Nat → Int) : List Int := [B 0, B 1, B 2, B 3, B 4, B 5, B 6, B 7]
theorem dec_enc (B : Nat → Int) (hB : ∀ j, 0 ≤ B j ∧ B j ≤ 255) : (decB B).enc = eight B := by
  have h4 := hB 4; have h5 := hB 5; have h6 := hB 6; have h7 := hB 7
  have hn : 0 ≤ numB B ∧ numB B < 4294967296 := by unfold numB; omega
  unfold decB Ins.enc eight
  simp only [uns_sgn _ hn.1 hn.2]
  unfold numB
  simp only [List.cons.injEq, true_and, and_true]
  omega
theorem hdiv (h n j : Nat) (hn : n < 256) : (h * 256 + n) / 256 ^ (j + 1) = h / 256 ^ j := by
  rw [Nat.pow_succ, Nat.mul_comm (256 ^ j), ← Nat.div_div_eq_div_mul]
  congr 1; omega
theorem horner (n0 n1 n2 n3 n4 n5 n6 n7 : Nat) (h0 : n0 < 256) (h1 : n1 < 256) (h2 : n2 < 256) (h3 : n3 < 256) (h4 : n4 < 256) (h5 : n5 < 256) (h6 : n6 < 256) (h7 : n7 < 256) :
    (List.range 8).map (fun i => (((((((n0 * 256 + n1) * 256 + n2) * 256 + n3) * 256 + n4) * 256 + n5) * 256 + n6) * 256 + n7) / 256 ^ (7 - i) % 256) = [n0, n1, n2, n3, n4, n5, n6, n7] := by
  simp only [show List.range 8 = [0, 1, 2, 3, 4, 5, 6, 7] from rfl, List.map_cons, List.map_nil, Nat.reduceSub]
  have e0 : (((((((n0 * 256 + n1) * 256 + n2) * 256 + n3) * 256 + n4) * 256 + n5) * 256 + n6) * 256 + n7) / 256 ^ 7 % 256 = n0 := by
    rw [hdiv _ _ 6 h7, hdiv _ _ 5 h6, hdiv _ _ 4 h5, hdiv _ _ 3 h4, hdiv _ _ 2 h3, hdiv _ _ 1 h2, hdiv _ _ 0 h1, Nat.pow_zero, Nat.div_one]; omega
  have e1 : (((((((n0 * 256 + n1) * 256 + n2) * 256 + n3) * 256 + n4) * 256 + n5) * 256 + n6) * 256 + n7) / 256 ^ 6 % 256 = n1 := by
    rw [hdiv _ _ 5 h7, hdiv _ _ 4 h6, hdiv _ _ 3 h5, hdiv _ _ 2 h4, hdiv _ _ 1 h3, hdiv _ _ 0 h2, Nat.pow_zero, Nat.div_one]; omega
  have e2 : (((((((n0 * 256 + n1) * 256 + n2) * 256 + n3) * 256 + n4) * 256 + n5) * 256 + n6) * 256 + n7) / 256 ^ 5 % 256 = n2 := by
    rw [hdiv _ _ 4 h7, hdiv _ _ 3 h6, hdiv _ _ 2 h5, hdiv _ _ 1 h4, hdiv _ _ 0 h3, Nat.pow_zero, Nat.div_one]; omega
  have e3 : (((((((n0 * 256 + n1) * 256 + n2) * 256 + n3) * 256 + n4) * 256 + n5) * 256 + n6) * 256 + n7) / 256 ^ 4 % 256 = n3 := by
    rw [hdiv _ _ 3 h7, hdiv _ _ 2 h6, hdiv _ _ 1 h5, hdiv _ _ 0 h4, Nat.pow_zero, Nat.div_one]; omega
  have e4 : (((((((n0 * 256 + n1) * 256 + n2) * 256 + n3) * 256 + n4) * 256 + n5) * 256 + n6) * 256 + n7) / 256 ^ 3 % 256 = n4 := by
    rw [hdiv _ _ 2 h7, hdiv _ _ 1 h6, hdiv _ _ 0 h5, Nat.pow_zero, Nat.div_one]; omega
  have e5 : (((((((n0 * 256 + n1) * 256 + n2) * 256 + n3) * 256 + n4) * 256 + n5) * 256 + n6) * 256 + n7) / 256 ^ 2 % 256 = n5 := by
    rw [hdiv _ _ 1 h7, hdiv _ _ 0 h6, Nat.pow_zero, Nat.div_one]; omega
  have e6 : (((((((n0 * 256 + n1) * 256 + n2) * 256 + n3) * 256 + n4) * 256 + n5) * 256 + n6) * 256 + n7) / 256 ^ 1 % 256 = n6 := by
    rw [hdiv _ _ 0 h7, Nat.pow_zero, Nat.div_one]; omega
  have e7 : (((((((n0 * 256 + n1) * 256 + n2) * 256 + n3) * 256 + n4) * 256 + n5) * 256 + n6) * 256 + n7) / 256 ^ 0 % 256 = n7 := by
    rw [Nat.pow_zero, Nat.div_one]; omega
  rw [e0, e1, e2, e3, e4, e5, e6, e7]
theorem be8_bytes (B : Nat → Int) (hB : ∀ j, 0 ≤ B j ∧ B j ≤ 255) : be8 (sgn64 (beU B)) = eight B := by
  have e : be8 (sgn64 (beU B)) = (List.range 8).map fun i => ((beU B / 256 ^ (7 - i) % 256 : Nat) : Int) := by
    unfold be8
    refine List.map_congr_left fun i hi => ?_
    rw [be8_sgn _ i (by simpa using hi)]
    simp
  have h0 := hB 0; have h1 := hB 1; have h2 := hB 2; have h3 := hB 3; have h4 := hB 4; have h5 := hB 5; have h6 := hB 6; have h7 := hB 7
  have hh := horner (B 0).toNat (B 1).toNat (B 2).toNat (B 3).toNat (B 4).toNat (B 5).toNat (B 6).toNat (B 7).toNat (by omega) (by omega) (by omega) (by omega) (by omega) (by omega) (by omega) (by omega)
  have e2 : ((List.range 8).map fun i => ((beU B / 256 ^ (7 - i) % 256 : Nat) : Int)) = ((List.range 8).map fun i => beU B / 256 ^ (7 - i) % 256).map (fun n : Nat => (n : Int)) := by rw [List.map_map]; rfl
  rw [e, e2]
  unfold beU
  rw [hh]
  unfold eight
  simp only [List.map_cons, List.map_nil, List.cons.injEq, and_true]
  omega
theorem beU_lt (B : Nat → Int) (hB : ∀ j, 0 ≤ B j ∧ B j ≤ 255) : beU B < 18446744073709551616 := by
  have h0 := hB 0; have h1 := hB 1; have h2 := hB 2; have h3 := hB 3; have h4 := hB 4; have h5 := hB 5; have h6 := hB 6; have h7 := hB 7
  unfold beU; omega
theorem hexD_plain (u : Nat) : Plain (hexD u) := by
  refine List.all_eq_true.2 fun c hc => ?_
  have h := List.all_eq_true.1 (hexD_all u) c hc
  have h1 : ∀ c : UInt8, hexB c = true → plainC c = true := by
    intro c h
    have h2 : ∀ d : Nat, d < 256 → hexB (UInt8.ofNat d) = true → plainC (UInt8.ofNat d) = true := by decide +kernel
    have := h2 c.toNat (UInt8.toNat_lt c)
    rw [UInt8.ofNat_toNat] at this
    exact this h
  exact h1 c h
theorem hexD_len (u : Nat) (k : Nat) (h : u < 16 ^ (k + 1)) : (hexD u).length ≤ k + 1 := by
  induction k generalizing u with
  | zero => rw [hexD, dif_pos (by simpa using h)]; simp
  | succ k ih =>
    rw [hexD]
    by_cases h1 : u < 16
    · rw [dif_pos h1]; simp
    · rw [dif_neg h1, List.length_append]
      have := ih (u / 16) (by rw [Nat.div_lt_iff_lt_mul (by omega)]; rw [Nat.pow_succ] at h; exact h)
      simp; omega
theorem bare_plainline {w : List UInt8} (hw : Plain w) (hw0 : w ≠ []) {xs : List (List UInt8)} (h : ∀ a ∈ xs, Plain a) (h0 : ∀ a ∈ xs, a ≠ []) : bare (lineWA w xs) = lineWA w xs := by
  have := bare_line (m := lineWA w xs) (pre := []) (suf := []) (com := []) (line_nmem hw h (.inl rfl)) (line_ends hw hw0 h h0).1 (line_ends hw hw0 h h0).2.1 rfl rfl (.inl rfl)
  simpa using this
theorem makes_word (u : Nat) (hu : u < 18446744073709551616) : Makes (wordPre ++ hexD u) (be8 (sgn64 u)) := by
  have hw : Plain wordW := by unfold Plain; decide
  have ha : ∀ a ∈ [48 :: 120 :: hexD u], Plain a := fun a h => by
    rw [List.mem_singleton] at h; subst h
    exact Plain.cons (by decide) (Plain.cons (by decide) (hexD_plain u))
  have ha0 : ∀ a ∈ [48 :: 120 :: hexD u], a ≠ [] := fun a h => by rw [List.mem_singleton] at h; subst h; simp
  have e : wordPre ++ hexD u = lineWA wordW [48 :: 120 :: hexD u] := by simp [wordPre, lineWA, wordW, tailA]
  rw [e]
  have hb := bare_plainline hw (by decide) ha ha0
  refine .inr ⟨?_, ?_, ?_, by simp [be8], fun labels f n at_ hf => ?_⟩
  · rw [hb]; exact (line_ends hw (by decide) ha ha0).2.2
  · rw [hb]; exact line_nmem hw ha (.inr (.inl rfl))
  · rw [hb, wordOf_line hw]; decide
  · rw [hb, wordOf_line hw, argsOf_line hw ha]
    unfold makeA
    simp only
    rw [if_neg (by decide), if_pos (by decide), numA_hex u hu]
    exact ⟨failF_ok hf n, rfl⟩
theorem makes_line (B : Nat → Int) (hB : ∀ j, 0 ≤ B j ∧ B j ≤ 255) : Makes (lineOf B) (eight B) := by
  unfold lineOf
  split
  · rename_i h
    rw [← dec_enc B hB]
    have hn : 0 ≤ numB B ∧ numB B < 4294967296 := by have h4 := hB 4; have h5 := hB 5; have h6 := hB 6; have h7 := hB 7; unfold numB; omega
    have hs := sgn_bd _ hn.1 hn.2
    obtain ⟨e1, e2, e3, e4⟩ := insLine_ends (decB B) h.1
    refine makes_ins (decB B) h.1 hs.1 hs.2 (isPlain_iff.1 h.2) _ ?_
    have := bare_line (m := insLine (decB B)) (pre := []) (suf := []) (com := []) e1 e3 e4 rfl rfl (.inl rfl)
    simpa using this
  · rw [← be8_bytes B hB]
    exact makes_word _ (beU_lt B hB)
theorem lineOf_nl (B : Nat → Int) : (10 : UInt8) ∉ lineOf B := by
  unfold lineOf
  split
  · rename_i h; exact (insLine_ends _ h.1).2.1
  · intro h
    rcases List.mem_append.1 h with h | h
    · revert h; decide
    · exact (hexD_plain _).nmem (by decide) h
theorem insLine_len (x : Ins) (hr : x.right = true) (h0 : -2147483648 ≤ x.imm) (h1 : x.imm ≤ 2147483647) : (insLine x).length ≤ 80 := by
  obtain ⟨⟨o0, o1⟩, ⟨a0, a1⟩, ⟨b0, b1⟩, ⟨c0, c1⟩⟩ := Ins.right_spec hr
  have hw : ∀ k, k < 43 → (nm k).length ≤ 6 := by decide +kernel
  have l0 := hw (x.op.toNat - 1) (by omega)
  have l2 := Lib.itoa_length_le (n := x.a) (by omega) (by omega)
  have l3 := Lib.itoa_length_le (n := x.b) (by omega) (by omega)
  have l4 := Lib.itoa_length_le (n := x.c) (by omega) (by omega)
  have l5 := Lib.itoa_length_le (n := x.imm) (by omega) (by omega)
  unfold insLine rT
  simp only
  repeat' split
  all_goals (try simp only [List.length_append, List.length_cons, List.length_nil])
  all_goals omega
theorem lineOf_len (B : Nat → Int) (hB : ∀ j, 0 ≤ B j ∧ B j ≤ 255) : (lineOf B).length ≤ 80 := by
  unfold lineOf
  split
  · rename_i h
    have hn : 0 ≤ numB B ∧ numB B < 4294967296 := by have h4 := hB 4; have h5 := hB 5; have h6 := hB 6; have h7 := hB 7; unfold numB; omega
    have hs := sgn_bd _ hn.1 hn.2
    exact insLine_len _ h.1 hs.1 hs.2
  · have := hexD_len (beU B) 15 (by have := beU_lt B hB; simpa using this)
    simp [wordPre]; omega

/-- Lines, each with its end. -/
def joinL (ls : List (List UInt8)) : List UInt8 := (ls.map (· ++ [10])).flatten
theorem joinL_snoc (ls : List (List UInt8)) (l : List UInt8) : joinL (ls ++ [l]) = joinL ls ++ (l ++ [10]) := by simp [joinL]
theorem parts_join : ∀ (ls : List (List UInt8)) (rest : List UInt8), (∀ l ∈ ls, (10 : UInt8) ∉ l) → partsAt 10 (joinL ls ++ rest) = ls ++ partsAt 10 rest
  | [], rest, _ => rfl
  | l :: ls, rest, h => by
    have e : joinL (l :: ls) ++ rest = l ++ 10 :: (joinL ls ++ rest) := by simp [joinL]
    rw [e, partsAt_some _ (h l List.mem_cons_self), parts_join ls rest fun x hx => h x (List.mem_cons_of_mem _ hx)]
    rfl
/-- The list of bytes, in eights. -/
def listB (B : Nat → Nat → Int) (n : Nat) : List UInt8 := joinL ((List.range n).map fun i => lineOf (B i))
theorem joinL_len (k : Nat) : ∀ (ls : List (List UInt8)), (∀ l ∈ ls, l.length ≤ k) → (joinL ls).length ≤ (k + 1) * ls.length
  | [], _ => by simp [joinL]
  | l :: ls, h => by
    have e : joinL (l :: ls) = l ++ [10] ++ joinL ls := by simp [joinL]
    have h1 := h l List.mem_cons_self
    have h2 := joinL_len k ls fun x hx => h x (List.mem_cons_of_mem _ hx)
    rw [e]
    simp only [List.length_append, List.length_cons, List.length_nil]
    rw [Nat.mul_add]; omega
theorem makes_nil : Makes [] [] := .inl ⟨rfl, rfl⟩
theorem assemble_list (B : Nat → Nat → Int) (n : Nat) (hn : n ≤ 50) (hB : ∀ i j, 0 ≤ B i j ∧ B i j ≤ 255) : assemble (listB B n) = (((List.range n).map fun i => eight (B i)).flatten, 0, 0) := by
  have hlen : (listB B n).length ≤ 81 * n := by
    have := joinL_len 80 ((List.range n).map fun i => lineOf (B i)) (fun l hl => by
      obtain ⟨i, _, rfl⟩ := List.mem_map.1 hl
      exact lineOf_len _ (hB i))
    simpa [listB] using this
  have hp : partsAt 10 (listB B n) = ((List.range n).map fun i => lineOf (B i)) ++ [[]] := by
    have := parts_join ((List.range n).map fun i => lineOf (B i)) [] (fun l hl => by
      obtain ⟨i, _, rfl⟩ := List.mem_map.1 hl
      exact lineOf_nl _)
    rw [List.append_nil] at this
    exact this
  have hfl : ((((List.range n).map fun i => eight (B i)) ++ [[]]).flatten : List Int) = ((List.range n).map fun i => eight (B i)).flatten := by simp
  have hb8 : ∀ m, (((List.range m).map fun i => eight (B i)).flatten : List Int).length = 8 * m := by
    intro m
    induction m with
    | zero => rfl
    | succ m ih => rw [List.range_succ, List.map_append, List.flatten_append, List.length_append, ih]; simp [eight]; omega
  have := assemble_makes (bs := ((List.range n).map fun i => eight (B i)) ++ [[]]) hp (by omega) (by simp; omega) (by simp) (fun i t b h1 h2 => by
    rcases Nat.lt_trichotomy i n with hi | hi | hi
    · rw [List.getElem?_append_left (by simpa using hi)] at h1 h2
      simp [hi] at h1 h2
      rw [← h1, ← h2]; exact makes_line _ (hB i)
    · subst hi
      rw [List.getElem?_append_right (by simp)] at h1 h2
      simp at h1 h2
      rw [h1, h2]; exact makes_nil
    · rw [List.getElem?_append_right (by simp; omega)] at h1
      simp [show ¬ (i - n = 0) by omega] at h1) (by rw [hfl, hb8]; omega)
  rw [this, hfl]
end Go.Proofs.YtjjnidbggoaonaaGreatDoor
