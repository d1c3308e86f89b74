/- An instruction's line makes the instruction's bytes. No program. -/
import Derived.Test.YtjjnidbggoaonaaGreatDoorAsQ
import Derived.Lib.ItoaLen
namespace Go.Proofs.YtjjnidbggoaonaaGreatDoor

theorem rT_inj {a b : Int} (h : rT a = rT b) : a = b := itoa_inj (List.cons.inj h).2
theorem regFrom_at (x : Nat) : ∀ (r g : Nat), r ≤ x → x < r + g → regFrom (114 :: Lib.itoa x) r g = some x
  | r, 0, h1, h2 => by omega
  | r, g + 1, h1, h2 => by
    unfold regFrom
    by_cases e : x = r
    · subst e; rw [if_pos rfl]
    · rw [if_neg (fun h => e (by have := itoa_inj (List.cons.inj h).2; omega)), regFrom_at x (r + 1) g (by omega) (by omega)]
theorem regA_rT (f : Nat × Nat) (r : Int) (n : Nat) (h0 : 0 ≤ r) (h1 : r < 16) : ∃ k : Nat, regA f (rT r) n = (f, k) ∧ (k : Int) = r := by
  obtain ⟨k, rfl⟩ := Int.eq_ofNat_of_zero_le h0
  refine ⟨k, ?_, rfl⟩
  unfold regA rT
  rw [regFrom_at k 0 16 (by omega) (by omega)]
theorem w32_in {x : Int} (h0 : -2147483648 ≤ x) (h1 : x ≤ 2147483647) : w32 x = x := by
  unfold w32; rw [IntKind.wrap_i32]; omega
theorem immA_itoa (f : Nat × Nat) (x : Int) (n : Nat) (h0 : -2147483648 ≤ x) (h1 : x ≤ 2147483647) : immA f (Lib.itoa x) n = (failF f 0 n, x) := by
  unfold immA
  rw [numA_itoa x (by omega) (by omega)]
  simp only [w32_in h0 h1]
  simp
theorem failF_ok {f : Nat × Nat} (h : f.1 = 0) (n : Nat) : (failF f 0 n).1 = 0 := by unfold failF; rw [if_pos h]
theorem nameB_itoa (x : Int) : nameB (Lib.itoa x) = false := by
  have hc := itoa_char x
  cases e : Lib.itoa x with
  | nil => rfl
  | cons c r =>
    have h1 := hc c (by rw [e]; exact List.mem_cons_self)
    have h2 : lowB c = false := by
      unfold lowB
      rw [Bool.and_eq_false_iff, decide_eq_false_iff_not, UInt8.le_iff_toNat_le]
      left
      show ¬ 97 ≤ c.toNat
      omega
    show (decide ((c :: r).length ≤ 20) && (lowB c && (c :: r).all nameC)) = false
    rw [h2]; simp
theorem plain_itoa (x : Int) : Plain (Lib.itoa x) := by
  refine List.all_eq_true.2 fun c hc => ?_
  have h1 := itoa_char x c hc
  have h2 : ∀ d : Nat, (d = 45 ∨ 48 ≤ d ∧ d ≤ 57) → plainC (UInt8.ofNat d) = true := by
    intro d h
    have h3 : ∀ d : Nat, d < 58 → (d = 45 ∨ 48 ≤ d) → plainC (UInt8.ofNat d) = true := by decide
    exact h3 d (by omega) (by omega)
  have := h2 c.toNat h1
  rwa [UInt8.ofNat_toNat] at this
theorem plain_rT (x : Int) : Plain (rT x) := Plain.cons (by decide) (plain_itoa x)
theorem nm_plain (k : Nat) (h : k < 43) : Plain (nm k) ∧ nm k ≠ [] ∧ nm k ≠ zeroW ∧ nm k ≠ wordW ∧ opA (nm k) = k + 1 := by
  have h1 : ∀ k, k < 43 → (nm k).all plainC = true ∧ nm k ≠ [] ∧ nm k ≠ zeroW ∧ nm k ≠ wordW ∧ opA (nm k) = k + 1 := by decide +kernel
  exact h1 k h

/-- An instruction's operands. -/
def argsI (x : Ins) : List (List UInt8) :=
  let f := formA x.op.toNat
  let k := Lib.itoa x.imm
  if f = 0 then [] else if f = 1 ∨ f = 7 then [rT x.a, k]
  else if f = 2 ∨ f = 6 then [rT x.a, rT x.b, k]
  else if f = 3 then [rT x.a, rT x.b, rT x.c]
  else if f = 4 then [rT x.a, rT x.b]
  else if f = 5 then [rT x.a, k ++ 40 :: (rT x.b ++ [41])]
  else [rT x.a]
theorem insLine_eq (x : Ins) : insLine x = lineWA (nm (x.op.toNat - 1)) (argsI x) := by
  unfold insLine argsI
  simp only
  repeat' split
  all_goals simp [lineWA, tailA]
theorem argsI_plain (x : Ins) : (∀ a ∈ argsI x, Plain a) ∧ ∀ a ∈ argsI x, a ≠ [] := by
  have hr := fun r => plain_rT r
  have hr0 : ∀ r, rT r ≠ [] := fun r => by unfold rT; simp
  have hk := plain_itoa x.imm
  have hk0 := itoa_ne x.imm
  have hm : Plain (Lib.itoa x.imm ++ 40 :: (rT x.b ++ [41])) := hk.append (Plain.cons (by decide) ((hr _).append (by unfold Plain; decide)))
  have hm0 : Lib.itoa x.imm ++ 40 :: (rT x.b ++ [41]) ≠ [] := by simp
  unfold argsI
  simp only
  refine ⟨fun a ha => ?_, fun a ha => ?_⟩
  all_goals
    repeat' split at ha
    all_goals simp only [List.mem_cons, List.not_mem_nil, or_false] at ha
    all_goals first
      | exact ha.elim
      | (rcases ha with rfl | rfl | rfl <;> first | exact hr _ | exact hk | exact hm | exact hr0 _ | exact hk0 | exact hm0)
      | (rcases ha with rfl | rfl <;> first | exact hr _ | exact hk | exact hm | exact hr0 _ | exact hk0 | exact hm0)
      | (subst ha; first | exact hr _ | exact hr0 _)
theorem formA_le (op : Nat) : formA op ≤ 8 := by unfold formA; repeat' split
                                                 all_goals omega
/-- What the operands of a plain instruction's line are. -/
theorem operands_ins (x : Ins) (hr : x.right = true) (hi0 : -2147483648 ≤ x.imm) (hi1 : x.imm ≤ 2147483647) (hp : plainA x = x) (labels : List (List UInt8 × Nat)) (f : Nat × Nat) (hf : f.1 = 0) (n at_ len : Nat) (word : List UInt8) :
    (operandsA labels f x.op.toNat ⟨n, word, argsI x, at_, len⟩).1.1 = 0 ∧ (operandsA labels f x.op.toNat ⟨n, word, argsI x, at_, len⟩).2 = x := by
  obtain ⟨⟨o0, o1⟩, ⟨a0, a1⟩, ⟨b0, b1⟩, ⟨c0, c1⟩⟩ := Ins.right_spec hr
  obtain ⟨op, a, b, c, imm⟩ := x
  simp only at o0 o1 a0 a1 b0 b1 c0 c1 hi0 hi1 ⊢
  obtain ⟨o, rfl⟩ := Int.eq_ofNat_of_zero_le (show 0 ≤ op by omega)
  have eo : ((o : Int)).toNat = o := by simp
  rw [eo]
  unfold plainA at hp
  simp only [eo] at hp
  obtain ⟨ka, ha, ea⟩ := regA_rT f a n a0 a1
  obtain ⟨kb, hb, eb⟩ := regA_rT f b n b0 b1
  obtain ⟨kc, hc, ec⟩ := regA_rT f c n c0 c1
  have him := fun f => immA_itoa f imm n hi0 hi1
  have hfm := formA_le o
  have hnm := nameB_itoa imm
  have hok := failF_ok hf n
  have hcut : cutAt 40 (Lib.itoa imm ++ 40 :: (rT b ++ [41])) = some (Lib.itoa imm, rT b ++ [41]) := cutAt_some _ (fun e => by have := itoa_char imm 40 e; simp at this)
  have htr : trimB (Lib.itoa imm) = Lib.itoa imm := by
    have := trim_plain (pre := []) (suf := []) rfl rfl (plain_itoa imm)
    simpa using this
  unfold argsI
  simp only [eo]
  obtain h | h | h | h | h | h | h | h | h : formA o = 0 ∨ formA o = 1 ∨ formA o = 2 ∨ formA o = 3 ∨ formA o = 4 ∨ formA o = 5 ∨ formA o = 6 ∨ formA o = 7 ∨ formA o = 8 := by omega
  all_goals
    unfold operandsA
    rw [h] at hp
    simp (config := { decide := true }) only [h, if_true, if_false, or_true, or_false, Ins.mk.injEq, true_and, and_true] at hp ⊢
    simp (config := { decide := true }) [wantA, regsOf, ha, hb, hc, him, hok, hf, thereA, hnm, memA, hcut, htr, List.getLast?_append, List.getD]
    try omega
theorem makes_ins (x : Ins) (hr : x.right = true) (hi0 : -2147483648 ≤ x.imm) (hi1 : x.imm ≤ 2147483647) (hp : plainA x = x) (t : List UInt8) (hb : bare t = insLine x) : Makes t x.enc := by
  obtain ⟨⟨o0, o1⟩, _⟩ := Ins.right_spec hr
  obtain ⟨hn1, hn2, hn3, hn4, hn5⟩ := nm_plain (x.op.toNat - 1) (by omega)
  obtain ⟨ha, ha0⟩ := argsI_plain x
  have hop : opA (nm (x.op.toNat - 1)) = x.op.toNat := by rw [hn5]; omega
  rw [insLine_eq] at hb
  refine .inr ⟨?_, ?_, ?_, rfl, fun labels f n at_ hf => ?_⟩
  · rw [hb]; exact (line_ends hn1 hn2 ha ha0).2.2
  · rw [hb]; exact line_nmem hn1 ha (.inr (.inl rfl))
  · rw [hb, wordOf_line hn1]; exact hn3
  · rw [hb, wordOf_line hn1, argsOf_line hn1 ha]
    obtain ⟨h1, h2⟩ := operands_ins x hr hi0 hi1 hp labels f hf n at_ 1 (nm (x.op.toNat - 1))
    unfold makeA
    simp only
    rw [if_neg hn3, if_neg hn4, hop, if_neg (by omega)]
    exact ⟨h1, by rw [h2]⟩
/-- A line with blanks around it, and a comment behind it. -/
theorem bare_line {m pre suf com : List UInt8} (hm : 35 ∉ m) (hh : ∀ c, m.head? = some c → isBl c = false) (hl : ∀ c, m.getLast? = some c → isBl c = false) (h1 : pre.all isBl = true) (h2 : suf.all isBl = true) (h3 : com = [] ∨ ∃ r, com = 35 :: r) : bare (pre ++ m ++ suf ++ com) = m := by
  have hbl : ∀ l : List UInt8, l.all isBl = true → (35 : UInt8) ∉ l := fun l h e => by have := List.all_eq_true.1 h 35 e; cases this
  have hn : (35 : UInt8) ∉ pre ++ m ++ suf := by
    simp only [List.mem_append, not_or]
    exact ⟨⟨hbl _ h1, hm⟩, hbl _ h2⟩
  unfold bare
  rcases h3 with rfl | ⟨r, rfl⟩
  · rw [List.append_nil, cutAt_none hn]; exact trim_core h1 h2 hh hl
  · rw [cutAt_some r hn]; exact trim_core h1 h2 hh hl
theorem insLine_ends (x : Ins) (hr : x.right = true) : (35 : UInt8) ∉ insLine x ∧ (10 : UInt8) ∉ insLine x ∧ (∀ c, (insLine x).head? = some c → isBl c = false) ∧ ∀ c, (insLine x).getLast? = some c → isBl c = false := by
  obtain ⟨⟨o0, o1⟩, _⟩ := Ins.right_spec hr
  obtain ⟨hn1, hn2, _⟩ := nm_plain (x.op.toNat - 1) (by omega)
  obtain ⟨ha, ha0⟩ := argsI_plain x
  rw [insLine_eq]
  exact ⟨line_nmem hn1 ha (.inl rfl), line_nmem hn1 ha (.inr (.inr rfl)), (line_ends hn1 hn2 ha ha0).1, (line_ends hn1 hn2 ha ha0).2.1⟩
end Go.Proofs.YtjjnidbggoaonaaGreatDoor
