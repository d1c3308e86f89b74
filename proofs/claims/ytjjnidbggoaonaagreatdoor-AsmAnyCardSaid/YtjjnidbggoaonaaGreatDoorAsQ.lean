/- What a text of plain lines makes: the bytes of its lines, one behind the other. No program. -/
import Derived.Test.YtjjnidbggoaonaaGreatDoorAsP
namespace Go.Proofs.YtjjnidbggoaonaaGreatDoor

/-- A line that makes these eight bytes, or none at all, whatever stands around it. -/
def Makes (t : List UInt8) (b : List Int) : Prop :=
  (bare t = [] ∧ b = []) ∨
  (bare t ≠ [] ∧ 58 ∉ bare t ∧ wordOf (bare t) ≠ zeroW ∧ b.length = 8 ∧
    ∀ labels f n at_, f.1 = 0 → (makeA labels f ⟨n, wordOf (bare t), argsOf (bare t), at_, 1⟩).1.1 = 0 ∧ (makeA labels f ⟨n, wordOf (bare t), argsOf (bare t), at_, 1⟩).2 = b)
/-- A line as it was read, that makes these bytes. -/
def Made (al : ALine) (b : List Int) : Prop := ∀ labels f, f.1 = 0 → (makeA labels f al).1.1 = 0 ∧ (makeA labels f al).2 = b
theorem lenOf_one {s : ASrc} {word : List UInt8} (h : word ≠ zeroW) (args : List (List UInt8)) (n : Nat) : lenOf s word args n = (s, 1) := by
  unfold lenOf
  split
  · rw [if_neg h]
  · rfl
theorem readLabel_no {s : ASrc} {t : List UInt8} (h : (58 : UInt8) ∉ t) (n at_ : Nat) : readLabel s t n at_ = (s, t) := by
  unfold readLabel; rw [cutAt_none h]
theorem read_makes {t : List UInt8} {b : List Int} (h : Makes t b) (s : ASrc) (n at_ : Nat) :
    (b = [] ∧ readA s t n at_ = (s, at_)) ∨ (b.length = 8 ∧ ∃ al, readA s t n at_ = ({ s with lines := s.lines ++ [al] }, min (at_ + 1) 1048576) ∧ Made al b) := by
  rcases h with ⟨h1, h2⟩ | ⟨h1, h2, h3, h4, h5⟩
  · refine .inl ⟨h2, ?_⟩
    unfold readA
    rw [h1, readLabel_no (by simp)]
    rfl
  · refine .inr ⟨h4, ⟨n, wordOf (bare t), argsOf (bare t), at_, 1⟩, ?_, fun labels f hf => h5 labels f n at_ hf⟩
    unfold readA
    rw [readLabel_no h2]
    simp only
    rw [if_neg h1, lenOf_one h3]
theorem makeAll_nil (labels : List (List UInt8 × Nat)) (f : Nat × Nat) (out : List Int) : makeAll labels f [] out = (f, out) := rfl
/-- Lines that make bytes, read and made. -/
theorem all_makes : ∀ (ts : List (List UInt8)) (bs : List (List Int)), ts.length = bs.length → (∀ (i : Nat) (t : List UInt8) (b : List Int), ts[i]? = some t → bs[i]? = some b → Makes t b) → ∀ (s : ASrc) (n at_ : Nat), at_ + ts.length ≤ 1048576 →
    ∃ als at', readAll s ts n at_ = ({ s with lines := s.lines ++ als }, at') ∧ 8 * at' = 8 * at_ + bs.flatten.length ∧ at' ≤ at_ + ts.length ∧
      ∀ labels f out, f.1 = 0 → (makeAll labels f als out).1.1 = 0 ∧ (makeAll labels f als out).2 = out ++ bs.flatten
  | [], [], _, _, s, n, at_, _ => ⟨[], at_, by simp [readAll], by simp, by simp, fun labels f out hf => ⟨hf, by simp [makeAll]⟩⟩
  | t :: ts, b :: bs, hl, h, s, n, at_, hat => by
    have h0 := h 0 t b rfl rfl
    simp only [List.length_cons] at hl hat
    have hr := fun (i : Nat) (t : List UInt8) (b : List Int) (h1 : ts[i]? = some t) (h2 : bs[i]? = some b) => h (i + 1) t b (by simpa using h1) (by simpa using h2)
    rcases read_makes h0 s n at_ with ⟨rfl, hrd⟩ | ⟨h8, al, hrd, hm⟩
    · obtain ⟨als, at', e1, e2, e4, e3⟩ := all_makes ts bs (by omega) hr s (n + 1) at_ (by omega)
      refine ⟨als, at', ?_, ?_, by simp only [List.length_cons]; omega, ?_⟩
      · unfold readAll; rw [hrd]; exact e1
      · rw [e2]; simp
      · simpa using e3
    · obtain ⟨als, at', e1, e2, e4, e3⟩ := all_makes ts bs (by omega) hr { s with lines := s.lines ++ [al] } (n + 1) (at_ + 1) (by omega)
      refine ⟨al :: als, at', ?_, ?_, by simp only [List.length_cons]; omega, ?_⟩
      · unfold readAll; rw [hrd, Nat.min_eq_left (by omega)]; simp only; rw [e1]; simp
      · rw [e2]; simp [h8]; omega
      · intro labels f out hf
        obtain ⟨m1, m2⟩ := hm labels f hf
        unfold makeAll
        rw [if_pos hf, m2]
        obtain ⟨k1, k2⟩ := e3 labels (makeA labels f al).1 (out ++ b) m1
        exact ⟨k1, by rw [k2]; simp⟩
/-- A text whose lines make bytes. -/
theorem assemble_makes {text : List UInt8} {ts : List (List UInt8)} {bs : List (List Int)} (ht : partsAt 10 text = ts) (hl : text.length ≤ 16384) (hn : ts.length ≤ 100000) (h0 : ts.length = bs.length)
    (h : ∀ (i : Nat) (t : List UInt8) (b : List Int), ts[i]? = some t → bs[i]? = some b → Makes t b) (hb : bs.flatten.length ≤ 1024) : assemble text = (bs.flatten, 0, 0) := by
  obtain ⟨als, at', e1, e2, _, e3⟩ := all_makes ts bs h0 h ⟨[], [], 0, 0⟩ 1 0 (by omega)
  unfold assemble
  rw [if_neg (by omega), ht, e1]
  simp only
  rw [if_neg (by omega)]
  obtain ⟨m1, m2⟩ := e3 [] (0, 0) [] rfl
  simp only [List.nil_append] at m1 m2 ⊢
  rw [if_neg (by rw [m1]; simp), m2]

theorem num_spell (l : List UInt8) (h : ∀ c ∈ l, 48 ≤ c.toNat ∧ c.toNat ≤ 57) : spell 10 l = num l := by
  have : ∀ (l : List UInt8) (a : Nat), (∀ c ∈ l, 48 ≤ c.toNat ∧ c.toNat ≤ 57) → l.foldl (fun a c => a * 10 + digV c) a = l.foldl (fun r c => r * 10 + (c.toNat - 48)) a := by
    intro l
    induction l with
    | nil => intros; rfl
    | cons c r ih =>
      intro a h
      have hc := h c List.mem_cons_self
      have hd : digV c = c.toNat - 48 := by unfold digV; rw [if_pos (by rw [UInt8.le_iff_toNat_le]; exact hc.2)]
      rw [List.foldl_cons, List.foldl_cons, hd]
      exact ih _ fun x hx => h x (List.mem_cons_of_mem _ hx)
  exact this l 0 h
theorem digB_of {c : UInt8} (h : 48 ≤ c.toNat ∧ c.toNat ≤ 57) : digB c = true := by
  unfold digB
  rw [Bool.and_eq_true, decide_eq_true_eq, decide_eq_true_eq, UInt8.le_iff_toNat_le, UInt8.le_iff_toNat_le]
  exact h
theorem numParts_digits {l : List UInt8} (h : ∀ c ∈ l, 48 ≤ c.toNat ∧ c.toNat ≤ 57) : numParts l = (l, false, 10) := by
  unfold numParts
  split
  · have := h 45 List.mem_cons_self; simp at this
  · have := h 120 (by simp); simp at this
  · rfl
/-- A decimal number, read. -/
theorem numA_itoa (x : Int) (h0 : -9223372036854775808 ≤ x) (h1 : x ≤ 9223372036854775807) : numA (Lib.itoa x) = (x, 0) := by
  by_cases hx : x < 0
  · have e : Lib.itoa x = 45 :: Lib.decDigits x.natAbs := by unfold Lib.itoa; rw [if_pos hx]
    have hp : numParts (Lib.itoa x) = (Lib.decDigits x.natAbs, true, 10) := by rw [e]; rfl
    have hd := dec_digit x.natAbs
    have hall : (Lib.decDigits x.natAbs).all digB = true := List.all_eq_true.2 fun c hc => digB_of (hd c hc)
    unfold numA
    rw [hp]
    simp only [if_true]
    rw [if_neg (dec_ne _), if_neg (by rw [hall]; simp), num_spell _ hd, num_dec, if_neg (by simp; omega)]
    simp; omega
  · have e : Lib.itoa x = Lib.decDigits x.natAbs := by unfold Lib.itoa; rw [if_neg hx, show x.toNat = x.natAbs by omega]
    have hd := dec_digit x.natAbs
    have hp : numParts (Lib.itoa x) = (Lib.decDigits x.natAbs, false, 10) := by rw [e]; exact numParts_digits hd
    have hall : (Lib.decDigits x.natAbs).all digB = true := List.all_eq_true.2 fun c hc => digB_of (hd c hc)
    unfold numA
    rw [hp]
    simp only [if_true]
    rw [if_neg (dec_ne _), if_neg (by rw [hall]; simp), num_spell _ hd, num_dec, if_neg (by simp; omega)]
    simp only [Bool.false_eq_true, if_false]
    unfold sgn64
    rw [if_pos (by omega)]
    simp; omega

/-- Digits in base 16. -/
def hexC (d : Nat) : UInt8 := if d < 10 then UInt8.ofNat (48 + d) else UInt8.ofNat (87 + d)
def hexD (u : Nat) : List UInt8 := if _h : u < 16 then [hexC u] else hexD (u / 16) ++ [hexC (u % 16)]
termination_by u
decreasing_by omega
theorem hexC_all : ∀ d, d < 16 → hexB (hexC d) = true ∧ digV (hexC d) = d := by decide
theorem hexD_ne (u : Nat) : hexD u ≠ [] := by rw [hexD]; split <;> simp
theorem hexD_all (u : Nat) : (hexD u).all hexB = true := by
  induction u using Nat.strongRecOn with
  | _ u ih =>
    rw [hexD]
    by_cases h : u < 16
    · rw [dif_pos h, List.all_cons, (hexC_all u h).1]; rfl
    · rw [dif_neg h, List.all_append, ih (u / 16) (by omega), List.all_cons, (hexC_all _ (Nat.mod_lt _ (by omega))).1]; rfl
theorem hexD_spell (u : Nat) : spell 16 (hexD u) = u := by
  induction u using Nat.strongRecOn with
  | _ u ih =>
    rw [hexD]
    by_cases h : u < 16
    · rw [dif_pos h]
      show 0 * 16 + digV (hexC u) = u
      rw [(hexC_all u h).2]; omega
    · rw [dif_neg h]
      unfold spell at ih ⊢
      rw [List.foldl_append, ih (u / 16) (by omega)]
      show u / 16 * 16 + digV (hexC (u % 16)) = u
      rw [(hexC_all _ (Nat.mod_lt _ (by omega))).2]; omega
theorem numA_hex (u : Nat) (h : u < 18446744073709551616) : numA (48 :: 120 :: hexD u) = (sgn64 u, 0) := by
  have hp : numParts (48 :: 120 :: hexD u) = (hexD u, false, 16) := rfl
  unfold numA
  rw [hp]
  simp only [show ¬ (16 = 10) by decide, if_false]
  rw [if_neg (hexD_ne u), if_neg (by rw [hexD_all]; simp), hexD_spell, if_neg (by simp; omega)]
  simp
theorem sgn64_mod (u : Nat) : sgn64 u % 18446744073709551616 = (u : Int) % 18446744073709551616 := by
  unfold sgn64; split <;> omega
theorem be8_sgn (u : Nat) (i : Nat) (hi : i < 8) : sgn64 u / (256 ^ (7 - i) : Nat) % 256 = (u : Int) / (256 ^ (7 - i) : Nat) % 256 := by
  unfold sgn64
  split
  · rfl
  · obtain rfl | rfl | rfl | rfl | rfl | rfl | rfl | rfl : i = 0 ∨ i = 1 ∨ i = 2 ∨ i = 3 ∨ i = 4 ∨ i = 5 ∨ i = 6 ∨ i = 7 := by omega
    all_goals simp only [Nat.reducePow, Nat.reduceSub]; omega
end Go.Proofs.YtjjnidbggoaonaaGreatDoor
