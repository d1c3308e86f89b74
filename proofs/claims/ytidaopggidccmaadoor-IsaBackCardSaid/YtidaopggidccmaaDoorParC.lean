/- An instruction comes back from its text: plain Lean. -/
import Derived.Test.YtidaopggidccmaaDoorParB
import Derived.Test.YtidaopggidccmaaDoorDec
import Derived.Lib.ParseIntBCases
import Derived.Shelf.Strings.FieldsAny
namespace Go.Proofs.YtidaopggidccmaaDoor
open Go.RowKit

def numF (acc : Nat) (l : List UInt8) : Nat := l.foldl (fun r c => r * 10 + (c.toNat - 48)) acc
theorem numF_le : ∀ (l : List UInt8) (acc : Nat), acc ≤ numF acc l
  | [], acc => Nat.le_refl _
  | c :: l, acc => by
    have := numF_le l (acc * 10 + (c.toNat - 48))
    show acc ≤ numF (acc * 10 + (c.toNat - 48)) l
    omega
theorem parseM_ok (M : Nat) : ∀ (l : List UInt8) (acc : Nat), (∀ c ∈ l, 48 ≤ c.toNat ∧ c.toNat ≤ 57) → numF acc l ≤ M → numF acc l ≤ 4294967295 → Lib.parseUintM M acc l = .ok (numF acc l)
  | [], acc, _, _, _ => rfl
  | c :: l, acc, hd, hM, h32 => by
    have h1 := numF_le l (acc * 10 + (c.toNat - 48))
    have e : numF acc (c :: l) = numF (acc * 10 + (c.toNat - 48)) l := rfl
    rw [e] at hM h32 ⊢
    unfold Lib.parseUintM
    rw [if_pos (hd c List.mem_cons_self), if_neg (by omega), if_neg (by omega)]
    exact parseM_ok M l _ (fun d hd' => hd d (List.mem_cons_of_mem _ hd')) hM h32
theorem parseU_dec (B u : Nat) (hB : u ≤ 2 ^ B - 1) (h : u ≤ 4294967295) : Lib.parseUintB B (Lib.decDigits u) = .ok u := by
  have hn : numF 0 (Lib.decDigits u) = u := num_dec u
  unfold Lib.parseUintB
  rw [if_neg (dec_ne u), parseM_ok _ _ 0 (dec_digit u) (by rw [hn]; exact hB) (by rw [hn]; exact h), hn]
theorem parseI_itoa (B : Nat) (hB : B = 32 ∨ B = 64) (n : Int) (h0 : -2147483648 ≤ n) (h1 : n ≤ 2147483647) : Lib.parseIntB B (Lib.itoa n) = .ok n := by
  have hp : 2147483648 ≤ 2 ^ (B - 1) ∧ 4294967295 ≤ 2 ^ B - 1 := by rcases hB with rfl | rfl <;> decide
  unfold Lib.itoa
  by_cases hn : n < 0
  · rw [if_pos hn, Lib.parseIntB_minus, parseU_dec B _ (by omega) (by omega)]
    show (if 2 ^ (B - 1) < n.natAbs then Lib.NumEnd.range else .ok (-(n.natAbs : Int))) = _
    rw [if_neg (by omega)]
    congr 1; omega
  · rw [if_neg hn]
    rcases hd : Lib.decDigits n.toNat with _ | ⟨c, r⟩
    · exact absurd hd (dec_ne _)
    · have hc := dec_digit n.toNat c (by rw [hd]; exact List.mem_cons_self)
      rw [Lib.parseIntB_plain B c r (by omega) (by omega), ← hd, parseU_dec B _ (by omega) (by omega)]
      show (if 2 ^ (B - 1) ≤ n.toNat then Lib.NumEnd.range else .ok (n.toNat : Int)) = _
      rw [if_neg (by omega)]
      congr 1; omega
theorem regO_itoa (n : Int) (h0 : 0 ≤ n) (h1 : n < 16) : regO (114 :: Lib.itoa n) = some n := by
  have ht : Lib.trimPrefix (114 :: Lib.itoa n) [114] = Lib.itoa n := by
    unfold Lib.trimPrefix
    rw [if_pos (by simp [Lib.hasPrefix])]
    rfl
  have ha : atoiO (Lib.itoa n) = some n := by
    unfold atoiO
    rw [← Lib.parseIntB_64, parseI_itoa 64 (.inr rfl) n (by omega) (by omega)]
    rfl
  unfold regO
  rw [ht, ha]
  simp
theorem numO_itoa (n : Int) (h0 : -2147483648 ≤ n) (h1 : n ≤ 2147483647) : numO (Lib.itoa n) = some n := by
  unfold numO pintO
  rw [parseI_itoa 32 (.inl rfl) n h0 h1]
  simp [endOk]

/-- No white space. -/
def NS (w : List UInt8) : Prop := ∀ c ∈ w, Lib.isSp c = false
theorem go_word : ∀ (w cur r : List UInt8), NS w → cur ++ w ≠ [] → Lib.fieldsGo cur (w ++ 32 :: r) = (cur ++ w) :: Lib.fieldsGo [] r
  | [], cur, r, _, h => by
    rw [List.append_nil] at h ⊢
    exact Lib.fieldsGo_end cur 32 r rfl h
  | c :: w, cur, r, hw, _ => by
    show Lib.fieldsGo cur (c :: (w ++ 32 :: r)) = _
    rw [Lib.fieldsGo_more cur c _ (hw c List.mem_cons_self), go_word w (cur ++ [c]) r (fun d hd => hw d (List.mem_cons_of_mem _ hd)) (by simp)]
    simp
theorem go_last : ∀ (w cur : List UInt8), NS w → cur ++ w ≠ [] → Lib.fieldsGo cur w = [cur ++ w]
  | [], cur, _, h => by
    rw [List.append_nil] at h ⊢
    unfold Lib.fieldsGo
    rw [if_neg (by simpa using h)]
  | c :: w, cur, hw, _ => by
    rw [Lib.fieldsGo_more cur c _ (hw c List.mem_cons_self), go_last w (cur ++ [c]) (fun d hd => hw d (List.mem_cons_of_mem _ hd)) (by simp)]
    simp
theorem sp_no {c : UInt8} (h : 33 ≤ c.toNat) : Lib.isSp c = false := by
  unfold Lib.isSp
  have hne : ∀ k : UInt8, k.toNat ≤ 32 → (c == k) = false := fun k hk => by
    rw [beq_eq_false_iff_ne]
    intro e; subst e; omega
  simp [hne]
theorem itoa_NS (n : Int) : NS (Lib.itoa n) := fun c hc => sp_no (by rcases itoa_char n c hc with h | h <;> omega)
theorem itoa_asc (n : Int) : ∀ c ∈ Lib.itoa n, c.toNat < 128 := fun c hc => by rcases itoa_char n c hc with h | h <;> omega
theorem cons_NS {w : List UInt8} (h : NS w) : NS (114 :: w) := fun c hc => by
  rcases List.mem_cons.1 hc with rfl | h'
  · rfl
  · exact h c h'
theorem nm_NS (k : Nat) (hk : k < 43) : NS (nm k) ∧ nm k ≠ [] ∧ ∀ c ∈ nm k, c.toNat < 128 := by
  have h1 : ∀ k, k < 43 → (∀ c ∈ nm k, Lib.isSp c = false) ∧ nm k ≠ [] ∧ ∀ c ∈ nm k, c.toNat < 128 := by decide +kernel
  exact h1 k hk

theorem parse_text (x : Ins) (hr : x.right = true) (h0 : -2147483648 ≤ x.imm) (h1 : x.imm ≤ 2147483647) : parse x.text = some x := by
  obtain ⟨⟨o0, o1⟩, ⟨a0, a1⟩, ⟨b0, b1⟩, c0, c1⟩ := Ins.right_spec hr
  obtain ⟨k, hk, ek⟩ : ∃ k : Nat, k < 43 ∧ x.op = (k : Int) + 1 := ⟨(x.op - 1).toNat, by omega, by omega⟩
  obtain ⟨n1, n2, n3⟩ := nm_NS k hk
  have et : x.text = nm k ++ 32 :: ((114 :: Lib.itoa x.a) ++ 32 :: ((114 :: Lib.itoa x.b) ++ 32 :: ((114 :: Lib.itoa x.c) ++ 32 :: Lib.itoa x.imm))) := by
    unfold Ins.text
    rw [if_pos hr, ek, show ((k : Int) + 1).toNat - 1 = k by omega]
    simp
  have hasc : ∀ b ∈ x.text, b.toNat < 128 := by
    intro b hb
    rw [et] at hb
    simp only [List.mem_append, List.mem_cons] at hb
    rcases hb with h | rfl | (rfl | h) | rfl | (rfl | h) | rfl | (rfl | h) | rfl | h
    · exact n3 b h
    · decide
    · decide
    · exact itoa_asc _ b h
    · decide
    · decide
    · exact itoa_asc _ b h
    · decide
    · decide
    · exact itoa_asc _ b h
    · decide
    · exact itoa_asc _ b h
  have hf : Lib.fieldsD x.text = [nm k, 114 :: Lib.itoa x.a, 114 :: Lib.itoa x.b, 114 :: Lib.itoa x.c, Lib.itoa x.imm] := by
    rw [Lib.fieldsD_ascii _ hasc, et]
    unfold Lib.fields
    rw [go_word _ [] _ n1 (by simpa using n2), go_word _ [] _ (cons_NS (itoa_NS _)) (by simp), go_word _ [] _ (cons_NS (itoa_NS _)) (by simp), go_word _ [] _ (cons_NS (itoa_NS _)) (by simp), go_last _ [] (itoa_NS _) (by simpa using itoa_ne _)]
    rfl
  have hj : Lib.join (Lib.fieldsD x.text) [32] = x.text := by
    rw [hf, et]
    simp [Lib.join_cons, Lib.joinTail]
  unfold parse
  rw [if_pos hj, hf]
  show parse5 _ _ _ _ _ = _
  unfold parse5
  rw [regO_itoa x.a a0 a1, regO_itoa x.b b0 b1, regO_itoa x.c c0 c1, numO_itoa x.imm h0 h1, opOf_yes hk rfl, ← ek]
  show rightO x = some x
  unfold rightO
  rw [if_pos hr]
end Go.Proofs.YtidaopggidccmaaDoor
