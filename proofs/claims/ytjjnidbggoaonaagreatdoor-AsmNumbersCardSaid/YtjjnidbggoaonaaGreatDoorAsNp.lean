/- The walk of AsmNumbers. -/
import Derived.Test.YtjjnidbggoaonaaGreatDoorAsFit
import Derived.Test.YtjjnidbggoaonaaGreatDoorAsDg
import Derived.Test.YtjjnidbggoaonaaGreatDoorBits
import Derived.Deep.LoopGhost
namespace Go.Proofs.YtjjnidbggoaonaaGreatDoor
open Go.RowKit
attribute [local irreducible] World.setCell World.alloc World.drew Calls Code.wp
attribute [local go_sem] Oper.semAt_some

def wordD : List UInt8 := [46, 119, 111, 114, 100, 32]
def zeroD : List UInt8 := [46, 122, 101, 114, 111, 32]
def haltD : List UInt8 := [10, 104, 97, 108, 116]
theorem makes_dec (x : Int) (h0 : -9223372036854775808 ≤ x) (h1 : x ≤ 9223372036854775807) : Makes (wordD ++ Lib.itoa x) (be8 x) := by
  have hw : Plain wordW := by unfold Plain; decide
  have ha : ∀ a ∈ [Lib.itoa x], Plain a := fun a h => by
    rw [List.mem_singleton] at h; subst h
    exact plain_itoa x
  have ha0 : ∀ a ∈ [Lib.itoa x], a ≠ [] := fun a h => by rw [List.mem_singleton] at h; subst h; exact itoa_ne x
  have e : wordD ++ Lib.itoa x = lineWA wordW [Lib.itoa x] := by simp [wordD, lineWA, wordW, tailA]
  rw [e]
  have hb := bare_plainline hw (by decide) ha ha0
  refine .inr ⟨?_, ?_, ?_, by simp [be8], fun labels f n at_ hf => ?_⟩
  · rw [hb]; exact (line_ends hw (by decide) ha ha0).2.2
  · rw [hb]; exact line_nmem hw ha (.inr (.inl rfl))
  · rw [hb, wordOf_line hw]; decide
  · rw [hb, wordOf_line hw, argsOf_line hw ha]
    unfold makeA
    simp only
    rw [if_neg (by decide), if_pos (by decide), numA_itoa x h0 h1]
    exact ⟨failF_ok hf n, rfl⟩
theorem word_nl (x : Int) : (10 : UInt8) ∉ wordD ++ Lib.itoa x := by
  intro h
  rcases List.mem_append.1 h with h | h
  · revert h; decide
  · exact (plain_itoa x).nmem (by decide) h
theorem word_asm (x : Int) (h0 : -9223372036854775808 ≤ x) (h1 : x ≤ 9223372036854775807) : assemble (wordD ++ Lib.itoa x) = (be8 x, 0, 0) := by
  have l := Lib.itoa_length_le x h0 h1
  have := assemble_makes (text := wordD ++ Lib.itoa x) (ts := [wordD ++ Lib.itoa x]) (bs := [be8 x]) (partsAt_none (word_nl x)) (by rw [List.length_append]; simp [wordD]; omega) (by simp) rfl (fun i t b ht hb => by
    cases i with
    | zero => simp at ht hb; subst ht hb; exact makes_dec x h0 h1
    | succ i => simp at ht) (by simp [be8])
  simpa using this
theorem word_asc (x : Int) : ∀ c ∈ wordD ++ Lib.itoa x, c.toNat < 128 := by
  intro c h
  rcases List.mem_append.1 h with h | h
  · exact (show ∀ c ∈ wordD, c.toNat < 128 by decide) c h
  · have := itoa_char x c h; omega
def zeroOk (n : Nat) : Bool :=
  let r := assemble (zeroD ++ Lib.decDigits n ++ haltD)
  if n = 129 then r.2 == (11, 1) else if n = 128 then r.2 == (7, 0) else r.2 == (0, 0) && (r.1.length == 8 * n + 8 && ((n == 0 || r.1.getD 0 9 == 0) && r.1.getD (8 * n) 9 == 1))
set_option maxRecDepth 1000000 in
set_option maxHeartbeats 0 in
theorem zero_ok : ∀ n, n < 130 → zeroOk n = true := by decide +kernel
theorem zero_asc (n : Nat) : ∀ c ∈ zeroD ++ Lib.decDigits n ++ haltD, c.toNat < 128 := by
  intro c h
  simp only [List.mem_append] at h
  rcases h with (h | h) | h
  · exact (show ∀ c ∈ zeroD, c.toNat < 128 by decide) c h
  · have := dec_digit n c h; omega
  · exact (show ∀ c ∈ haltD, c.toNat < 128 by decide) c h
end Go.Proofs.YtjjnidbggoaonaaGreatDoor
