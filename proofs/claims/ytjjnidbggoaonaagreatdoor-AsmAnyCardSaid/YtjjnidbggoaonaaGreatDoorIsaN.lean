/- The library's variables as a walk wants them; the library's contracts in one form; the operations' names. -/
import Derived.Test.YtjjnidbggoaonaaGreatDoorStr
import Derived.Test.YtjjnidbggoaonaaGreatDoorShelf
import Derived.Test.YtjjnidbggoaonaaGreatDoorReg
import Derived.Lib.AppendIntMem
import Derived.Deep.DeepCutAuto
import Derived.Outline
namespace Go.Proofs.YtjjnidbggoaonaaGreatDoor
open Go.RowKit

/-- A string value of a list of bytes. -/
abbrev S (l : List UInt8) : Value := .string ⟨l.toArray⟩

theorem grow_below (w : World) (k : Nat) (os : Array Obj) : Below w.heap.size w (Go.Sort.grow (w.drewN k) os) :=
  ⟨rfl, rfl, rfl, by simp [Go.Sort.grow], fun i hi => by
    show (w.heap ++ os)[i]? = _
    rw [Array.getElem?_append_left hi]⟩

/-- The table of powers of ten, wherever the call's own blocks begin. -/
def HasPow (w : World) : Prop := Lib.TabIs Tryz.prog w "internal/strconv.uint64pow10" .u64 Lib.pow10Tab
def HasSp (w : World) : Prop := Lib.TabIs Tryz.prog w "strings.asciiSpace" .u8 Lib.asciiSpaceTab
theorem HasPow.below {w w' : World} (h : HasPow w) (hb : Below w.heap.size w w') : HasPow w' := Lib.tabBelow_of_tabIs h w' hb
theorem HasSp.below {w w' : World} (h : HasSp w) (hb : Below w.heap.size w w') : HasSp w' := Lib.tabBelow_of_tabIs h w' hb
theorem bel_from {w0 w w' : World} (h : Below w0.heap.size w0 w) (k : Below w.heap.size w w') : Below w0.heap.size w0 w' := h.trans (k.mono h.size)

theorem itoa_any (n : Int) (h0 : -9223372036854775808 ≤ n) (h1 : n ≤ 9223372036854775807) (w : World) (hp : HasPow w) :
    Calls Tryz.prog 39 #[.int .i64 n] w fun e w' => e = .returned (S (Lib.itoa n)) ∧ Below w.heap.size w w' :=
  (Tryz.strconv_Itoa n h0 h1 w hp).mono fun _ _ ⟨h, k, os, hw⟩ => ⟨h, hw ▸ grow_below w k os⟩

/-- The names of the operations. -/
def nameText : List UInt8 := [104, 97, 108, 116, 32, 108, 105, 32, 104, 105, 32, 97, 100, 100, 32, 115, 117, 98, 32, 109, 117, 108, 32, 100, 105, 118, 32, 114, 101, 109, 32, 97, 110, 100, 32, 111, 114, 32, 120, 111, 114, 32, 115, 104, 108, 32, 115, 104, 114, 32, 115, 97, 114, 32, 115, 108, 116, 32, 115, 108, 116, 117, 32, 101, 113, 32, 97, 100, 100, 105, 32, 108, 100, 32, 108, 119, 32, 108, 98, 32, 115, 116, 32, 115, 119, 32, 115, 98, 32, 98, 101, 113, 32, 98, 110, 101, 32, 98, 108, 116, 32, 98, 108, 116, 117, 32, 106, 97, 108, 32, 106, 114, 32, 102, 97, 100, 100, 32, 102, 115, 117, 98, 32, 102, 109, 117, 108, 32, 102, 100, 105, 118, 32, 102, 109, 105, 110, 32, 102, 109, 97, 120, 32, 102, 108, 116, 32, 102, 101, 113, 32, 102, 115, 113, 114, 116, 32, 102, 116, 111, 105, 32, 105, 116, 111, 102, 32, 102, 99, 108, 97, 115, 115, 32, 116, 114, 97, 112]
def names : List (List UInt8) := [[104, 97, 108, 116], [108, 105], [104, 105], [97, 100, 100], [115, 117, 98], [109, 117, 108], [100, 105, 118], [114, 101, 109], [97, 110, 100], [111, 114], [120, 111, 114], [115, 104, 108], [115, 104, 114], [115, 97, 114], [115, 108, 116], [115, 108, 116, 117], [101, 113], [97, 100, 100, 105], [108, 100], [108, 119], [108, 98], [115, 116], [115, 119], [115, 98], [98, 101, 113], [98, 110, 101], [98, 108, 116], [98, 108, 116, 117], [106, 97, 108], [106, 114], [102, 97, 100, 100], [102, 115, 117, 98], [102, 109, 117, 108], [102, 100, 105, 118], [102, 109, 105, 110], [102, 109, 97, 120], [102, 108, 116], [102, 101, 113], [102, 115, 113, 114, 116], [102, 116, 111, 105], [105, 116, 111, 102], [102, 99, 108, 97, 115, 115], [116, 114, 97, 112]]
theorem names_len : names.length = 43 := rfl
theorem names_fields : Lib.fields nameText = names := by decide +kernel
theorem names_ascii : ∀ (j : Nat) (b : UInt8), nameText[j]? = some b → b.toNat < 128 := by
  intro j b h
  have h1 : nameText.all (fun b => decide (b.toNat < 128)) = true := by decide +kernel
  have := List.all_eq_true.1 h1 b (List.mem_of_getElem? h)
  simpa using this
def namesV : Array Value := (names.map fun l => S l).toArray
def nm (k : Nat) : List UInt8 := names.getD k []
theorem namesV_at (k : Nat) (h : k < 43) : namesV[k]? = some (S (nm k)) := by
  have hl : k < names.length := by rw [names_len]; exact h
  unfold namesV nm
  simp [hl, List.getD]
theorem fields_names (w : World) (hs : HasSp w) :
    Calls Tryz.prog 58 #[S nameText] w fun e w' => e = .returned (.slice (some ⟨w.heap.size, 0, none⟩) 43 43) ∧ w' = w.alloc (.cells namesV 9) := by
  refine (Tryz.strings_Fields_laid ⟨nameText.toArray⟩ w (by decide +kernel) (by simpa using names_ascii) hs).mono ?_
  rintro e w' ⟨rfl, rfl⟩
  have h : Lib.fields (ByteArray.mk nameText.toArray).data.toList = names := by simpa using names_fields
  rw [h]
  exact ⟨rfl, rfl⟩

end Go.Proofs.YtjjnidbggoaonaaGreatDoor
