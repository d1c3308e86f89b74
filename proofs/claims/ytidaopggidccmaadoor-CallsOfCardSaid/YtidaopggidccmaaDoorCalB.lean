/- calls.Of: the tables of the program's constant, and the contract. -/
import Derived.Test.YtidaopggidccmaaDoorCalA
namespace Go.Proofs.YtidaopggidccmaaDoor
open Go.RowKit
attribute [local irreducible] World.setCell World.alloc World.drew Calls Code.wp

def callText : List UInt8 := [99, 97, 116, 110, 101, 119, 58, 58, 32, 115, 101, 108, 102, 108, 97, 98, 101, 108, 58, 58, 32, 115, 101, 108, 102, 99, 108, 101, 97, 114, 58, 58, 32, 115, 101, 108, 102, 58, 58, 32, 108, 97, 98, 101, 108, 111, 102, 58, 58, 49, 32, 99, 111, 110, 116, 110, 101, 119, 58, 49, 58, 32, 115, 101, 103, 110, 101, 119, 58, 49, 58, 32, 115, 112, 97, 99, 101, 110, 101, 119, 58, 49, 58, 32, 116, 104, 114, 101, 97, 100, 110, 101, 119, 58, 49, 58, 32, 103, 97, 116, 101, 110, 101, 119, 58, 49, 58, 32, 117, 110, 114, 101, 102, 58, 49, 50, 58, 32, 115, 116, 97, 116, 58, 58, 49, 32, 108, 105, 115, 116, 58, 58, 49, 32, 113, 117, 111, 116, 97, 58, 58, 49, 32, 109, 111, 118, 101, 58, 49, 50, 58, 32, 114, 101, 115, 105, 122, 101, 58, 49, 58, 32, 114, 101, 97, 100, 58, 58, 49, 32, 119, 114, 105, 116, 101, 58, 49, 58, 32, 99, 111, 112, 121, 58, 49, 58, 51, 32, 109, 97, 112, 58, 49, 58, 51, 32, 117, 110, 109, 97, 112, 58, 49, 58, 32, 117, 115, 101, 58, 58, 49, 32, 101, 110, 116, 101, 114, 58, 58, 49, 32, 104, 97, 108, 116, 58, 58, 32, 115, 116, 97, 114, 116, 58, 49, 58, 32, 119, 97, 105, 116, 58, 58, 49, 32, 119, 97, 107, 101, 58, 49, 58, 32, 97, 108, 101, 114, 116, 58, 49, 58, 32, 97, 108, 101, 114, 116, 103, 101, 116, 58, 58, 32, 100, 101, 118, 114, 101, 97, 100, 58, 49, 58, 32, 100, 101, 118, 119, 114, 105, 116, 101, 58, 49, 58, 32, 99, 108, 111, 99, 107, 58, 58, 32, 121, 105, 101, 108, 100, 58, 58, 32, 115, 101, 116, 105, 110, 102, 111, 58, 49, 58, 32, 105, 110, 102, 111, 58, 58, 49, 32, 109, 97, 112, 97, 116, 58, 58, 49, 32, 104, 111, 109, 101, 111, 102, 58, 58, 49, 32, 111, 119, 110, 101, 100, 58, 58, 32, 108, 101, 118, 101, 108, 58, 58, 49, 32, 114, 105, 103, 104, 116, 115, 58, 58, 49]
def callWords : List (List UInt8) := [[99, 97, 116, 110, 101, 119, 58, 58], [115, 101, 108, 102, 108, 97, 98, 101, 108, 58, 58], [115, 101, 108, 102, 99, 108, 101, 97, 114, 58, 58], [115, 101, 108, 102, 58, 58], [108, 97, 98, 101, 108, 111, 102, 58, 58, 49], [99, 111, 110, 116, 110, 101, 119, 58, 49, 58], [115, 101, 103, 110, 101, 119, 58, 49, 58], [115, 112, 97, 99, 101, 110, 101, 119, 58, 49, 58], [116, 104, 114, 101, 97, 100, 110, 101, 119, 58, 49, 58], [103, 97, 116, 101, 110, 101, 119, 58, 49, 58], [117, 110, 114, 101, 102, 58, 49, 50, 58], [115, 116, 97, 116, 58, 58, 49], [108, 105, 115, 116, 58, 58, 49], [113, 117, 111, 116, 97, 58, 58, 49], [109, 111, 118, 101, 58, 49, 50, 58], [114, 101, 115, 105, 122, 101, 58, 49, 58], [114, 101, 97, 100, 58, 58, 49], [119, 114, 105, 116, 101, 58, 49, 58], [99, 111, 112, 121, 58, 49, 58, 51], [109, 97, 112, 58, 49, 58, 51], [117, 110, 109, 97, 112, 58, 49, 58], [117, 115, 101, 58, 58, 49], [101, 110, 116, 101, 114, 58, 58, 49], [104, 97, 108, 116, 58, 58], [115, 116, 97, 114, 116, 58, 49, 58], [119, 97, 105, 116, 58, 58, 49], [119, 97, 107, 101, 58, 49, 58], [97, 108, 101, 114, 116, 58, 49, 58], [97, 108, 101, 114, 116, 103, 101, 116, 58, 58], [100, 101, 118, 114, 101, 97, 100, 58, 49, 58], [100, 101, 118, 119, 114, 105, 116, 101, 58, 49, 58], [99, 108, 111, 99, 107, 58, 58], [121, 105, 101, 108, 100, 58, 58], [115, 101, 116, 105, 110, 102, 111, 58, 49, 58], [105, 110, 102, 111, 58, 58, 49], [109, 97, 112, 97, 116, 58, 58, 49], [104, 111, 109, 101, 111, 102, 58, 58, 49], [111, 119, 110, 101, 100, 58, 58], [108, 101, 118, 101, 108, 58, 58, 49], [114, 105, 103, 104, 116, 115, 58, 58, 49]]
def callNames : List (List UInt8) := [[99, 97, 116, 110, 101, 119], [115, 101, 108, 102, 108, 97, 98, 101, 108], [115, 101, 108, 102, 99, 108, 101, 97, 114], [115, 101, 108, 102], [108, 97, 98, 101, 108, 111, 102], [99, 111, 110, 116, 110, 101, 119], [115, 101, 103, 110, 101, 119], [115, 112, 97, 99, 101, 110, 101, 119], [116, 104, 114, 101, 97, 100, 110, 101, 119], [103, 97, 116, 101, 110, 101, 119], [117, 110, 114, 101, 102], [115, 116, 97, 116], [108, 105, 115, 116], [113, 117, 111, 116, 97], [109, 111, 118, 101], [114, 101, 115, 105, 122, 101], [114, 101, 97, 100], [119, 114, 105, 116, 101], [99, 111, 112, 121], [109, 97, 112], [117, 110, 109, 97, 112], [117, 115, 101], [101, 110, 116, 101, 114], [104, 97, 108, 116], [115, 116, 97, 114, 116], [119, 97, 105, 116], [119, 97, 107, 101], [97, 108, 101, 114, 116], [97, 108, 101, 114, 116, 103, 101, 116], [100, 101, 118, 114, 101, 97, 100], [100, 101, 118, 119, 114, 105, 116, 101], [99, 108, 111, 99, 107], [121, 105, 101, 108, 100], [115, 101, 116, 105, 110, 102, 111], [105, 110, 102, 111], [109, 97, 112, 97, 116], [104, 111, 109, 101, 111, 102], [111, 119, 110, 101, 100], [108, 101, 118, 101, 108], [114, 105, 103, 104, 116, 115]]
def callCh : List (List Nat) := [[], [], [], [], [], [1], [1], [1], [1], [1], [1, 2], [], [], [], [1, 2], [1], [], [1], [1], [1], [1], [], [], [], [1], [], [1], [1], [], [1], [1], [], [], [1], [], [], [], [], [], []]
def callRd : List (List Nat) := [[], [], [], [], [1], [], [], [], [], [], [], [1], [1], [1], [], [], [1], [], [3], [3], [], [1], [1], [], [], [1], [], [], [], [], [], [], [], [], [1], [1], [1], [], [1], [1]]

def cW (k : Nat) : List UInt8 := callWords.getD k []
def cN (k : Nat) : List UInt8 := callNames.getD k []
def cC (k : Nat) : List Nat := callCh.getD k []
def cR (k : Nat) : List Nat := callRd.getD k []
theorem words_fields : Lib.fields callText = callWords := by decide +kernel
theorem call_ascii : ∀ (j : Nat) (b : UInt8), callText[j]? = some b → b.toNat < 128 := by
  intro j b h
  have h1 : callText.all (fun b => decide (b.toNat < 128)) = true := by decide +kernel
  have := List.all_eq_true.1 h1 b (List.mem_of_getElem? h)
  simpa using this
def callsV : Array Value := (callWords.map fun l => S l).toArray
theorem callsV_at (k : Nat) (h : k < 40) : callsV[k]? = some (S (cW k)) := by
  have hl : k < callWords.length := h
  unfold callsV cW
  simp [hl, List.getD]
theorem fields_calls (w : World) (hs : HasSp w) :
    Calls Tryd.prog 24 #[S callText] w fun e w' => e = .returned (.slice (some ⟨w.heap.size, 0, none⟩) 40 40) ∧ w' = w.alloc (.cells callsV 9) := by
  refine (Tryd.strings_Fields_laid ⟨callText.toArray⟩ w (by decide +kernel) (by simpa using call_ascii) hs).mono ?_
  rintro e w' ⟨rfl, rfl⟩
  have h : Lib.fields (ByteArray.mk callText.toArray).data.toList = callWords := by simpa using words_fields
  rw [h]
  exact ⟨rfl, rfl⟩

/-- The cell of bytealg.MaxLen holds some number. -/
def HasMax (w : World) : Prop := ∃ m, w.cell? ⟨5, 0, none⟩ = some (.int .i64 m)
theorem HasMax.below {w w' : World} (h : HasMax w) (hb : Below w.heap.size w w') : HasMax w' := by
  obtain ⟨m, hm⟩ := h
  exact ⟨m, by rw [hb.cell (p := ⟨_, 0, none⟩) (cell_lt hm)]; exact hm⟩
theorem max_of {w : World} (h : w.ShapedOpen Tryd.prog) : HasMax w :=
  cell_of_shapedOpen_int (zero := #[.int .i64 0]) (t := 3) h (of_decide_eq_true (by kernel_rfl)) (by kernel_rfl) rfl (by kernel_rfl) (by kernel_rfl) Tryd.underlying3

/-- The parts of a word. -/
theorem split_parts : ∀ k, k < 40 → Lib.splitB ⟨#[58]⟩ 0 (Lib.countB ⟨(cW k).toArray⟩ ⟨#[58]⟩) ⟨(cW k).toArray⟩ = [⟨(cN k).toArray⟩, ⟨(dgs (cC k)).toArray⟩, ⟨(dgs (cR k)).toArray⟩] ∧ Lib.countB ⟨(cW k).toArray⟩ ⟨#[58]⟩ = 2 := by
  decide +kernel
theorem word_small : ∀ k, k < 40 → (cW k).length < 100 := by decide +kernel
theorem split_calls (k : Nat) (hk : k < 40) (w : World) (hm : HasMax w) :
    Calls Tryd.prog 26 #[S (cW k), .string ⟨#[58]⟩] w fun e w' => e = .returned (.slice (some ⟨w.heap.size, 0, none⟩) 3 3) ∧ w' = w.alloc (.cells #[S (cN k), S (dgs (cC k)), S (dgs (cR k))] 9) := by
  obtain ⟨m, hm⟩ := hm
  have hw := word_small k hk
  refine (Tryd.strings_Split ⟨(cW k).toArray⟩ ⟨#[58]⟩ m w (by show (cW k).toArray.size < _; simp; omega) hm (by decide)).mono ?_
  rintro e w' ⟨rfl, rfl⟩
  obtain ⟨h1, h2⟩ := split_parts k hk
  rw [h1, h2]
  exact ⟨rfl, rfl⟩
theorem call_digits : ∀ k, k < 40 → (∀ x ∈ cC k, x < 10) ∧ (cC k).length < 1000 ∧ (∀ x ∈ cR k, x < 10) ∧ (cR k).length < 1000 := by decide +kernel

end Go.Proofs.YtidaopggidccmaaDoor
