/-
  No cell of these rows narrows 'for every input' (looked for: loops, veiled, ifaces, maps, wideKeys, modest, calm, conditions, laid).
  DERIVED. THE GIVEN ROWS OF THIS SEAT. 13 by the template 'for every input the law returns true; each argument reads behind the call as it read before'; 0 by the template 'total and deterministic' (their statements: YtndnjimiabpkpaaTotals.lean).
  GIVEN WITH THE SEED: the statements are not yours to turn. If you find one false, say at which input.
  Laid BY PROGRAM, IN A SANDBOX (cutbox-rows.mjs): the forced cells as the released guide's own fill.sh prints them over the translation f4f91aa88aa31dc0… (all of the seat's roots in one cut). By AI agents, Wed Nov 11 2026. No macro, syntax, notation, axiom, sorry.
-/
import Derived.Test.YtndnjimiabpkpaaChecked
import GoSem.Claim
import GoSem.ClaimJoined
import GoSem.ClaimMapViews
import Derived.JoinedTies
import Derived.KernelRfl
namespace Go.Proofs.Ytndnjimiabpkpaa
/- THE CELL 'sum', in the pinned program and in every row, IS THE sha256 OF THE DUMP (.gsa) THAT YtndnjimiabpkpaaProg.lean LOADS. Nothing in Lean hashes anything: it is a label: what it is worth is what the hold of that sum in a sandbox is worth. -/
noncomputable def Try.pinned : Pinned := { name := "ytndnjimiabpkpaa", sum := "f4f91aa88aa31dc06a2ad8c899a1c2cdcd4dd838810ef04a5e272fdf24dbefe9", checked := Try.checked }
namespace Rows
def none {H : Type} : Left H := { results := [], args := [] }

/-- 'glacislaw06.FramesLeast': WHATEVER THE INPUT: true; the input reads as it did. -/
def framesLeastSpec : ChangeSpec := { name := "framesLeast", fn := fun _ => fun
  | [d1, d2] => { results := [.lit (.bool true)], args := [d1, d2] }
  | _ => none }
def framesLeastRow : OpenClaim := { program := "ytndnjimiabpkpaa", sum := "f4f91aa88aa31dc06a2ad8c899a1c2cdcd4dd838810ef04a5e272fdf24dbefe9", func := "glacis/glacislaw06.FramesLeast", spec := "framesLeast", apart := false }
def FramesLeastSaid : Prop := framesLeastRow.holds Try.pinned (OpenSpec.ofChange framesLeastSpec)

/-- ITS FALSE NEIGHBOUR: 'it returns false'. Refute it at one input. -/
def framesLeastWrong : ChangeSpec := { name := "framesLeast", fn := fun _ => fun
  | [d1, d2] => { results := [.lit (.bool false)], args := [d1, d2] }
  | _ => none }
def FramesLeastWrongFalsely : Prop := framesLeastRow.holds Try.pinned (OpenSpec.ofChange framesLeastWrong)

/-- 'glacislaw06.FramesZero': WHATEVER THE INPUT: true; the input reads as it did. -/
def framesZeroSpec : ChangeSpec := { name := "framesZero", fn := fun _ => fun
  | [d1, d2] => { results := [.lit (.bool true)], args := [d1, d2] }
  | _ => none }
def framesZeroRow : OpenClaim := { program := "ytndnjimiabpkpaa", sum := "f4f91aa88aa31dc06a2ad8c899a1c2cdcd4dd838810ef04a5e272fdf24dbefe9", func := "glacis/glacislaw06.FramesZero", spec := "framesZero", apart := false }
def FramesZeroSaid : Prop := framesZeroRow.holds Try.pinned (OpenSpec.ofChange framesZeroSpec)

/-- ITS FALSE NEIGHBOUR: 'it returns false'. Refute it at one input. -/
def framesZeroWrong : ChangeSpec := { name := "framesZero", fn := fun _ => fun
  | [d1, d2] => { results := [.lit (.bool false)], args := [d1, d2] }
  | _ => none }
def FramesZeroWrongFalsely : Prop := framesZeroRow.holds Try.pinned (OpenSpec.ofChange framesZeroWrong)

/-- 'glacislaw06.FramesBytes': WHATEVER THE INPUT: true; the input reads as it did. -/
def framesBytesSpec : ChangeSpec := { name := "framesBytes", fn := fun _ => fun
  | [d1, d2, d3] => { results := [.lit (.bool true)], args := [d1, d2, d3] }
  | _ => none }
def framesBytesRow : OpenClaim := { program := "ytndnjimiabpkpaa", sum := "f4f91aa88aa31dc06a2ad8c899a1c2cdcd4dd838810ef04a5e272fdf24dbefe9", func := "glacis/glacislaw06.FramesBytes", spec := "framesBytes", apart := false }
def FramesBytesSaid : Prop := framesBytesRow.holds Try.pinned (OpenSpec.ofChange framesBytesSpec)

/-- ITS FALSE NEIGHBOUR: 'it returns false'. Refute it at one input. -/
def framesBytesWrong : ChangeSpec := { name := "framesBytes", fn := fun _ => fun
  | [d1, d2, d3] => { results := [.lit (.bool false)], args := [d1, d2, d3] }
  | _ => none }
def FramesBytesWrongFalsely : Prop := framesBytesRow.holds Try.pinned (OpenSpec.ofChange framesBytesWrong)

/-- 'glacislaw06.FramesRuns': WHATEVER THE INPUT: true; the input reads as it did. -/
def framesRunsSpec : ChangeSpec := { name := "framesRuns", fn := fun _ => fun
  | [d1, d2] => { results := [.lit (.bool true)], args := [d1, d2] }
  | _ => none }
def framesRunsRow : OpenClaim := { program := "ytndnjimiabpkpaa", sum := "f4f91aa88aa31dc06a2ad8c899a1c2cdcd4dd838810ef04a5e272fdf24dbefe9", func := "glacis/glacislaw06.FramesRuns", spec := "framesRuns", apart := false }
def FramesRunsSaid : Prop := framesRunsRow.holds Try.pinned (OpenSpec.ofChange framesRunsSpec)

/-- ITS FALSE NEIGHBOUR: 'it returns false'. Refute it at one input. -/
def framesRunsWrong : ChangeSpec := { name := "framesRuns", fn := fun _ => fun
  | [d1, d2] => { results := [.lit (.bool false)], args := [d1, d2] }
  | _ => none }
def FramesRunsWrongFalsely : Prop := framesRunsRow.holds Try.pinned (OpenSpec.ofChange framesRunsWrong)

/-- 'glacislaw06.FramesNone': WHATEVER THE INPUT: true; the input reads as it did. -/
def framesNoneSpec : ChangeSpec := { name := "framesNone", fn := fun _ => fun
  | [d1, d2] => { results := [.lit (.bool true)], args := [d1, d2] }
  | _ => none }
def framesNoneRow : OpenClaim := { program := "ytndnjimiabpkpaa", sum := "f4f91aa88aa31dc06a2ad8c899a1c2cdcd4dd838810ef04a5e272fdf24dbefe9", func := "glacis/glacislaw06.FramesNone", spec := "framesNone", apart := false }
def FramesNoneSaid : Prop := framesNoneRow.holds Try.pinned (OpenSpec.ofChange framesNoneSpec)

/-- ITS FALSE NEIGHBOUR: 'it returns false'. Refute it at one input. -/
def framesNoneWrong : ChangeSpec := { name := "framesNone", fn := fun _ => fun
  | [d1, d2] => { results := [.lit (.bool false)], args := [d1, d2] }
  | _ => none }
def FramesNoneWrongFalsely : Prop := framesNoneRow.holds Try.pinned (OpenSpec.ofChange framesNoneWrong)

/-- 'glacislaw14.BytesGrow': WHATEVER THE INPUT: true; the input reads as it did. -/
def bytesGrowSpec : ChangeSpec := { name := "bytesGrow", fn := fun _ => fun
  | [d1, d2] => { results := [.lit (.bool true)], args := [d1, d2] }
  | _ => none }
def bytesGrowRow : OpenClaim := { program := "ytndnjimiabpkpaa", sum := "f4f91aa88aa31dc06a2ad8c899a1c2cdcd4dd838810ef04a5e272fdf24dbefe9", func := "glacis/glacislaw14.BytesGrow", spec := "bytesGrow", apart := false }
def BytesGrowSaid : Prop := bytesGrowRow.holds Try.pinned (OpenSpec.ofChange bytesGrowSpec)

/-- ITS FALSE NEIGHBOUR: 'it returns false'. Refute it at one input. -/
def bytesGrowWrong : ChangeSpec := { name := "bytesGrow", fn := fun _ => fun
  | [d1, d2] => { results := [.lit (.bool false)], args := [d1, d2] }
  | _ => none }
def BytesGrowWrongFalsely : Prop := bytesGrowRow.holds Try.pinned (OpenSpec.ofChange bytesGrowWrong)

/-- 'glacislaw14.BytesFrames': WHATEVER THE INPUT: true; the input reads as it did. -/
def bytesFramesSpec : ChangeSpec := { name := "bytesFrames", fn := fun _ => fun
  | [d1, d2] => { results := [.lit (.bool true)], args := [d1, d2] }
  | _ => none }
def bytesFramesRow : OpenClaim := { program := "ytndnjimiabpkpaa", sum := "f4f91aa88aa31dc06a2ad8c899a1c2cdcd4dd838810ef04a5e272fdf24dbefe9", func := "glacis/glacislaw14.BytesFrames", spec := "bytesFrames", apart := false }
def BytesFramesSaid : Prop := bytesFramesRow.holds Try.pinned (OpenSpec.ofChange bytesFramesSpec)

/-- ITS FALSE NEIGHBOUR: 'it returns false'. Refute it at one input. -/
def bytesFramesWrong : ChangeSpec := { name := "bytesFrames", fn := fun _ => fun
  | [d1, d2] => { results := [.lit (.bool false)], args := [d1, d2] }
  | _ => none }
def BytesFramesWrongFalsely : Prop := bytesFramesRow.holds Try.pinned (OpenSpec.ofChange bytesFramesWrong)

/-- 'glacislaw14.BytesNums': WHATEVER THE INPUT: true; the input reads as it did. -/
def bytesNumsSpec : ChangeSpec := { name := "bytesNums", fn := fun _ => fun
  | [d1, d2, d3] => { results := [.lit (.bool true)], args := [d1, d2, d3] }
  | _ => none }
def bytesNumsRow : OpenClaim := { program := "ytndnjimiabpkpaa", sum := "f4f91aa88aa31dc06a2ad8c899a1c2cdcd4dd838810ef04a5e272fdf24dbefe9", func := "glacis/glacislaw14.BytesNums", spec := "bytesNums", apart := false }
def BytesNumsSaid : Prop := bytesNumsRow.holds Try.pinned (OpenSpec.ofChange bytesNumsSpec)

/-- ITS FALSE NEIGHBOUR: 'it returns false'. Refute it at one input. -/
def bytesNumsWrong : ChangeSpec := { name := "bytesNums", fn := fun _ => fun
  | [d1, d2, d3] => { results := [.lit (.bool false)], args := [d1, d2, d3] }
  | _ => none }
def BytesNumsWrongFalsely : Prop := bytesNumsRow.holds Try.pinned (OpenSpec.ofChange bytesNumsWrong)

/-- 'glacislaw07.PagesShare': WHATEVER THE INPUT: true; the input reads as it did. -/
def pagesShareSpec : ChangeSpec := { name := "pagesShare", fn := fun _ => fun
  | [d1, d2] => { results := [.lit (.bool true)], args := [d1, d2] }
  | _ => none }
def pagesShareRow : OpenClaim := { program := "ytndnjimiabpkpaa", sum := "f4f91aa88aa31dc06a2ad8c899a1c2cdcd4dd838810ef04a5e272fdf24dbefe9", func := "glacis/glacislaw07.PagesShare", spec := "pagesShare", apart := false }
def PagesShareSaid : Prop := pagesShareRow.holds Try.pinned (OpenSpec.ofChange pagesShareSpec)

/-- ITS FALSE NEIGHBOUR: 'it returns false'. Refute it at one input. -/
def pagesShareWrong : ChangeSpec := { name := "pagesShare", fn := fun _ => fun
  | [d1, d2] => { results := [.lit (.bool false)], args := [d1, d2] }
  | _ => none }
def PagesShareWrongFalsely : Prop := pagesShareRow.holds Try.pinned (OpenSpec.ofChange pagesShareWrong)

/-- 'glacislaw14.BytesRuns': WHATEVER THE INPUT: true; the input reads as it did. -/
def bytesRunsSpec : ChangeSpec := { name := "bytesRuns", fn := fun _ => fun
  | [d] => { results := [.lit (.bool true)], args := [d] }
  | _ => none }
def bytesRunsRow : OpenClaim := { program := "ytndnjimiabpkpaa", sum := "f4f91aa88aa31dc06a2ad8c899a1c2cdcd4dd838810ef04a5e272fdf24dbefe9", func := "glacis/glacislaw14.BytesRuns", spec := "bytesRuns", unfollowed := true, recurses := true, apart := false }
def BytesRunsSaid : Prop := bytesRunsRow.holds Try.pinned (OpenSpec.ofChange bytesRunsSpec)

/-- ITS FALSE NEIGHBOUR: 'it returns false'. Refute it at one input. -/
def bytesRunsWrong : ChangeSpec := { name := "bytesRuns", fn := fun _ => fun
  | [d] => { results := [.lit (.bool false)], args := [d] }
  | _ => none }
def BytesRunsWrongFalsely : Prop := bytesRunsRow.holds Try.pinned (OpenSpec.ofChange bytesRunsWrong)

/-- 'glacislaw07.PagesStops': WHATEVER THE INPUT: true; the input reads as it did. -/
def pagesStopsSpec : ChangeSpec := { name := "pagesStops", fn := fun _ => fun
  | [d1, d2, d3] => { results := [.lit (.bool true)], args := [d1, d2, d3] }
  | _ => none }
def pagesStopsRow : OpenClaim := { program := "ytndnjimiabpkpaa", sum := "f4f91aa88aa31dc06a2ad8c899a1c2cdcd4dd838810ef04a5e272fdf24dbefe9", func := "glacis/glacislaw07.PagesStops", spec := "pagesStops", unfollowed := true, recurses := true, apart := false }
def PagesStopsSaid : Prop := pagesStopsRow.holds Try.pinned (OpenSpec.ofChange pagesStopsSpec)

/-- ITS FALSE NEIGHBOUR: 'it returns false'. Refute it at one input. -/
def pagesStopsWrong : ChangeSpec := { name := "pagesStops", fn := fun _ => fun
  | [d1, d2, d3] => { results := [.lit (.bool false)], args := [d1, d2, d3] }
  | _ => none }
def PagesStopsWrongFalsely : Prop := pagesStopsRow.holds Try.pinned (OpenSpec.ofChange pagesStopsWrong)

/-- 'glacislaw07.PagesApart': WHATEVER THE INPUT: true; the input reads as it did. -/
def pagesApartSpec : ChangeSpec := { name := "pagesApart", fn := fun _ => fun
  | [d] => { results := [.lit (.bool true)], args := [d] }
  | _ => none }
def pagesApartRow : OpenClaim := { program := "ytndnjimiabpkpaa", sum := "f4f91aa88aa31dc06a2ad8c899a1c2cdcd4dd838810ef04a5e272fdf24dbefe9", func := "glacis/glacislaw07.PagesApart", spec := "pagesApart", recurses := true, apart := false }
def PagesApartSaid : Prop := pagesApartRow.holds Try.pinned (OpenSpec.ofChange pagesApartSpec)

/-- ITS FALSE NEIGHBOUR: 'it returns false'. Refute it at one input. -/
def pagesApartWrong : ChangeSpec := { name := "pagesApart", fn := fun _ => fun
  | [d] => { results := [.lit (.bool false)], args := [d] }
  | _ => none }
def PagesApartWrongFalsely : Prop := pagesApartRow.holds Try.pinned (OpenSpec.ofChange pagesApartWrong)

/-- 'glacislaw07.PagesRuns': WHATEVER THE INPUT: true; the input reads as it did. -/
def pagesRunsSpec : ChangeSpec := { name := "pagesRuns", fn := fun _ => fun
  | [d] => { results := [.lit (.bool true)], args := [d] }
  | _ => none }
def pagesRunsRow : OpenClaim := { program := "ytndnjimiabpkpaa", sum := "f4f91aa88aa31dc06a2ad8c899a1c2cdcd4dd838810ef04a5e272fdf24dbefe9", func := "glacis/glacislaw07.PagesRuns", spec := "pagesRuns", unfollowed := true, recurses := true, apart := false }
def PagesRunsSaid : Prop := pagesRunsRow.holds Try.pinned (OpenSpec.ofChange pagesRunsSpec)

/-- ITS FALSE NEIGHBOUR: 'it returns false'. Refute it at one input. -/
def pagesRunsWrong : ChangeSpec := { name := "pagesRuns", fn := fun _ => fun
  | [d] => { results := [.lit (.bool false)], args := [d] }
  | _ => none }
def PagesRunsWrongFalsely : Prop := pagesRunsRow.holds Try.pinned (OpenSpec.ofChange pagesRunsWrong)

/- THE SECOND FORM. 'bulk': how many values and letters a reading holds, each counted each time it is reached (what is shared counts as often as it is met; a slice's spare places count too). A statement '..UptoSaid' is the law's where the arguments, and the package variables that the reading takes, are together of bulk at most 1048576: NARROWER than '..Said'. Prove '..Said' where nothing that the law and all that it calls make is longer than what came in: it says more and counts as full. Else prove '..UptoSaid'. A law counts once. -/
mutual
def uptoBulk {H : Type} : DataW H → Nat
  | .lit (.string bytes) => bytes.length + 1
  | .lit _ => 1
  | .nil => 1
  | .ptr d => uptoBulk d + 1
  | .slice elems spare => uptoBulkAll elems + uptoBulkAll spare + 1
  | .agg parts => uptoBulkAll parts + 1
  | .iface _ d => uptoBulk d + 1
  | .map entries => uptoBulkEntries entries + 1
  | .held _ => 1
def uptoBulkAll {H : Type} : List (DataW H) → Nat
  | [] => 0
  | d :: r => uptoBulk d + uptoBulkAll r
def uptoBulkEntries {H : Type} : List (Lit × DataW H) → Nat
  | [] => 0
  | x :: r => uptoBulkEntry x + uptoBulkEntries r
def uptoBulkEntry {H : Type} : Lit × DataW H → Nat
  | (.string bytes, d) => bytes.length + uptoBulk d + 1
  | (_, d) => uptoBulk d + 1
 end
def uptoSmall : (H : Type) → List (DataW H) → Bool := fun _ ds => decide (uptoBulkAll ds ≤ 1048576)
def OpenSpec.upto (s : _root_.Go.ChangeSpec) : _root_.Go.OpenSpec := { _root_.Go.OpenSpec.ofChange s with cond := some uptoSmall }

/-- 'glacislaw06.FramesLeast', WHERE WHAT IT READS IS OF BULK AT MOST 1048576: true; the input reads as it did. -/
def framesLeastUptoRow : OpenClaim := { program := "ytndnjimiabpkpaa", sum := "f4f91aa88aa31dc06a2ad8c899a1c2cdcd4dd838810ef04a5e272fdf24dbefe9", func := "glacis/glacislaw06.FramesLeast", spec := "framesLeast", apart := false, narrowed := true }
def FramesLeastUptoSaid : Prop := framesLeastUptoRow.holds Try.pinned (OpenSpec.upto framesLeastSpec)

/-- 'glacislaw06.FramesZero', WHERE WHAT IT READS IS OF BULK AT MOST 1048576: true; the input reads as it did. -/
def framesZeroUptoRow : OpenClaim := { program := "ytndnjimiabpkpaa", sum := "f4f91aa88aa31dc06a2ad8c899a1c2cdcd4dd838810ef04a5e272fdf24dbefe9", func := "glacis/glacislaw06.FramesZero", spec := "framesZero", apart := false, narrowed := true }
def FramesZeroUptoSaid : Prop := framesZeroUptoRow.holds Try.pinned (OpenSpec.upto framesZeroSpec)

/-- 'glacislaw06.FramesBytes', WHERE WHAT IT READS IS OF BULK AT MOST 1048576: true; the input reads as it did. -/
def framesBytesUptoRow : OpenClaim := { program := "ytndnjimiabpkpaa", sum := "f4f91aa88aa31dc06a2ad8c899a1c2cdcd4dd838810ef04a5e272fdf24dbefe9", func := "glacis/glacislaw06.FramesBytes", spec := "framesBytes", apart := false, narrowed := true }
def FramesBytesUptoSaid : Prop := framesBytesUptoRow.holds Try.pinned (OpenSpec.upto framesBytesSpec)

/-- 'glacislaw06.FramesRuns', WHERE WHAT IT READS IS OF BULK AT MOST 1048576: true; the input reads as it did. -/
def framesRunsUptoRow : OpenClaim := { program := "ytndnjimiabpkpaa", sum := "f4f91aa88aa31dc06a2ad8c899a1c2cdcd4dd838810ef04a5e272fdf24dbefe9", func := "glacis/glacislaw06.FramesRuns", spec := "framesRuns", apart := false, narrowed := true }
def FramesRunsUptoSaid : Prop := framesRunsUptoRow.holds Try.pinned (OpenSpec.upto framesRunsSpec)

/-- 'glacislaw06.FramesNone', WHERE WHAT IT READS IS OF BULK AT MOST 1048576: true; the input reads as it did. -/
def framesNoneUptoRow : OpenClaim := { program := "ytndnjimiabpkpaa", sum := "f4f91aa88aa31dc06a2ad8c899a1c2cdcd4dd838810ef04a5e272fdf24dbefe9", func := "glacis/glacislaw06.FramesNone", spec := "framesNone", apart := false, narrowed := true }
def FramesNoneUptoSaid : Prop := framesNoneUptoRow.holds Try.pinned (OpenSpec.upto framesNoneSpec)

/-- 'glacislaw14.BytesGrow', WHERE WHAT IT READS IS OF BULK AT MOST 1048576: true; the input reads as it did. -/
def bytesGrowUptoRow : OpenClaim := { program := "ytndnjimiabpkpaa", sum := "f4f91aa88aa31dc06a2ad8c899a1c2cdcd4dd838810ef04a5e272fdf24dbefe9", func := "glacis/glacislaw14.BytesGrow", spec := "bytesGrow", apart := false, narrowed := true }
def BytesGrowUptoSaid : Prop := bytesGrowUptoRow.holds Try.pinned (OpenSpec.upto bytesGrowSpec)

/-- 'glacislaw14.BytesFrames', WHERE WHAT IT READS IS OF BULK AT MOST 1048576: true; the input reads as it did. -/
def bytesFramesUptoRow : OpenClaim := { program := "ytndnjimiabpkpaa", sum := "f4f91aa88aa31dc06a2ad8c899a1c2cdcd4dd838810ef04a5e272fdf24dbefe9", func := "glacis/glacislaw14.BytesFrames", spec := "bytesFrames", apart := false, narrowed := true }
def BytesFramesUptoSaid : Prop := bytesFramesUptoRow.holds Try.pinned (OpenSpec.upto bytesFramesSpec)

/-- 'glacislaw14.BytesNums', WHERE WHAT IT READS IS OF BULK AT MOST 1048576: true; the input reads as it did. -/
def bytesNumsUptoRow : OpenClaim := { program := "ytndnjimiabpkpaa", sum := "f4f91aa88aa31dc06a2ad8c899a1c2cdcd4dd838810ef04a5e272fdf24dbefe9", func := "glacis/glacislaw14.BytesNums", spec := "bytesNums", apart := false, narrowed := true }
def BytesNumsUptoSaid : Prop := bytesNumsUptoRow.holds Try.pinned (OpenSpec.upto bytesNumsSpec)

/-- 'glacislaw07.PagesShare', WHERE WHAT IT READS IS OF BULK AT MOST 1048576: true; the input reads as it did. -/
def pagesShareUptoRow : OpenClaim := { program := "ytndnjimiabpkpaa", sum := "f4f91aa88aa31dc06a2ad8c899a1c2cdcd4dd838810ef04a5e272fdf24dbefe9", func := "glacis/glacislaw07.PagesShare", spec := "pagesShare", apart := false, narrowed := true }
def PagesShareUptoSaid : Prop := pagesShareUptoRow.holds Try.pinned (OpenSpec.upto pagesShareSpec)

/-- 'glacislaw14.BytesRuns', WHERE WHAT IT READS IS OF BULK AT MOST 1048576: true; the input reads as it did. -/
def bytesRunsUptoRow : OpenClaim := { program := "ytndnjimiabpkpaa", sum := "f4f91aa88aa31dc06a2ad8c899a1c2cdcd4dd838810ef04a5e272fdf24dbefe9", func := "glacis/glacislaw14.BytesRuns", spec := "bytesRuns", unfollowed := true, recurses := true, apart := false, narrowed := true }
def BytesRunsUptoSaid : Prop := bytesRunsUptoRow.holds Try.pinned (OpenSpec.upto bytesRunsSpec)

/-- 'glacislaw07.PagesStops', WHERE WHAT IT READS IS OF BULK AT MOST 1048576: true; the input reads as it did. -/
def pagesStopsUptoRow : OpenClaim := { program := "ytndnjimiabpkpaa", sum := "f4f91aa88aa31dc06a2ad8c899a1c2cdcd4dd838810ef04a5e272fdf24dbefe9", func := "glacis/glacislaw07.PagesStops", spec := "pagesStops", unfollowed := true, recurses := true, apart := false, narrowed := true }
def PagesStopsUptoSaid : Prop := pagesStopsUptoRow.holds Try.pinned (OpenSpec.upto pagesStopsSpec)

/-- 'glacislaw07.PagesApart', WHERE WHAT IT READS IS OF BULK AT MOST 1048576: true; the input reads as it did. -/
def pagesApartUptoRow : OpenClaim := { program := "ytndnjimiabpkpaa", sum := "f4f91aa88aa31dc06a2ad8c899a1c2cdcd4dd838810ef04a5e272fdf24dbefe9", func := "glacis/glacislaw07.PagesApart", spec := "pagesApart", recurses := true, apart := false, narrowed := true }
def PagesApartUptoSaid : Prop := pagesApartUptoRow.holds Try.pinned (OpenSpec.upto pagesApartSpec)

/-- 'glacislaw07.PagesRuns', WHERE WHAT IT READS IS OF BULK AT MOST 1048576: true; the input reads as it did. -/
def pagesRunsUptoRow : OpenClaim := { program := "ytndnjimiabpkpaa", sum := "f4f91aa88aa31dc06a2ad8c899a1c2cdcd4dd838810ef04a5e272fdf24dbefe9", func := "glacis/glacislaw07.PagesRuns", spec := "pagesRuns", unfollowed := true, recurses := true, apart := false, narrowed := true }
def PagesRunsUptoSaid : Prop := pagesRunsUptoRow.holds Try.pinned (OpenSpec.upto pagesRunsSpec)

end Rows
end Go.Proofs.Ytndnjimiabpkpaa
