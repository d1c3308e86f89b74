/-
  No cell of these rows narrows 'for every input' (looked for: loops, veiled, ifaces, maps, wideKeys, modest, calm, conditions, laid).
  DERIVED. THE GIVEN ROWS OF THIS SEAT. 3 by the template 'for every input the law returns true; each argument reads behind the call as it read before'; 0 by the template 'total and deterministic' (their statements: YtphophonkdfcaaaTotals.lean).
  GIVEN WITH THE SEED: the statements are not yours to turn. If you find one false, say at which input.
  Laid BY PROGRAM, IN A SANDBOX (cutbox-rows.mjs): the forced cells as the released guide's own fill.sh prints them over the translation dba256ca355df060… (all of the seat's roots in one cut). By AI agents, Wed Nov 11 2026. No macro, syntax, notation, axiom, sorry.
-/
import Derived.Test.YtphophonkdfcaaaChecked
import GoSem.Claim
import GoSem.ClaimJoined
import GoSem.ClaimMapViews
import Derived.JoinedTies
import Derived.KernelRfl
namespace Go.Proofs.Ytphophonkdfcaaa
/- THE CELL 'sum', in the pinned program and in every row, IS THE sha256 OF THE DUMP (.gsa) THAT YtphophonkdfcaaaProg.lean LOADS. Nothing in Lean hashes anything: it is a label: what it is worth is what the hold of that sum in a sandbox is worth. -/
noncomputable def Try.pinned : Pinned := { name := "ytphophonkdfcaaa", sum := "dba256ca355df060a393dfdc10cde022af4c6a68f01b938220427a53da1c6fb8", checked := Try.checked }
namespace Rows
def none {H : Type} : Left H := { results := [], args := [] }

/-- 'glacislaw08.TlbAgain': WHATEVER THE INPUT: true; the input reads as it did. -/
def tlbAgainSpec : ChangeSpec := { name := "tlbAgain", fn := fun _ => fun
  | [d1, d2] => { results := [.lit (.bool true)], args := [d1, d2] }
  | _ => none }
def tlbAgainRow : OpenClaim := { program := "ytphophonkdfcaaa", sum := "dba256ca355df060a393dfdc10cde022af4c6a68f01b938220427a53da1c6fb8", func := "glacis/glacislaw08.TlbAgain", spec := "tlbAgain", apart := false }
def TlbAgainSaid : Prop := tlbAgainRow.holds Try.pinned (OpenSpec.ofChange tlbAgainSpec)

/-- ITS FALSE NEIGHBOUR: 'it returns false'. Refute it at one input. -/
def tlbAgainWrong : ChangeSpec := { name := "tlbAgain", fn := fun _ => fun
  | [d1, d2] => { results := [.lit (.bool false)], args := [d1, d2] }
  | _ => none }
def TlbAgainWrongFalsely : Prop := tlbAgainRow.holds Try.pinned (OpenSpec.ofChange tlbAgainWrong)

/-- 'glacislaw08.TlbRuns': WHATEVER THE INPUT: true; the input reads as it did. -/
def tlbRunsSpec : ChangeSpec := { name := "tlbRuns", fn := fun _ => fun
  | [d] => { results := [.lit (.bool true)], args := [d] }
  | _ => none }
def tlbRunsRow : OpenClaim := { program := "ytphophonkdfcaaa", sum := "dba256ca355df060a393dfdc10cde022af4c6a68f01b938220427a53da1c6fb8", func := "glacis/glacislaw08.TlbRuns", spec := "tlbRuns", apart := false }
def TlbRunsSaid : Prop := tlbRunsRow.holds Try.pinned (OpenSpec.ofChange tlbRunsSpec)

/-- ITS FALSE NEIGHBOUR: 'it returns false'. Refute it at one input. -/
def tlbRunsWrong : ChangeSpec := { name := "tlbRuns", fn := fun _ => fun
  | [d] => { results := [.lit (.bool false)], args := [d] }
  | _ => none }
def TlbRunsWrongFalsely : Prop := tlbRunsRow.holds Try.pinned (OpenSpec.ofChange tlbRunsWrong)

/-- 'glacislaw08.TlbLast': WHATEVER THE INPUT: true; the input reads as it did. -/
def tlbLastSpec : ChangeSpec := { name := "tlbLast", fn := fun _ => fun
  | [d] => { results := [.lit (.bool true)], args := [d] }
  | _ => none }
def tlbLastRow : OpenClaim := { program := "ytphophonkdfcaaa", sum := "dba256ca355df060a393dfdc10cde022af4c6a68f01b938220427a53da1c6fb8", func := "glacis/glacislaw08.TlbLast", spec := "tlbLast", apart := false }
def TlbLastSaid : Prop := tlbLastRow.holds Try.pinned (OpenSpec.ofChange tlbLastSpec)

/-- ITS FALSE NEIGHBOUR: 'it returns false'. Refute it at one input. -/
def tlbLastWrong : ChangeSpec := { name := "tlbLast", fn := fun _ => fun
  | [d] => { results := [.lit (.bool false)], args := [d] }
  | _ => none }
def TlbLastWrongFalsely : Prop := tlbLastRow.holds Try.pinned (OpenSpec.ofChange tlbLastWrong)

/- THE SECOND FORM. 'bulk': how many values and letters a reading holds, each counted each time it is reached (what is shared counts as often as it is met; a slice's spare places count too). A statement '..UptoSaid' is the law's where the arguments, and the package variables that the reading takes, are together of bulk at most 1048576: NARROWER than '..Said'. Prove '..Said' where nothing that the law and all that it calls make is longer than what came in: it says more and counts as full. Else prove '..UptoSaid'. A law counts once. -/
mutual
def uptoBulk {H : Type} : DataW H → Nat
  | .lit (.string bytes) => bytes.length + 1
  | .lit _ => 1
  | .nil => 1
  | .ptr d => uptoBulk d + 1
  | .slice elems spare => uptoBulkAll elems + uptoBulkAll spare + 1
  | .agg parts => uptoBulkAll parts + 1
  | .iface _ d => uptoBulk d + 1
  | .map entries => uptoBulkEntries entries + 1
  | .held _ => 1
def uptoBulkAll {H : Type} : List (DataW H) → Nat
  | [] => 0
  | d :: r => uptoBulk d + uptoBulkAll r
def uptoBulkEntries {H : Type} : List (Lit × DataW H) → Nat
  | [] => 0
  | x :: r => uptoBulkEntry x + uptoBulkEntries r
def uptoBulkEntry {H : Type} : Lit × DataW H → Nat
  | (.string bytes, d) => bytes.length + uptoBulk d + 1
  | (_, d) => uptoBulk d + 1
 end
def uptoSmall : (H : Type) → List (DataW H) → Bool := fun _ ds => decide (uptoBulkAll ds ≤ 1048576)
def OpenSpec.upto (s : _root_.Go.ChangeSpec) : _root_.Go.OpenSpec := { _root_.Go.OpenSpec.ofChange s with cond := some uptoSmall }

/-- 'glacislaw08.TlbAgain', WHERE WHAT IT READS IS OF BULK AT MOST 1048576: true; the input reads as it did. -/
def tlbAgainUptoRow : OpenClaim := { program := "ytphophonkdfcaaa", sum := "dba256ca355df060a393dfdc10cde022af4c6a68f01b938220427a53da1c6fb8", func := "glacis/glacislaw08.TlbAgain", spec := "tlbAgain", apart := false, narrowed := true }
def TlbAgainUptoSaid : Prop := tlbAgainUptoRow.holds Try.pinned (OpenSpec.upto tlbAgainSpec)

/-- 'glacislaw08.TlbRuns', WHERE WHAT IT READS IS OF BULK AT MOST 1048576: true; the input reads as it did. -/
def tlbRunsUptoRow : OpenClaim := { program := "ytphophonkdfcaaa", sum := "dba256ca355df060a393dfdc10cde022af4c6a68f01b938220427a53da1c6fb8", func := "glacis/glacislaw08.TlbRuns", spec := "tlbRuns", apart := false, narrowed := true }
def TlbRunsUptoSaid : Prop := tlbRunsUptoRow.holds Try.pinned (OpenSpec.upto tlbRunsSpec)

/-- 'glacislaw08.TlbLast', WHERE WHAT IT READS IS OF BULK AT MOST 1048576: true; the input reads as it did. -/
def tlbLastUptoRow : OpenClaim := { program := "ytphophonkdfcaaa", sum := "dba256ca355df060a393dfdc10cde022af4c6a68f01b938220427a53da1c6fb8", func := "glacis/glacislaw08.TlbLast", spec := "tlbLast", apart := false, narrowed := true }
def TlbLastUptoSaid : Prop := tlbLastUptoRow.holds Try.pinned (OpenSpec.upto tlbLastSpec)

end Rows
end Go.Proofs.Ytphophonkdfcaaa
