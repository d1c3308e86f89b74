/-
  DERIVED. GIVEN WITH THE SEED: THE CARDS: each row of YtjjnidbggoaonaaDoorRows.lean that lists a variable, with what it lists TIED to the program's text (the seventh form; the later family's looks); each row that meets fmt, with fmt's text TOLD by the authors' own Lean function (tested against real Go, not proved from fmt's source: count such statements apart). THE CARD IS WHAT COUNTS. Prove the row's statement (the work); the ties are given (YtjjnidbggoaonaaDoorTie.lean); close each card by the builder's one call (the guide's Derived/Test/ToyasCard.lean, 'card_holds'). Laid BY PROGRAM, IN A SANDBOX (cutbox-door.mjs). By AI agents, Wed Nov 11 2026. No macro, syntax, notation, axiom, sorry.
-/
import Derived.Test.YtjjnidbggoaonaaDoorRows
import GoSem.ClaimSeven
namespace Go.Proofs.YtjjnidbggoaonaaDoor
namespace Rows

/-- THE TIED CARD OF 'glacislaw26.TraceEvents'. -/
def traceEventsCard : Claim7 := { stood := { row := traceEventsRow, standIns := [], harness := (true, "2282986dc7179abd66dc60f43fee42ea3db84821cc3967842046687afc21a01b"), looks := true }, kinds := [], alts := [], laidByText := true, laidKinds := [.data, .data, .data, .data, .sentinel, .sentinel, .listed, .data, .pinned], laidTests := true, laidLooks := .later }
def TraceEventsCardSaid : Prop := Claim7.holds Tryd.pinned (.plain (OpenSpec.ofChange traceEventsSpec)) traceEventsCard

/-- THE TIED CARD OF 'glacislaw26.TraceThreads'. -/
def traceThreadsCard : Claim7 := { stood := { row := traceThreadsRow, standIns := [], harness := (true, "2282986dc7179abd66dc60f43fee42ea3db84821cc3967842046687afc21a01b"), looks := true }, kinds := [], alts := [], laidByText := true, laidKinds := [.data, .data, .data, .data, .sentinel, .sentinel, .listed, .data, .pinned], laidTests := true, laidLooks := .later }
def TraceThreadsCardSaid : Prop := Claim7.holds Tryd.pinned (.plain (OpenSpec.ofChange traceThreadsSpec)) traceThreadsCard

/-- THE SECOND FORM's CARD OF 'glacislaw26.TraceEvents'. -/
def traceEventsUptoCard : Claim7 := { stood := { row := traceEventsUptoRow, standIns := [], harness := (true, "2282986dc7179abd66dc60f43fee42ea3db84821cc3967842046687afc21a01b"), looks := true }, kinds := [], alts := [], laidByText := true, laidKinds := [.data, .data, .data, .data, .sentinel, .sentinel, .listed, .data, .pinned], laidTests := true, laidLooks := .later }
def TraceEventsUptoCardSaid : Prop := Claim7.holds Tryd.pinned (.plain (OpenSpec.upto traceEventsSpec)) traceEventsUptoCard

/-- THE SECOND FORM's CARD OF 'glacislaw26.TraceThreads'. -/
def traceThreadsUptoCard : Claim7 := { stood := { row := traceThreadsUptoRow, standIns := [], harness := (true, "2282986dc7179abd66dc60f43fee42ea3db84821cc3967842046687afc21a01b"), looks := true }, kinds := [], alts := [], laidByText := true, laidKinds := [.data, .data, .data, .data, .sentinel, .sentinel, .listed, .data, .pinned], laidTests := true, laidLooks := .later }
def TraceThreadsUptoCardSaid : Prop := Claim7.holds Tryd.pinned (.plain (OpenSpec.upto traceThreadsSpec)) traceThreadsUptoCard
end Rows
end Go.Proofs.YtjjnidbggoaonaaDoor
