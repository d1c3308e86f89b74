/- A string value of a list of bytes. -/
import Derived.Test.YtjjnidbggoaonaaGreatDoorRow
namespace Go.Proofs.YtjjnidbggoaonaaGreatDoor
abbrev strV (l : List UInt8) : Value := .string ⟨l.toArray⟩
end Go.Proofs.YtjjnidbggoaonaaGreatDoor
