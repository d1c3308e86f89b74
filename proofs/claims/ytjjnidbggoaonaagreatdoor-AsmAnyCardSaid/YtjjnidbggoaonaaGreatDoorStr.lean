/- Bytes of memory as strings: what 'string(b)' gives for a slice of the call's own, and for one that lies in a known block. -/
import Derived.Test.YtjjnidbggoaonaaGreatDoorArgs
import Derived.Test.YtjjnidbggoaonaaGreatDoorRow
namespace Go.Proofs.YtjjnidbggoaonaaGreatDoor
open Go.RowKit

theorem z64row : #[Value.int .u8 0, Value.int .u8 0, Value.int .u8 0, Value.int .u8 0, Value.int .u8 0, Value.int .u8 0, Value.int .u8 0, Value.int .u8 0, Value.int .u8 0, Value.int .u8 0, Value.int .u8 0, Value.int .u8 0, Value.int .u8 0, Value.int .u8 0, Value.int .u8 0, Value.int .u8 0, Value.int .u8 0, Value.int .u8 0, Value.int .u8 0, Value.int .u8 0, Value.int .u8 0, Value.int .u8 0, Value.int .u8 0, Value.int .u8 0, Value.int .u8 0, Value.int .u8 0, Value.int .u8 0, Value.int .u8 0, Value.int .u8 0, Value.int .u8 0, Value.int .u8 0, Value.int .u8 0, Value.int .u8 0, Value.int .u8 0, Value.int .u8 0, Value.int .u8 0, Value.int .u8 0, Value.int .u8 0, Value.int .u8 0, Value.int .u8 0, Value.int .u8 0, Value.int .u8 0, Value.int .u8 0, Value.int .u8 0, Value.int .u8 0, Value.int .u8 0, Value.int .u8 0, Value.int .u8 0, Value.int .u8 0, Value.int .u8 0, Value.int .u8 0, Value.int .u8 0, Value.int .u8 0, Value.int .u8 0, Value.int .u8 0, Value.int .u8 0, Value.int .u8 0, Value.int .u8 0, Value.int .u8 0, Value.int .u8 0, Value.int .u8 0, Value.int .u8 0, Value.int .u8 0, Value.int .u8 0] = row 64 fun _ => Value.int .u8 0 := by kernel_rfl

/-- The text of a list of bytes. -/
def bs (l : List Int) : ByteArray := l.foldl (fun r n => r.push (UInt8.ofNat n.toNat)) ByteArray.empty
def bytesV (l : List Int) : List Value := l.map (Value.int .u8)

theorem bs_acc (l : List Int) (r : ByteArray) : (l.foldl (fun r n => r.push (UInt8.ofNat n.toNat)) r).data.toList = r.data.toList ++ l.map (fun n => UInt8.ofNat n.toNat) := by
  induction l generalizing r with
  | nil => simp
  | cons a l ih =>
    rw [List.foldl_cons, ih]
    have e : (r.push (UInt8.ofNat a.toNat)).data = r.data.push (UInt8.ofNat a.toNat) := by cases r; rfl
    rw [e]; simp
theorem bs_list (l : List Int) : (bs l).data.toList = l.map (fun n => UInt8.ofNat n.toNat) := by
  unfold bs; rw [bs_acc]; simp
theorem bs_size (l : List Int) : (bs l).size = l.length := by
  have : (bs l).data.toList.length = l.length := by rw [bs_list]; simp
  simpa using this

section
variable {P : Program} {src dst e : Nat}
/-- string(b), b a row of bytes that lies there. -/
theorem run_str {w : World} (hs : P.underlying src = some (.slice e)) (he : P.underlying e = some (.int .u8)) (hd : P.underlying dst = some .string)
    (a : Addr) (l : List Int) (c : Nat) (h : ∀ j, j < l.length → w.cell? (a.add j) = some (.int .u8 (l.getD j 0))) :
    (convert src dst (.slice (some a) l.length c)).run P w = .ok (.string (bs l)) w := by
  rw [run_convert_bytes_string w src dst e (some a) l.length c hs he hd]
  have hl : (loadCells a l.length).run P w = .ok (bytesV l).toArray w := by
    have := run_loadCells_list (P := P) w a (bytesV l) (fun j v hv => by
      have hj : j < l.length := by
        rcases Nat.lt_or_ge j l.length with h' | h'
        · exact h'
        · rw [List.getElem?_eq_none (by simpa [bytesV] using h')] at hv; cases hv
      rw [h j hj]
      simp [bytesV, hj] at hv
      rw [← hv]; simp [List.getD, hj])
    simpa [bytesV] using this
  exact run_bytesToString w a l.length c l hl
theorem run_str_nil {w : World} (hs : P.underlying src = some (.slice e)) (he : P.underlying e = some (.int .u8)) (hd : P.underlying dst = some .string) (n c : Nat) :
    (convert src dst (.slice none n c)).run P w = .ok (.string (bs [])) w := by
  rw [run_convert_bytes_string w src dst e none n c hs he hd]; rfl
/-- string(b), b a slice of the call's own. -/
theorem run_str_own {w : World} (hs : P.underlying src = some (.slice e)) (he : P.underlying e = some (.int .u8)) (hd : P.underlying dst = some .string)
    {base E : Nat} {v : Value} {l : List Int} (h : w.ownsRow base E 1 v l.length (bytesV l)) : (convert src dst v).run P w = .ok (.string (bs l)) w := by
  rcases h.2 with ⟨rfl, h0⟩ | ⟨g, cap, cur, rfl, _, _, _⟩
  · obtain rfl : l = [] := List.eq_nil_of_length_eq_zero h0
    exact run_str_nil hs he hd 0 0
  · refine run_str hs he hd _ l cap fun j hj => ?_
    rw [Addr.add_lit, Nat.zero_add, h.cellAt j (by omega)]
    simp [bytesV, hj, List.getD]
end
end Go.Proofs.YtjjnidbggoaonaaGreatDoor
