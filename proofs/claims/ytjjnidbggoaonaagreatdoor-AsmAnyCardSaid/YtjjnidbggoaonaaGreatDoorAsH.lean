/- A number's digits in base 16, as the library writes them. -/
import Derived.Test.YtjjnidbggoaonaaGreatDoorAsV
import Derived.Test.YtjjnidbggoaonaaGreatDoorAsQ
import Derived.Test.YtjjnidbggoaonaaGreatDoorRow
import Derived.Deep.LoopGhost
import Derived.Lib.ConvBytes
namespace Go.Proofs.YtjjnidbggoaonaaGreatDoor
open Go.RowKit
attribute [local irreducible] World.setCell World.alloc World.drew Calls Code.wp
attribute [local go_sem] Oper.semAt_some

/-- The cell that TrailingZeros reads for 16. -/
def HasTz (w : World) : Prop := w.cell? ⟨9, 15, none⟩ = some (.int .u8 4)
theorem HasTz.below {w w' : World} (h : HasTz w) (hb : Below w.heap.size w w') : HasTz w' := by
  unfold HasTz; rw [hb.cell (p := ⟨_, 15, none⟩) (cell_lt h)]; exact h
set_option maxHeartbeats 1000000 in
theorem tz_any (w : World) (h : HasTz w) : Calls Tryz.prog 149 #[.int .u64 16] w fun e w' => e = .returned (.int .i64 4) ∧ w = w' := by
  have h15 : w.cell? ⟨9, 15, none⟩ = some (.int .u8 4) := h
  have e1 : IntKind.u64.wrap (-16) = 18446744073709551600 := by rw [IntKind.wrap_u64]; decide
  have e2 : bits .and .u64 16 18446744073709551600 = 16 := by decide
  have e3 : IntKind.u64.wrap (16 * 285870213051353865) = 4573923408821661840 := by rw [IntKind.wrap_u64]; decide
  have h64 : Calls Tryz.prog 172 #[.int .u64 16] w fun e w' => e = .returned (.int .i64 4) ∧ w = w' := by
    go_enter Tryz.func172, Tryz.ntmps172
    go_wp2_with fail
    go_ret
    exact ⟨rfl, rfl⟩
  go_enter Tryz.func149, Tryz.ntmps149
  go_wp2_with fail
  refine h64.mono ?_
  rintro e w' ⟨rfl, rfl⟩
  go_wp2_with fail
  go_ret
  exact ⟨rfl, rfl⟩
theorem pow2_any (w : World) : Calls Tryz.prog 148 #[.int .i64 16] w fun e w' => e = .returned (.bool true) ∧ w = w' := by
  go_enter Tryz.func148, Tryz.ntmps148
  go_wp2_with fail
  go_ret
  exact ⟨rfl, rfl⟩
theorem and15_u64 (x : Nat) (h1 : x < 18446744073709551616) : bits .and .u64 (x : Int) 15 = ((x % 16 : Nat) : Int) := by
  show IntKind.u64.wrap ((BitVec.ofInt 64 (x : Int) &&& BitVec.ofInt 64 15).toNat : Int) = _
  have e15 : BitVec.ofInt 64 15 = BitVec.ofNat 64 15 := by decide
  rw [e15, BitVec.ofInt_natCast, BitVec.toNat_and, BitVec.toNat_ofNat, BitVec.toNat_ofNat, Nat.mod_eq_of_lt (show x < 2 ^ 64 by omega), Nat.mod_eq_of_lt (show 15 < 2 ^ 64 by omega), show (15 : Nat) = 2 ^ 4 - 1 from rfl, Nat.and_two_pow_sub_one_eq_mod, IntKind.wrap_u64]
  omega
def digs : Array UInt8 := #[48, 49, 50, 51, 52, 53, 54, 55, 56, 57, 97, 98, 99, 100, 101, 102, 103, 104, 105, 106, 107, 108, 109, 110, 111, 112, 113, 114, 115, 116, 117, 118, 119, 120, 121, 122]
theorem run_dig (d : Nat) (h : d < 16) (w : World) : (Instr.index 9 (.string ⟨#[48, 49, 50, 51, 52, 53, 54, 55, 56, 57, 97, 98, 99, 100, 101, 102, 103, 104, 105, 106, 107, 108, 109, 110, 111, 112, 113, 114, 115, 116, 117, 118, 119, 120, 121, 122]⟩) (.int .u64 (d : Int))).run Tryz.prog w = .ok (.int .u8 ((hexC d).toNat : Int)) w := by
  rw [run_index_string _ _ _ _ _ Tryz.underlying9, dif_pos ⟨by omega, by show (d : Int) < ((36 : Nat) : Int); omega⟩]
  obtain rfl | rfl | rfl | rfl | rfl | rfl | rfl | rfl | rfl | rfl | rfl | rfl | rfl | rfl | rfl | rfl : d = 0 ∨ d = 1 ∨ d = 2 ∨ d = 3 ∨ d = 4 ∨ d = 5 ∨ d = 6 ∨ d = 7 ∨ d = 8 ∨ d = 9 ∨ d = 10 ∨ d = 11 ∨ d = 12 ∨ d = 13 ∨ d = 14 ∨ d = 15 := by omega
  all_goals rfl
theorem hexD_lt {v : Nat} (h : v < 16) : hexD v = [hexC v] := by rw [hexD, dif_pos h]
theorem hexD_ge {v : Nat} (h : ¬ v < 16) : hexD v = hexD (v / 16) ++ [hexC (v % 16)] := by rw [hexD, dif_neg h]

set_option maxRecDepth 100000 in
set_option maxHeartbeats 4000000 in
theorem hex_in (u : Nat) (hu : u < 18446744073709551616) (w : World) (h : HasTz w) :
    Calls Tryz.prog 111 #[.slice none 0 0, .int .u64 u, .int .i64 16, .bool false, .bool false] w fun e w' => e = .returned (.tuple #[.slice none 0 0, S (hexD u)]) ∧ Below w.heap.size w w' := by
  have H := Lib.hid h; clear h
  have hal : Tryz.prog.arrayLen 214 = 65 := by kernel_rfl
  go_enter Tryz.func111, Tryz.ntmps111
  go_wp2_with fail
  refine (pow2_any _).mono ?_
  rintro e w' ⟨rfl, rfl⟩
  go_wp2_with fail
  refine (tz_any _ ?_).mono ?_
  · exact H.out.below ((Below.refl _ w).alloc (Nat.le_refl _) _)
  rintro e w' ⟨rfl, rfl⟩
  have hz : Tryz.zeroCells214 = row 65 fun _ => .int .u8 0 := by kernel_rfl
  obtain ⟨W1, hW1⟩ : ∃ W1, W1 = w.alloc (.cells Tryz.zeroCells214 214) := ⟨_, rfl⟩
  have HB1 : Hid (Blk W1 w.heap.size (row 65 fun _ => .int .u8 0) 214) := by rw [hW1, hz]; exact Blk.new _ _ _
  have HL1 : Hid (Below w.heap.size w W1) := by rw [hW1]; exact (Below.refl _ w).alloc (Nat.le_refl _) _
  rw [← hW1]
  obtain ⟨b, hb⟩ : ∃ b, w.heap.size = b := ⟨_, rfl⟩
  rw [hb] at HB1 HL1 ⊢
  clear hW1 hz
  have hsl : ∀ (m : Nat) (w : World), m ≤ 64 → (Instr.sliceAt 214 (.pointer (some ⟨b, 0, none⟩)) (some (.int .i64 (m : Int))) none none).run Tryz.prog w = .ok (.slice (some ⟨b, m, none⟩) (65 - m) (65 - m)) w := fun m w hm => by
    rw [run_sliceAt_array_l w 214 ⟨b, 0, none⟩ (by kernel_rfl) .i64 (m : Int) (by omega) (by rw [hal]; omega), hal]
    go_simp
    omega
  go_wp2_with fail
  go_loopg [1, 13] 16 (fun g vu vi wx => ∃ (k m v : Nat) (G : Nat → Value) (D : List UInt8), k + g = 16 ∧ k + m = 64 ∧ vu = .int .u64 v ∧ vi = .int .i64 ((m : Int) + 1) ∧ Hid (v < 16 ^ g ∧ hexD u = hexD v ++ D ∧ D.length = k ∧ Blk wx b (row 65 G) 214 ∧ Below b w wx ∧ ∀ j c, D[j]? = some c → G (m + 1 + j) = .int .u8 (c.toNat : Int)))
  case atStart => exact ⟨0, 64, u, _, [], rfl, rfl, rfl, rfl, Lib.hid ⟨by simpa using hu, by simp, rfl, HB1.out, HL1.out, by simp⟩⟩
  case round =>
    obtain ⟨k, m, v, G, D, hk, hm, rfl, rfl, hh⟩ := hrel
    have hv : v < 18446744073709551616 := by
      have := hh.out.1
      have h2 : (16 : Nat) ^ gk ≤ 16 ^ 16 := Nat.pow_le_pow_right (by omega) (by omega)
      have h3 : (16 : Nat) ^ 16 = 18446744073709551616 := by decide
      omega
    have cm : IntKind.i64.wrap ((m : Int) + 1 - 1) = m := by rw [Int.add_sub_cancel]; exact IntWalk.i64_in _ (by omega)
    have hfr := hh.out.2.2.2.1.free
    have hlt := hh.out.2.2.2.1.lt
    have hcm := hh.out.2.2.2.1.rowAt m (by omega)
    have hsm := fun w => hsl m w (by omega)
    have Hst : Hid (∀ d : UInt8, (wr.setCell ⟨b, m, none⟩ (.int .u8 (d.toNat : Int))).heap[b]? = some (.cells (row 65 fun j => if j = m then .int .u8 (d.toNat : Int) else G j) 214 (0, 0)) ∧ Below b w (wr.setCell ⟨b, m, none⟩ (.int .u8 (d.toNat : Int)))) := fun d => by
      refine ⟨?_, hh.out.2.2.2.2.1.setCell (by simp) _⟩
      have := hh.out.2.2.2.1.set m (.int .u8 (d.toNat : Int))
      rw [row_set] at this
      exact this
    have Hd2 : Hid (∀ (d : UInt8) (j : Nat) (c : UInt8), (d :: D)[j]? = some c → (fun j => if j = m then Value.int .u8 (d.toNat : Int) else G j) (m + j) = .int .u8 (c.toNat : Int)) := fun d j c hj => by
      cases j with
      | zero => simp at hj; subst hj; simp
      | succ j =>
        simp only [List.getElem?_cons_succ] at hj
        have := hh.out.2.2.2.2.2 j c hj
        show (if m + (j + 1) = m then _ else _) = _
        rw [if_neg (by omega), ← this]; congr 1; omega
    by_cases h16 : v < 16
    · have h16' : ¬ (v : Int) ≥ 16 := by omega
      have hd := run_dig v h16
      have hL : hexD u = hexC v :: D := by rw [hh.out.2.1, hexD_lt h16]; rfl
      have hLl : (hexC v :: D).length = 65 - m := by simp only [List.length_cons]; have := hh.out.2.2.1; omega
      have hcv : (convert 27 9 (.slice (some ⟨b, m, none⟩) (65 - m) (65 - m))).run Tryz.prog (wr.setCell ⟨b, m, none⟩ (.int .u8 ((hexC v).toNat : Int))) = .ok (S (hexD u)) (wr.setCell ⟨b, m, none⟩ (.int .u8 ((hexC v).toNat : Int))) := by
        have h1 := run_convert_bytes_back (P := Tryz.prog) (wr.setCell ⟨b, m, none⟩ (.int .u8 ((hexC v).toNat : Int))) 27 9 5 ⟨b, m, none⟩ (65 - m) (hexC v :: D) Tryz.underlying27 Tryz.underlying5 Tryz.underlying9 (fun j hj => by
          rw [Addr.add_lit, Blk.rowAt (Hst.out _).1 (m + j) (by omega)]
          exact congrArg some (Hd2.out (hexC v) j _ (List.getElem?_eq_getElem hj)))
        rw [hLl] at h1
        rw [hL]; exact h1
      have HF := Lib.hid (Hst.out (hexC v)).2
      clear hL hLl Hst Hd2 hh
      go_wp2_with fail
      go_ret2
      exact ⟨rfl, HF.out⟩
    · have h16' : (v : Int) ≥ 16 := by omega
      have hd := run_dig (v % 16) (by omega)
      have ha := and15_u64 v hv
      rw [show ((v % 16 : Nat) : Int) = (v : Int) % 16 by omega] at hd ha
      obtain ⟨g, rfl⟩ : ∃ g, gk = g + 1 := ⟨gk - 1, by
        rcases Nat.eq_zero_or_pos gk with h0 | h0
        · have := hh.out.1; rw [h0] at this; omega
        · omega⟩
      have HN : Hid (v / 16 < 16 ^ g ∧ hexD u = hexD (v / 16) ++ hexC (v % 16) :: D ∧ (hexC (v % 16) :: D).length = k + 1) := by
        refine ⟨?_, ?_, ?_⟩
        · have := hh.out.1
          rw [Nat.pow_succ] at this
          exact Nat.div_lt_of_lt_mul (by omega)
        · rw [hh.out.2.1, hexD_ge h16]; simp
        · simp only [List.length_cons]; rw [hh.out.2.2.1]
      obtain ⟨m', rfl⟩ : ∃ m', m = m' + 1 := ⟨m - 1, by omega⟩
      clear hh
      go_wp2_with fail
      go_roundg g
      case measure => omega
      case rel => exact ⟨k + 1, m', v / 16, _, hexC (v % 16) :: D, by omega, by omega, by first | rfl | (congr 1) | (congr 1; omega), by go_num, Lib.hid ⟨HN.out.1, HN.out.2.1, HN.out.2.2, (Hst.out _).1, (Hst.out _).2, fun j c hj => Hd2.out _ j c hj⟩⟩
theorem hex_any (u : Nat) (hu : u < 18446744073709551616) (w : World) (h : HasTz w) :
    Calls Tryz.prog 34 #[.int .u64 u, .int .i64 16] w fun e w' => e = .returned (S (hexD u)) ∧ Below w.heap.size w w' := by
  have H1 : Calls Tryz.prog 69 #[.int .u64 u, .int .i64 16] w fun e w' => e = .returned (S (hexD u)) ∧ Below w.heap.size w w' := by
    go_enter Tryz.func69, Tryz.ntmps69
    go_wp2_with fail
    refine (hex_in u hu _ h).mono ?_
    rintro e w' ⟨rfl, hb⟩
    go_wp2_with fail
    go_ret
    exact ⟨rfl, hb⟩
  go_enter Tryz.func34, Tryz.ntmps34
  go_wp2_with fail
  refine H1.mono ?_
  rintro e w' ⟨rfl, hb⟩
  go_wp2_with fail
  go_ret
  exact ⟨rfl, hb⟩
end Go.Proofs.YtjjnidbggoaonaaGreatDoor
