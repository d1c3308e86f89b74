/- asm.List: the lines of bytes, eight by eight. -/
import Derived.Test.YtjjnidbggoaonaaGreatDoorAsFit
import Derived.Test.YtjjnidbggoaonaaGreatDoorBld
import Derived.Deep.LoopGhost
namespace Go.Proofs.YtjjnidbggoaonaaGreatDoor
open Go.RowKit
attribute [local irreducible] World.setCell World.alloc World.drew Calls Code.wp
attribute [local go_sem] Oper.semAt_some

/-- A builder of the call's own that holds l. -/
def IsB (B b : Nat) (l : List UInt8) (w : World) : Prop := Lib.IsBuilderF 90 5 B b (Lib.byteCells l) w
theorem isB_new {w : World} {b : Nat} (h : Blk w b #[.pointer none, .slice none 0 0] 90) : IsB b b [] w :=
  .inl ⟨Nat.le_refl _, .slice none 0 0, h, World.ownsRowF_of (World.ownsRow_nil _ _ _ _), by simp [Value.ownBlock]⟩
theorem IsB.below {B b : Nat} {l : List UInt8} {w w' : World} (h : IsB B b l w) (hb : Below w.heap.size w w') : IsB B b l w' := by
  have key : ∀ p, Lib.BuilderAtF 90 5 B b p (Lib.byteCells l) w → Lib.BuilderAtF 90 5 B b p (Lib.byteCells l) w' := by
    rintro p ⟨h1, v, h2, h3, h4⟩
    refine ⟨h1, v, by rw [hb.block b (Array.getElem?_eq_some_iff.1 h2).1]; exact h2, ⟨h3.1, ?_⟩, h4⟩
    rcases h3.2 with h | ⟨g, cap, cur, fz, e, hg, hh, r⟩
    · exact .inl h
    · exact .inr ⟨g, cap, cur, fz, e, hg, by rw [hb.block g (Array.getElem?_eq_some_iff.1 hh).1]; exact hh, r⟩
  exact h.elim (fun h => .inl (key _ h)) (fun h => .inr (key _ h))
theorem bld_write (B b : Nat) (l m : List UInt8) (w : World) (h : IsB B b l w) (hl : l.length + m.length ≤ 1000000) (hB : B ≤ w.heap.size) :
    Calls Tryz.prog 42 #[.pointer (some ⟨b, 0, none⟩), S m] w fun e w' => e = .returned (.tuple #[.int .i64 m.length, .nilIface]) ∧ IsB B b (l ++ m) w' ∧ Below B w w' := by
  have hs : (⟨m.toArray⟩ : ByteArray).size = m.length := by show m.toArray.size = _; simp
  refine (Any.Builder_WriteString_k lays166 bldExtra B b (Lib.byteCells l) ⟨m.toArray⟩ w h (by rw [Lib.byteCells_length, hs]; omega) hB).mono ?_
  rintro e w' ⟨rfl, h1, h2, _⟩
  refine ⟨by rw [hs], .inr ?_, h2⟩
  have e1 : Lib.byteCells l ++ Lib.strCells ⟨m.toArray⟩ = Lib.byteCells (l ++ m) := by simp [Lib.byteCells, Lib.strCells]
  rw [e1] at h1
  exact h1
theorem bld_str (B b : Nat) (l : List UInt8) (w : World) (h : IsB B b l w) (hB : B ≤ w.heap.size) :
    Calls Tryz.prog 44 #[.pointer (some ⟨b, 0, none⟩)] w fun e w' => e = .returned (S l) ∧ IsB B b l w' ∧ Below B w w' :=
  (Any.Builder_String_any_k lays169 bldExtra B b l w h hB).mono fun _ _ ⟨h1, h2, h3, _⟩ => ⟨h1, h2, h3⟩

theorem bld_byte (B b : Nat) (l : List UInt8) (c : UInt8) (w : World) (h : IsB B b l w) (hl : l.length ≤ 1000000) (hB : B ≤ w.heap.size) :
    Calls Tryz.prog 43 #[.pointer (some ⟨b, 0, none⟩), .int .u8 (c.toNat : Int)] w fun e w' => e = .returned .nilIface ∧ IsB B b (l ++ [c]) w' ∧ Below B w w' := by
  refine (Any.Builder_WriteByte_k lays167 bldExtra B b (Lib.byteCells l) (c.toNat : Int) w h (by rw [Lib.byteCells_length]; omega) hB).mono ?_
  rintro e w' ⟨rfl, h1, h2, _⟩
  refine ⟨rfl, .inr ?_, h2⟩
  have e1 : Lib.byteCells l ++ [.int .u8 (c.toNat : Int)] = Lib.byteCells (l ++ [c]) := by simp [Lib.byteCells]
  rw [e1] at h1
  exact h1
theorem listB_succ (B : Nat → Nat → Int) (k : Nat) : listB B (k + 1) = listB B k ++ lineOf (B k) ++ [10] := by
  unfold listB joinL
  rw [List.range_succ, List.map_append]
  simp
theorem listB_len (B : Nat → Nat → Int) (k : Nat) (hB : ∀ i j, 0 ≤ B i j ∧ B i j ≤ 255) : (listB B k).length ≤ 81 * k := by
  have := joinL_len 80 ((List.range k).map fun i => lineOf (B i)) (fun l hl => by
    obtain ⟨i, _, rfl⟩ := List.mem_map.1 hl
    exact lineOf_len _ (hB i))
  simpa [listB] using this
theorem slice_mid (p o k len cap : Nat) (h1 : 8 * k + 8 ≤ len) (h2 : len ≤ cap) :
    ∀ w, (Instr.slice 27 (.slice (some ⟨p, o, none⟩) len cap) (some (.int .i64 (8 * (k : Int)))) (some (.int .i64 (8 * (k : Int) + 8))) none).run Tryz.prog w = .ok (.slice (some ⟨p, o + 8 * k, none⟩) 8 (cap - 8 * k)) w := fun w => by
  have e1 : (8 * (k : Int)).toNat = 8 * k := by omega
  have e2 : (8 * (k : Int) + 8).toNat = 8 * k + 8 := by omega
  have h3 : 8 * (k : Int) + 8 ≤ cap := by omega
  go_simp
  rw [if_pos (by omega), if_pos (by omega), if_neg (by omega)]

set_option maxRecDepth 100000 in
set_option maxHeartbeats 4000000 in
theorem list_any (a : Option Addr) (len cap : Nat) (B : Nat → Int) (hB : ∀ j, 0 ≤ B j ∧ B j ≤ 255) (hl : len ≤ 400) (hlc : len ≤ cap) (hcm : cap ≤ maxLen) (w : World) (h : HasAz w)
    (hc : len = 0 ∨ ∃ p o, a = some ⟨p, o, none⟩ ∧ p < w.heap.size ∧ ∀ j, j < len → w.cell? ⟨p, o + j, none⟩ = some (.int .u8 (B j))) :
    Calls Tryz.prog 20 #[.slice a len cap] w fun e w' => e = .returned (S (listB (fun i j => B (8 * i + j)) (len / 8))) ∧ Below w.heap.size w w' := by
  have H := Lib.hid h; clear h
  obtain ⟨B2, hB2⟩ : ∃ B2 : Nat → Nat → Int, B2 = fun i j => B (8 * i + j) := ⟨_, rfl⟩
  rw [← hB2]
  have hBB : ∀ i j, 0 ≤ B2 i j ∧ B2 i j ≤ 255 := fun i j => by rw [hB2]; exact hB _
  have HL := Lib.hid (fun k => listB_len B2 k hBB)
  have HS := Lib.hid (listB_succ B2)
  have HLn := Lib.hid (fun k => lineOf_len (B2 k) (hBB k))
  obtain ⟨N, hN⟩ : ∃ N, len / 8 = N := ⟨_, rfl⟩
  rw [hN]
  have hN50 : N ≤ 50 := by omega
  have Hc : Hid (∀ k, k < N → ∀ w', Below w.heap.size w w' → (∃ p o, a = some ⟨p, o, none⟩ ∧ Calls Tryz.prog 17 #[.slice (some ⟨p, o + 8 * k, none⟩) 8 (cap - 8 * k)] w' fun e w2 => e = .returned (S (lineOf (B2 k))) ∧ Below w'.heap.size w' w2)) := fun k hk w' hb => by
    rcases hc with hc | ⟨p, o, e, hp, hc⟩
    · omega
    · refine ⟨p, o, e, ?_⟩
      refine line_any p (o + 8 * k) (cap - 8 * k) (B2 k) (hBB k) w' (H.out.below hb).base (H.out.below hb).tz (fun j hj => ?_) (by omega) (by omega)
      rw [hb.cell (p := ⟨p, o + 8 * k + j, none⟩) hp, Nat.add_assoc, hc (8 * k + j) (by omega), hB2]
  clear hc hB2 hBB hB
  obtain ⟨b, hb⟩ : ∃ b, b = w.heap.size := ⟨_, rfl⟩
  obtain ⟨w1, hw1⟩ : ∃ w1 : World, w1 = w.alloc (.cells #[.pointer none, .slice none 0 0] 90) := ⟨_, rfl⟩
  have HI1 : Hid (IsB b b [] w1) := isB_new (by rw [hw1, hb]; exact Blk.new _ _ _)
  have HB1 : Hid (Below w.heap.size w w1) := by rw [hw1]; exact (Below.refl _ _).alloc (Nat.le_refl _) _
  have Hb : Hid (b = w.heap.size) := hb
  go_enter Tryz.func20, Tryz.ntmps20
  go_wp2_with fail
  rw [← hw1, ← hb]
  clear hw1 hb
  go_loopg [4] N (fun g vi wx => ∃ k : Nat, k + g = N ∧ vi = .int .i64 (8 * (k : Int)) ∧ Hid (IsB b b (listB B2 k) wx ∧ Below w.heap.size w wx))
  case atStart => exact ⟨0, by omega, rfl, Lib.hid ⟨HI1.out, HB1.out⟩⟩
  case round =>
    obtain ⟨k, hk, rfl, hh⟩ := hrel
    have e1 : IntKind.i64.wrap (8 * (k : Int) + 8) = 8 * k + 8 := IntWalk.i64_in _ (by omega)
    have Hbz : Hid (b ≤ wr.heap.size) := by have := hh.out.2.size; rw [Hb.out]; exact this
    by_cases hkN : k < N
    · have hle : 8 * (k : Int) + 8 ≤ len := by omega
      obtain ⟨p, o, rfl, hln⟩ := Hc.out k hkN wr hh.out.2
      have Hln := Lib.hid hln
      have hsl := slice_mid p o k len cap (by omega) hlc
      have Hnx := Lib.hid (HS.out k)
      have l1 := HL.out k
      have l2 := HLn.out k
      clear hln
      go_wp2_with fail
      refine Hln.out.mono ?_
      rintro e w2 ⟨rfl, hb2⟩
      have Hi2 := Lib.hid (hh.out.1.below hb2)
      have HB2 := Lib.hid (bel_from hh.out.2 hb2)
      have Hz2 : Hid (b ≤ w2.heap.size) := by have := hb2.size; have h2 := Hbz.out; show _ ≤ _; omega
      clear hb2
      go_wp2_with fail
      refine (bld_write b b _ (lineOf (B2 k)) w2 Hi2.out (by omega) Hz2.out).mono ?_
      rintro e w3 ⟨rfl, hi3, hb3⟩
      have Hi3 := Lib.hid hi3
      have HB3 : Hid (Below w.heap.size w w3) := by rw [Hb.out] at hb3; exact HB2.out.trans hb3
      have Hz3 : Hid (b ≤ w3.heap.size) := by have := hb3.size; have h2 := Hz2.out; show _ ≤ _; omega
      clear hb3 hi3
      go_wp2_with fail
      refine (bld_byte b b _ 10 w3 Hi3.out (by rw [List.length_append]; omega) Hz3.out).mono ?_
      rintro e w4 ⟨rfl, hi4, hb4⟩
      rw [← Hnx.out] at hi4
      have HI4 := Lib.hid hi4
      have HB4 : Hid (Below w.heap.size w w4) := by rw [Hb.out] at hb4; exact HB3.out.trans hb4
      clear hi4 hb4
      go_wp2_with fail
      go_roundg (N - (k + 1))
      case measure => omega
      case rel => exact ⟨k + 1, by omega, by go_num, Lib.hid ⟨HI4.out, HB4.out⟩⟩
    · obtain rfl : k = N := by omega
      have hle : ¬ 8 * (k : Int) + 8 ≤ len := by omega
      go_wp2_with fail
      refine (bld_str b b _ _ hh.out.1 Hbz.out).mono ?_
      rintro e w2 ⟨rfl, -, hb2⟩
      have HB2 : Hid (Below w.heap.size w w2) := by rw [Hb.out] at hb2; exact hh.out.2.trans hb2
      clear hb2
      go_wp2_with fail
      go_ret
      exact ⟨rfl, HB2.out⟩
end Go.Proofs.YtjjnidbggoaonaaGreatDoor
