/- glacislaw24.fit holds: the example. -/
import Derived.Test.YtjjnidbggoaonaaGreatDoorAsT
import Derived.Test.YtjjnidbggoaonaaGreatDoorAsLw
namespace Go.Proofs.YtjjnidbggoaonaaGreatDoor
open Go.RowKit
attribute [local irreducible] World.setCell World.alloc World.drew Calls Code.wp
attribute [local go_sem] Oper.semAt_some

/-- All that the laws of the assembler read of the library's variables. -/
structure HasAz (w : World) : Prop where
  base : HasAs w
  tz : HasTz w
theorem HasAz.below {w w' : World} (h : HasAz w) (hb : Below w.heap.size w w') : HasAz w' := ⟨h.base.below hb, h.tz.below hb⟩
/-- A text of ASCII bytes, assembled. -/
theorem asm_ascii (text : List UInt8) (hl : text.length ≤ 100000) (ha : ∀ c ∈ text, c.toNat < 128) (w : World) (h : HasAs w) :
    Calls Tryz.prog 15 #[S text] w (AsmPost text w) :=
  assemble_any text hl (fun t ht hlen => iaT_ascii t (by omega) (fun c hc => ha c (ht c hc))) w h
def fitT : List UInt8 := [104, 101, 114, 101, 58, 32, 106, 97, 108, 32, 114, 49, 44, 32, 104, 101, 114, 101, 32, 35, 32, 97, 103, 97, 105, 110]
def fitB : Nat → Int := fun j => [29, 1, 0, 0, 0, 0, 0, 0].getD j 0
set_option maxRecDepth 100000 in
theorem fit_asm : assemble fitT = ([29, 1, 0, 0, 0, 0, 0, 0], 0, 0) := by decide +kernel
set_option maxRecDepth 100000 in
theorem fit_line : lineOf fitB = [106, 97, 108, 32, 114, 49, 44, 32, 48] := by decide +kernel
theorem fit_bd : ∀ j, 0 ≤ fitB j ∧ fitB j ≤ 255 := fun j => by
  rcases Nat.lt_or_ge j 8 with h | h
  · have : ∀ j, j < 8 → 0 ≤ fitB j ∧ fitB j ≤ 255 := by decide
    exact this j h
  · unfold fitB; rw [List.getD, List.getElem?_eq_none (by simpa using h)]; decide

set_option maxRecDepth 100000 in
set_option maxHeartbeats 4000000 in
theorem fit24_any (w : World) (h : HasAz w) :
    Calls Tryz.prog 13 #[] w fun e w' => e = .returned (.bool true) ∧ Below w.heap.size w w' := by
  have H := Lib.hid h
  have Hasm := Lib.hid (asm_ascii fitT (by decide) (by decide) w h.base)
  clear h
  go_enter Tryz.func13, Tryz.ntmps13
  go_wp2_with fail
  refine Hasm.out.mono ?_
  rintro e w1 ⟨v, rfl, hv, hb1⟩
  rw [fit_asm] at hv ⊢
  obtain ⟨x, c, rfl, ⟨hc1, hc2⟩, h0 | ⟨b, o, rfl, hbl, hcell⟩⟩ := hv
  · simp at h0
  simp only [List.length_cons, List.length_nil, Nat.reduceAdd] at hcell hc1 hc2
  have HB1 := Lib.hid hb1
  obtain ⟨w2, hw2⟩ : ∃ w2 : World, w2 = w1.alloc (.cells #[.int .i64 0, .int .i64 0] 30) := ⟨_, rfl⟩
  have HF2 : Hid (Blk w2 w1.heap.size #[.int .i64 0, .int .i64 0] 30) := by rw [hw2]; exact Blk.new _ _ _
  have HB2 : Hid (Below w.heap.size w w2) := by rw [hw2]; exact hb1.alloc hb1.size _
  have hc2' : ∀ j, j < 8 → w2.cell? ⟨b, o + j, none⟩ = some (.int .u8 (fitB j)) := fun j hj => by
    have h12 : Below w1.heap.size w1 w2 := by rw [hw2]; exact (Below.refl _ _).alloc (Nat.le_refl _) _
    rw [h12.cell (p := ⟨b, o + j, none⟩) hbl, hcell j hj]; rfl
  have Hln := Lib.hid (line_any b o c fitB fit_bd w2 (H.out.below HB2.out).base (H.out.below HB2.out).tz hc2' hc1 hc2)
  rw [fit_line] at Hln
  have hq0 := hc2' 0 (by omega)
  have hq7 := hc2' 7 (by omega)
  have hf := HF2.out.cell
  rw [Nat.add_zero, show fitB 0 = 29 from rfl] at hq0
  rw [show fitB 7 = 0 from rfl] at hq7
  clear hcell hc1 hc2 hc2' hbl hb1
  obtain ⟨fb, hfb⟩ : ∃ fb, w1.heap.size = fb := ⟨_, rfl⟩
  rw [hfb] at hf
  rw [hw2] at hq0 hq7 hf
  go_wp2_with fail
  rw [← hw2]
  refine Hln.out.mono ?_
  rintro e w3 ⟨rfl, hb3⟩
  have HB3 := Lib.hid (bel_from HB2.out hb3)
  clear hb3
  go_wp2_with fail
  go_ret
  exact ⟨rfl, HB3.out⟩
end Go.Proofs.YtjjnidbggoaonaaGreatDoor
