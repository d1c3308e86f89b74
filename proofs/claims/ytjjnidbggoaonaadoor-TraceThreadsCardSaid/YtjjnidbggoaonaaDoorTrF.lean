/- Parse at a step's own text; the law's example. -/
import Derived.Test.YtjjnidbggoaonaaDoorTrD
namespace Go.Proofs.YtjjnidbggoaonaaDoor
open Go.RowKit
attribute [local irreducible] World.setCell World.alloc World.drew Calls Code.wp

theorem ev_len (c : Int) (t k : Nat) (hc : 0 ≤ c) (hc1 : c ≤ 9223372036854775807) (ht : t < 18446744073709551616) (hk : k < 7) : (evText c t k).length ≤ 60 := by
  rw [evText_ok t hc hk]
  have l1 := Lib.itoa_length_le (n := c) (by omega) (by omega)
  have l2 := dec_len20 t ht
  have l3 := wd_len k
  simp; omega
theorem parse_back (c : Int) (t k : Nat) (hc : 0 ≤ c) (hc1 : c ≤ 9223372036854775807) (ht : t < 18446744073709551616) (hk : k < 7) (w : World) (h : HasTr w) :
    Calls Tryd.prog 7 #[S (evText c t k)] w fun e w' => e = .returned (.tuple #[.agg #[.int .i64 c, .int .u64 t, .int .i64 k], .bool true]) ∧ Below w.heap.size w w' := by
  refine (parse_any (evText c t k) (by have := ev_len c t k hc hc1 ht hk; omega) w h).mono ?_
  rintro e w' ⟨hb, h⟩
  refine ⟨?_, hb⟩
  have hp := ev_parts c t k hc hk
  rcases h with ⟨l0, l1, l2, c', t', i, h1, h2, h3, h4, h5, -, rfl⟩ | ⟨-, hno⟩
  · rw [hp] at h1
    simp only [List.cons.injEq, and_true] at h1
    obtain ⟨rfl, rfl, rfl⟩ := h1
    rw [atoiO_itoa c hc hc1] at h3
    rw [uintO_dec t ht] at h4
    cases h3
    have e1 : t' = t := by simp at h4; omega
    have e2 := wd_inj i h2 k hk h5
    subst e1 e2
    rfl
  · exact absurd (ev_is c t k hc hc1 ht) (hno _ _ _ hp k hk)

set_option maxRecDepth 100000 in
set_option maxHeartbeats 2000000 in
theorem fit26_any (w : World) (h : HasTr w) :
    Calls Tryd.prog 5 #[] w fun e w' => e = .returned (.bool true) ∧ Below w.heap.size w w' := by
  have H := Lib.hid h; clear h
  have hte : evText 0 6 (1 : Nat) = [48, 32, 54, 32, 117, 115, 101, 114] := by decide +kernel
  have Hpb := Lib.hid (fun w (h : HasTr w) => parse_back 0 6 1 (by omega) (by omega) (by omega) (by omega) w h)
  rw [hte] at Hpb
  have Hev := Lib.hid (fun w (h : HasTr w) => event_any 0 6 (1 : Nat) w h.pow h.sp (by omega) (by omega))
  rw [hte] at Hev
  clear hte
  go_enter Tryd.func5, Tryd.ntmps5
  go_wp2_with fail
  refine (Hpb.out _ (H.out.below ((Below.refl _ _).alloc (Nat.le_refl _) _))).mono ?_
  rintro e w1 ⟨rfl, hb1⟩
  have HE := Lib.hid ((Blk.new w #[.int .i64 0, .int .u64 6, .int .i64 1] 24).below hb1 (by simp))
  have HB1 := Lib.hid (((Below.refl _ w).alloc (Nat.le_refl _) (.cells #[.int .i64 0, .int .u64 6, .int .i64 1] 24)).trans (hb1.mono (by simp)))
  have hz1 := HE.out.lt
  have he1 := (HE.out.alloc (.cells #[.int .i64 0, .int .u64 6, .int .i64 1] 24)).cell
  have hec := HE.out.cell
  clear hb1
  go_wp2_with fail
  have HB2 : Hid (Below w.heap.size w (w1.alloc (.cells #[.int .i64 0, .int .u64 6, .int .i64 1] 24))) := HB1.out.alloc HB1.out.size _
  refine (Hev.out _ (H.out.below HB2.out)).mono ?_
  rintro e w3 ⟨rfl, hb3⟩
  have HE3 := Lib.hid ((HE.out.alloc (.cells #[.int .i64 0, .int .u64 6, .int .i64 1] 24)).below hb3 (by simp; omega))
  have HX3 := Lib.hid ((Blk.new w1 #[.int .i64 0, .int .u64 6, .int .i64 1] 24).below hb3 (by simp))
  have HB3 := Lib.hid (bel_from HB2.out hb3)
  clear he1 hec hb3
  have he3 := HE3.out.cell
  have hx3 := HX3.out.cell
  go_wp2_with fail
  go_ret
  exact ⟨rfl, HB3.out⟩
end Go.Proofs.YtjjnidbggoaonaaDoor
