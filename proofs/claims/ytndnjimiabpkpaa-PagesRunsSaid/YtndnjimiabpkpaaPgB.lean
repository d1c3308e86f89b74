/- Contracts of pages: entry, set. -/
import Derived.Test.YtndnjimiabpkpaaPgA
namespace Go.Proofs.Ytndnjimiabpkpaa
open Go.RowKit
attribute [local irreducible] World.setCell World.alloc World.drew World.setRow Calls Code.wp row

set_option maxHeartbeats 1000000 in
theorem entry_any (pb db ob : Nat) (P : Pool) (t : Int) (i : Nat) (w : World) (hP : PoolAt w pb db ob P) (ho : P.owner t ≠ 0) (hi : i < 8) :
    Calls Try.prog 55 #[.pointer (some ⟨pb, 0, none⟩), .int .i64 t, .int .i64 i] w fun e w' => e = .returned (.int .u64 (ent P t i)) ∧ Below w.heap.size w w' := by
  have hfit := fits8 P t i hi ho
  have HP := Lib.hid hP; have Hfit := Lib.hid hfit; have Hbd := Lib.hid hP.bd
  have hi8 : (i : Int) < 8 := by omega
  clear hP hfit ho
  go_enter Try.func55, Try.ntmps55
  go_wp2_with fail
  refine (read_yes pb db ob P t ((i : Int) * 8) 8 _ HP.out Hfit.out).mono ?_
  rintro e w2 ⟨r, rfl, hown, hb2⟩
  have hb2' := hb2.size
  have hown8 : w2.ownsRow w.heap.size 5 1 r 8 (P.cells ((t.toNat - 1) * 64 + ((i : Int) * 8).toNat) 8) := hown
  obtain ⟨g, gc, cur, rfl, hg, hgh, hgc, hgm, _⟩ := hown8.2.resolve_left (by rintro ⟨_, h0⟩; omega)
  have hcell : ∀ j, j < 8 → w2.cell? ⟨g, 0 + j, none⟩ = some (.int .u8 (P.D ((t.toNat - 1) * 64 + i * 8 + j))) := fun j hj => by
    rw [Nat.zero_add, hown8.cellAt j (by omega)]
    have e : ((i : Int) * 8).toNat = i * 8 := by omega
    simp only [Pool.cells, e]
    rw [List.getElem?_map, List.getElem?_range hj]; rfl
  have hgl : g < w2.heap.size := (Array.getElem?_eq_some_iff.1 hgh).1
  have Hcell := Lib.hid hcell; have Hb2 := Lib.hid hb2
  clear hown hown8 hcell hb2 hgh
  go_wp2_with fail
  refine (pnew_any _ _ _ _).mono ?_
  rintro e w3 ⟨rfl, hw3⟩
  have hR : RdAt w3 w2.heap.size (some ⟨g, 0, none⟩) 8 gc 0 := by rw [hw3]; exact Blk.new _ _ _
  have Hc3 : Hid (∀ j, j < 8 → w3.cell? ⟨g, 0 + j, none⟩ = some (.int .u8 (P.D ((t.toNat - 1) * 64 + i * 8 + j)))) := fun j hj => by
    rw [hw3, World.cell?_alloc_some _ _ _ (by rw [Hcell.out j hj]; rfl)]; exact Hcell.out j hj
  have Hb3 : Hid (Below w.heap.size w w3) := by unfold Hid; rw [hw3]; exact Hb2.out.alloc Hb2.out.size _
  have HR := Lib.hid hR
  clear hR hw3
  go_wp2_with fail
  refine (num_any w2.heap.size g 0 8 gc 0 8 (fun j => P.D ((t.toNat - 1) * 64 + i * 8 + j)) _ HR.out Hc3.out (fun j => Hbd.out _) (by omega) (by omega) (by omega) hgc hgm (by omega)).mono ?_
  rintro e w4 ⟨rfl, _, hK4⟩
  have Hb4 : Hid (Below w.heap.size w w4) := Hb3.out.trans (hK4.below Hb3.out.size (fun i hi e => by omega))
  clear hK4
  go_wp2_with fail
  go_ret
  exact ⟨by simp [ent], Hb4.out⟩

set_option maxHeartbeats 1000000 in
theorem set_any (pb db ob : Nat) (P : Pool) (t : Int) (i : Nat) (x : Int) (w : World) (hP : PoolAt w pb db ob P) (hi : i < 8) (h0 : 0 ≤ x) (h1 : x ≤ 18446744073709551615) :
    Calls Try.prog 57 #[.pointer (some ⟨pb, 0, none⟩), .int .i64 t, .int .i64 i, .int .u64 x] w fun e w' => e = .returned (.tuple #[]) ∧ PoolAt w' pb db ob (P.setE t i x) ∧ Kept (PS pb db ob) w w' := by
  have HP := Lib.hid hP; have H0 := Lib.hid h0; have H1 := Lib.hid h1
  have hi8 : (i : Int) < 8 := by omega
  clear hP h0 h1
  go_enter Try.func57, Try.ntmps57
  go_wp2_with fail
  refine (put_any 8 x _ (by omega) H0.out H1.out).mono ?_
  rintro e w2 ⟨r, rfl, hown, hb2⟩
  obtain ⟨g, gc, cur, rfl, hg, hgh, hgc, hgm, _⟩ := hown.2.resolve_left (by rintro ⟨_, h0⟩; omega)
  have Hcell : Hid (BytesIn w2 (some ⟨g, 0, none⟩) 8 (byN 8 x)) := by
    refine .inr ⟨g, 0, rfl, fun j hj => ?_⟩
    rw [Nat.zero_add, hown.cellAt j (by omega)]; simp [hj]
  have HP2 := Lib.hid (HP.out.below hb2)
  have Hb2 := Lib.hid hb2
  clear hown hb2 hgh
  go_wp2_with fail
  refine (write_any pb db ob P t ((i : Int) * 8) _ 8 _ (byN 8 x) _ HP2.out Hcell.out (fun j _ => byN_bd _ _ _)).mono ?_
  rintro e w3 ⟨rfl, hP3, hK3⟩
  have HP3 := Lib.hid hP3; have HK3 := Lib.hid ((Kept.of_below (S := PS pb db ob) Hb2.out).trans hK3)
  clear hP3 hK3
  go_wp2_with fail
  go_end0
  exact ⟨rfl, HP3.out, HK3.out⟩
end Go.Proofs.Ytndnjimiabpkpaa
