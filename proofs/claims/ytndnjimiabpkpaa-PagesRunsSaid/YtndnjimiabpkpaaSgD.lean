/- Contracts of segments: Num, Put, Copy. -/
import Derived.Test.YtndnjimiabpkpaaSgC
namespace Go.Proofs.Ytndnjimiabpkpaa
open Go.RowKit
attribute [local irreducible] World.setCell World.alloc World.drew World.setRow Calls Code.wp row

/-- May a number of so many bytes lie there? -/
def segM (L : List Int) (off n : Int) : Bool := decide (1 ≤ n) && decide (n ≤ 8) && segW L off n
theorem segM_iff (L : List Int) (off n : Int) : segM L off n = true ↔ 1 ≤ n ∧ n ≤ 8 ∧ segW L off n = true := by simp [segM, and_assoc]

theorem snum_no (sb si pb : Nat) (cs : Array Value) (lo : Nat) (v : Value) (L : List Int) (off n : Int) (w : World) (hS : SegAt w sb si cs lo v L) (hf : segM L off n = false) :
    Calls Try.prog 35 #[.pointer (some ⟨sb, si, none⟩), .pointer (some ⟨pb, 0, none⟩), .int .i64 off, .int .i64 n] w fun e w' => e = .returned (.tuple #[.int .u64 0, .bool false]) ∧ w = w' := by
  have HS := Lib.hid hS; clear hS
  by_cases h1 : n < 1
  · clear hf
    go_enter Try.func35, Try.ntmps35
    go_wp2_with fail
    go_ret2
    exact ⟨rfl, rfl⟩
  by_cases h8 : 8 < n
  · clear hf
    go_enter Try.func35, Try.ntmps35
    go_wp2_with fail
    go_ret2
    exact ⟨rfl, rfl⟩
  have hw : segW L off n = false := by
    cases hw : segW L off n
    · rfl
    · have := (segM_iff L off n).2 ⟨by omega, by omega, hw⟩
      rw [hf] at this; cases this
  have Hw := Lib.hid hw; clear hw hf
  go_enter Try.func35, Try.ntmps35
  go_wp2_with fail
  refine (sread_no sb si pb cs lo v L _ _ _ HS.out Hw.out).mono ?_
  rintro e w' ⟨rfl, rfl⟩
  go_wp2_with fail
  go_ret2
  exact ⟨rfl, rfl⟩

set_option maxHeartbeats 1000000 in
theorem snum_yes (sb si pb db ob : Nat) (cs : Array Value) (lo : Nat) (v : Value) (L : List Int) (P : Pool) (o : Int) (q m : Nat) (w : World) (hS : SegAt w sb si cs lo v L) (hP : PoolAt w pb db ob P) (hI : SegIn P o L) (hf : segM L q m = true) :
    Calls Try.prog 35 #[.pointer (some ⟨sb, si, none⟩), .pointer (some ⟨pb, 0, none⟩), .int .i64 q, .int .i64 m] w fun e w' =>
      e = .returned (.tuple #[.int .u64 (beN (fun j => segD P L (q + j)) m), .bool true]) ∧ Below w.heap.size w w' := by
  obtain ⟨f1, f2, f3⟩ := (segM_iff _ _ _).1 hf
  have hm1 : 1 ≤ m := by omega
  have hm8 : m ≤ 8 := by omega
  have hbd := hP.bd
  have HS := Lib.hid hS; have HP := Lib.hid hP; have HI := Lib.hid hI; have Hf3 := Lib.hid f3; have Hbd := Lib.hid hbd
  clear hS hP hI hf f3 hbd
  go_enter Try.func35, Try.ntmps35
  go_wp2_with fail
  refine (sread_yes sb si pb db ob cs lo v L P o _ _ _ HS.out HP.out HI.out Hf3.out).mono ?_
  rintro e w2 ⟨r, rfl, hown, hb2⟩
  have hb2' := hb2.size
  obtain ⟨g, gc, cur, rfl, hg, hgh, hgc, hgm, _⟩ := hown.2.resolve_left (by rintro ⟨_, h0⟩; omega)
  have hcell : ∀ j, j < m → w2.cell? ⟨g, 0 + j, none⟩ = some (.int .u8 (segD P L (q + j))) := fun j hj => by
    rw [Nat.zero_add, hown.cellAt j (by omega)]; simp [segC, hj]
  have hgl : g < w2.heap.size := (Array.getElem?_eq_some_iff.1 hgh).1
  have Hcell := Lib.hid hcell; have Hb2 := Lib.hid hb2
  clear hown hcell hb2 hgh
  go_wp2_with fail
  refine (pnew_any _ _ _ _).mono ?_
  rintro e w3 ⟨rfl, hw3⟩
  have hR : RdAt w3 w2.heap.size (some ⟨g, 0, none⟩) m gc 0 := by rw [hw3]; exact Blk.new _ _ _
  have Hc3 : Hid (∀ j, j < m → w3.cell? ⟨g, 0 + j, none⟩ = some (.int .u8 (segD P L (q + j)))) := fun j hj => by
    rw [hw3, World.cell?_alloc_some _ _ _ (by rw [Hcell.out j hj]; rfl)]; exact Hcell.out j hj
  have Hb3 : Hid (Below w.heap.size w w3) := by unfold Hid; rw [hw3]; exact Hb2.out.alloc Hb2.out.size _
  have HR := Lib.hid hR
  clear hR hw3
  go_wp2_with fail
  refine (num_any w2.heap.size g 0 m gc 0 m (fun j => segD P L (q + j)) _ HR.out Hc3.out (fun j => Hbd.out _) hm1 hm8 (by omega) hgc hgm (by omega)).mono ?_
  rintro e w4 ⟨rfl, _, hK4⟩
  have Hb4 : Hid (Below w.heap.size w w4) := Hb3.out.trans (hK4.below Hb3.out.size (fun i hi e => by omega))
  clear hK4
  go_wp2_with fail
  go_ret2
  exact ⟨by simp, Hb4.out⟩

theorem sput_no (sb si pb : Nat) (cs : Array Value) (lo : Nat) (v : Value) (L : List Int) (off n x : Int) (w : World) (h0 : 0 ≤ x) (h1 : x ≤ 18446744073709551615) (hS : SegAt w sb si cs lo v L) (hf : segM L off n = false) :
    Calls Try.prog 34 #[.pointer (some ⟨sb, si, none⟩), .pointer (some ⟨pb, 0, none⟩), .int .i64 off, .int .i64 n, .int .u64 x] w fun e w' => e = .returned (.bool false) ∧ Below w.heap.size w w' := by
  have HS := Lib.hid hS; have H0 := Lib.hid h0; have H1 := Lib.hid h1; clear hS h0 h1
  by_cases h1 : n < 1
  · clear hf
    go_enter Try.func34, Try.ntmps34
    go_wp2_with fail
    go_ret
    exact ⟨rfl, Below.refl _ _⟩
  by_cases h8 : 8 < n
  · clear hf
    go_enter Try.func34, Try.ntmps34
    go_wp2_with fail
    go_ret
    exact ⟨rfl, Below.refl _ _⟩
  have hw : segW L off n = false := by
    cases hw : segW L off n
    · rfl
    · have := (segM_iff L off n).2 ⟨by omega, by omega, hw⟩
      rw [hf] at this; cases this
  obtain ⟨m, rfl⟩ : ∃ m : Nat, n = (m : Int) := ⟨n.toNat, by omega⟩
  have Hw := Lib.hid hw; clear hw hf
  go_enter Try.func34, Try.ntmps34
  go_wp2_with fail
  refine (put_any m x _ (by omega) H0.out H1.out).mono ?_
  rintro e w2 ⟨r, rfl, hown, hb2⟩
  obtain ⟨g, gc, cur, rfl, hg, hgh, hgc, hgm, _⟩ := hown.2.resolve_left (by rintro ⟨_, h0⟩; omega)
  have Hb2 := Lib.hid hb2
  have HS2 := Lib.hid (HS.out.below hb2)
  clear hown hb2 hgh
  go_wp2_with fail
  refine (swrite_no sb si pb cs lo v L _ _ _ _ _ HS2.out Hw.out).mono ?_
  rintro e w3 ⟨rfl, rfl⟩
  go_wp2_with fail
  go_ret
  exact ⟨rfl, Hb2.out⟩

set_option maxHeartbeats 1000000 in
theorem sput_yes (sb si pb db ob : Nat) (cs : Array Value) (lo : Nat) (v : Value) (L : List Int) (P : Pool) (o : Int) (q m : Nat) (x : Int) (w : World) (h0 : 0 ≤ x) (h1 : x ≤ 18446744073709551615) (hS : SegAt w sb si cs lo v L) (hP : PoolAt w pb db ob P) (hI : SegIn P o L) (hf : segM L q m = true) (n1 : ¬ PS pb db ob sb) (n2 : ∀ g, v.ownBlock = some g → ¬ PS pb db ob g) :
    Calls Try.prog 34 #[.pointer (some ⟨sb, si, none⟩), .pointer (some ⟨pb, 0, none⟩), .int .i64 q, .int .i64 m, .int .u64 x] w fun e w' =>
      e = .returned (.bool true) ∧ ∃ P', PoolAt w' pb db ob P' ∧ SegPut P P' L q m (byN m x) ∧ Kept (PS pb db ob) w w' := by
  obtain ⟨f1, f2, f3⟩ := (segM_iff _ _ _).1 hf
  have hm1 : 1 ≤ m := by omega
  have hm8 : m ≤ 8 := by omega
  have HS := Lib.hid hS; have HP := Lib.hid hP; have HI := Lib.hid hI; have Hf3 := Lib.hid f3; have H0 := Lib.hid h0; have H1 := Lib.hid h1
  clear hS hP hI hf f3 h0 h1
  go_enter Try.func34, Try.ntmps34
  go_wp2_with fail
  refine (put_any m x _ hm8 H0.out H1.out).mono ?_
  rintro e w2 ⟨r, rfl, hown, hb2⟩
  obtain ⟨g, gc, cur, rfl, hg, hgh, hgc, hgm, _⟩ := hown.2.resolve_left (by rintro ⟨_, h0⟩; omega)
  have hgl : g < w2.heap.size := (Array.getElem?_eq_some_iff.1 hgh).1
  have hps : ∀ k, PS pb db ob k → k < w.heap.size := by
    rintro k (e | e | e) <;> subst e
    · exact HP.out.hp.lt
    · exact HP.out.hd.lt
    · exact HP.out.ho.lt
  have Hcell : Hid (∀ w', Kept (PS pb db ob) w2 w' → BytesIn w' (some ⟨g, 0, none⟩) m (byN m x)) := fun w' hk => by
    refine .inr ⟨g, 0, rfl, fun j hj => ?_⟩
    have e1 : w'.cell? ⟨g, 0 + j, none⟩ = w2.cell? ⟨g, 0 + j, none⟩ := World.cell?_of_block (hk.block g hgl (fun e => by have := hps g e; omega))
    rw [e1, Nat.zero_add, hown.cellAt j (by omega)]; simp [hj]
  have HP2 := Lib.hid (HP.out.below hb2)
  have Hb2 := Lib.hid hb2
  have HS2 := Lib.hid (HS.out.below hb2)
  clear hown hb2 hgh hps
  go_wp2_with fail
  refine (swrite_yes sb si pb db ob cs lo v L P o _ _ _ _ (byN m x) _ HS2.out HP2.out HI.out Hf3.out Hcell.out (fun j => byN_bd _ _ _) hgc hgm n1 n2).mono ?_
  rintro e w3 ⟨rfl, P', hP3, hD3, hK3⟩
  have HP3 := Lib.hid hP3; have HD3 := Lib.hid hD3; have HK3 := Lib.hid ((Kept.of_below (S := PS pb db ob) Hb2.out).trans hK3)
  clear hP3 hD3 hK3
  go_wp2_with fail
  go_ret
  exact ⟨rfl, P', HP3.out, HD3.out, HK3.out⟩
end Go.Proofs.Ytndnjimiabpkpaa
