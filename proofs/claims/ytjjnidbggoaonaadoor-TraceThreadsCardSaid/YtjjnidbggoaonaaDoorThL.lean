/- The walk of TraceThreads. -/
import Derived.Test.YtjjnidbggoaonaaDoorThT
import Derived.Deep.RegionHeld3
import Derived.Deep.LoopGhost
import Derived.Deep.RegionWith
import Derived.IntWalk
namespace Go.Proofs.YtjjnidbggoaonaaDoor
open Go.RowKit
attribute [local irreducible] World.setCell World.alloc World.drew Calls Code.wp
attribute [local go_sem] Oper.semAt_some

def preK (k pc : Nat) : List UInt8 := [116, 104, 114, 101, 97, 100, 32, 55, 32] ++ stW k ++ [32, 51, 32] ++ Lib.decDigits pc
theorem preK_eq (k pc : Nat) : preK k pc = preT k pc := by
  have h7 : Lib.decDigits 7 = [55] := by rw [Lib.decDigits, dif_pos (by omega)]; rfl
  have h3 : Lib.itoa 3 = [51] := by
    rw [show (3 : Int) = ((3 : Nat) : Int) from rfl, itoa_dec, Lib.decDigits, dif_pos (by omega)]; rfl
  unfold preK preT
  rw [h7, h3]
  simp
theorem thC_at (f : Nat → Nat) (pc st : Int) (j : Nat) (hj : j < 16) : (thC f pc st)[j]? = some (.int .u64 (f j : Nat)) := by
  obtain rfl | rfl | rfl | rfl | rfl | rfl | rfl | rfl | rfl | rfl | rfl | rfl | rfl | rfl | rfl | rfl : j = 0 ∨ j = 1 ∨ j = 2 ∨ j = 3 ∨ j = 4 ∨ j = 5 ∨ j = 6 ∨ j = 7 ∨ j = 8 ∨ j = 9 ∨ j = 10 ∨ j = 11 ∨ j = 12 ∨ j = 13 ∨ j = 14 ∨ j = 15 := by omega
  all_goals rfl
theorem thC_set (f : Nat → Nat) (pc st : Int) (j x : Nat) (hj : j < 16) : (thC f pc st).setIfInBounds j (.int .u64 (x : Nat)) = thC (fun i => if i = j then x else f i) pc st := by
  obtain rfl | rfl | rfl | rfl | rfl | rfl | rfl | rfl | rfl | rfl | rfl | rfl | rfl | rfl | rfl | rfl : j = 0 ∨ j = 1 ∨ j = 2 ∨ j = 3 ∨ j = 4 ∨ j = 5 ∨ j = 6 ∨ j = 7 ∨ j = 8 ∨ j = 9 ∨ j = 10 ∨ j = 11 ∨ j = 12 ∨ j = 13 ∨ j = 14 ∨ j = 15 := by omega
  all_goals rfl
theorem thC_congr (f g : Nat → Nat) (pc st : Int) (h : ∀ i, i < 16 → f i = g i) : thC f pc st = thC g pc st := by
  unfold thC
  rw [h 0 (by omega), h 1 (by omega), h 2 (by omega), h 3 (by omega), h 4 (by omega), h 5 (by omega), h 6 (by omega), h 7 (by omega), h 8 (by omega), h 9 (by omega), h 10 (by omega), h 11 (by omega), h 12 (by omega), h 13 (by omega), h 14 (by omega), h 15 (by omega)]
theorem regsT_congr (f g : Nat → Nat) (p : List UInt8) : ∀ j, (∀ i, i < j → f i = g i) → regsT f p j = regsT g p j
  | 0, _ => rfl
  | j + 1, h => by unfold regsT; rw [regsT_congr f g p j (fun i hi => h i (by omega)), h j (by omega)]
/-- A register as the law keeps it. -/
def mk3 (x : Nat) : Nat := if bits .and .u64 (x : Int) 3 = 0 then 0 else x
theorem mk3_no {x : Nat} (h : ¬ bits .and .u64 (x : Int) 3 = 0) : x ≠ 0 := fun e => h (by subst e; decide)

set_option maxRecDepth 100000 in
set_option maxHeartbeats 4000000 in
theorem threads_walk (r : Nat → Nat) (hr : ∀ i, r i < 18446744073709551616) (pc : Nat) (state : Int) (hpc : pc < 18446744073709551616) (w : World) (h : HasTr w) :
    Calls Tryd.prog 4 #[.agg (regsA r), .int .u64 pc, .int .i64 state] w fun e w' => e = .returned (.bool true) ∧ Below w.heap.size w w' := by
  have H := Lib.hid h; have Hr := Lib.hid hr; clear h hr
  go_enter Tryd.func4, Tryd.ntmps4
  go_wp2_with fail
  refine (fit26_any _ (H.out.below ((Below.refl _ _).alloc (Nat.le_refl _) _))).mono ?_
  rintro e w1 ⟨rfl, hb1⟩
  have HB1 := Lib.hid (((Below.refl _ w).alloc (Nat.le_refl _) (.cells (regsA r) 32)).trans (hb1.mono (by simp)))
  have HR1 : Hid (Blk w1 w.heap.size (regsA r) 32) := (Blk.new w _ _).below hb1 (by simp)
  clear hb1
  obtain ⟨k, hk, hk3⟩ : ∃ k : Nat, (wrap64 (state.tmod 3 + 3)).tmod 3 = (k : Int) ∧ k < 3 := by
    have h1 : -3 < state.tmod 3 ∧ state.tmod 3 < 3 := ⟨by have := Int.lt_tmod_of_pos state (b := 3) (by omega); omega, Int.tmod_lt_of_pos _ (by omega)⟩
    have h2 : wrap64 (state.tmod 3 + 3) = state.tmod 3 + 3 := by unfold wrap64; omega
    rw [h2]
    refine ⟨((state.tmod 3 + 3).tmod 3).toNat, ?_, ?_⟩
    · rw [Int.toNat_of_nonneg (Int.tmod_nonneg _ (by omega))]
    · have := Int.tmod_lt_of_pos (state.tmod 3 + 3) (b := 3) (by omega); have := Int.tmod_nonneg 3 (show 0 ≤ state.tmod 3 + 3 by omega); omega
  have hk3c : k = 0 ∨ k = 1 ∨ k = 2 := by omega
  have hk3' : (k : Int) < 3 := by omega
  go_upto_region 6 with fail
  obtain ⟨tb, htb⟩ : ∃ tb, tb = w1.heap.size := ⟨_, rfl⟩
  obtain ⟨w2, hw2⟩ : ∃ w2 : World, w2 = (w1.alloc (.cells #[.int .u64 0, .int .u64 0, .int .u64 0, .int .u64 0, .int .u64 0, .int .u64 0, .int .u64 0, .int .u64 0, .int .u64 0, .int .u64 0, .int .u64 0, .int .u64 0, .int .u64 0, .int .u64 0, .int .u64 0, .int .u64 0, .int .u64 pc, .int .i64 0, .slice none 0 0, .int .u64 0, .int .i64 k, .int .i64 0, .int .i64 0, .int .i64 0, .int .i64 0, .int .i64 3, .int .u64 0, .int .i64 0, .int .u64 0, .int .u64 0, .int .u64 0, .slice none 0 0, .int .i64 0, .slice none 0 0, .int .i64 0, .slice none 0 0, .slice none 0 0, .int .i64 0, .slice none 0 0] 48)).alloc (.cells #[.slice none 0 0, .int .u64 0, .int .u64 7, .int .i64 3, .int .i64 0, .slice none 0 0, .int .u64 0, .int .u64 0, .int .i64 0, .int .i64 0, .int .i64 0, .int .i64 0, .int .u64 0, .int .u64 0, .int .u64 0, .slice none 0 0, .slice none 0 0, .int .u64 0, .slice none 0 0, .pointer (some ⟨w1.heap.size, 0, none⟩), .int .i64 0, .slice none 0 0, .int .u64 0, .int .u64 0, .slice none 0 0, .slice none 0 0, .slice none 0 0, .slice none 0 0, .slice none 0 0, .slice none 0 0, .slice none 0 0, .slice none 0 0, .int .i64 0, .int .i64 0, .int .i64 0, .slice none 0 0] 64) := ⟨_, rfl⟩
  rw [← hw2]
  have HT2 : Hid (Blk w2 tb (thC (fun _ => 0) pc k) 48) := by rw [hw2, htb]; exact (Blk.new _ _ _).alloc _
  have HO2 : Hid (Blk w2 (tb + 1) (obC tb) 64) := by rw [hw2, htb]; have := Blk.new (w1.alloc (.cells (thC (fun _ => 0) pc k) 48)) (obC w1.heap.size) 64; rw [World.size_alloc] at this; exact this
  have HB2 : Hid (Below w.heap.size w w2) := by rw [hw2]; exact (HB1.out.alloc HB1.out.size _).alloc (by have := HB1.out.size; simp; omega) _
  have HR2 : Hid (Blk w2 w.heap.size (regsA r) 32) := by rw [hw2]; exact (HR1.out.alloc _).alloc _
  have Htb : Hid (w.heap.size < tb) := by rw [htb]; exact HR1.out.lt
  rw [← htb]
  clear hw2 htb HR1 HB1
  go_cut [8] from 30 to 38 (fun s8 wx => s8 = S (preK k pc) ∧ Below w2.heap.size w2 wx)
  case first =>
    clear hk
    have l2 := dec_len20 pc hpc
    rcases hk3c with rfl | rfl | rfl
    · have a1 : ∀ w, (Op.stringOp .add ⟨#[116, 104, 114, 101, 97, 100, 32, 55, 32]⟩ ⟨#[104, 97, 108, 116, 101, 100]⟩).run Tryd.prog w = .ok (.string ⟨#[116, 104, 114, 101, 97, 100, 32, 55, 32, 104, 97, 108, 116, 101, 100]⟩) w := run_sadd [116, 104, 114, 101, 97, 100, 32, 55, 32] [104, 97, 108, 116, 101, 100] (by decide)
      have a2 : ∀ w, (Op.stringOp .add ⟨#[116, 104, 114, 101, 97, 100, 32, 55, 32, 104, 97, 108, 116, 101, 100]⟩ ⟨#[32, 51, 32]⟩).run Tryd.prog w = .ok (.string ⟨#[116, 104, 114, 101, 97, 100, 32, 55, 32, 104, 97, 108, 116, 101, 100, 32, 51, 32]⟩) w := run_sadd [116, 104, 114, 101, 97, 100, 32, 55, 32, 104, 97, 108, 116, 101, 100] [32, 51, 32] (by decide)
      have a3 : ∀ w, (Op.stringOp .add ⟨#[116, 104, 114, 101, 97, 100, 32, 55, 32, 104, 97, 108, 116, 101, 100, 32, 51, 32]⟩ ⟨(Lib.decDigits pc).toArray⟩).run Tryd.prog w = .ok (.string ⟨(preK 0 pc).toArray⟩) w := run_sadd [116, 104, 114, 101, 97, 100, 32, 55, 32, 104, 97, 108, 116, 101, 100, 32, 51, 32] (Lib.decDigits pc) (by simp; omega)
      go_region_with ((refine (ldig_u pc hpc _).mono ?_; rintro e w6 ⟨rfl, hb6⟩; have hc6 := fun b o (h : b < _) => hb6.cell (p := ⟨b, o, none⟩) h))
      all_goals go_wp2_with fail
      all_goals go_meet
      all_goals first | exact ⟨rfl, (((Below.refl _ w2).alloc (Nat.le_refl _) _).drew).trans (hb6.mono (by simp))⟩ | exact ⟨rfl, (((Below.refl _ w2).drew).trans (hb6.mono (by simp))).alloc (by have := hb6.size; simpa using this) _⟩
    · have a1 : ∀ w, (Op.stringOp .add ⟨#[116, 104, 114, 101, 97, 100, 32, 55, 32]⟩ ⟨#[114, 117, 110, 110, 105, 110, 103]⟩).run Tryd.prog w = .ok (.string ⟨#[116, 104, 114, 101, 97, 100, 32, 55, 32, 114, 117, 110, 110, 105, 110, 103]⟩) w := run_sadd [116, 104, 114, 101, 97, 100, 32, 55, 32] [114, 117, 110, 110, 105, 110, 103] (by decide)
      have a2 : ∀ w, (Op.stringOp .add ⟨#[116, 104, 114, 101, 97, 100, 32, 55, 32, 114, 117, 110, 110, 105, 110, 103]⟩ ⟨#[32, 51, 32]⟩).run Tryd.prog w = .ok (.string ⟨#[116, 104, 114, 101, 97, 100, 32, 55, 32, 114, 117, 110, 110, 105, 110, 103, 32, 51, 32]⟩) w := run_sadd [116, 104, 114, 101, 97, 100, 32, 55, 32, 114, 117, 110, 110, 105, 110, 103] [32, 51, 32] (by decide)
      have a3 : ∀ w, (Op.stringOp .add ⟨#[116, 104, 114, 101, 97, 100, 32, 55, 32, 114, 117, 110, 110, 105, 110, 103, 32, 51, 32]⟩ ⟨(Lib.decDigits pc).toArray⟩).run Tryd.prog w = .ok (.string ⟨(preK 1 pc).toArray⟩) w := run_sadd [116, 104, 114, 101, 97, 100, 32, 55, 32, 114, 117, 110, 110, 105, 110, 103, 32, 51, 32] (Lib.decDigits pc) (by simp; omega)
      go_region_with ((refine (ldig_u pc hpc _).mono ?_; rintro e w6 ⟨rfl, hb6⟩; have hc6 := fun b o (h : b < _) => hb6.cell (p := ⟨b, o, none⟩) h))
      all_goals go_wp2_with fail
      all_goals go_meet
      all_goals first | exact ⟨rfl, (((Below.refl _ w2).alloc (Nat.le_refl _) _).drew).trans (hb6.mono (by simp))⟩ | exact ⟨rfl, (((Below.refl _ w2).drew).trans (hb6.mono (by simp))).alloc (by have := hb6.size; simpa using this) _⟩
    · have a1 : ∀ w, (Op.stringOp .add ⟨#[116, 104, 114, 101, 97, 100, 32, 55, 32]⟩ ⟨#[119, 97, 105, 116, 105, 110, 103]⟩).run Tryd.prog w = .ok (.string ⟨#[116, 104, 114, 101, 97, 100, 32, 55, 32, 119, 97, 105, 116, 105, 110, 103]⟩) w := run_sadd [116, 104, 114, 101, 97, 100, 32, 55, 32] [119, 97, 105, 116, 105, 110, 103] (by decide)
      have a2 : ∀ w, (Op.stringOp .add ⟨#[116, 104, 114, 101, 97, 100, 32, 55, 32, 119, 97, 105, 116, 105, 110, 103]⟩ ⟨#[32, 51, 32]⟩).run Tryd.prog w = .ok (.string ⟨#[116, 104, 114, 101, 97, 100, 32, 55, 32, 119, 97, 105, 116, 105, 110, 103, 32, 51, 32]⟩) w := run_sadd [116, 104, 114, 101, 97, 100, 32, 55, 32, 119, 97, 105, 116, 105, 110, 103] [32, 51, 32] (by decide)
      have a3 : ∀ w, (Op.stringOp .add ⟨#[116, 104, 114, 101, 97, 100, 32, 55, 32, 119, 97, 105, 116, 105, 110, 103, 32, 51, 32]⟩ ⟨(Lib.decDigits pc).toArray⟩).run Tryd.prog w = .ok (.string ⟨(preK 2 pc).toArray⟩) w := run_sadd [116, 104, 114, 101, 97, 100, 32, 55, 32, 119, 97, 105, 116, 105, 110, 103, 32, 51, 32] (Lib.decDigits pc) (by simp; omega)
      go_region_with ((refine (ldig_u pc hpc _).mono ?_; rintro e w6 ⟨rfl, hb6⟩; have hc6 := fun b o (h : b < _) => hb6.cell (p := ⟨b, o, none⟩) h))
      all_goals go_wp2_with fail
      all_goals go_meet
      all_goals first | exact ⟨rfl, (((Below.refl _ w2).alloc (Nat.le_refl _) _).drew).trans (hb6.mono (by simp))⟩ | exact ⟨rfl, (((Below.refl _ w2).drew).trans (hb6.mono (by simp))).alloc (by have := hb6.size; simpa using this) _⟩
  case rest =>
    obtain ⟨rfl, hb⟩ := hcut
    have Hb := Lib.hid hb; clear hb
    clear hk hk3c
    have HTc := Lib.hid (HT2.out.below Hb.out HT2.out.lt)
    have HOc := Lib.hid (HO2.out.below Hb.out HO2.out.lt)
    have HRc := Lib.hid (HR2.out.below Hb.out HR2.out.lt)
    have HBc := Lib.hid (bel_from HB2.out Hb.out)
    clear Hb HT2 HO2 HR2 HB2
    rw [preK_eq]
    have hc0 : wc.cell? ⟨w.heap.size, 0, none⟩ = some (.int .u64 (r 0 : Nat)) := (HRc.out.cell 0).trans rfl
    have hc1 : wc.cell? ⟨w.heap.size, 1, none⟩ = some (.int .u64 (r 1 : Nat)) := (HRc.out.cell 1).trans rfl
    have hc2 : wc.cell? ⟨w.heap.size, 2, none⟩ = some (.int .u64 (r 2 : Nat)) := (HRc.out.cell 2).trans rfl
    have hc3 : wc.cell? ⟨w.heap.size, 3, none⟩ = some (.int .u64 (r 3 : Nat)) := (HRc.out.cell 3).trans rfl
    have hc4 : wc.cell? ⟨w.heap.size, 4, none⟩ = some (.int .u64 (r 4 : Nat)) := (HRc.out.cell 4).trans rfl
    have hc5 : wc.cell? ⟨w.heap.size, 5, none⟩ = some (.int .u64 (r 5 : Nat)) := (HRc.out.cell 5).trans rfl
    have hc6 : wc.cell? ⟨w.heap.size, 6, none⟩ = some (.int .u64 (r 6 : Nat)) := (HRc.out.cell 6).trans rfl
    have hc7 : wc.cell? ⟨w.heap.size, 7, none⟩ = some (.int .u64 (r 7 : Nat)) := (HRc.out.cell 7).trans rfl
    have hc8 : wc.cell? ⟨w.heap.size, 8, none⟩ = some (.int .u64 (r 8 : Nat)) := (HRc.out.cell 8).trans rfl
    have hc9 : wc.cell? ⟨w.heap.size, 9, none⟩ = some (.int .u64 (r 9 : Nat)) := (HRc.out.cell 9).trans rfl
    have hc10 : wc.cell? ⟨w.heap.size, 10, none⟩ = some (.int .u64 (r 10 : Nat)) := (HRc.out.cell 10).trans rfl
    have hc11 : wc.cell? ⟨w.heap.size, 11, none⟩ = some (.int .u64 (r 11 : Nat)) := (HRc.out.cell 11).trans rfl
    have hc12 : wc.cell? ⟨w.heap.size, 12, none⟩ = some (.int .u64 (r 12 : Nat)) := (HRc.out.cell 12).trans rfl
    have hc13 : wc.cell? ⟨w.heap.size, 13, none⟩ = some (.int .u64 (r 13 : Nat)) := (HRc.out.cell 13).trans rfl
    have hc14 : wc.cell? ⟨w.heap.size, 14, none⟩ = some (.int .u64 (r 14 : Nat)) := (HRc.out.cell 14).trans rfl
    have hc15 : wc.cell? ⟨w.heap.size, 15, none⟩ = some (.int .u64 (r 15 : Nat)) := (HRc.out.cell 15).trans rfl
    have hra : (#[.int .u64 (r 0 : Nat), .int .u64 (r 1 : Nat), .int .u64 (r 2 : Nat), .int .u64 (r 3 : Nat), .int .u64 (r 4 : Nat), .int .u64 (r 5 : Nat), .int .u64 (r 6 : Nat), .int .u64 (r 7 : Nat), .int .u64 (r 8 : Nat), .int .u64 (r 9 : Nat), .int .u64 (r 10 : Nat), .int .u64 (r 11 : Nat), .int .u64 (r 12 : Nat), .int .u64 (r 13 : Nat), .int .u64 (r 14 : Nat), .int .u64 (r 15 : Nat)] : Array Value) = regsA r := rfl
    have Hra := Lib.hid hra; clear hra
    go_wp2_with fail
    rw [Hra.out]
    clear hc0 hc1 hc2 hc3 hc4 hc5 hc6 hc7 hc8 hc9 hc10 hc11 hc12 hc13 hc14 hc15
    go_loopg [8, 9, 10, 40] 16 (fun g s _ _ i wy => ∃ j : Nat, j + g = 16 ∧ i = .int .i64 j ∧ s = S (regsT (fun i => mk3 (r i)) (preT k pc) j) ∧ Blk wy tb (thC (fun i => if i < j then mk3 (r i) else 0) pc k) 48 ∧ Blk wy (tb + 1) (obC tb) 64 ∧ Below w.heap.size w wy)
    case atStart => exact ⟨0, rfl, rfl, rfl, HTc.out, HOc.out, HBc.out⟩
    case round =>
      obtain ⟨j, hj, rfl, rfl, hT, hO, hB⟩ := hrel
      have HT := Lib.hid hT; have HO := Lib.hid hO; have HB := Lib.hid hB
      clear hT hO hB
      have hoc : wr.cell? ⟨tb + 1, 19, none⟩ = some (.pointer (some ⟨tb, 0, none⟩)) := (HO.out.cell 19).trans rfl
      by_cases hlt : j < 16
      · have hlt' : (j : Int) < 16 := by omega
        have Hix := Lib.hid (fun w => idx16 r j hlt w)
        have hxl := Hr.out j
        have hct : wr.cell? ⟨tb, j, none⟩ = some (.int .u64 ((if j < j then mk3 (r j) else 0 : Nat))) := by rw [HT.out.cell, thC_at _ _ _ j hlt]
        have hft : wr.frozen? ⟨tb, j, none⟩ = false := HT.out.free j
        obtain ⟨x, hx⟩ : ∃ x, mk3 (r j) = x := ⟨_, rfl⟩
        have HTn : Hid (Blk (wr.setCell ⟨tb, j, none⟩ (.int .u64 (x : Nat))) tb (thC (fun i => if i < j + 1 then mk3 (r i) else 0) pc k) 48) :=
          (HT.out.set j (.int .u64 (x : Nat))).cells ((thC_set _ _ _ j x hlt).trans (thC_congr _ _ _ _ fun i hi => by
            by_cases e : i = j
            · subst e; rw [if_pos rfl, if_pos (by omega), hx]
            · rw [if_neg e]
              by_cases h : i < j
              · rw [if_pos h, if_pos (by omega)]
              · rw [if_neg h, if_neg (by omega)]))
        have HOn : Hid (Blk (wr.setCell ⟨tb, j, none⟩ (.int .u64 (x : Nat))) (tb + 1) (obC tb) 64) := HO.out.set_other (a := ⟨tb, j, none⟩) (by show tb ≠ tb + 1; omega) _
        have HBn : Hid (Below w.heap.size w (wr.setCell ⟨tb, j, none⟩ (.int .u64 (x : Nat)))) := HB.out.setCell (p := ⟨tb, j, none⟩) (Nat.le_of_lt Htb.out) _
        have hrl := regsT_len (fun i => mk3 (r i)) (fun i => by show mk3 (r i) < _; unfold mk3; split; omega; exact Hr.out i) (preT k pc) j (by omega)
        have hpl : (preT k pc).length ≤ 100 := by
          have l1 := dec_len20 pc hpc
          have l2 := stW_len k
          have l3 := dec_len20 7 (by omega)
          have l4 := Lib.itoa_length_le (n := 3) (by omega) (by omega)
          unfold preT; simp only [List.length_append, List.length_cons, List.length_nil]; omega
        have Hst : Hid (regsT (fun i => mk3 (r i)) (preT k pc) (j + 1) = regsT (fun i => mk3 (r i)) (preT k pc) j ++ regT j x) := by show _ = _; rw [← hx]; rfl
        obtain ⟨R, hR⟩ : ∃ R, regsT (fun i => mk3 (r i)) (preT k pc) j = R := ⟨_, rfl⟩
        rw [hR] at hrl Hst ⊢
        clear hR
        by_cases c : bits .and .u64 (r j : Int) 3 = 0
        · obtain rfl : x = 0 := by rw [← hx]; unfold mk3; rw [if_pos c]
          have Hrt : Hid (regT j 0 = []) := rfl
          clear hx
          go_wp2_with (refine wpList_index3 rfl rfl (Hix.out _) ?_)
          go_roundg (16 - (j + 1))
          case measure => omega
          case rel => exact ⟨j + 1, by omega, by go_num, by rw [Hst.out, Hrt.out, List.append_nil], HTn.out, HOn.out, HBn.out⟩
        · have hx0 := mk3_no c
          obtain rfl : r j = x := by rw [← hx]; unfold mk3; rw [if_neg c]
          have hcb : ((bits .and .u64 (r j : Int) 3) == 0) = false := by simpa using c
          have hxb : ((r j : Int) != 0) = true := by simp; omega
          have Hrt : Hid (regT j (r j) = [32, 114] ++ Lib.decDigits j ++ [61] ++ Lib.decDigits (r j)) := by show _ = _; unfold regT; rw [if_neg hx0]
          have d1 := dec_len20 j (by omega)
          have d2 := dec_len20 (r j) hxl
          have hwj : IntKind.u64.wrap (j : Int) = j := IntWalk.u64_in _ (by omega)
          have Hdi := Lib.hid (fun w => ldig_u j (by omega) w)
          have Hdx := Lib.hid (fun w => ldig_u (r j) hxl w)
          obtain ⟨D, hD⟩ : ∃ D, Lib.decDigits j = D := ⟨_, rfl⟩
          obtain ⟨E, hE⟩ : ∃ E, Lib.decDigits (r j) = E := ⟨_, rfl⟩
          rw [hD] at Hdi Hrt d1
          rw [hE] at Hdx Hrt d2
          obtain ⟨L1, hL1⟩ : ∃ L, [32, 114] ++ D = L := ⟨_, rfl⟩
          obtain ⟨L2, hL2⟩ : ∃ L, L1 ++ [61] = L := ⟨_, rfl⟩
          obtain ⟨L3, hL3⟩ : ∃ L, L2 ++ E = L := ⟨_, rfl⟩
          obtain ⟨L4, hL4⟩ : ∃ L, R ++ L3 = L := ⟨_, rfl⟩
          have k1 : L1.length = 2 + D.length := by rw [← hL1]; simp; omega
          have k2 : L2.length = L1.length + 1 := by rw [← hL2]; simp
          have k3 : L3.length = L2.length + E.length := by rw [← hL3]; simp
          have a1 : ∀ w, (Op.stringOp .add ⟨#[32, 114]⟩ ⟨D.toArray⟩).run Tryd.prog w = .ok (S L1) w := fun w => by rw [← hL1]; exact run_sadd [32, 114] D (by simp; omega) w
          have a2 : ∀ w, (Op.stringOp .add ⟨L1.toArray⟩ ⟨#[61]⟩).run Tryd.prog w = .ok (S L2) w := fun w => by rw [← hL2]; exact run_sadd L1 [61] (by simp; omega) w
          have a3 : ∀ w, (Op.stringOp .add ⟨L2.toArray⟩ ⟨E.toArray⟩).run Tryd.prog w = .ok (S L3) w := fun w => by rw [← hL3]; exact run_sadd L2 E (by omega) w
          have a4 : ∀ w, (Op.stringOp .add ⟨R.toArray⟩ ⟨L3.toArray⟩).run Tryd.prog w = .ok (S L4) w := fun w => by rw [← hL4]; exact run_sadd R L3 (by omega) w
          have Hrt3 : Hid (R ++ regT j (r j) = L4) := by show _ = _; rw [Hrt.out, hL1, hL2, hL3, hL4]
          clear hD hE hL1 hL2 hL3 hL4 k1 k2 k3 hx0 d1 d2 Hrt hx hrl
          go_wp2_with (refine wpList_index3 rfl rfl (Hix.out _) ?_)
          refine (Hdi.out _).mono ?_
          rintro e w3 ⟨rfl, hb3⟩
          have HT3 := Lib.hid (HTn.out.below hb3 HTn.out.lt)
          have HO3 := Lib.hid (HOn.out.below hb3 HOn.out.lt)
          have HB3 := Lib.hid (bel_from HBn.out hb3)
          clear hb3
          go_wp2_with fail
          refine (Hdx.out _).mono ?_
          rintro e w4 ⟨rfl, hb4⟩
          have HT4 := Lib.hid (HT3.out.below hb4 HT3.out.lt)
          have HO4 := Lib.hid (HO3.out.below hb4 HO3.out.lt)
          have HB4 := Lib.hid (bel_from HB3.out hb4)
          clear hb4
          go_wp2_with fail
          go_roundg (16 - (j + 1))
          case measure => omega
          case rel => exact ⟨j + 1, by omega, by go_num, by rw [Hst.out, Hrt3.out], HT4.out, HO4.out, HB4.out⟩
      · obtain rfl : j = 16 := by omega
        have hTf : Blk wr tb (thC (fun i => mk3 (r i)) pc k) 48 := HT.out.cells (thC_congr _ _ _ _ fun i hi => by rw [if_pos hi])
        have HTf := Lib.hid hTf; clear hTf
        go_wp2_with fail
        refine (thread_any (fun i => mk3 (r i)) pc k tb hk3 hpc (fun i => by show mk3 (r i) < _; unfold mk3; split; omega; exact Hr.out i) _ (H.out.below HB.out) HTf.out HO.out).mono ?_
        rintro e w3 ⟨rfl, hb3⟩
        have HB3 := Lib.hid (bel_from HB.out hb3)
        clear hb3
        go_wp2_with fail
        go_ret
        exact ⟨by simp, HB3.out⟩
end Go.Proofs.YtjjnidbggoaonaaDoor
