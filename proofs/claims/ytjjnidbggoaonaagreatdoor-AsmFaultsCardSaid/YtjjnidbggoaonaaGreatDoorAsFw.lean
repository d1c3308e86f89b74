/- The walk of AsmFaults. -/
import Derived.Test.YtjjnidbggoaonaaGreatDoorAsFit
import Derived.Test.YtjjnidbggoaonaaGreatDoorBits
import Derived.Deep.LoopGhost
namespace Go.Proofs.YtjjnidbggoaonaaGreatDoor
open Go.RowKit
attribute [local irreducible] World.setCell World.alloc World.drew Calls Code.wp
attribute [local go_sem] Oper.semAt_some

/-- The row's cells: each line with a fault, and its kind. -/
def badC : Array Value := (badL.flatMap fun p => [S p.1, .int .i64 (p.2 : Nat)]).toArray
theorem badC_at : ∀ r, r < 15 → ∃ p, badL[r]? = some p ∧ badC[2 * r]? = some (S p.1) ∧ badC[2 * r + 1]? = some (.int .i64 (p.2 : Nat)) ∧ p ∈ badL ∧ p.1.length ≤ 100 := by
  intro r hr
  obtain rfl | rfl | rfl | rfl | rfl | rfl | rfl | rfl | rfl | rfl | rfl | rfl | rfl | rfl | rfl : r = 0 ∨ r = 1 ∨ r = 2 ∨ r = 3 ∨ r = 4 ∨ r = 5 ∨ r = 6 ∨ r = 7 ∨ r = 8 ∨ r = 9 ∨ r = 10 ∨ r = 11 ∨ r = 12 ∨ r = 13 ∨ r = 14 := by omega
  all_goals exact ⟨_, rfl, rfl, rfl, by simp [badL], by decide⟩
def headT : List UInt8 := [97, 58, 32, 104, 97, 108, 116, 10]
theorem haltN_len (k : Nat) : (haltN k).length = 5 * k := by
  induction k with
  | zero => rfl
  | succ k ih => unfold haltN; rw [List.length_append, ih]; simp; omega

set_option maxRecDepth 100000 in
set_option maxHeartbeats 4000000 in
theorem faults_walk (which above : Int) (_ : -9223372036854775808 ≤ which) (_ : which ≤ 9223372036854775807) (w : World) (h : HasAz w) :
    Calls Tryz.prog 6 #[.int .i64 which, .int .i64 above] w fun e w' => e = .returned (.bool true) ∧ Below w.heap.size w w' := by
  have H := Lib.hid h
  have Hfit := Lib.hid (fit24_any w h)
  clear h
  have ha := and15 above
  obtain ⟨k, hk⟩ : ∃ k : Nat, above % 16 = (k : Int) := ⟨(above % 16).toNat, by omega⟩
  have hk16 : k < 16 := by omega
  rw [hk] at ha
  have hb := tmod_bd which 15 (by omega)
  have m1 : IntKind.i64.wrap (which.tmod 15 + 15) = which.tmod 15 + 15 := IntWalk.i64_in _ (by omega)
  obtain ⟨r, hr⟩ : ∃ r : Nat, (which.tmod 15 + 15).tmod 15 = (r : Int) := ⟨((which.tmod 15 + 15).tmod 15).toNat, by
    have := Int.tmod_nonneg (a := which.tmod 15 + 15) 15 (by omega); omega⟩
  have hr15 : r < 15 := by have := tmod_bd (which.tmod 15 + 15) 15 (by omega); omega
  obtain ⟨p, hp1, hp2, hp3, hp4, hp5⟩ := badC_at r hr15
  clear hb hk hp1
  go_enter Tryz.func6, Tryz.ntmps6
  go_wp2_with fail
  refine Hfit.out.mono ?_
  rintro e w1 ⟨rfl, hb1⟩
  have HB1 := Lib.hid hb1
  clear hb1
  go_upto_region 5 with fail
  obtain ⟨w2, hw2⟩ : ∃ w2 : World, w2 = w1.alloc (.cells #[.string ⟨#[97, 58]⟩, .int .i64 3, .string ⟨#[65, 58, 32, 104, 97, 108, 116]⟩, .int .i64 10, .string ⟨#[97, 100, 100, 32, 114, 49, 44, 32, 114, 50]⟩, .int .i64 10, .string ⟨#[108, 105, 32, 114, 49, 54, 44, 32, 49]⟩, .int .i64 10, .string ⟨#[108, 105, 32, 114, 49, 44, 32, 50, 49, 52, 55, 52, 56, 51, 54, 52, 56]⟩, .int .i64 11, .string ⟨#[108, 105, 32, 114, 49, 44, 32, 45, 50, 49, 52, 55, 52, 56, 51, 54, 52, 57]⟩, .int .i64 11, .string ⟨#[106, 97, 108, 32, 114, 49, 44, 32, 110, 111, 119, 104, 101, 114, 101]⟩, .int .i64 2, .string ⟨#[110, 111, 112]⟩, .int .i64 10, .string ⟨#[46, 122, 101, 114, 111, 32, 49, 50, 57]⟩, .int .i64 11, .string ⟨#[46, 119, 111, 114, 100, 32, 48, 120, 49, 48, 48, 48, 48, 48, 48, 48, 48, 48, 48, 48, 48, 48, 48, 48, 48]⟩, .int .i64 11, .string ⟨#[108, 100, 32, 114, 49, 44, 32, 56, 40, 114, 50]⟩, .int .i64 10, .string ⟨#[108, 105, 32, 114, 49, 44, 32, 48, 120, 103]⟩, .int .i64 10, .string ⟨#[46, 122, 101, 114, 111, 32, 45, 49]⟩, .int .i64 11, .string ⟨#[104, 97, 108, 116, 32, 114, 49]⟩, .int .i64 10, .string ⟨#[108, 100, 32, 114, 49, 44, 32, 40, 114, 50, 41]⟩, .int .i64 10] 44) := ⟨_, rfl⟩
  obtain ⟨lb, hlb⟩ : ∃ lb, lb = w1.heap.size := ⟨_, rfl⟩
  have hbc : (#[.string ⟨#[97, 58]⟩, .int .i64 3, .string ⟨#[65, 58, 32, 104, 97, 108, 116]⟩, .int .i64 10, .string ⟨#[97, 100, 100, 32, 114, 49, 44, 32, 114, 50]⟩, .int .i64 10, .string ⟨#[108, 105, 32, 114, 49, 54, 44, 32, 49]⟩, .int .i64 10, .string ⟨#[108, 105, 32, 114, 49, 44, 32, 50, 49, 52, 55, 52, 56, 51, 54, 52, 56]⟩, .int .i64 11, .string ⟨#[108, 105, 32, 114, 49, 44, 32, 45, 50, 49, 52, 55, 52, 56, 51, 54, 52, 57]⟩, .int .i64 11, .string ⟨#[106, 97, 108, 32, 114, 49, 44, 32, 110, 111, 119, 104, 101, 114, 101]⟩, .int .i64 2, .string ⟨#[110, 111, 112]⟩, .int .i64 10, .string ⟨#[46, 122, 101, 114, 111, 32, 49, 50, 57]⟩, .int .i64 11, .string ⟨#[46, 119, 111, 114, 100, 32, 48, 120, 49, 48, 48, 48, 48, 48, 48, 48, 48, 48, 48, 48, 48, 48, 48, 48, 48]⟩, .int .i64 11, .string ⟨#[108, 100, 32, 114, 49, 44, 32, 56, 40, 114, 50]⟩, .int .i64 10, .string ⟨#[108, 105, 32, 114, 49, 44, 32, 48, 120, 103]⟩, .int .i64 10, .string ⟨#[46, 122, 101, 114, 111, 32, 45, 49]⟩, .int .i64 11, .string ⟨#[104, 97, 108, 116, 32, 114, 49]⟩, .int .i64 10, .string ⟨#[108, 100, 32, 114, 49, 44, 32, 40, 114, 50, 41]⟩, .int .i64 10] : Array Value) = badC := rfl
  rw [← hw2, ← hlb]
  rw [hbc] at hw2
  have HL2 : Hid (Blk w2 lb badC 44) := by rw [hw2, hlb]; exact Blk.new _ _ _
  have HB2 : Hid (Below w.heap.size w w2) := by rw [hw2]; exact HB1.out.alloc HB1.out.size _
  have q1 : w2.cell? ⟨lb, r * 2, none⟩ = some (S p.1) := by rw [HL2.out.cell, Nat.mul_comm]; exact hp2
  have q2 : w2.cell? ⟨lb, r * 2 + 1, none⟩ = some (.int .i64 (p.2 : Nat)) := by rw [HL2.out.cell, Nat.mul_comm]; exact hp3
  clear hbc hw2 hlb hp2 hp3 HL2
  go_wp2_with fail
  obtain ⟨xb, hxb⟩ : ∃ xb, xb = w2.heap.size := ⟨_, rfl⟩
  obtain ⟨w3, hw3⟩ : ∃ w3 : World, w3 = w2.alloc (.cells #[S p.1, .int .i64 (p.2 : Nat)] 44) := ⟨_, rfl⟩
  rw [← hw3, ← hxb]
  have HX3 : Hid (Blk w3 xb #[S p.1, .int .i64 (p.2 : Nat)] 44) := by rw [hw3, hxb]; exact Blk.new _ _ _
  have HB3 : Hid (Below w.heap.size w w3) := by rw [hw3]; exact HB2.out.alloc HB2.out.size _
  clear hw3 hxb q1 q2 hr m1 hr15
  go_loopg [7, 44] k (fun g vt vi wx => ∃ j : Nat, j + g = k ∧ vt = S (headT ++ haltN j) ∧ vi = .int .i64 j ∧ wx = w3)
  case atStart => exact ⟨0, by omega, rfl, rfl, rfl⟩
  case round =>
    obtain ⟨j, hj, rfl, rfl, rfl⟩ := hrel
    obtain ⟨T, hT⟩ : ∃ T, headT ++ haltN j = T := ⟨_, rfl⟩
    have lT : T.length = 8 + 5 * j := by rw [← hT, List.length_append, haltN_len]; rfl
    rw [hT]
    by_cases hjk : j < k
    · have hjk' : (j : Int) < k := by omega
      have s1 : ∀ w, (Op.stringOp .add ⟨T.toArray⟩ ⟨#[104, 97, 108, 116, 10]⟩).run Tryz.prog w = .ok (S (headT ++ haltN (j + 1))) w := by
        have := run_sadd (P := Tryz.prog) T [104, 97, 108, 116, 10] (by simp; omega)
        rw [← hT, List.append_assoc] at this
        rw [← hT]; exact this
      obtain ⟨T2, hT2⟩ : ∃ T2, headT ++ haltN (j + 1) = T2 := ⟨_, rfl⟩
      rw [hT2] at s1
      have HT2 := Lib.hid hT2
      clear hT hT2
      go_wp2_with fail
      go_roundg (k - (j + 1))
      case measure => omega
      case rel => exact ⟨j + 1, by omega, by rw [HT2.out], by go_num, rfl⟩
    · obtain rfl : j = k := by omega
      have hx3 := HX3.out.cell
      have ln : (headT ++ haltN j).length = T.length := by rw [hT]
      have s1 : ∀ w, (Op.stringOp .add ⟨T.toArray⟩ ⟨p.1.toArray⟩).run Tryz.prog w = .ok (S (T ++ p.1)) w := run_sadd (P := Tryz.prog) T p.1 (by omega)
      have s2 : ∀ w, (Op.stringOp .add ⟨(T ++ p.1).toArray⟩ ⟨#[10, 104, 97, 108, 116, 32, 104, 97, 108, 116]⟩).run Tryz.prog w = .ok (S (badText j p.1)) w := by
        have := run_sadd (P := Tryz.prog) (T ++ p.1) [10, 104, 97, 108, 116, 32, 104, 97, 108, 116] (by simp; omega)
        rw [← hT] at this
        rw [← hT]; exact this
      have Hasm := Lib.hid (asm_ascii (badText j p.1) (by have := (bad_plain j hk16 p hp4).1; omega) (bad_plain j hk16 p hp4).2 _ (H.out.below HB3.out).base)
      have Hbad := Lib.hid (bad_all j hk16 p hp4)
      obtain ⟨T2, hT2⟩ : ∃ T2, T ++ p.1 = T2 := ⟨_, rfl⟩
      rw [hT2] at s1 s2
      obtain ⟨T3, hT3⟩ : ∃ T3, badText j p.1 = T3 := ⟨_, rfl⟩
      rw [hT3] at s2 Hasm Hbad
      have w1' : IntKind.i64.wrap ((j : Int) + 2) = j + 2 := IntWalk.i64_in _ (by omega)
      clear hT hT2 hT3 ln lT
      go_wp2_with fail
      refine Hasm.out.mono ?_
      rintro e w4 ⟨v, rfl, hv, hb4⟩
      rw [Hbad.out] at hv ⊢
      obtain ⟨x, c, rfl, -, -⟩ := hv
      have hx4 := (HX3.out.below hb4 HX3.out.lt).alloc (.cells #[.int .i64 (p.2 : Nat), .int .i64 ((j : Int) + 2)] 30)
      have HB4 : Hid (Below w.heap.size w w4) := bel_from HB3.out hb4
      have hc4 := hx4.cell
      clear hb4 hx3 hx4
      go_wp2_with fail

      go_ret
      exact ⟨by simp, HB4.out.alloc HB4.out.size _⟩
end Go.Proofs.YtjjnidbggoaonaaGreatDoor
