/- The assembler's parts: fail, reg, imm, op, form. -/
import Derived.Test.YtjjnidbggoaonaaGreatDoorAsN
import Derived.Test.YtjjnidbggoaonaaGreatDoorAsR
namespace Go.Proofs.YtjjnidbggoaonaaGreatDoor
open Go.RowKit
attribute [local irreducible] World.setCell World.alloc World.drew Calls Code.wp
attribute [local go_sem] Oper.semAt_some

/-- A source's cells: its lines, labels, and the fault. -/
def srcC (L M : Value) (f : Nat × Nat) : Array Value := #[L, M, .int .i64 (f.1 : Nat), .int .i64 (f.2 : Nat)]
set_option maxHeartbeats 1000000 in
theorem fail_any (sb : Nat) (L M : Value) (f : Nat × Nat) (k n : Nat) (w : World) (hS : Blk w sb (srcC L M f) 73) :
    Calls Tryz.prog 62 #[.pointer (some ⟨sb, 0, none⟩), .int .i64 k, .int .i64 n] w fun e w' => e = .returned (.tuple #[]) ∧ Blk w' sb (srcC L M (failF f k n)) 73 ∧ Kept (· = sb) w w' := by
  have HS := Lib.hid hS
  have hc := hS.cell
  have hf := hS.free
  clear hS
  have h2 : w.cell? ⟨sb, 2, none⟩ = some (.int .i64 (f.1 : Nat)) := (hc 2).trans rfl
  have h3 : w.cell? ⟨sb, 3, none⟩ = some (.int .i64 (f.2 : Nat)) := (hc 3).trans rfl
  clear hc
  by_cases h0 : f.1 = 0
  · have Hff : Hid (failF f k n = (k, n)) := if_pos h0
    have h0' : ((f.1 : Int) == 0) = true := by simp; omega
    clear h0
    go_enter Tryz.func62, Tryz.ntmps62
    go_wp2_with fail
    go_end0
    refine ⟨rfl, ?_, ((Kept.refl (· = sb) w).setIn sb 2 _ rfl).setIn sb 3 _ rfl⟩
    rw [Hff.out]
    exact ((HS.out.set 2 _).set 3 _).cells (by rfl)
  · have Hff : Hid (failF f k n = f) := if_neg h0
    have h0' : ((f.1 : Int) == 0) = false := by simp; omega
    clear h0
    go_enter Tryz.func62, Tryz.ntmps62
    go_wp2_with fail
    go_end0
    refine ⟨rfl, ?_, Kept.refl _ _⟩
    rw [Hff.out]
    exact HS.out
theorem regFrom_step (a : List UInt8) (k g : Nat) : regFrom a k (g + 1) = if a = 114 :: Lib.itoa k then some k else regFrom a (k + 1) g := rfl
set_option maxRecDepth 100000 in
set_option maxHeartbeats 2000000 in
theorem reg_any (sb : Nat) (L M : Value) (f : Nat × Nat) (a : List UInt8) (n : Nat) (w : World) (h : HasAs w) (hS : Blk w sb (srcC L M f) 73) :
    Calls Tryz.prog 104 #[.pointer (some ⟨sb, 0, none⟩), S a, .int .i64 n] w fun e w' => e = .returned (.int .i64 ((regA f a n).2 : Nat)) ∧ Blk w' sb (srcC L M (regA f a n).1) 73 ∧ Kept (· = sb) w w' := by
  have H := Lib.hid h; have HS := Lib.hid hS
  clear h hS
  go_enter Tryz.func104, Tryz.ntmps104
  go_wp2_with fail
  go_loopg [7, 8] 16 (fun g _ vi wx => ∃ k : Nat, k + g = 16 ∧ vi = .int .i64 k ∧ Below w.heap.size w wx ∧ Hid (regFrom a 0 16 = regFrom a k g))
  case atStart => exact ⟨0, rfl, rfl, Below.refl _ _, Lib.hid rfl⟩
  case round =>
    obtain ⟨k, hk, rfl, hb, hh⟩ := hrel
    have Hb := Lib.hid hb; clear hb
    by_cases hlt : k < 16
    · have hlt' : (k : Int) < 16 := by omega
      obtain ⟨g, hg⟩ : ∃ g, gk = g + 1 := ⟨gk - 1, by omega⟩
      have hst := hh.out
      rw [hg, regFrom_step a k g] at hst
      have Hst := Lib.hid hst
      have hil := Lib.itoa_length_le (n := (k : Int)) (by omega) (by omega)
      have Hit := Lib.hid (fun w h => itoa_any (k : Int) (by omega) (by omega) w h)
      obtain ⟨D, hD⟩ : ∃ D, Lib.itoa (k : Int) = D := ⟨_, rfl⟩
      rw [hD] at hil Hit Hst
      have a1 : ∀ w, (Op.stringOp .add ⟨#[114]⟩ ⟨D.toArray⟩).run Tryz.prog w = .ok (S (114 :: D)) w := run_sadd [114] D (by simp; omega)
      clear hh hst hD
      by_cases e : a = 114 :: D
      · have hf : Hid (regA f a n = (f, k)) := by
          show _ = _
          unfold regA; rw [Hst.out, if_pos e]
        have he : (a == 114 :: D) = true := by simpa using e
        clear e
        go_wp2_with fail
        refine (Hit.out _ (H.out.pow.below Hb.out)).mono ?_
        rintro e w2 ⟨rfl, hb2⟩
        have Hb2 := Lib.hid (bel_from Hb.out hb2)
        clear hb2
        go_wp2_with fail
        go_ret
        exact ⟨by rw [hf.out]; rfl, by rw [hf.out]; exact HS.out.below Hb2.out HS.out.lt, Kept.of_below Hb2.out⟩
      · have hn : Hid (regFrom a 0 16 = regFrom a (k + 1) g) := by show _ = _; rw [Hst.out, if_neg e]
        have he : (a == 114 :: D) = false := by simpa using e
        clear e
        go_wp2_with fail
        refine (Hit.out _ (H.out.pow.below Hb.out)).mono ?_
        rintro e w2 ⟨rfl, hb2⟩
        have Hb2 := Lib.hid (bel_from Hb.out hb2)
        clear hb2
        go_wp2_with fail
        go_roundg g
        case measure => omega
        case rel => exact ⟨k + 1, by omega, by go_num, Hb2.out, hn⟩
    · obtain rfl : k = 16 := by omega
      obtain rfl : gk = 0 := by omega
      have hf : Hid (regA f a n = (failF f 10 n, 0)) := by
        show _ = _
        unfold regA; rw [hh.out]; rfl
      have HS2 := Lib.hid (HS.out.below Hb.out HS.out.lt)
      clear hh
      go_wp2_with fail
      refine (fail_any sb L M f 10 n _ HS2.out).mono ?_
      rintro e w2 ⟨rfl, hS2, hk2⟩
      have HS3 := Lib.hid hS2
      have HK := Lib.hid ((Kept.of_below (S := (· = sb)) Hb.out).trans hk2)
      clear hS2 hk2
      go_wp2_with fail
      go_ret
      exact ⟨by rw [hf.out]; rfl, by rw [hf.out]; exact HS3.out, HK.out⟩

theorem w32_eq (x : Int) : IntKind.i32.wrap x = w32 x := rfl
theorem numA_bd (a : List UInt8) : -9223372036854775808 ≤ (numA a).1 ∧ (numA a).1 ≤ 9223372036854775807 := by
  rw [numA_B]
  unfold numX
  split
  · simp
  · split
    · simp
    · split
      · simp
      · rename_i h
        simp only [not_or, not_and, Nat.not_le, Nat.not_lt] at h
        obtain ⟨h1, h2, h3⟩ := h
        split
        · rename_i hn; have := h2 hn; simp only; omega
        · simp only
          unfold sgn64; split <;> omega
set_option maxRecDepth 100000 in
set_option maxHeartbeats 2000000 in
theorem imm_any (sb : Nat) (L M : Value) (f : Nat × Nat) (a : List UInt8) (n : Nat) (hl : a.length ≤ 100000) (w : World) (h : HasAs w) (hS : Blk w sb (srcC L M f) 73) :
    Calls Tryz.prog 105 #[.pointer (some ⟨sb, 0, none⟩), S a, .int .i64 n] w fun e w' => e = .returned (.int .i32 (immA f a n).2) ∧ Blk w' sb (srcC L M (immA f a n).1) 73 ∧ Kept (· = sb) w w' := by
  have HS := Lib.hid hS
  have Hnum := Lib.hid (num_any a hl w h)
  have hbd := numA_bd a
  have Hi : Hid (immA f a n = (failF f (if (numA a).2 = 0 ∧ (numA a).1 ≠ w32 (numA a).1 then 11 else (numA a).2) n, w32 (numA a).1)) := rfl
  obtain ⟨x, hx⟩ : ∃ x, (numA a).1 = x := ⟨_, rfl⟩
  obtain ⟨y, hy⟩ : ∃ y, (numA a).2 = y := ⟨_, rfl⟩
  rw [hx] at Hnum hbd Hi
  rw [hy] at Hnum Hi
  obtain ⟨z, hz⟩ : ∃ z, w32 x = z := ⟨_, rfl⟩
  rw [hz] at Hi
  have hz1 : IntKind.i32.wrap x = z := hz
  have hz2 : -2147483648 ≤ z ∧ z ≤ 2147483647 := by rw [← hz]; unfold w32; rw [IntKind.wrap_i32]; omega
  have hz3 : IntKind.i64.wrap z = z := IntWalk.i64_in _ (by omega)
  clear h hS hx hy hz
  go_enter Tryz.func105, Tryz.ntmps105
  go_wp2_with fail
  refine Hnum.out.mono ?_
  rintro e w1 ⟨rfl, hb1⟩
  have HS1 := Lib.hid (HS.out.below hb1 HS.out.lt)
  have HK1 := Lib.hid (Kept.of_below (S := (· = sb)) hb1)
  clear hb1
  by_cases hy0 : y = 0
  · subst hy0
    by_cases hxz : x = z
    · have hf : Hid (immA f a n = (failF f 0 n, z)) := by show _ = _; rw [Hi.out, if_neg (fun h => h.2 hxz)]
      have hne : (x != z) = false := by simpa using hxz
      have Hxz := Lib.hid hxz
      clear hxz
      go_wp2_with fail
      refine (fail_any sb L M f 0 n _ HS1.out).mono ?_
      rintro e w2 ⟨rfl, hS2, hk2⟩
      have HS3 := Lib.hid hS2
      have HK := Lib.hid (HK1.out.trans hk2)
      clear hS2 hk2
      go_wp2_with fail
      go_ret
      exact ⟨by rw [hf.out]; rfl, by rw [hf.out]; exact HS3.out, HK.out⟩
    · have hf : Hid (immA f a n = (failF f 11 n, z)) := by show _ = _; rw [Hi.out, if_pos ⟨rfl, hxz⟩]
      have hne : (x != z) = true := by simpa using hxz
      clear hxz
      go_wp2_with fail
      refine (fail_any sb L M f 11 n _ HS1.out).mono ?_
      rintro e w2 ⟨rfl, hS2, hk2⟩
      have HS3 := Lib.hid hS2
      have HK := Lib.hid (HK1.out.trans hk2)
      clear hS2 hk2
      go_wp2_with fail
      go_ret
      exact ⟨by rw [hf.out]; rfl, by rw [hf.out]; exact HS3.out, HK.out⟩
  · have hf : Hid (immA f a n = (failF f y n, z)) := by show _ = _; rw [Hi.out, if_neg (fun h => hy0 h.1)]
    have hy1 : ((y : Int) == 0) = false := by simp; omega
    clear hy0
    go_wp2_with fail
    refine (fail_any sb L M f y n _ HS1.out).mono ?_
    rintro e w2 ⟨rfl, hS2, hk2⟩
    have HS3 := Lib.hid hS2
    have HK := Lib.hid (HK1.out.trans hk2)
    clear hS2 hk2
    go_wp2_with fail
    go_ret
    exact ⟨by rw [hf.out]; rfl, by rw [hf.out]; exact HS3.out, HK.out⟩
end Go.Proofs.YtjjnidbggoaonaaGreatDoor
