/- asm.Line: the line of eight bytes, whatever they are. -/
import Derived.Test.YtjjnidbggoaonaaGreatDoorAsLn
namespace Go.Proofs.YtjjnidbggoaonaaGreatDoor
open Go.RowKit
attribute [local irreducible] World.setCell World.alloc World.drew Calls Code.wp
attribute [local go_sem] Oper.semAt_some

set_option maxRecDepth 100000 in
set_option maxHeartbeats 8000000 in
theorem line_word (b o c : Nat) (B : Nat → Int) (hB : ∀ j, 0 ≤ B j ∧ B j ≤ 255) (w : World) (hz : HasTz w) (hc : ∀ j, j < 8 → w.cell? ⟨b, o + j, none⟩ = some (.int .u8 (B j))) (h8 : 8 ≤ c) (hm : c ≤ maxLen) (hno : ¬ ((decB B).right = true ∧ plainA (decB B) = decB B)) :
    Calls Tryz.prog 17 #[.slice (some ⟨b, o, none⟩) 8 c] w fun e w' => e = .returned (S (wordPre ++ hexD (beU B))) ∧ Below w.heap.size w w' := by
  have HZ := Lib.hid hz
  have Hd := Lib.hid (dec8 b o c B w hB hc)
  have HC := Lib.hid hc; have HBB := Lib.hid hB
  have hbw : b < w.heap.size := cell_lt (hc 0 (by omega))
  have HU := Lib.hid (beU_lt B hB)
  have HN := Lib.hid (beN_beU B hB)
  have lh := hexD_len (beU B) 15 (by have := beU_lt B hB; simpa using this)
  have Hhx := Lib.hid (fun w h => hex_any (beU B) (beU_lt B hB) w h)
  have s1 : ∀ w, (Op.stringOp .add ⟨#[46, 119, 111, 114, 100, 32, 48, 120]⟩ ⟨(hexD (beU B)).toArray⟩).run Tryz.prog w = .ok (S (wordPre ++ hexD (beU B))) w := run_sadd wordPre (hexD (beU B)) (by simp [wordPre]; omega)
  have Hnum := Lib.hid (fun (w4 : World) (rb : Nat) (hR : RdAt w4 rb (some ⟨b, o, none⟩) 8 c 0) (hb : ∀ j, j < 8 → w4.cell? ⟨b, o + j, none⟩ = some (.int .u8 (B j))) (hne : b ≠ rb) => pnum_any rb b o 8 c 0 8 B w4 hR hb hB (by omega) (by omega) (by omega) h8 hm hne)
  rw [HN.out] at Hnum
  clear hz hc hB h8 hm HN HU
  generalize beU B = U at *
  generalize hexD U = hx at *
  obtain ⟨q, hq⟩ : ∃ q, wordPre ++ hx = q := ⟨_, rfl⟩
  rw [hq] at s1 ⊢
  clear hq
  go_enter Tryz.func17, Tryz.ntmps17
  go_wp2_with fail
  refine Hd.out.mono ?_
  rintro e w1 ⟨rfl, hb1⟩
  cases hr : (decB B).right
  case' false =>
    have hdv : (decB B).dec = .agg #[.int .i64 0, .int .i64 0, .int .i64 0, .int .i64 0, .int .i32 0] := by unfold Ins.dec; rw [hr]; rfl
    rw [hdv]
    obtain ⟨w2, hw2⟩ : ∃ w2 : World, w2 = w1.alloc (.cells #[.int .i64 0, .int .i64 0, .int .i64 0, .int .i64 0, .int .i32 0] 23) := ⟨_, rfl⟩
    obtain ⟨xb, hxb⟩ : ∃ xb, xb = w1.heap.size := ⟨_, rfl⟩
    have HX2 : Hid (Blk w2 xb #[.int .i64 0, .int .i64 0, .int .i64 0, .int .i64 0, .int .i32 0] 23) := by rw [hw2, hxb]; exact Blk.new _ _ _
    have HB2 : Hid (Below w.heap.size w w2) := by rw [hw2]; exact hb1.alloc hb1.size _
    clear hno hr hdv
    go_wp2_with fail
    rw [← hw2, ← hxb]
    clear hw2 hxb hb1
    go_region
    obtain ⟨w3, hw3⟩ : ∃ w3 : World, w3 = w2.drew := ⟨_, rfl⟩
    have HB3 : Hid (Below w.heap.size w w3) := by rw [hw3]; exact HB2.out.drew
    rw [← hw3]
    clear hw3 HB2 HX2
  case' true =>
    have hne : ¬ plainA (decB B) = decB B := fun e => hno ⟨hr, e⟩
    have hdv : (decB B).dec = (decB B).v := by unfold Ins.dec; rw [hr]; rfl
    have him : -2147483648 ≤ (decB B).imm ∧ (decB B).imm ≤ 2147483647 := by
      have h4 := HBB.out 4; have h5 := HBB.out 5; have h6 := HBB.out 6; have h7 := HBB.out 7
      exact sgn_bd _ (by unfold numB; omega) (by unfold numB; omega)
    rw [hdv]
    obtain ⟨⟨op, a, b2, c2, imm⟩, hx⟩ : ∃ x, decB B = x := ⟨_, rfl⟩
    rw [hx] at hr hne him ⊢
    obtain ⟨⟨o0, o1⟩, ⟨a0, a1⟩, ⟨b0, b1⟩, ⟨c0, c1⟩⟩ := Ins.right_spec hr
    simp only at o0 o1 a0 a1 b0 b1 c0 c1 him
    obtain ⟨n, rfl⟩ : ∃ n : Nat, op = (n : Int) := ⟨op.toNat, by omega⟩
    have Hpl := fun w => plain_any n a b2 c2 imm (by omega) (by omega) w
    have hq := fun w => neq_ins (w := w) ⟨n, a, b2, c2, imm⟩ (plainA ⟨n, a, b2, c2, imm⟩) true (by simp; exact fun e => hne e.symm)
    have hgd := fun (p q : Operand) w => (show (eqGuard .neq 23 p q (Ins.v ⟨n, a, b2, c2, imm⟩) (plainA ⟨n, a, b2, c2, imm⟩).v).run Tryz.prog w = .ok () w by
      have h : Tryz.prog.eqGuardType Tryz.prog.depth 23 = false := by kernel_rfl
      simp [eqGuard, Ins.v, h])
    obtain ⟨⟨p1, p2, p3, p4, p5⟩, hp⟩ : ∃ y, plainA ⟨n, a, b2, c2, imm⟩ = y := ⟨_, rfl⟩
    rw [hp] at Hpl hq hgd
    simp only [Ins.v] at Hpl hq hgd ⊢
    have Hpl := Lib.hid Hpl
    obtain ⟨xb, hxb⟩ : ∃ xb, xb = w1.heap.size := ⟨_, rfl⟩
    obtain ⟨w2, hw2⟩ : ∃ w2 : World, w2 = w1.alloc (.cells #[.int .i64 n, .int .i64 a, .int .i64 b2, .int .i64 c2, .int .i32 imm] 23) := ⟨_, rfl⟩
    have HX2 : Hid (Blk w2 xb #[.int .i64 n, .int .i64 a, .int .i64 b2, .int .i64 c2, .int .i32 imm] 23) := by rw [hw2, hxb]; exact Blk.new _ _ _
    have HB2 : Hid (Below w.heap.size w w2) := by rw [hw2]; exact hb1.alloc hb1.size _
    clear hno hr hdv hne him hp o0 o1 a0 a1 b0 b1 c0 c1 hx
    go_wp2_with fail
    rw [← hw2, ← hxb]
    clear hw2 hxb hb1
    have HSS : Hid (∀ w', Below w2.heap.size w2 w' → w'.cell? ⟨xb, 0, none⟩ = some (.int .i64 n) ∧ w'.cell? ⟨xb, 1, none⟩ = some (.int .i64 a) ∧ w'.cell? ⟨xb, 2, none⟩ = some (.int .i64 b2) ∧ w'.cell? ⟨xb, 3, none⟩ = some (.int .i64 c2) ∧ w'.cell? ⟨xb, 4, none⟩ = some (.int .i32 imm)) := fun w' hb => by
      have h1 := HX2.out.below hb HX2.out.lt
      exact ⟨h1.cell 0, h1.cell 1, h1.cell 2, h1.cell 3, h1.cell 4⟩
    have Hdr : Hid (Below w2.heap.size w2 w2.drew) := (Below.refl _ w2).drew
    go_region_held3 (fun w' => w'.cell? ⟨xb, 0, none⟩ = some (.int .i64 n) ∧ w'.cell? ⟨xb, 1, none⟩ = some (.int .i64 a) ∧ w'.cell? ⟨xb, 2, none⟩ = some (.int .i64 b2) ∧ w'.cell? ⟨xb, 3, none⟩ = some (.int .i64 c2) ∧ w'.cell? ⟨xb, 4, none⟩ = some (.int .i32 imm))
      (first
        | exact HSS.out _ Hdr.out
        | exact HSS.out _ (bel_from Hdr.out hb3))
      (first
        | (refine (Hpl.out _).mono ?_; rintro e w3 ⟨rfl, hb3⟩))
    have HB3 := Lib.hid (bel_from (bel_from HB2.out Hdr.out) hb3)
    clear hb3 hq hgd HX2 HSS Hdr HB2 Hpl
  all_goals
    go_wp2_with fail
    refine (pnew_any _ _ _ _).mono ?_
    rintro e w4 ⟨rfl, hw4⟩
    have HR4 : Hid (RdAt w4 w3.heap.size (some ⟨b, o, none⟩) 8 c 0) := by rw [hw4]; exact Blk.new _ _ _
    have HB34 : Hid (Below w3.heap.size w3 w4) := by rw [hw4]; exact (Below.refl _ _).alloc (Nat.le_refl _) _
    clear hw4
    have HC4 : Hid (∀ j, j < 8 → w4.cell? ⟨b, o + j, none⟩ = some (.int .u8 (B j))) := fun j hj => by
      rw [(bel_from HB3.out HB34.out).cell (p := ⟨b, o + j, none⟩) hbw]; exact HC.out j hj
    have hbne : b ≠ w3.heap.size := by have := HB3.out.size; omega
    go_wp2_with fail
    refine (Hnum.out w4 w3.heap.size HR4.out HC4.out hbne).mono ?_
    rintro e w5 ⟨rfl, -, hk5⟩
    have HB5 : Hid (Below w.heap.size w w5) := by
      have h1 : Below w3.heap.size w4 w5 := hk5.below HB34.out.size (fun k hk e => by omega)
      exact bel_from HB3.out (HB34.out.trans h1)
    clear hk5
    go_wp2_with fail
    refine (Hhx.out _ (HZ.out.below HB5.out)).mono ?_
    rintro e w6 ⟨rfl, hb6⟩
    have HB6 := Lib.hid (bel_from HB5.out hb6)
    clear hb6
    go_wp2_with fail
    go_ret
    exact ⟨rfl, HB6.out⟩

/-- The line of eight bytes. -/
theorem line_any (b o c : Nat) (B : Nat → Int) (hB : ∀ j, 0 ≤ B j ∧ B j ≤ 255) (w : World) (h : HasAs w) (hz : HasTz w) (hc : ∀ j, j < 8 → w.cell? ⟨b, o + j, none⟩ = some (.int .u8 (B j))) (h8 : 8 ≤ c) (hm : c ≤ maxLen) :
    Calls Tryz.prog 17 #[.slice (some ⟨b, o, none⟩) 8 c] w fun e w' => e = .returned (S (lineOf B)) ∧ Below w.heap.size w w' := by
  by_cases hy : (decB B).right = true ∧ plainA (decB B) = decB B
  · have e : lineOf B = insLine (decB B) := by unfold lineOf; rw [if_pos ⟨hy.1, isPlain_iff.2 hy.2⟩]
    rw [e]
    exact line_ins b o c B hB w h hc hy.1 hy.2
  · have e : lineOf B = wordPre ++ hexD (beU B) := by unfold lineOf; rw [if_neg (fun hh => hy ⟨hh.1, isPlain_iff.1 hh.2⟩)]
    rw [e]
    exact line_word b o c B hB w hz hc h8 hm hy
end Go.Proofs.YtjjnidbggoaonaaGreatDoor
