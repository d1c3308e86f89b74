/- asm.Line: the line of eight bytes. -/
import Derived.Test.YtjjnidbggoaonaaGreatDoorAsW
import Derived.Test.YtjjnidbggoaonaaGreatDoorAsB
import Derived.Test.YtjjnidbggoaonaaGreatDoorAsH
import Derived.Test.YtjjnidbggoaonaaGreatDoorPkB
import Derived.Deep.RegionHeld3
namespace Go.Proofs.YtjjnidbggoaonaaGreatDoor
open Go.RowKit
attribute [local irreducible] World.setCell World.alloc World.drew Calls Code.wp
attribute [local go_sem] Oper.semAt_some

theorem neq_ins {w : World} (x y : Ins) (b : Bool) (h : b = true ↔ ¬ x = y) : (binOp .neq 23 x.v y.v).run Tryz.prog w = .ok (.bool b) w := by
  unfold Ins.v
  go_simp
  cases hbb : b
  · have : x = y := Classical.byContradiction fun e => by
      have := h.2 e
      rw [hbb] at this; cases this
    subst this
    simp
  · have hne := h.1 hbb
    by_cases e1 : x.op = y.op
    · by_cases e2 : x.a = y.a
      · by_cases e3 : x.b = y.b
        · by_cases e4 : x.c = y.c
          · by_cases e5 : x.imm = y.imm
            · exact absurd (by cases x; cases y; simp_all) hne
            · simp [e1, e2, e3, e4, e5]
          · simp [e1, e2, e3, e4]
        · simp [e1, e2, e3]
      · simp [e1, e2]
    · simp [e1]
theorem beN_beU (B : Nat → Int) (hB : ∀ j, 0 ≤ B j ∧ B j ≤ 255) : beN (fun j => B (0 + j)) 8 = ((beU B : Nat) : Int) := by
  have h0 := hB 0; have h1 := hB 1; have h2 := hB 2; have h3 := hB 3; have h4 := hB 4; have h5 := hB 5; have h6 := hB 6; have h7 := hB 7
  simp only [beN, Nat.zero_add]
  unfold beU
  omega
theorem text_cut (x : Ins) (hr : x.right = true) (hi : -2147483648 ≤ x.imm ∧ x.imm ≤ 2147483647) : ∃ R, x.text = nm (x.op.toNat - 1) ++ 32 :: R ∧ x.text.length ≤ 200 ∧ cutAt 32 x.text = some (nm (x.op.toNat - 1), R) := by
  obtain ⟨⟨o0, o1⟩, ⟨a0, a1⟩, ⟨b0, b1⟩, ⟨c0, c1⟩⟩ := Ins.right_spec hr
  have l1 := nm_len (x.op.toNat - 1)
  have l2 := Lib.itoa_length_le x.a (by omega) (by omega)
  have l3 := Lib.itoa_length_le x.b (by omega) (by omega)
  have l4 := Lib.itoa_length_le x.c (by omega) (by omega)
  have l5 := Lib.itoa_length_le x.imm (by omega) (by omega)
  have e : x.text = nm (x.op.toNat - 1) ++ 32 :: (114 :: Lib.itoa x.a ++ [32, 114] ++ Lib.itoa x.b ++ [32, 114] ++ Lib.itoa x.c ++ [32] ++ Lib.itoa x.imm) := by
    unfold Ins.text; rw [if_pos hr]; simp
  refine ⟨_, e, ?_, ?_⟩
  · rw [e]; simp; omega
  · rw [e]; exact cutAt_some _ ((nm_plain _ (by omega)).1.nmem (by decide))
theorem sumF {P : Program} (l m : List UInt8) (h : l.length + m.length ≤ 9223372036854775807) : ∃ q, Hid (q = l ++ m) ∧ q.length = l.length + m.length ∧ ∀ w, (Op.stringOp .add ⟨l.toArray⟩ ⟨m.toArray⟩).run P w = .ok (S q) w :=
  ⟨_, rfl, by simp, run_sadd l m h⟩
theorem rT_len (a : Int) (h0 : 0 ≤ a) (h1 : a < 16) : (rT a).length ≤ 30 := by
  have := Lib.itoa_length_le a (by omega) (by omega)
  unfold rT; simp; omega

set_option maxRecDepth 100000 in
set_option maxHeartbeats 8000000 in
theorem line_ins (b o c : Nat) (B : Nat → Int) (hB : ∀ j, 0 ≤ B j ∧ B j ≤ 255) (w : World) (h : HasAs w) (hc : ∀ j, j < 8 → w.cell? ⟨b, o + j, none⟩ = some (.int .u8 (B j))) (hr : (decB B).right = true) (hp : plainA (decB B) = decB B) :
    Calls Tryz.prog 17 #[.slice (some ⟨b, o, none⟩) 8 c] w fun e w' => e = .returned (S (insLine (decB B))) ∧ Below w.heap.size w w' := by
  have H := Lib.hid h; clear h
  have Hd := dec8 b o c B w hB hc
  have him : -2147483648 ≤ (decB B).imm ∧ (decB B).imm ≤ 2147483647 := by
    have h4 := hB 4; have h5 := hB 5; have h6 := hB 6; have h7 := hB 7
    exact sgn_bd _ (by unfold numB; omega) (by unfold numB; omega)
  obtain ⟨⟨op, a, b2, c2, imm⟩, hx⟩ : ∃ x, decB B = x := ⟨_, rfl⟩
  rw [hx] at Hd hr hp him ⊢
  clear hx hc hB
  obtain ⟨⟨o0, o1⟩, ⟨a0, a1⟩, ⟨b0, b1⟩, ⟨c0, c1⟩⟩ := Ins.right_spec hr
  obtain ⟨i0, i1⟩ := him
  simp only at o0 o1 a0 a1 b0 b1 c0 c1 i0 i1
  obtain ⟨n, rfl⟩ : ∃ n : Nat, op = (n : Int) := ⟨op.toNat, by omega⟩
  obtain ⟨R, -, ltx, hcut⟩ := text_cut ⟨n, a, b2, c2, imm⟩ hr ⟨i0, i1⟩
  have hdv : Ins.dec ⟨n, a, b2, c2, imm⟩ = .agg #[.int .i64 n, .int .i64 a, .int .i64 b2, .int .i64 c2, .int .i32 imm] := by unfold Ins.dec; rw [hr]; rfl
  rw [hdv, hr] at Hd
  have Hpl := fun w => plain_any n a b2 c2 imm (by omega) (by omega) w
  rw [hp] at Hpl
  simp only [Ins.v] at Hpl
  have Htx := fun w hp hs => text_any ⟨n, a, b2, c2, imm⟩ ⟨i0, i1⟩ w hp hs
  obtain ⟨tx, htx⟩ : ∃ tx, Ins.text ⟨n, a, b2, c2, imm⟩ = tx := ⟨_, rfl⟩
  rw [htx] at Htx hcut ltx
  have Hcut := fun w h => cut_any 32 tx (by omega) w h
  rw [hcut] at Hcut
  simp only [Int.toNat_natCast, Option.isSome_some] at Hcut
  have Hit := fun w h => itoa_any imm (by omega) (by omega) w h
  have Hfm := fun w => form_any n (by omega) (by omega) w
  have hline : insLine ⟨n, a, b2, c2, imm⟩ = (let f := formA n
  if f = 0 then nm (n - 1) else if f = 1 ∨ f = 7 then nm (n - 1) ++ [32] ++ rT a ++ [44, 32] ++ Lib.itoa imm
  else if f = 2 ∨ f = 6 then nm (n - 1) ++ [32] ++ rT a ++ [44, 32] ++ rT b2 ++ [44, 32] ++ Lib.itoa imm
  else if f = 3 then nm (n - 1) ++ [32] ++ rT a ++ [44, 32] ++ rT b2 ++ [44, 32] ++ rT c2
  else if f = 4 then nm (n - 1) ++ [32] ++ rT a ++ [44, 32] ++ rT b2
  else if f = 5 then nm (n - 1) ++ [32] ++ rT a ++ [44, 32] ++ Lib.itoa imm ++ [40] ++ rT b2 ++ [41]
  else nm (n - 1) ++ [32] ++ rT a) := by simp [insLine]
  rw [hline]
  have lN := nm_len (n - 1)
  have lK := Lib.itoa_length_le imm (by omega) (by omega)
  have lA := rT_len a a0 a1
  have lB := rT_len b2 b0 b1
  have lC := rT_len c2 c0 c1
  have Ra := fun w h => regt_any a (by omega) (by omega) w h
  have Rb := fun w h => regt_any b2 (by omega) (by omega) w h
  have Rc := fun w h => regt_any c2 (by omega) (by omega) w h
  have hfc : formA n = 0 ∨ formA n = 1 ∨ formA n = 2 ∨ formA n = 3 ∨ formA n = 4 ∨ formA n = 5 ∨ formA n = 6 ∨ formA n = 7 ∨ formA n = 8 := by have := formA_le n; omega
  generalize formA n = f at *
  generalize nm (n - 1) = N at *
  generalize Lib.itoa imm = K at *
  generalize rT a = A at *
  generalize rT b2 = A2 at *
  generalize rT c2 = A3 at *
  clear hr hp hcut htx hdv hline o0 o1
  have Hd := Lib.hid Hd; have Hpl := Lib.hid Hpl; have Htx := Lib.hid Htx; have Hcut := Lib.hid Hcut; have Hit := Lib.hid Hit; have Hfm := Lib.hid Hfm
  have Ra := Lib.hid Ra; have Rb := Lib.hid Rb; have Rc := Lib.hid Rc
  have ci : IntKind.i64.wrap imm = imm := IntWalk.i64_in _ (by omega)
  go_enter Tryz.func17, Tryz.ntmps17
  go_wp2_with fail
  refine Hd.out.mono ?_
  rintro e w1 ⟨rfl, hb1⟩
  obtain ⟨xb, hxb⟩ : ∃ xb, xb = w1.heap.size := ⟨_, rfl⟩
  obtain ⟨w2, hw2⟩ : ∃ w2 : World, w2 = w1.alloc (.cells #[.int .i64 n, .int .i64 a, .int .i64 b2, .int .i64 c2, .int .i32 imm] 23) := ⟨_, rfl⟩
  have HX2 : Hid (Blk w2 xb #[.int .i64 n, .int .i64 a, .int .i64 b2, .int .i64 c2, .int .i32 imm] 23) := by rw [hw2, hxb]; exact Blk.new _ _ _
  have HB2 : Hid (Below w.heap.size w w2) := by rw [hw2]; exact hb1.alloc hb1.size _
  go_wp2_with fail
  rw [← hw2, ← hxb]
  clear hw2 hxb hb1
  have HSS : Hid (∀ w', Below w2.heap.size w2 w' → w'.cell? ⟨xb, 0, none⟩ = some (.int .i64 n) ∧ w'.cell? ⟨xb, 1, none⟩ = some (.int .i64 a) ∧ w'.cell? ⟨xb, 2, none⟩ = some (.int .i64 b2) ∧ w'.cell? ⟨xb, 3, none⟩ = some (.int .i64 c2) ∧ w'.cell? ⟨xb, 4, none⟩ = some (.int .i32 imm)) := fun w' hb => by
    have h1 := HX2.out.below hb HX2.out.lt
    exact ⟨h1.cell 0, h1.cell 1, h1.cell 2, h1.cell 3, h1.cell 4⟩
  have Hdr : Hid (Below w2.heap.size w2 w2.drew) := (Below.refl _ w2).drew
  go_region_held3 (fun w' => w'.cell? ⟨xb, 0, none⟩ = some (.int .i64 n) ∧ w'.cell? ⟨xb, 1, none⟩ = some (.int .i64 a) ∧ w'.cell? ⟨xb, 2, none⟩ = some (.int .i64 b2) ∧ w'.cell? ⟨xb, 3, none⟩ = some (.int .i64 c2) ∧ w'.cell? ⟨xb, 4, none⟩ = some (.int .i32 imm))
    (first
      | exact HSS.out _ Hdr.out
      | exact HSS.out _ (bel_from Hdr.out hb3))
    (first
      | (refine (Hpl.out _).mono ?_; rintro e w3 ⟨rfl, hb3⟩))
  have HX3 := Lib.hid (HX2.out.below (bel_from Hdr.out hb3) HX2.out.lt)
  have HB3 := Lib.hid (bel_from (bel_from HB2.out Hdr.out) hb3)
  have hx3 := HX3.out.cell
  clear hb3
  go_wp2_with fail
  refine (Htx.out _ (H.out.below HB3.out).pow (H.out.below HB3.out).sp).mono ?_
  rintro e w4 ⟨rfl, hb4⟩
  have HX4 := Lib.hid (HX3.out.below hb4 HX3.out.lt)
  have HB4 := Lib.hid (bel_from HB3.out hb4)
  clear hb4 hx3
  go_wp2_with fail
  refine (Hcut.out _ (H.out.below HB4.out).mx).mono ?_
  rintro e w5 ⟨rfl, hb5⟩
  have HX5 := Lib.hid (HX4.out.below hb5 HX4.out.lt)
  have HB5 := Lib.hid (bel_from HB4.out hb5)
  have hx5 := HX5.out.cell
  clear hb5
  go_wp2_with fail
  refine (Hit.out _ (H.out.below HB5.out).pow).mono ?_
  rintro e w6 ⟨rfl, hb6⟩
  have HX6 := Lib.hid (HX5.out.below hb6 HX5.out.lt)
  have HB6 := Lib.hid (bel_from HB5.out hb6)
  have hx6 := HX6.out.cell
  clear hb6 hx5
  go_wp2_with fail
  refine (Hfm.out _).mono ?_
  rintro e w7 ⟨rfl, rfl⟩
  have HSS6 : Hid (∀ w', Below w6.heap.size w6 w' → w'.cell? ⟨xb, 0, none⟩ = some (.int .i64 n) ∧ w'.cell? ⟨xb, 1, none⟩ = some (.int .i64 a) ∧ w'.cell? ⟨xb, 2, none⟩ = some (.int .i64 b2) ∧ w'.cell? ⟨xb, 3, none⟩ = some (.int .i64 c2) ∧ w'.cell? ⟨xb, 4, none⟩ = some (.int .i32 imm)) := fun w' hb => by
    have h1 := HX6.out.below hb HX6.out.lt
    exact ⟨h1.cell 0, h1.cell 1, h1.cell 2, h1.cell 3, h1.cell 4⟩
  have HBW6 : Hid (∀ w', Below w6.heap.size w6 w' → Below w.heap.size w w') := fun w' hb => bel_from HB6.out hb
  have HPW6 : Hid (∀ w', Below w6.heap.size w6 w' → HasPow w') := fun w' hb => (H.out.below (HBW6.out w' hb)).pow
  have Hdr6 : Hid (Below w6.heap.size w6 w6.drew) := (Below.refl _ w6).drew
  clear Hd Hpl Htx Hcut Hit Hfm HX2 HX3 HX4 HX5 HB2 HB3 HB4 HB5 HSS Hdr
  rcases hfc with rfl | rfl | rfl | rfl | rfl | rfl | rfl | rfl | rfl
  · go_wp2_with fail
    go_ret
    exact ⟨by simp, HB6.out⟩
  · obtain ⟨P1, hP1, lP1, s1⟩ := sumF (P := Tryz.prog) N [32] (by (try simp only [List.length_cons, List.length_nil]); omega)
    simp only [List.length_cons, List.length_nil] at lP1
    obtain ⟨P2, hP2, lP2, s2⟩ := sumF (P := Tryz.prog) P1 A (by (try simp only [List.length_cons, List.length_nil]); omega)
    obtain ⟨P3, hP3, lP3, s3⟩ := sumF (P := Tryz.prog) P2 [44, 32] (by (try simp only [List.length_cons, List.length_nil]); omega)
    simp only [List.length_cons, List.length_nil] at lP3
    obtain ⟨P4, hP4, lP4, s4⟩ := sumF (P := Tryz.prog) P3 K (by (try simp only [List.length_cons, List.length_nil]); omega)
    go_wp2_with fail
    refine (Ra.out _ (H.out.below HB6.out).pow).mono ?_
    rintro e w7 ⟨rfl, hb7⟩
    have HB7 := Lib.hid (bel_from HB6.out hb7)
    clear hb7
    go_wp2_with fail
    go_ret
    exact ⟨by rw [hP4.out, hP3.out, hP2.out, hP1.out]; simp, HB7.out⟩
  · obtain ⟨P1, hP1, lP1, s1⟩ := sumF (P := Tryz.prog) N [32] (by (try simp only [List.length_cons, List.length_nil]); omega)
    simp only [List.length_cons, List.length_nil] at lP1
    obtain ⟨P2, hP2, lP2, s2⟩ := sumF (P := Tryz.prog) P1 A (by (try simp only [List.length_cons, List.length_nil]); omega)
    obtain ⟨P3, hP3, lP3, s3⟩ := sumF (P := Tryz.prog) P2 [44, 32] (by (try simp only [List.length_cons, List.length_nil]); omega)
    simp only [List.length_cons, List.length_nil] at lP3
    obtain ⟨P4, hP4, lP4, s4⟩ := sumF (P := Tryz.prog) P3 A2 (by (try simp only [List.length_cons, List.length_nil]); omega)
    obtain ⟨P5, hP5, lP5, s5⟩ := sumF (P := Tryz.prog) P4 [44, 32] (by (try simp only [List.length_cons, List.length_nil]); omega)
    simp only [List.length_cons, List.length_nil] at lP5
    obtain ⟨P6, hP6, lP6, s6⟩ := sumF (P := Tryz.prog) P5 K (by (try simp only [List.length_cons, List.length_nil]); omega)
    go_wp2_with fail
    go_region_held3 (fun w' => w'.cell? ⟨xb, 0, none⟩ = some (.int .i64 n) ∧ w'.cell? ⟨xb, 1, none⟩ = some (.int .i64 a) ∧ w'.cell? ⟨xb, 2, none⟩ = some (.int .i64 b2) ∧ w'.cell? ⟨xb, 3, none⟩ = some (.int .i64 c2) ∧ w'.cell? ⟨xb, 4, none⟩ = some (.int .i32 imm))
      (first | exact HSS6.out _ Hdr6.out | exact HSS6.out _ (bel_from Hdr6.out hb7) | exact HSS6.out _ (bel_from (bel_from Hdr6.out hb7) hb8))
      (first
        | (refine (Ra.out _ (HPW6.out _ Hdr6.out)).mono ?_; rintro e w7 ⟨rfl, hb7⟩)
        | (refine (Rb.out _ (HPW6.out _ (bel_from Hdr6.out hb7))).mono ?_; rintro e w8 ⟨rfl, hb8⟩))
    have HBl := Lib.hid (HBW6.out _ (bel_from (bel_from Hdr6.out hb7) hb8))
    clear hb7 hb8
    go_wp2_with fail
    go_ret
    exact ⟨by rw [hP6.out, hP5.out, hP4.out, hP3.out, hP2.out, hP1.out]; simp, HBl.out⟩
  · obtain ⟨P1, hP1, lP1, s1⟩ := sumF (P := Tryz.prog) N [32] (by (try simp only [List.length_cons, List.length_nil]); omega)
    simp only [List.length_cons, List.length_nil] at lP1
    obtain ⟨P2, hP2, lP2, s2⟩ := sumF (P := Tryz.prog) P1 A (by (try simp only [List.length_cons, List.length_nil]); omega)
    obtain ⟨P3, hP3, lP3, s3⟩ := sumF (P := Tryz.prog) P2 [44, 32] (by (try simp only [List.length_cons, List.length_nil]); omega)
    simp only [List.length_cons, List.length_nil] at lP3
    obtain ⟨P4, hP4, lP4, s4⟩ := sumF (P := Tryz.prog) P3 A2 (by (try simp only [List.length_cons, List.length_nil]); omega)
    obtain ⟨P5, hP5, lP5, s5⟩ := sumF (P := Tryz.prog) P4 [44, 32] (by (try simp only [List.length_cons, List.length_nil]); omega)
    simp only [List.length_cons, List.length_nil] at lP5
    obtain ⟨P6, hP6, lP6, s6⟩ := sumF (P := Tryz.prog) P5 A3 (by (try simp only [List.length_cons, List.length_nil]); omega)
    go_wp2_with fail
    go_region_held3 (fun w' => w'.cell? ⟨xb, 0, none⟩ = some (.int .i64 n) ∧ w'.cell? ⟨xb, 1, none⟩ = some (.int .i64 a) ∧ w'.cell? ⟨xb, 2, none⟩ = some (.int .i64 b2) ∧ w'.cell? ⟨xb, 3, none⟩ = some (.int .i64 c2) ∧ w'.cell? ⟨xb, 4, none⟩ = some (.int .i32 imm))
      (first | exact HSS6.out _ Hdr6.out | exact HSS6.out _ (bel_from Hdr6.out hb7) | exact HSS6.out _ (bel_from (bel_from Hdr6.out hb7) hb8) | exact HSS6.out _ (bel_from (bel_from (bel_from Hdr6.out hb7) hb8) hb9))
      (first
        | (refine (Ra.out _ (HPW6.out _ Hdr6.out)).mono ?_; rintro e w7 ⟨rfl, hb7⟩)
        | (refine (Rb.out _ (HPW6.out _ (bel_from Hdr6.out hb7))).mono ?_; rintro e w8 ⟨rfl, hb8⟩)
        | (refine (Rc.out _ (HPW6.out _ (bel_from (bel_from Hdr6.out hb7) hb8))).mono ?_; rintro e w9 ⟨rfl, hb9⟩))
    have HBl := Lib.hid (HBW6.out _ (bel_from (bel_from (bel_from Hdr6.out hb7) hb8) hb9))
    clear hb7 hb8 hb9
    go_wp2_with fail
    go_ret
    exact ⟨by rw [hP6.out, hP5.out, hP4.out, hP3.out, hP2.out, hP1.out]; simp, HBl.out⟩
  · obtain ⟨P1, hP1, lP1, s1⟩ := sumF (P := Tryz.prog) N [32] (by (try simp only [List.length_cons, List.length_nil]); omega)
    simp only [List.length_cons, List.length_nil] at lP1
    obtain ⟨P2, hP2, lP2, s2⟩ := sumF (P := Tryz.prog) P1 A (by (try simp only [List.length_cons, List.length_nil]); omega)
    obtain ⟨P3, hP3, lP3, s3⟩ := sumF (P := Tryz.prog) P2 [44, 32] (by (try simp only [List.length_cons, List.length_nil]); omega)
    simp only [List.length_cons, List.length_nil] at lP3
    obtain ⟨P4, hP4, lP4, s4⟩ := sumF (P := Tryz.prog) P3 A2 (by (try simp only [List.length_cons, List.length_nil]); omega)
    go_wp2_with fail
    go_region_held3 (fun w' => w'.cell? ⟨xb, 0, none⟩ = some (.int .i64 n) ∧ w'.cell? ⟨xb, 1, none⟩ = some (.int .i64 a) ∧ w'.cell? ⟨xb, 2, none⟩ = some (.int .i64 b2) ∧ w'.cell? ⟨xb, 3, none⟩ = some (.int .i64 c2) ∧ w'.cell? ⟨xb, 4, none⟩ = some (.int .i32 imm))
      (first | exact HSS6.out _ Hdr6.out | exact HSS6.out _ (bel_from Hdr6.out hb7) | exact HSS6.out _ (bel_from (bel_from Hdr6.out hb7) hb8))
      (first
        | (refine (Ra.out _ (HPW6.out _ Hdr6.out)).mono ?_; rintro e w7 ⟨rfl, hb7⟩)
        | (refine (Rb.out _ (HPW6.out _ (bel_from Hdr6.out hb7))).mono ?_; rintro e w8 ⟨rfl, hb8⟩))
    have HBl := Lib.hid (HBW6.out _ (bel_from (bel_from Hdr6.out hb7) hb8))
    clear hb7 hb8
    go_wp2_with fail
    go_ret
    exact ⟨by rw [hP4.out, hP3.out, hP2.out, hP1.out]; simp, HBl.out⟩
  · obtain ⟨P1, hP1, lP1, s1⟩ := sumF (P := Tryz.prog) N [32] (by (try simp only [List.length_cons, List.length_nil]); omega)
    simp only [List.length_cons, List.length_nil] at lP1
    obtain ⟨P2, hP2, lP2, s2⟩ := sumF (P := Tryz.prog) P1 A (by (try simp only [List.length_cons, List.length_nil]); omega)
    obtain ⟨P3, hP3, lP3, s3⟩ := sumF (P := Tryz.prog) P2 [44, 32] (by (try simp only [List.length_cons, List.length_nil]); omega)
    simp only [List.length_cons, List.length_nil] at lP3
    obtain ⟨P4, hP4, lP4, s4⟩ := sumF (P := Tryz.prog) P3 K (by (try simp only [List.length_cons, List.length_nil]); omega)
    obtain ⟨P5, hP5, lP5, s5⟩ := sumF (P := Tryz.prog) P4 [40] (by (try simp only [List.length_cons, List.length_nil]); omega)
    simp only [List.length_cons, List.length_nil] at lP5
    obtain ⟨P6, hP6, lP6, s6⟩ := sumF (P := Tryz.prog) P5 A2 (by (try simp only [List.length_cons, List.length_nil]); omega)
    obtain ⟨P7, hP7, lP7, s7⟩ := sumF (P := Tryz.prog) P6 [41] (by (try simp only [List.length_cons, List.length_nil]); omega)
    simp only [List.length_cons, List.length_nil] at lP7
    go_wp2_with fail
    go_region_held3 (fun w' => w'.cell? ⟨xb, 0, none⟩ = some (.int .i64 n) ∧ w'.cell? ⟨xb, 1, none⟩ = some (.int .i64 a) ∧ w'.cell? ⟨xb, 2, none⟩ = some (.int .i64 b2) ∧ w'.cell? ⟨xb, 3, none⟩ = some (.int .i64 c2) ∧ w'.cell? ⟨xb, 4, none⟩ = some (.int .i32 imm))
      (first | exact HSS6.out _ Hdr6.out | exact HSS6.out _ (bel_from Hdr6.out hb7) | exact HSS6.out _ (bel_from (bel_from Hdr6.out hb7) hb8))
      (first
        | (refine (Ra.out _ (HPW6.out _ Hdr6.out)).mono ?_; rintro e w7 ⟨rfl, hb7⟩)
        | (refine (Rb.out _ (HPW6.out _ (bel_from Hdr6.out hb7))).mono ?_; rintro e w8 ⟨rfl, hb8⟩))
    have HBl := Lib.hid (HBW6.out _ (bel_from (bel_from Hdr6.out hb7) hb8))
    clear hb7 hb8
    go_wp2_with fail
    go_ret
    exact ⟨by rw [hP7.out, hP6.out, hP5.out, hP4.out, hP3.out, hP2.out, hP1.out]; simp, HBl.out⟩
  · obtain ⟨P1, hP1, lP1, s1⟩ := sumF (P := Tryz.prog) N [32] (by (try simp only [List.length_cons, List.length_nil]); omega)
    simp only [List.length_cons, List.length_nil] at lP1
    obtain ⟨P2, hP2, lP2, s2⟩ := sumF (P := Tryz.prog) P1 A (by (try simp only [List.length_cons, List.length_nil]); omega)
    obtain ⟨P3, hP3, lP3, s3⟩ := sumF (P := Tryz.prog) P2 [44, 32] (by (try simp only [List.length_cons, List.length_nil]); omega)
    simp only [List.length_cons, List.length_nil] at lP3
    obtain ⟨P4, hP4, lP4, s4⟩ := sumF (P := Tryz.prog) P3 A2 (by (try simp only [List.length_cons, List.length_nil]); omega)
    obtain ⟨P5, hP5, lP5, s5⟩ := sumF (P := Tryz.prog) P4 [44, 32] (by (try simp only [List.length_cons, List.length_nil]); omega)
    simp only [List.length_cons, List.length_nil] at lP5
    obtain ⟨P6, hP6, lP6, s6⟩ := sumF (P := Tryz.prog) P5 K (by (try simp only [List.length_cons, List.length_nil]); omega)
    go_wp2_with fail
    go_region_held3 (fun w' => w'.cell? ⟨xb, 0, none⟩ = some (.int .i64 n) ∧ w'.cell? ⟨xb, 1, none⟩ = some (.int .i64 a) ∧ w'.cell? ⟨xb, 2, none⟩ = some (.int .i64 b2) ∧ w'.cell? ⟨xb, 3, none⟩ = some (.int .i64 c2) ∧ w'.cell? ⟨xb, 4, none⟩ = some (.int .i32 imm))
      (first | exact HSS6.out _ Hdr6.out | exact HSS6.out _ (bel_from Hdr6.out hb7) | exact HSS6.out _ (bel_from (bel_from Hdr6.out hb7) hb8))
      (first
        | (refine (Ra.out _ (HPW6.out _ Hdr6.out)).mono ?_; rintro e w7 ⟨rfl, hb7⟩)
        | (refine (Rb.out _ (HPW6.out _ (bel_from Hdr6.out hb7))).mono ?_; rintro e w8 ⟨rfl, hb8⟩))
    have HBl := Lib.hid (HBW6.out _ (bel_from (bel_from Hdr6.out hb7) hb8))
    clear hb7 hb8
    go_wp2_with fail
    go_ret
    exact ⟨by rw [hP6.out, hP5.out, hP4.out, hP3.out, hP2.out, hP1.out]; simp, HBl.out⟩
  · obtain ⟨P1, hP1, lP1, s1⟩ := sumF (P := Tryz.prog) N [32] (by (try simp only [List.length_cons, List.length_nil]); omega)
    simp only [List.length_cons, List.length_nil] at lP1
    obtain ⟨P2, hP2, lP2, s2⟩ := sumF (P := Tryz.prog) P1 A (by (try simp only [List.length_cons, List.length_nil]); omega)
    obtain ⟨P3, hP3, lP3, s3⟩ := sumF (P := Tryz.prog) P2 [44, 32] (by (try simp only [List.length_cons, List.length_nil]); omega)
    simp only [List.length_cons, List.length_nil] at lP3
    obtain ⟨P4, hP4, lP4, s4⟩ := sumF (P := Tryz.prog) P3 K (by (try simp only [List.length_cons, List.length_nil]); omega)
    go_wp2_with fail
    refine (Ra.out _ (H.out.below HB6.out).pow).mono ?_
    rintro e w7 ⟨rfl, hb7⟩
    have HB7 := Lib.hid (bel_from HB6.out hb7)
    clear hb7
    go_wp2_with fail
    go_ret
    exact ⟨by rw [hP4.out, hP3.out, hP2.out, hP1.out]; simp, HB7.out⟩
  · obtain ⟨P1, hP1, lP1, s1⟩ := sumF (P := Tryz.prog) N [32] (by (try simp only [List.length_cons, List.length_nil]); omega)
    simp only [List.length_cons, List.length_nil] at lP1
    obtain ⟨P2, hP2, lP2, s2⟩ := sumF (P := Tryz.prog) P1 A (by (try simp only [List.length_cons, List.length_nil]); omega)
    go_wp2_with fail
    refine (Ra.out _ (H.out.below HB6.out).pow).mono ?_
    rintro e w7 ⟨rfl, hb7⟩
    have HB7 := Lib.hid (bel_from HB6.out hb7)
    clear hb7
    go_wp2_with fail
    go_ret
    exact ⟨by rw [hP2.out, hP1.out]; simp, HB7.out⟩
end Go.Proofs.YtjjnidbggoaonaaGreatDoor
