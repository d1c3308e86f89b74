/- The walk of AsmNumbers. -/
import Derived.Test.YtjjnidbggoaonaaGreatDoorAsNp
import Derived.Test.YtjjnidbggoaonaaGreatDoorArgs
namespace Go.Proofs.YtjjnidbggoaonaaGreatDoor
open Go.RowKit
attribute [local irreducible] World.setCell World.alloc World.drew Calls Code.wp
attribute [local go_sem] Oper.semAt_some

theorem be8_at (x : Int) (k : Nat) (d : Int) (hk : k < 8) (hd : d = ((256 ^ (7 - k) : Nat) : Int)) : IntKind.u8.wrap (IntKind.u64.wrap x / d) = (be8 x).getD k 0 := by
  subst hd
  rw [IntKind.wrap_u64, IntKind.wrap_u8]
  unfold be8
  rw [List.getD, List.getElem?_map, List.getElem?_range hk]
  simp only [Option.map_some, Option.getD_some]
  obtain rfl | rfl | rfl | rfl | rfl | rfl | rfl | rfl : k = 0 ∨ k = 1 ∨ k = 2 ∨ k = 3 ∨ k = 4 ∨ k = 5 ∨ k = 6 ∨ k = 7 := by omega
  all_goals simp only [Nat.reduceSub, Nat.reducePow]
  all_goals omega

set_option maxRecDepth 100000 in
set_option maxHeartbeats 8000000 in
theorem numbers_walk (x0 y : Int) (h0 : -9223372036854775808 ≤ x0) (h1 : x0 ≤ 9223372036854775807) (w : World) (h : HasAz w) :
    Calls Tryz.prog 7 #[.int .i64 x0, .int .i64 y] w fun e w' => e = .returned (.bool true) ∧ Below w.heap.size w w' := by
  have H := Lib.hid h
  have Hfit := Lib.hid (fit24_any w h)
  clear h
  have hb := tmod_bd y 130 (by omega)
  have m1 : IntKind.i64.wrap (y.tmod 130 + 130) = y.tmod 130 + 130 := IntWalk.i64_in _ (by omega)
  obtain ⟨n, hn⟩ : ∃ n : Nat, (y.tmod 130 + 130).tmod 130 = (n : Int) := ⟨((y.tmod 130 + 130).tmod 130).toNat, by
    have := Int.tmod_nonneg (a := y.tmod 130 + 130) 130 (by omega); omega⟩
  have hn130 : n < 130 := by have := tmod_bd (y.tmod 130 + 130) 130 (by omega); omega
  clear hb
  obtain ⟨x, hx⟩ : ∃ x : Int, x = if x0 = -9223372036854775808 then -9223372036854775807 else x0 := ⟨_, rfl⟩
  have hx0 : -9223372036854775807 ≤ x := by rw [hx]; split <;> omega
  have hx1 : x ≤ 9223372036854775807 := by rw [hx]; split <;> omega
  have k0 : IntKind.u8.wrap (IntKind.u64.wrap x / 72057594037927936) = (be8 x).getD 0 0 := be8_at x 0 72057594037927936 (by omega) rfl
  have k1 : IntKind.u8.wrap (IntKind.u64.wrap x / 281474976710656) = (be8 x).getD 1 0 := be8_at x 1 281474976710656 (by omega) rfl
  have k2 : IntKind.u8.wrap (IntKind.u64.wrap x / 1099511627776) = (be8 x).getD 2 0 := be8_at x 2 1099511627776 (by omega) rfl
  have k3 : IntKind.u8.wrap (IntKind.u64.wrap x / 4294967296) = (be8 x).getD 3 0 := be8_at x 3 4294967296 (by omega) rfl
  have k4 : IntKind.u8.wrap (IntKind.u64.wrap x / 16777216) = (be8 x).getD 4 0 := be8_at x 4 16777216 (by omega) rfl
  have k5 : IntKind.u8.wrap (IntKind.u64.wrap x / 65536) = (be8 x).getD 5 0 := be8_at x 5 65536 (by omega) rfl
  have k6 : IntKind.u8.wrap (IntKind.u64.wrap x / 256) = (be8 x).getD 6 0 := be8_at x 6 256 (by omega) rfl
  have k7 : IntKind.u8.wrap (IntKind.u64.wrap x / 1) = (be8 x).getD 7 0 := be8_at x 7 1 (by omega) rfl
  rw [Int.ediv_one] at k7
  have lx := Lib.itoa_length_le x (by omega) hx1
  have Hd := Lib.hid (ldig_any x hx0 hx1)
  have s1 : ∀ w, (Op.stringOp .add ⟨#[46, 119, 111, 114, 100, 32]⟩ ⟨(Lib.itoa x).toArray⟩).run Tryz.prog w = .ok (S (wordD ++ Lib.itoa x)) w := run_sadd wordD (Lib.itoa x) (by simp [wordD]; omega)
  have Hasm := Lib.hid (fun w h => asm_ascii (wordD ++ Lib.itoa x) (by rw [List.length_append]; simp [wordD]; omega) (word_asc x) w h)
  have Hword := Lib.hid (word_asm x (by omega) hx1)
  have ln := dec_len n (by omega)
  have Hdn := Lib.hid (ldig_any (n : Int) (by omega) (by omega))
  have hni : Lib.itoa (n : Int) = Lib.decDigits n := by unfold Lib.itoa; rw [if_neg (by omega)]; simp
  rw [hni] at Hdn
  have s2 : ∀ w, (Op.stringOp .add ⟨#[46, 122, 101, 114, 111, 32]⟩ ⟨(Lib.decDigits n).toArray⟩).run Tryz.prog w = .ok (S (zeroD ++ Lib.decDigits n)) w := run_sadd zeroD (Lib.decDigits n) (by simp [zeroD]; omega)
  have s3 : ∀ w, (Op.stringOp .add ⟨(zeroD ++ Lib.decDigits n).toArray⟩ ⟨#[10, 104, 97, 108, 116]⟩).run Tryz.prog w = .ok (S (zeroD ++ Lib.decDigits n ++ haltD)) w := run_sadd (zeroD ++ Lib.decDigits n) haltD (by simp [zeroD, haltD]; omega)
  have Hasn := Lib.hid (fun w h => asm_ascii (zeroD ++ Lib.decDigits n ++ haltD) (by simp [zeroD, haltD]; omega) (zero_asc n) w h)
  have hzo := zero_ok n hn130
  unfold zeroOk at hzo
  have lb8 : (be8 x).length = 8 := by simp [be8]
  generalize zeroD ++ Lib.decDigits n ++ haltD = T3 at *
  generalize zeroD ++ Lib.decDigits n = T2 at *
  generalize Lib.decDigits n = D at *
  generalize wordD ++ Lib.itoa x = T1 at *
  generalize Lib.itoa x = X at *
  obtain ⟨L, hL⟩ : ∃ L, be8 x = L := ⟨_, rfl⟩
  rw [hL] at Hword lb8 k0 k1 k2 k3 k4 k5 k6 k7
  have Hzo := Lib.hid hzo
  clear hL hzo hni
  go_enter Tryz.func7, Tryz.ntmps7
  go_wp2_with fail
  refine Hfit.out.mono ?_
  rintro e w1 ⟨rfl, hb1⟩
  have HB1 := Lib.hid hb1
  clear hb1
  by_cases hmin : x0 = -9223372036854775808
  case' pos =>
    rw [if_pos hmin] at hx
    have hmb : (x0 == -9223372036854775808) = true := by simpa using hmin
    subst hmin
    go_wp2_with fail
    rw [← hx]
    clear hx
  case' neg =>
    rw [if_neg hmin] at hx
    have hmb : (x0 == -9223372036854775808) = false := by simpa using hmin
    rw [← hx] at hmb hmin ⊢
    clear hx
    go_wp2_with fail
  all_goals
    refine (Hd.out _).mono ?_
    rintro e w2 ⟨rfl, hb2⟩
    have HB2 := Lib.hid (bel_from HB1.out hb2)
    clear hb2
    go_wp2_with fail
    refine (Hasm.out _ (H.out.below HB2.out).base).mono ?_
    rintro e w3 ⟨v, rfl, hv, hb3⟩
    rw [Hword.out] at hv ⊢
    have hv : StrIn w3 v L := hv
    obtain ⟨vx, c, rfl, ⟨hc1, hc2⟩, h0 | ⟨p, o, rfl, hpl, hcell⟩⟩ := hv
    · exfalso; rw [h0] at lb8; simp at lb8
    rw [lb8] at hc1 hcell ⊢
    have HB3 : Hid (Below w.heap.size w w3) := bel_from HB2.out hb3
    clear hb3 hv
    obtain ⟨w4, hw4⟩ : ∃ w4 : World, w4 = w3.alloc (.cells #[.int .i64 0, .int .i64 0] 30) := ⟨_, rfl⟩
    have HB4 : Hid (Below w.heap.size w w4) := by rw [hw4]; exact HB3.out.alloc HB3.out.size _
    have hl : Below w3.heap.size w3 w4 := by rw [hw4]; exact (Below.refl _ _).alloc (Nat.le_refl _) _
    have hcl : ∀ j, j < 8 → w4.cell? ⟨p, o + j, none⟩ = some (.int .u8 (L.getD j 0)) := fun j hj => by
      rw [hl.cell (p := ⟨p, o + j, none⟩) hpl]; exact hcell j hj
    have HC := Lib.hid hcl
    clear hcl hl hcell hpl
    go_wp2_with fail
    rw [← hw4]
    clear hw4
    go_loopg [7, 8, 38] 8 (fun g _ _ vi wx => ∃ k : Nat, k + g = 8 ∧ vi = .int .i64 k ∧ wx = w4)
    case atStart => exact ⟨0, rfl, rfl, rfl⟩
    case round =>
      obtain ⟨k, hk, rfl, rfl⟩ := hrel
      by_cases hk8 : k < 8
      · have hcl := HC.out k hk8
        have hcs : k = 0 ∨ k = 1 ∨ k = 2 ∨ k = 3 ∨ k = 4 ∨ k = 5 ∨ k = 6 ∨ k = 7 := by omega
        clear hk8
        rcases hcs with rfl | rfl | rfl | rfl | rfl | rfl | rfl | rfl
        all_goals
          try rw [Nat.add_zero] at hcl
          go_wp2_with fail
          go_roundg (gk - 1)
        all_goals first | omega | exact ⟨1, by omega, rfl, rfl⟩ | exact ⟨2, by omega, rfl, rfl⟩ | exact ⟨3, by omega, rfl, rfl⟩ | exact ⟨4, by omega, rfl, rfl⟩ | exact ⟨5, by omega, rfl, rfl⟩ | exact ⟨6, by omega, rfl, rfl⟩ | exact ⟨7, by omega, rfl, rfl⟩ | exact ⟨8, by omega, rfl, rfl⟩
      · obtain rfl : k = 8 := by omega
        clear k0 k1 k2 k3 k4 k5 k6 k7 s1 hmb HC
        go_wp2_with fail
        refine (Hdn.out _).mono ?_
        rintro e w5 ⟨rfl, hb5⟩
        have HB5 := Lib.hid (bel_from HB4.out hb5)
        clear hb5
        go_wp2_with fail
        refine (Hasn.out _ (H.out.below HB5.out).base).mono ?_
        rintro e w6 ⟨v, rfl, hv, hb6⟩
        have HB6 := Lib.hid (bel_from HB5.out hb6)
        clear hb6
        by_cases h129 : n = 129
        · subst h129
          have hz : (assemble T3).2 = (11, 1) := by simpa using Hzo.out
          rw [hz]
          obtain ⟨vx, c2, rfl, -, -⟩ := hv
          clear hz Hzo
          go_wp2_with fail
          go_ret
          exact ⟨rfl, HB6.out.alloc HB6.out.size _⟩
        · by_cases h128 : n = 128
          · subst h128
            have hz : (assemble T3).2 = (7, 0) := by simpa using Hzo.out
            rw [hz]
            obtain ⟨vx, c2, rfl, -, -⟩ := hv
            clear hz Hzo
            go_wp2_with fail
            go_ret
            exact ⟨rfl, HB6.out.alloc HB6.out.size _⟩
          · have hz := Hzo.out
            rw [if_neg h129, if_neg h128] at hz
            simp only [Bool.and_eq_true, beq_iff_eq, Bool.or_eq_true] at hz
            obtain ⟨z1, z2, z3, z4⟩ := hz
            rw [z1]
            generalize (assemble T3).1 = M at hv z2 z3 z4
            obtain ⟨vx, c2, rfl, ⟨-, -⟩, h0 | ⟨p2, o2, rfl, hpl, hcell⟩⟩ := hv
            · exfalso; rw [h0] at z2; simp at z2
            have n129 : ((n : Int) == 129) = false := by simp; omega
            have n128 : ((n : Int) == 128) = false := by simp; omega
            have q0 : n ≠ 0 → w6.cell? ⟨p2, o2, none⟩ = some (.int .u8 0) := fun hn0 => by
              have := hcell 0 (by omega)
              rw [Nat.add_zero] at this
              rw [this]
              rcases z3 with z3 | z3
              · exact absurd z3 hn0
              · rw [List.getD, List.getElem?_eq_getElem (by omega)] at z3 ⊢
                simp only [Option.getD_some] at z3 ⊢
                rw [z3]
            have q1 : w6.cell? ⟨p2, o2 + 8 * n, none⟩ = some (.int .u8 1) := by
              rw [hcell (8 * n) (by omega)]
              rw [List.getD, List.getElem?_eq_getElem (by omega)] at z4 ⊢
              simp only [Option.getD_some] at z4 ⊢
              rw [z4]
            have Q0 := Lib.hid q0
            have e1 : IntKind.i64.wrap (8 * (n : Int)) = 8 * n := IntWalk.i64_in _ (by omega)
            have e2 : IntKind.i64.wrap (8 * (n : Int) + 8) = 8 * n + 8 := IntWalk.i64_in _ (by omega)
            have hq := (Below.refl w6.heap.size w6).alloc (Nat.le_refl _) (.cells #[.int .i64 0, .int .i64 0] 30)
            have q1' : (w6.alloc (.cells #[.int .i64 0, .int .i64 0] 30)).cell? ⟨p2, o2 + 8 * n, none⟩ = some (.int .u8 1) := by rw [hq.cell (p := ⟨p2, o2 + 8 * n, none⟩) hpl]; exact q1
            by_cases hn0 : n = 0
            · subst hn0
              clear q1 Q0 q0 hcell hq hpl n129 n128 e1 e2 hn
              simp only [Nat.mul_zero, Nat.add_zero] at q1'
              rw [z2]
              clear z2
              go_wp2_with fail
              go_ret
              exact ⟨rfl, HB6.out.alloc HB6.out.size _⟩
            · have q0' : (w6.alloc (.cells #[.int .i64 0, .int .i64 0] 30)).cell? ⟨p2, o2, none⟩ = some (.int .u8 0) := by rw [hq.cell (p := ⟨p2, o2, none⟩) hpl]; exact Q0.out hn0
              have n0 : ((n : Int) == 0) = false := by simp; omega
              clear q1 Q0 q0 hcell hq hpl
              rw [z2]
              clear z2
              go_wp2_with fail
              go_ret
              exact ⟨rfl, HB6.out.alloc HB6.out.size _⟩
theorem numbers_law (x y : Int) (W : World) (h0 : (Lit.int .i64 x).wf = true) (_ : (Lit.int .i64 y).wf = true) (h : HasAz W) :
    Calls Tryz.prog 7 #[.int .i64 x, .int .i64 y] W fun e w' => e = .returned (.bool true) ∧ Below W.heap.size W w' := numbers_walk x y (wf_i64 h0).1 (wf_i64 h0).2 W h
end Go.Proofs.YtjjnidbggoaonaaGreatDoor
