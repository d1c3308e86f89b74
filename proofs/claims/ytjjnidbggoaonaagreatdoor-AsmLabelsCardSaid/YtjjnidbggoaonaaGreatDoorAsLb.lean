/- The walk of AsmLabels. -/
import Derived.Test.YtjjnidbggoaonaaGreatDoorAsFit
import Derived.Test.YtjjnidbggoaonaaGreatDoorAsGc
import Derived.Test.YtjjnidbggoaonaaGreatDoorBits
import Derived.Deep.LoopGhost
namespace Go.Proofs.YtjjnidbggoaonaaGreatDoor
open Go.RowKit
attribute [local irreducible] World.setCell World.alloc World.drew Calls Code.wp
attribute [local go_sem] Oper.semAt_some

theorem decB_enc (X : Ins) (h0 : -2147483648 ≤ X.imm) (h1 : X.imm ≤ 2147483647) : decB (fun j => X.enc.getD j 0) = X := by
  have e : numB (fun j => X.enc.getD j 0) = uns X.imm := by
    show (uns X.imm / 16777216) * 16777216 + (uns X.imm / 65536 % 256) * 65536 + (uns X.imm / 256 % 256) * 256 + uns X.imm % 256 = uns X.imm
    have : 0 ≤ uns X.imm ∧ uns X.imm < 4294967296 := by unfold uns; omega
    omega
  unfold decB
  rw [e]
  have : sgn (uns X.imm) = X.imm := by unfold sgn uns; split <;> omega
  rw [this]
  rfl

theorem enc_bytes (X : Ins) (hr : X.right = true) (j : Nat) : 0 ≤ X.enc.getD j 0 ∧ X.enc.getD j 0 ≤ 255 := by
  obtain ⟨⟨o0, o1⟩, ⟨a0, a1⟩, ⟨b0, b1⟩, c0, c1⟩ := Ins.right_spec hr
  have hu : 0 ≤ uns X.imm ∧ uns X.imm < 4294967296 := by unfold uns; omega
  rcases j with _ | _ | _ | _ | _ | _ | _ | _ | j <;> simp [Ins.enc, List.getD] <;> omega
theorem and31 (x : Int) : bits .and .i64 x 31 = x % 32 := and_mask_i64 x 5 31 (by omega) (by decide)
def lhead : List UInt8 := [98, 101, 113, 32, 114, 49, 44, 32, 114, 50, 44, 32, 116, 104, 101, 114, 101, 10]
def lmid : List UInt8 := [116, 104, 101, 114, 101, 58, 32, 10, 35, 32, 110, 111, 116, 104, 105, 110, 103, 10, 32, 32, 9, 10]
def ltail : List UInt8 := [106, 97, 108, 32, 114, 51, 44, 116, 104, 101, 114, 101]
theorem trapN_len (k : Nat) : (trapN k).length = 5 * k := by
  induction k with
  | zero => rfl
  | succ k ih => unfold trapN; rw [List.length_append, ih]; simp; omega
theorem haltM_len (k : Nat) : (haltM k).length = 5 * k := by
  induction k with
  | zero => rfl
  | succ k ih => unfold haltM; rw [List.length_append, ih]; simp; omega
theorem labText_eq (a b : Nat) : labText a b = lhead ++ trapN a ++ lmid ++ haltM b ++ ltail := rfl
theorem trapN_asc (k : Nat) : ∀ c ∈ trapN k, c.toNat < 128 := by
  induction k with
  | zero => intro c hc; cases hc
  | succ k ih =>
    intro c hc
    rcases List.mem_append.1 hc with h | h
    · exact ih c h
    · exact (show ∀ c ∈ ([116, 114, 97, 112, 10] : List UInt8), c.toNat < 128 by decide) c h
theorem haltM_asc (k : Nat) : ∀ c ∈ haltM k, c.toNat < 128 := by
  induction k with
  | zero => intro c hc; cases hc
  | succ k ih =>
    intro c hc
    rcases List.mem_append.1 hc with h | h
    · exact ih c h
    · exact (show ∀ c ∈ ([104, 97, 108, 116, 10] : List UInt8), c.toNat < 128 by decide) c h
theorem lab_asc (a b : Nat) : ∀ c ∈ labText a b, c.toNat < 128 := by
  have h1 : ∀ c ∈ lhead, c.toNat < 128 := by decide
  have h2 : ∀ c ∈ lmid, c.toNat < 128 := by decide
  have h3 : ∀ c ∈ ltail, c.toNat < 128 := by decide
  intro c hc
  rw [labText_eq] at hc
  simp only [List.mem_append] at hc
  rcases hc with (((h | h) | h) | h) | h
  · exact h1 c h
  · exact trapN_asc a c h
  · exact h2 c h
  · exact haltM_asc b c h
  · exact h3 c h
theorem lab_spec (a b : Nat) (ha : a < 32) (hb : b < 32) : ∃ l : List Int, assemble (labText a b) = (l, 0, 0) ∧ l.length = 8 * (a + b + 2) ∧ (∀ j, j < 8 → l.getD j 0 = (Ins.enc ⟨25, 1, 2, 0, (a : Int) + 1⟩).getD j 0) ∧ ∀ j, j < 8 → l.getD (8 * (a + b + 1) + j) 0 = (Ins.enc ⟨29, 3, 0, 0, -(b : Int)⟩).getD j 0 := by
  have h := lab_all a ha b hb
  unfold labOk at h
  simp only [Bool.and_eq_true, beq_iff_eq] at h
  obtain ⟨⟨⟨h1, h2⟩, h3⟩, h4⟩ := h
  refine ⟨(assemble (labText a b)).1, Prod.ext rfl h1, h2, fun j hj => ?_, fun j hj => ?_⟩
  · rw [← h3]
    simp [List.getD, hj]
  · rw [← h4]
    simp [List.getD, List.getElem?_drop]

theorem slice_ends (p o c q : Nat) (l : List Int) (h1 : l.length = q + 8) (h2 : l.length ≤ c) :
    (∀ w, (Instr.slice 27 (.slice (some ⟨p, o, none⟩) l.length c) none (some (.int .i64 8)) none).run Tryz.prog w = .ok (.slice (some ⟨p, o, none⟩) 8 c) w) ∧
    ∀ w, (Instr.slice 27 (.slice (some ⟨p, o, none⟩) l.length c) (some (.int .i64 (q : Int))) none none).run Tryz.prog w = .ok (.slice (some ⟨p, o + q, none⟩) 8 (c - q)) w := by
  refine ⟨fun w => ?_, fun w => ?_⟩
  · go_simp
    intro h; exfalso; omega
  · go_simp
    rw [if_pos (by omega), if_neg (by omega)]
set_option maxRecDepth 100000 in
set_option maxHeartbeats 4000000 in
theorem labels_walk (x y : Int) (w : World) (h : HasAz w) :
    Calls Tryz.prog 4 #[.int .i64 x, .int .i64 y] w fun e w' => e = .returned (.bool true) ∧ Below w.heap.size w w' := by
  have H := Lib.hid h
  have Hfit := Lib.hid (fit24_any w h)
  clear h
  have hx := and31 x
  have hy := and31 y
  obtain ⟨a, ha⟩ : ∃ a : Nat, x % 32 = (a : Int) := ⟨(x % 32).toNat, by omega⟩
  obtain ⟨b, hb⟩ : ∃ b : Nat, y % 32 = (b : Int) := ⟨(y % 32).toNat, by omega⟩
  have ha32 : a < 32 := by omega
  have hb32 : b < 32 := by omega
  rw [ha] at hx
  rw [hb] at hy
  clear ha hb
  go_enter Tryz.func4, Tryz.ntmps4
  go_wp2_with fail
  refine Hfit.out.mono ?_
  rintro e w1 ⟨rfl, hb1⟩
  have HB1 := Lib.hid hb1
  clear hb1
  go_wp2_with fail
  go_loopg [5, 19] a (fun g vt vi wx => ∃ j : Nat, j + g = a ∧ vt = S (lhead ++ trapN j) ∧ vi = .int .i64 j ∧ wx = w1)
  case atStart => exact ⟨0, by omega, rfl, rfl, rfl⟩
  case round =>
    obtain ⟨j, hj, rfl, rfl, rfl⟩ := hrel
    obtain ⟨T, hT⟩ : ∃ T, lhead ++ trapN j = T := ⟨_, rfl⟩
    have lT : T.length = 18 + 5 * j := by rw [← hT, List.length_append, trapN_len]; rfl
    rw [hT]
    by_cases hjk : j < a
    · have hjk' : (j : Int) < a := by omega
      have s1 : ∀ w, (Op.stringOp .add ⟨T.toArray⟩ ⟨#[116, 114, 97, 112, 10]⟩).run Tryz.prog w = .ok (S (lhead ++ trapN (j + 1))) w := by
        have := run_sadd (P := Tryz.prog) T [116, 114, 97, 112, 10] (by simp; omega)
        rw [← hT, List.append_assoc] at this
        rw [← hT]; exact this
      obtain ⟨T2, hT2⟩ : ∃ T2, lhead ++ trapN (j + 1) = T2 := ⟨_, rfl⟩
      rw [hT2] at s1
      have HT2 := Lib.hid hT2
      clear hT hT2
      go_wp2_with fail
      go_roundg (a - (j + 1))
      case measure => omega
      case rel => exact ⟨j + 1, by omega, by rw [HT2.out], by go_num, rfl⟩
    · obtain rfl : j = a := by omega
      have s1 : ∀ w, (Op.stringOp .add ⟨T.toArray⟩ ⟨#[116, 104, 101, 114, 101, 58, 32, 10, 35, 32, 110, 111, 116, 104, 105, 110, 103, 10, 32, 32, 9, 10]⟩).run Tryz.prog w = .ok (S (T ++ lmid)) w := run_sadd (P := Tryz.prog) T lmid (by simp [lmid]; omega)
      have Hsp := Lib.hid (lab_spec j b ha32 hb32)
      have HT := Lib.hid hT
      obtain ⟨M, hM⟩ : ∃ M, T ++ lmid = M := ⟨_, rfl⟩
      rw [hM] at s1
      have lM : M.length = 40 + 5 * j := by rw [← hM, List.length_append, lT]; simp [lmid]; omega
      have HM := Lib.hid hM
      clear hT hM
      go_wp2_with fail
      go_loopg [5, 27] b (fun g vt vi wx => ∃ i : Nat, i + g = b ∧ vt = S (M ++ haltM i) ∧ vi = .int .i64 i ∧ wx = wr)
      case atStart => exact ⟨0, by omega, by simp [haltM], rfl, rfl⟩
      case round =>
        obtain ⟨i, hi, rfl, rfl, rfl⟩ := hrel
        obtain ⟨U, hU⟩ : ∃ U, M ++ haltM i = U := ⟨_, rfl⟩
        have lU : U.length = 40 + 5 * j + 5 * i := by rw [← hU, List.length_append, haltM_len, lM]
        rw [hU]
        by_cases hik : i < b
        · have hik' : (i : Int) < b := by omega
          have s2 : ∀ w, (Op.stringOp .add ⟨U.toArray⟩ ⟨#[104, 97, 108, 116, 10]⟩).run Tryz.prog w = .ok (S (M ++ haltM (i + 1))) w := by
            have := run_sadd (P := Tryz.prog) U [104, 97, 108, 116, 10] (by simp; omega)
            rw [← hU, List.append_assoc] at this
            rw [← hU]; exact this
          obtain ⟨U2, hU2⟩ : ∃ U2, M ++ haltM (i + 1) = U2 := ⟨_, rfl⟩
          rw [hU2] at s2
          have HU2 := Lib.hid hU2
          clear hU hU2
          go_wp2_with fail
          go_roundg (b - (i + 1))
          case measure => omega
          case rel => exact ⟨i + 1, by omega, by rw [HU2.out], by go_num, rfl⟩
        · obtain rfl : i = b := by omega
          have hL : U ++ ltail = labText j i := by rw [labText_eq, ← hU, ← HM.out, ← HT.out]
          have s2 : ∀ w, (Op.stringOp .add ⟨U.toArray⟩ ⟨#[106, 97, 108, 32, 114, 51, 44, 116, 104, 101, 114, 101]⟩).run Tryz.prog w = .ok (S (labText j i)) w := by
            rw [← hL]; exact run_sadd (P := Tryz.prog) U ltail (by simp [ltail]; omega)
          have Hasm := Lib.hid (asm_ascii (labText j i) (by rw [← hL, List.length_append, lU]; simp [ltail]; omega) (lab_asc j i) _ (H.out.below HB1.out).base)
          obtain ⟨l, hl, ll, hl1, hl2⟩ := Hsp.out
          obtain ⟨X, hX⟩ : ∃ X, labText j i = X := ⟨_, rfl⟩
          rw [hX] at s2 Hasm hl
          have Hl := Lib.hid hl; have Hl1 := Lib.hid hl1; have Hl2 := Lib.hid hl2
          clear hU hL hX hl hl1 hl2 Hsp
          go_wp2_with fail
          refine Hasm.out.mono ?_
          rintro e w4 ⟨v, rfl, hv, hb4⟩
          rw [Hl.out] at hv ⊢
          have hv : StrIn w4 v l := hv
          obtain ⟨vx, c, rfl, ⟨hc1, hc2⟩, h0 | ⟨p, o, rfl, hpl, hcell⟩⟩ := hv
          · exfalso; rw [h0] at ll; simp at ll
          obtain ⟨q, hq⟩ : ∃ q, 8 * (j + i + 1) = q := ⟨_, rfl⟩
          rw [hq] at Hl2
          have hB1 := decB_enc ⟨25, 1, 2, 0, (j : Int) + 1⟩ (by simp only; omega) (by simp only; omega)
          have hB2 := decB_enc ⟨29, 3, 0, 0, -(i : Int)⟩ (by simp only; omega) (by simp only; omega)
          have hD1 : ∀ w', Below w4.heap.size w4 w' → Calls Tryz.prog 18 #[.slice (some ⟨p, o, none⟩) 8 c] w' fun e w2 => e = .returned (.tuple #[.agg #[.int .i64 25, .int .i64 1, .int .i64 2, .int .i64 0, .int .i32 ((j : Int) + 1)], .bool true]) ∧ Below w'.heap.size w' w2 := fun w' hb => by
            have := dec8 p o c (fun k => (Ins.enc ⟨25, 1, 2, 0, (j : Int) + 1⟩).getD k 0) w' (fun k => enc_bytes _ (by simp [Ins.right, regB]) k) (fun k hk => by
              rw [hb.cell (p := ⟨p, o + k, none⟩) hpl, hcell k (by omega), Hl1.out k hk])
            rw [hB1] at this
            exact this
          have hD2 : ∀ w', Below w4.heap.size w4 w' → Calls Tryz.prog 18 #[.slice (some ⟨p, o + q, none⟩) 8 (c - q)] w' fun e w2 => e = .returned (.tuple #[.agg #[.int .i64 29, .int .i64 3, .int .i64 0, .int .i64 0, .int .i32 (-(i : Int))], .bool true]) ∧ Below w'.heap.size w' w2 := fun w' hb => by
            have := dec8 p (o + q) (c - q) (fun k => (Ins.enc ⟨29, 3, 0, 0, -(i : Int)⟩).getD k 0) w' (fun k => enc_bytes _ (by simp [Ins.right, regB]) k) (fun k hk => by
              rw [hb.cell (p := ⟨p, o + q + k, none⟩) hpl, Nat.add_assoc, hcell (q + k) (by omega), Hl2.out k hk])
            rw [hB2] at this
            exact this
          have HD1 := Lib.hid hD1; have HD2 := Lib.hid hD2
          have HB4 : Hid (Below w.heap.size w w4) := bel_from HB1.out hb4
          obtain ⟨hs1, hs2⟩ := slice_ends p o c q l (by omega) hc1
          have hne : ((l.length : Int) != 8 * ((j : Int) + i + 2)) = false := by simp; omega
          have e1 : IntKind.i64.wrap ((j : Int) + i) = j + i := IntWalk.i64_in _ (by omega)
          have e2 : IntKind.i64.wrap ((j : Int) + i + 2) = j + i + 2 := IntWalk.i64_in _ (by omega)
          have e3 : IntKind.i64.wrap (8 * ((j : Int) + i + 2)) = 8 * (j + i + 2) := IntWalk.i64_in _ (by omega)
          have e4 : IntKind.i64.wrap ((l.length : Int) - 8) = q := by rw [show (l.length : Int) - 8 = q by omega]; exact IntWalk.i64_in _ (by omega)
          have e5 : IntKind.i64.wrap ((j : Int) + 1) = j + 1 := IntWalk.i64_in _ (by omega)
          have e6 : IntKind.i32.wrap ((j : Int) + 1) = j + 1 := by rw [IntKind.wrap_i32]; omega
          have e7 : IntKind.i64.wrap (-(i : Int)) = -i := IntWalk.i64_in _ (by omega)
          have e8 : IntKind.i32.wrap (-(i : Int)) = -i := by rw [IntKind.wrap_i32]; omega
          clear hb4 hcell hD1 hD2 hB1 hB2 hc1 hc2 ll hq
          go_wp2_with fail
          have HL5 : Hid (Below w4.heap.size w4 (w4.alloc (.cells #[.int .i64 0, .int .i64 0] 30))) := (Below.refl _ _).alloc (Nat.le_refl _) _
          refine (HD1.out _ HL5.out).mono ?_
          rintro e w6 ⟨rfl, hb6⟩
          have HL6 := Lib.hid (bel_from HL5.out hb6)
          have HL7 : Hid (Below w4.heap.size w4 (w6.alloc (.cells #[.int .i64 25, .int .i64 1, .int .i64 2, .int .i64 0, .int .i32 ((j : Int) + 1)] 23))) := HL6.out.alloc HL6.out.size _
          clear hb6
          go_wp2_with fail
          refine (HD2.out _ HL7.out).mono ?_
          rintro e w8 ⟨rfl, hb8⟩
          have HL8 := Lib.hid (bel_from HL7.out hb8)
          have hx8 := (((Blk.new w6 #[.int .i64 25, .int .i64 1, .int .i64 2, .int .i64 0, .int .i32 ((j : Int) + 1)] 23).below hb8 (by rw [World.size_alloc]; omega)).alloc (.cells #[.int .i64 29, .int .i64 3, .int .i64 0, .int .i64 0, .int .i32 (-(i : Int))] 23)).cell
          have hz8 : w6.heap.size < w8.heap.size := by have := hb8.size; rw [World.size_alloc] at this; omega
          clear hb8
          go_wp2_with fail
          go_ret
          exact ⟨rfl, bel_from HB4.out (HL8.out.alloc HL8.out.size _)⟩
theorem labels_law (x y : Int) (W : World) (_ : (Lit.int .i64 x).wf = true) (_ : (Lit.int .i64 y).wf = true) (h : HasAz W) :
    Calls Tryz.prog 4 #[.int .i64 x, .int .i64 y] W fun e w' => e = .returned (.bool true) ∧ Below W.heap.size W w' := labels_walk x y W h
end Go.Proofs.YtjjnidbggoaonaaGreatDoor
