/- The walk of IsaBack: it returns true, whatever the instruction. -/
import Derived.Test.YtidaopggidccmaaDoorParW
import Derived.Test.YtidaopggidccmaaDoorParC
import Derived.Test.YtidaopggidccmaaDoorIsaG
import Derived.Test.YtidaopggidccmaaDoorIsaL
import Derived.Test.YtidaopggidccmaaDoorIsaE
namespace Go.Proofs.YtidaopggidccmaaDoor
open Go.RowKit
attribute [local irreducible] World.setCell World.alloc World.drew Calls Code.wp

theorem neq_b {w : World} (R : Bool) : (binOp .neq 4 (.bool R) (.bool R)).run Tryd.prog w = .ok (.bool false) w := by go_simp; try simp
theorem eql_8 (w : World) : (binOp .eql 3 (.int .i64 ((8 : Nat) : Int)) (.int .i64 8)).run Tryd.prog w = .ok (.bool true) w := by go_simp; try rfl
theorem eql_insB (w : World) (x : Ins) : (binOp .eql 25 x.v x.v).run Tryd.prog w = .ok (.bool true) w := by
  unfold Ins.v
  go_simp
  try simp
theorem guard_insB (x y : Ins) {p q : Operand} (w : World) : (eqGuard .eql 25 p q x.v y.v).run Tryd.prog w = .ok () w := by
  have h : Tryd.prog.eqGuardType Tryd.prog.depth 25 = false := by kernel_rfl
  simp [eqGuard, Ins.v, h]
theorem ins_f0 (b : Nat) (w : World) : (Instr.fieldAt 25 (.pointer (some ⟨b, 0, none⟩)) 0).run Tryd.prog w = .ok (.pointer (some ⟨b, 0, none⟩)) w := by go_simp; try rfl
theorem ins_f1 (b : Nat) (w : World) : (Instr.fieldAt 25 (.pointer (some ⟨b, 0, none⟩)) 1).run Tryd.prog w = .ok (.pointer (some ⟨b, 1, none⟩)) w := by go_simp; try rfl
theorem ins_f2 (b : Nat) (w : World) : (Instr.fieldAt 25 (.pointer (some ⟨b, 0, none⟩)) 2).run Tryd.prog w = .ok (.pointer (some ⟨b, 2, none⟩)) w := by go_simp; try rfl
theorem ins_f3 (b : Nat) (w : World) : (Instr.fieldAt 25 (.pointer (some ⟨b, 0, none⟩)) 3).run Tryd.prog w = .ok (.pointer (some ⟨b, 3, none⟩)) w := by go_simp; try rfl
theorem ins_f4 (b : Nat) (w : World) : (Instr.fieldAt 25 (.pointer (some ⟨b, 0, none⟩)) 4).run Tryd.prog w = .ok (.pointer (some ⟨b, 4, none⟩)) w := by go_simp; try rfl
theorem load_i {w : World} {p : Addr} {n : Int} (h : w.cell? p = some (.int .i64 n)) : (Instr.loadAt 3 (.pointer (some p))).run Tryd.prog w = .ok (.int .i64 n) w := by go_simp; try rfl
theorem load_i32 {w : World} {p : Addr} {n : Int} (h : w.cell? p = some (.int .i32 n)) : (Instr.loadAt 21 (.pointer (some p))).run Tryd.prog w = .ok (.int .i32 n) w := by go_simp; try rfl
theorem conv_imm (n : Int) (h : -2147483648 ≤ n ∧ n ≤ 2147483647) (w : World) : (convert 21 2 (.int .i32 n)).run Tryd.prog w = .ok (.int .i64 n) w := by
  obtain ⟨h0, h1⟩ := h
  go_simp
  simp [IntKind.wrap, IntKind.bits, IntKind.signed]; omega
theorem eql_S {P : Program} {w : World} {l m : List UInt8} (h : l = m) (t : TypeId) : (binOp .eql t (S l) (S m)).run P w = .ok (.bool true) w := by
  subst h
  rw [binOp_string_eql]
  simp
/-- Encoded and decoded. -/
theorem decB_enc (X : Ins) (h0 : -2147483648 ≤ X.imm) (h1 : X.imm ≤ 2147483647) : decB (fun j => X.enc.getD j 0) = X := by
  have e : numB (fun j => X.enc.getD j 0) = uns X.imm := by
    show (uns X.imm / 16777216) * 16777216 + (uns X.imm / 65536 % 256) * 65536 + (uns X.imm / 256 % 256) * 256 + uns X.imm % 256 = uns X.imm
    have : 0 ≤ uns X.imm ∧ uns X.imm < 4294967296 := by unfold uns; omega
    omega
  unfold decB
  rw [e]
  have : sgn (uns X.imm) = X.imm := by unfold sgn uns; split <;> omega
  rw [this]
  rfl
theorem enc_bytes (X : Ins) (hr : X.right = true) (j : Nat) : 0 ≤ X.enc.getD j 0 ∧ X.enc.getD j 0 ≤ 255 := by
  obtain ⟨⟨o0, o1⟩, ⟨a0, a1⟩, ⟨b0, b1⟩, c0, c1⟩ := Ins.right_spec hr
  have hu : 0 ≤ uns X.imm ∧ uns X.imm < 4294967296 := by unfold uns; omega
  rcases j with _ | _ | _ | _ | _ | _ | _ | _ | j <;> simp [Ins.enc, List.getD] <;> omega

theorem str_add (l m : List UInt8) (h : l.length + m.length ≤ 10000) : ∃ L, L = l ++ m ∧ L.length = l.length + m.length ∧ Hid (∀ (t : TypeId) (w : World), (binOp .add t (S l) (S m)).run Tryd.prog w = .ok (S L) w) :=
  ⟨l ++ m, rfl, List.length_append, fun _ _ => run_add l m (by omega)⟩
theorem text_len (X : Ins) (hr : X.right = true) (hi : -2147483648 ≤ X.imm ∧ X.imm ≤ 2147483647) : X.text.length ≤ 10000 := by
  obtain ⟨_, ⟨a0, a1⟩, ⟨b0, b1⟩, c0, c1⟩ := Ins.right_spec hr
  have l0 := nm_len (X.op.toNat - 1)
  have la := Lib.itoa_length_le (n := X.a) (by omega) (by omega)
  have lb := Lib.itoa_length_le (n := X.b) (by omega) (by omega)
  have lc := Lib.itoa_length_le (n := X.c) (by omega) (by omega)
  have li := Lib.itoa_length_le (n := X.imm) (by omega) (by omega)
  unfold Ins.text
  rw [if_pos hr]
  simp
  omega

set_option maxRecDepth 100000 in
set_option maxHeartbeats 1000000 in
theorem back_ins (X : Ins) (w : World) (hi : -2147483648 ≤ X.imm ∧ X.imm ≤ 2147483647) (h : HasPar w) :
    Calls Tryd.prog 10 #[.agg #[.int .i64 X.op, .int .i64 X.a, .int .i64 X.b, .int .i64 X.c, .int .i32 X.imm]] w fun e w' => e = .returned (.bool true) ∧ Below w.heap.size w w' := by
  have H := Lib.hid h; have Hi := Lib.hid hi; clear h hi
  obtain ⟨R, hR0⟩ : ∃ R, Ins.right ⟨X.op, X.a, X.b, X.c, X.imm⟩ = R := ⟨_, rfl⟩
  have HRe := Lib.hid hR0; clear hR0
  have hb0 : Below w.heap.size w (w.alloc (.cells X.cells 25)) := (Below.refl _ _).alloc (Nat.le_refl _) _
  have Hb0 := Lib.hid hb0; clear hb0
  go_enter Tryd.func10, Tryd.ntmps10
  go_wp2_with fail
  refine (fit04_any _ (H.out.below Hb0.out).pow (H.out.below Hb0.out).sp).mono ?_
  rintro e w1 ⟨rfl, hb1⟩
  have B1 : Hid (Blk w1 w.heap.size X.cells 25) := (Blk.new w X.cells _).below hb1 (by simp)
  have Hb1 := Lib.hid (bel_from Hb0.out hb1); clear hb1 Hb0
  go_wp2_with fail
  refine wp_region_rinv (by kernel_rfl) (by kernel_rfl) (by kernel_rfl)
    (fun i v => match i with | 0 => v = X.v | 1 => v = .bool R | 2 => v = X.v | 3 => v = .bool R | 4 => v = .bool false | _ => True)
    (fun _ _ wx => Below w1.heap.size w1 wx) ?_ ?_ ?_
  · exact (Below.refl _ _).drew
  · intro hu i l a wx hi hl hli hd hcl hR hW
    have hi27 : i = 0 ∨ i = 1 ∨ i = 2 ∨ i = 3 ∨ i = 4 := by have : i < 5 := hi; omega
    rcases hi27 with rfl | rfl | rfl | rfl | rfl
    · -- [0] load 25 t1
      refine wpOp_val rfl (d := 10) rfl (wanted_plain rfl _) (ex_load (hR.was 1 rfl) (load_ins (B1.out.below hW B1.out.lt).cell)) ⟨hR.put hu (by rw [hl]; decide) (d := 10) rfl (of_decide_eq_true rfl) rfl, ?_⟩
      exact hW
    · -- [1] call f22 [t10]
      refine wpOp_call rfl (d := 11) rfl (wanted_plain rfl _) (ex_call (vs := #[X.v]) (by rw [List.map_toArray]; simp only [List.map_cons, List.map_nil, show a.eval (.tmp 10) = X.v from (hR.slot 0 10 (hd 0 rfl) rfl)]) (enters_fn Tryd.func22 (by kernel_rfl) rfl)) (R := fun v w' => v = .bool R ∧ Below wx.heap.size wx w') ((right_any X.op X.a X.b X.c X.imm wx).mono fun e w' ⟨h1, h2⟩ => ⟨_, h1, by rw [← HRe.out], h2⟩) ?_
      rintro v w' ⟨rfl, h2⟩
      exact ⟨hR.put hu (by rw [hl]; decide) (d := 11) rfl (of_decide_eq_true rfl) rfl, bel_from hW h2⟩
    · -- [2] load 25 t1
      refine wpOp_val rfl (d := 12) rfl (wanted_plain rfl _) (ex_load (hR.was 1 rfl) (load_ins (B1.out.below hW B1.out.lt).cell)) ⟨hR.put hu (by rw [hl]; decide) (d := 12) rfl (of_decide_eq_true rfl) rfl, ?_⟩
      exact hW
    · -- [3] call f14 [t12]
      refine wpOp_call rfl (d := 13) rfl (wanted_plain rfl _) (ex_call (vs := #[X.v]) (by rw [List.map_toArray]; simp only [List.map_cons, List.map_nil, show a.eval (.tmp 12) = X.v from (hR.slot 2 12 (hd 2 rfl) rfl)]) (enters_fn Tryd.func14 (by kernel_rfl) rfl)) (R := fun v w' => v = .bool R ∧ Below wx.heap.size wx w') ((lright_any X.op X.a X.b X.c X.imm wx).mono fun e w' ⟨h1, h2⟩ => ⟨_, h1, by rw [← HRe.out], h2⟩) ?_
      rintro v w' ⟨rfl, h2⟩
      exact ⟨hR.put hu (by rw [hl]; decide) (d := 13) rfl (of_decide_eq_true rfl) rfl, bel_from hW h2⟩
    · -- [4] binOp neq 4 t11 t13 4
      refine wpOp_val rfl (d := 14) rfl (wanted_plain rfl _) (ex_bin (hR.slot 1 11 (hd 1 rfl) rfl) (hR.slot 3 13 (hd 3 rfl) rfl) (fun w => by simp [eqGuard]) (neq_b R)) ⟨hR.put hu (by rw [hl]; decide) (d := 14) rfl (of_decide_eq_true rfl) rfl, ?_⟩
      exact hW
-- ENDB3
  · intro l a w2 hl hR hW
    have B2 := Lib.hid (B1.out.below hW B1.out.lt)
    have Hb2 := Lib.hid (bel_from Hb1.out hW)
    have e14 : a.tmps.getD 14 undef = .bool false := hR.slot 4 14 (hl 4 (by decide)) rfl
    rw [hR.fold [10, 11, 12, 13, 14] (by kernel_rfl)]
    simp only [List.foldl, e14]
    clear hW hR e14 hl B1 Hb1
    generalize a.tmps.getD 10 undef = u10
    generalize a.tmps.getD 11 undef = u11
    generalize a.tmps.getD 12 undef = u12
    generalize a.tmps.getD 13 undef = u13
    go_simp
    clear a l
    have h0 := B2.out.cell 0; have h1 := B2.out.cell 1; have h2 := B2.out.cell 2; have h3 := B2.out.cell 3; have h4 := B2.out.cell 4
    simp only [Ins.cells] at h0 h1 h2 h3 h4
    go_wp2_with fail
    refine (lright_any X.op X.a X.b X.c X.imm _).mono ?_
    rintro e w3 ⟨rfl, hb3⟩
    have B3 := Lib.hid (B2.out.below hb3 B2.out.lt)
    have Hb3 := Lib.hid (bel_from Hb2.out hb3)
    clear hb3 B2 Hb2 h0 h1 h2 h3 h4
    rw [HRe.out]
    have h0 := B3.out.cell 0; have h1 := B3.out.cell 1; have h2 := B3.out.cell 2; have h3 := B3.out.cell 3; have h4 := B3.out.cell 4
    simp only [Ins.cells] at h0 h1 h2 h3 h4
    cases R
    · have ht : Hid (X.text = [63]) := by
        have := HRe.out
        unfold Hid Ins.text
        rw [if_neg (by rw [show X.right = false from this]; simp)]
      go_wp2_with fail
      refine (text_any X Hi.out _ (H.out.below Hb3.out).pow (H.out.below Hb3.out).sp).mono ?_
      rintro e w4 ⟨rfl, hb4⟩
      have Hb4 := Lib.hid (bel_from Hb3.out hb4); clear hb4
      rw [ht.out]
      go_wp2_with fail
      go_ret
      exact ⟨rfl, Hb4.out⟩
    · have hr : X.right = true := HRe.out
      have Hr := Lib.hid hr; clear hr
      go_wp2_with fail
      refine (enc_any X.op X.a X.b X.c X.imm _ Hr.out Hi.out).mono ?_
      rintro e w4 ⟨v, rfl, hst, hb4⟩
      obtain ⟨xa, c, rfl, hst⟩ := hst
      obtain ⟨b, o, rfl, hbl, hcell⟩ : ∃ b o, xa = some ⟨b, o, none⟩ ∧ b < w4.heap.size ∧ ∀ j, j < X.enc.length → w4.cell? ⟨b, o + j, none⟩ = some (.int .u8 (X.enc.getD j 0)) := by
        rcases hst with h | h
        · cases h
        · exact h
      have hen : (Ins.enc ⟨X.op, X.a, X.b, X.c, X.imm⟩).length = 8 := rfl
      rw [hen]
      clear hen hst
      have Hcell : Hid (∀ j, j < 8 → w4.cell? ⟨b, o + j, none⟩ = some (.int .u8 (X.enc.getD j 0))) := hcell
      have B4 := Lib.hid (B3.out.below hb4 B3.out.lt)
      have Hb4 := Lib.hid (bel_from Hb3.out hb4)
      clear hb4 B3 Hb3 h0 h1 h2 h3 h4 hcell
      go_wp2_with fail
      have hde := dec8 b o c (fun j => X.enc.getD j 0) w4 (enc_bytes X Hr.out) Hcell.out
      rw [decB_enc X Hi.out.1 Hi.out.2, Hr.out, show X.dec = .agg #[.int .i64 X.op, .int .i64 X.a, .int .i64 X.b, .int .i64 X.c, .int .i32 X.imm] from by unfold Ins.dec; rw [if_pos Hr.out]; rfl] at hde
      refine hde.mono ?_
      clear hde
      rintro e w5 ⟨rfl, hb5⟩
      have B5 := Lib.hid (B4.out.below hb5 B4.out.lt)
      have Hb5 := Lib.hid (bel_from Hb4.out hb5)
      clear hb5 B4 Hb4 Hcell
      have h0 := B5.out.cell 0; have h1 := B5.out.cell 1; have h2 := B5.out.cell 2; have h3 := B5.out.cell 3; have h4 := B5.out.cell 4
      simp only [Ins.cells] at h0 h1 h2 h3 h4
      have hlt5 : w.heap.size < w5.heap.size := B5.out.lt
      go_wp2_with fail
      have Hb5' : Hid (Below w.heap.size w (w5.alloc (.cells X.cells 25))) := Hb5.out.alloc Hb5.out.size _
      refine (text_any X Hi.out _ (H.out.below Hb5'.out).pow (H.out.below Hb5'.out).sp).mono ?_
      rintro e w6 ⟨rfl, hb6⟩
      have B6 : Hid (Blk w6 w.heap.size X.cells 25) := (B5.out.alloc (.cells X.cells 25)).below hb6 (by simp; omega)
      have C6 : Hid (Blk w6 w5.heap.size X.cells 25) := (Blk.new w5 X.cells _).below hb6 (by simp)
      have Hb6 := Lib.hid (bel_from Hb5'.out hb6)
      clear hb6 B5 Hb5 Hb5' h0 h1 h2 h3 h4 hlt5
      have htl : X.text.length ≤ 10000 := text_len X Hr.out Hi.out
      obtain ⟨TX, hTX⟩ : ∃ t, X.text = t := ⟨_, rfl⟩
      have Hpt : Hid (parse TX = some X) := by rw [← hTX]; exact parse_text X Hr.out Hi.out.1 Hi.out.2
      have Htx := Lib.hid hTX
      rw [hTX] at htl
      rw [hTX]
      clear hTX
      go_wp2_with fail
      refine (parse_any TX htl _ (H.out.below Hb6.out)).mono ?_
      rintro e w7 ⟨rfl, hb7⟩
      rw [Hpt.out, show parV (some X) = .tuple #[.agg #[.int .i64 X.op, .int .i64 X.a, .int .i64 X.b, .int .i64 X.c, .int .i32 X.imm], .bool true] from rfl]
      have B7 := Lib.hid (B6.out.below hb7 B6.out.lt)
      have C7 := Lib.hid (C6.out.below hb7 C6.out.lt)
      have Hb7 := Lib.hid (bel_from Hb6.out hb7)
      clear hb7 B6 C6 Hb6
      go_wp2_with fail
      obtain ⟨w8, hw8⟩ : ∃ w8, w7.alloc (.cells #[.int .i64 X.op, .int .i64 X.a, .int .i64 X.b, .int .i64 X.c, .int .i32 X.imm] 25) = w8 := ⟨_, rfl⟩
      rw [hw8]
      have B1 : Hid (Blk w8 w.heap.size X.cells 25) := by rw [← hw8]; exact B7.out.alloc _
      obtain ⟨n4, hn4⟩ : ∃ n, w5.heap.size = n := ⟨_, rfl⟩
      obtain ⟨n6, hn6⟩ : ∃ n, w7.heap.size = n := ⟨_, rfl⟩
      have B4 : Hid (Blk w8 n4 X.cells 25) := by rw [← hw8, ← hn4]; exact C7.out.alloc _
      have B6 : Hid (Blk w8 n6 X.cells 25) := by rw [← hw8, ← hn6]; exact Blk.new w7 X.cells _
      have Hb8 : Hid (Below w.heap.size w w8) := by rw [← hw8]; exact Hb7.out.alloc Hb7.out.size _
      have H8 := Lib.hid (H.out.below Hb8.out)
      rw [hn4, hn6]
      clear hw8 hn4 hn6 B7 C7 Hb7 htl Hpt
      obtain ⟨⟨o0, o1⟩, ⟨a0, a1⟩, ⟨b0, b1⟩, c0, c1⟩ := Ins.right_spec Hr.out
      have Hda : Hid (-2147483648 ≤ X.a ∧ X.a ≤ 2147483647) := ⟨by omega, by omega⟩
      have Hdb : Hid (-2147483648 ≤ X.b ∧ X.b ≤ 2147483647) := ⟨by omega, by omega⟩
      have Hdc : Hid (-2147483648 ≤ X.c ∧ X.c ≤ 2147483647) := ⟨by omega, by omega⟩
      have Hdimm : Hid (-2147483648 ≤ X.imm ∧ X.imm ≤ 2147483647) := Hi.out
      have l0 : (nameOf X.op).length ≤ 6 := by
        unfold nameOf; rw [if_pos ⟨o0, o1⟩]; exact nm_len _
      have la := Lib.itoa_length_le (n := X.a) (by omega) (by omega)
      have lb := Lib.itoa_length_le (n := X.b) (by omega) (by omega)
      have lc := Lib.itoa_length_le (n := X.c) (by omega) (by omega)
      have li := Lib.itoa_length_le (n := X.imm) (by have := Hi.out; omega) (by have := Hi.out; omega)
      obtain ⟨L1, e1, m1, A1⟩ := str_add (nameOf X.op) [32, 114] (by simp; omega)
      obtain ⟨L2, e2, m2, A2⟩ := str_add L1 (Lib.itoa X.a) (by simp at m1; omega)
      obtain ⟨L3, e3, m3, A3⟩ := str_add L2 [32, 114] (by simp at m1 ⊢; omega)
      obtain ⟨L4, e4, m4, A4⟩ := str_add L3 (Lib.itoa X.b) (by simp at m1 m3; omega)
      obtain ⟨L5, e5, m5, A5⟩ := str_add L4 [32, 114] (by simp at m1 m3 ⊢; omega)
      obtain ⟨L6, e6, m6, A6⟩ := str_add L5 (Lib.itoa X.c) (by simp at m1 m3 m5; omega)
      obtain ⟨L7, e7, m7, A7⟩ := str_add L6 [32] (by simp at m1 m3 m5 ⊢; omega)
      obtain ⟨L8, e8, m8, A8⟩ := str_add L7 (Lib.itoa X.imm) (by simp at m1 m3 m5 m7; omega)
      have HE : Hid (X.text = L8) := by
        unfold Hid Ins.text
        rw [if_pos Hr.out, e8, e7, e6, e5, e4, e3, e2, e1]
        unfold nameOf
        rw [if_pos ⟨o0, o1⟩]
      clear e1 e2 e3 e4 e5 e6 e7 e8 m1 m2 m3 m4 m5 m6 m7 m8 l0 la lb lc li o0 o1 a0 a1 b0 b1 c0 c1
      refine wp_region_rinv (by kernel_rfl) (by kernel_rfl) (by kernel_rfl)
        (fun i v => match i with | 0 => v = (.slice (some ⟨b, o, none⟩) 8 c) | 1 => v = .int .i64 ((8 : Nat) : Int) | 2 => v = .bool true | 3 => v = (.bool true) | 4 => v = (.bool true) | 5 => v = (.bool true) | 6 => v = (.bool true) | 7 => v = (.bool true) | 8 => v = (.bool true) | 9 => v = (.bool true) | 10 => v = X.v | 11 => v = X.v | 12 => v = .bool true | 13 => v = (.bool true) | 14 => v = (.bool true) | 15 => v = X.v | 16 => v = X.v | 17 => v = .bool true | 18 => v = (.bool true) | 19 => v = (.bool true) | 20 => v = X.v | 21 => v = S X.text | 22 => v = .pointer (some ⟨w.heap.size, 0, none⟩) | 23 => v = .int .i64 X.op | 24 => v = S (nameOf X.op) | 25 => v = S L1 | 26 => v = .pointer (some ⟨w.heap.size, 1, none⟩) | 27 => v = .int .i64 X.a | 28 => v = S (Lib.itoa X.a) | 29 => v = S L2 | 30 => v = S L3 | 31 => v = .pointer (some ⟨w.heap.size, 2, none⟩) | 32 => v = .int .i64 X.b | 33 => v = S (Lib.itoa X.b) | 34 => v = S L4 | 35 => v = S L5 | 36 => v = .pointer (some ⟨w.heap.size, 3, none⟩) | 37 => v = .int .i64 X.c | 38 => v = S (Lib.itoa X.c) | 39 => v = S L6 | 40 => v = S L7 | 41 => v = .pointer (some ⟨w.heap.size, 4, none⟩) | 42 => v = .int .i32 X.imm | 43 => v = .int .i64 X.imm | 44 => v = S (Lib.itoa X.imm) | 45 => v = S L8 | 46 => v = .bool true | 47 => v = (.bool true) | 48 => v = (.bool true) | _ => True)
        (fun _ _ wx => Below w8.heap.size w8 wx) ?_ ?_ ?_
      · exact (Below.refl _ _).drew
      · intro hu i l a wx hi hl hli hd hcl hR hW
        have hi27 : i = 0 ∨ i = 1 ∨ i = 2 ∨ i = 3 ∨ i = 4 ∨ i = 5 ∨ i = 6 ∨ i = 7 ∨ i = 8 ∨ i = 9 ∨ i = 10 ∨ i = 11 ∨ i = 12 ∨ i = 13 ∨ i = 14 ∨ i = 15 ∨ i = 16 ∨ i = 17 ∨ i = 18 ∨ i = 19 ∨ i = 20 ∨ i = 21 ∨ i = 22 ∨ i = 23 ∨ i = 24 ∨ i = 25 ∨ i = 26 ∨ i = 27 ∨ i = 28 ∨ i = 29 ∨ i = 30 ∨ i = 31 ∨ i = 32 ∨ i = 33 ∨ i = 34 ∨ i = 35 ∨ i = 36 ∨ i = 37 ∨ i = 38 ∨ i = 39 ∨ i = 40 ∨ i = 41 ∨ i = 42 ∨ i = 43 ∨ i = 44 ∨ i = 45 ∨ i = 46 ∨ i = 47 ∨ i = 48 := by have : i < 49 := hi; omega
        rcases hi27 with rfl | rfl | rfl | rfl | rfl | rfl | rfl | rfl | rfl | rfl | rfl | rfl | rfl | rfl | rfl | rfl | rfl | rfl | rfl | rfl | rfl | rfl | rfl | rfl | rfl | rfl | rfl | rfl | rfl | rfl | rfl | rfl | rfl | rfl | rfl | rfl | rfl | rfl | rfl | rfl | rfl | rfl | rfl | rfl | rfl | rfl | rfl | rfl | rfl
        · -- [0] move [t3]
          refine wpOp_val rfl (d := 34) rfl (wanted_plain rfl _) (ex_move (hR.was 3 rfl)) ⟨hR.put hu (by rw [hl]; decide) (d := 34) rfl (of_decide_eq_true rfl) rfl, ?_⟩
          exact hW
        · -- [1] builtin len [t34]
          refine wpOp_val rfl (d := 35) rfl (wanted_plain rfl _) (ex_len Tryd.underlying29 (hR.slot 0 34 (hd 0 rfl) rfl)) ⟨hR.put hu (by rw [hl]; decide) (d := 35) rfl (of_decide_eq_true rfl) rfl, ?_⟩
          exact hW
        · -- [2] binOp eql 3 t35 (.int .i64 8) 3
          refine wpOp_val rfl (d := 36) rfl (wanted_plain rfl _) (ex_bin (hR.slot 1 35 (hd 1 rfl) rfl) rfl (fun w => by simp [eqGuard]) (eql_8 _)) ⟨hR.put hu (by rw [hl]; decide) (d := 36) rfl (of_decide_eq_true rfl) rfl, ?_⟩
          exact hW
        · -- [3] move [t36]
          refine wpOp_val rfl (d := 37) rfl (wanted_plain rfl _) (ex_move (hR.slot 2 36 (hd 2 rfl) rfl)) ⟨hR.put hu (by rw [hl]; decide) (d := 37) rfl (of_decide_eq_true rfl) rfl, ?_⟩
          exact hW
        · -- [4] move [t5]
          refine wpOp_val rfl (d := 38) rfl ((wanted_slot rfl (d := 37) rfl (hR.slot 3 37 (hd 3 rfl) rfl)).trans rfl) (ex_move (hR.was 5 rfl)) ⟨hR.put hu (by rw [hl]; decide) (d := 38) rfl (of_decide_eq_true rfl) rfl, ?_⟩
          exact hW
        · -- [5] pick [t37, t38, (.bool false)]
          refine wpOp_val rfl (d := 39) rfl (wanted_plain rfl _) (ex_pick_true (hR.slot 3 37 (hd 3 rfl) rfl) (hR.slot 4 38 (hd 4 rfl) rfl)) ⟨hR.put hu (by rw [hl]; decide) (d := 39) rfl (of_decide_eq_true rfl) rfl, ?_⟩
          exact hW
        · -- [6] move [t39]
          refine wpOp_val rfl (d := 40) rfl (wanted_plain rfl _) (ex_move (hR.slot 5 39 (hd 5 rfl) rfl)) ⟨hR.put hu (by rw [hl]; decide) (d := 40) rfl (of_decide_eq_true rfl) rfl, ?_⟩
          exact hW
        · -- [7] move [t7]
          refine wpOp_val rfl (d := 41) rfl ((wanted_slot rfl (d := 40) rfl (hR.slot 6 40 (hd 6 rfl) rfl)).trans rfl) (ex_move (hR.was 7 rfl)) ⟨hR.put hu (by rw [hl]; decide) (d := 41) rfl (of_decide_eq_true rfl) rfl, ?_⟩
          exact hW
        · -- [8] pick [t40, t41, (.bool false)]
          refine wpOp_val rfl (d := 42) rfl (wanted_plain rfl _) (ex_pick_true (hR.slot 6 40 (hd 6 rfl) rfl) (hR.slot 7 41 (hd 7 rfl) rfl)) ⟨hR.put hu (by rw [hl]; decide) (d := 42) rfl (of_decide_eq_true rfl) rfl, ?_⟩
          exact hW
        · -- [9] move [t42]
          refine wpOp_val rfl (d := 43) rfl (wanted_plain rfl _) (ex_move (hR.slot 8 42 (hd 8 rfl) rfl)) ⟨hR.put hu (by rw [hl]; decide) (d := 43) rfl (of_decide_eq_true rfl) rfl, ?_⟩
          exact hW
        · -- [10] load 25 t4
          refine wpOp_val rfl (d := 44) rfl ((wanted_slot rfl (d := 43) rfl (hR.slot 9 43 (hd 9 rfl) rfl)).trans rfl) (ex_load (hR.was 4 rfl) (load_ins (B4.out.below hW B4.out.lt).cell)) ⟨hR.put hu (by rw [hl]; decide) (d := 44) rfl (of_decide_eq_true rfl) rfl, ?_⟩
          exact hW
        · -- [11] load 25 t1
          refine wpOp_val rfl (d := 45) rfl ((wanted_slot rfl (d := 43) rfl (hR.slot 9 43 (hd 9 rfl) rfl)).trans rfl) (ex_load (hR.was 1 rfl) (load_ins (B1.out.below hW B1.out.lt).cell)) ⟨hR.put hu (by rw [hl]; decide) (d := 45) rfl (of_decide_eq_true rfl) rfl, ?_⟩
          exact hW
        · -- [12] binOp eql 25 t44 t45 25
          refine wpOp_val rfl (d := 46) rfl ((wanted_slot rfl (d := 43) rfl (hR.slot 9 43 (hd 9 rfl) rfl)).trans rfl) (ex_bin (hR.slot 10 44 (hd 10 rfl) rfl) (hR.slot 11 45 (hd 11 rfl) rfl) (fun w => guard_insB X X w) (eql_insB _ _)) ⟨hR.put hu (by rw [hl]; decide) (d := 46) rfl (of_decide_eq_true rfl) rfl, ?_⟩
          exact hW
        · -- [13] pick [t43, t46, (.bool false)]
          refine wpOp_val rfl (d := 47) rfl (wanted_plain rfl _) (ex_pick_true (hR.slot 9 43 (hd 9 rfl) rfl) (hR.slot 12 46 (hd 12 rfl) rfl)) ⟨hR.put hu (by rw [hl]; decide) (d := 47) rfl (of_decide_eq_true rfl) rfl, ?_⟩
          exact hW
        · -- [14] move [t47]
          refine wpOp_val rfl (d := 48) rfl (wanted_plain rfl _) (ex_move (hR.slot 13 47 (hd 13 rfl) rfl)) ⟨hR.put hu (by rw [hl]; decide) (d := 48) rfl (of_decide_eq_true rfl) rfl, ?_⟩
          exact hW
        · -- [15] load 25 t6
          refine wpOp_val rfl (d := 49) rfl ((wanted_slot rfl (d := 48) rfl (hR.slot 14 48 (hd 14 rfl) rfl)).trans rfl) (ex_load (hR.was 6 rfl) (load_ins (B6.out.below hW B6.out.lt).cell)) ⟨hR.put hu (by rw [hl]; decide) (d := 49) rfl (of_decide_eq_true rfl) rfl, ?_⟩
          exact hW
        · -- [16] load 25 t1
          refine wpOp_val rfl (d := 50) rfl ((wanted_slot rfl (d := 48) rfl (hR.slot 14 48 (hd 14 rfl) rfl)).trans rfl) (ex_load (hR.was 1 rfl) (load_ins (B1.out.below hW B1.out.lt).cell)) ⟨hR.put hu (by rw [hl]; decide) (d := 50) rfl (of_decide_eq_true rfl) rfl, ?_⟩
          exact hW
        · -- [17] binOp eql 25 t49 t50 25
          refine wpOp_val rfl (d := 51) rfl ((wanted_slot rfl (d := 48) rfl (hR.slot 14 48 (hd 14 rfl) rfl)).trans rfl) (ex_bin (hR.slot 15 49 (hd 15 rfl) rfl) (hR.slot 16 50 (hd 16 rfl) rfl) (fun w => guard_insB X X w) (eql_insB _ _)) ⟨hR.put hu (by rw [hl]; decide) (d := 51) rfl (of_decide_eq_true rfl) rfl, ?_⟩
          exact hW
        · -- [18] pick [t48, t51, (.bool false)]
          refine wpOp_val rfl (d := 52) rfl (wanted_plain rfl _) (ex_pick_true (hR.slot 14 48 (hd 14 rfl) rfl) (hR.slot 17 51 (hd 17 rfl) rfl)) ⟨hR.put hu (by rw [hl]; decide) (d := 52) rfl (of_decide_eq_true rfl) rfl, ?_⟩
          exact hW
        · -- [19] move [t52]
          refine wpOp_val rfl (d := 53) rfl (wanted_plain rfl _) (ex_move (hR.slot 18 52 (hd 18 rfl) rfl)) ⟨hR.put hu (by rw [hl]; decide) (d := 53) rfl (of_decide_eq_true rfl) rfl, ?_⟩
          exact hW
        · -- [20] load 25 t1
          refine wpOp_val rfl (d := 54) rfl ((wanted_slot rfl (d := 53) rfl (hR.slot 19 53 (hd 19 rfl) rfl)).trans rfl) (ex_load (hR.was 1 rfl) (load_ins (B1.out.below hW B1.out.lt).cell)) ⟨hR.put hu (by rw [hl]; decide) (d := 54) rfl (of_decide_eq_true rfl) rfl, ?_⟩
          exact hW
        · -- [21] call f12 [t54]
          refine wpOp_call rfl (d := 55) rfl ((wanted_slot rfl (d := 53) rfl (hR.slot 19 53 (hd 19 rfl) rfl)).trans rfl) (ex_call (vs := #[X.v]) (by rw [List.map_toArray]; simp only [List.map_cons, List.map_nil, show a.eval (.tmp 54) = X.v from (hR.slot 20 54 (hd 20 rfl) rfl)]) (enters_fn Tryd.func12 (by kernel_rfl) rfl)) (R := fun v w' => v = S X.text ∧ Below wx.heap.size wx w') ((text_any X Hi.out wx (H8.out.below hW).pow (H8.out.below hW).sp).mono fun e w' ⟨h1, h2⟩ => ⟨_, h1, rfl, h2⟩) ?_
          rintro v w' ⟨rfl, h2⟩
          exact ⟨hR.put hu (by rw [hl]; decide) (d := 55) rfl (of_decide_eq_true rfl) rfl, bel_from hW h2⟩
        · -- [22] fieldAddr 25 t1 0
          refine wpOp_val rfl (d := 56) rfl ((wanted_slot rfl (d := 53) rfl (hR.slot 19 53 (hd 19 rfl) rfl)).trans rfl) (ex_fieldAddr (hR.was 1 rfl) (ins_f0 _ _)) ⟨hR.put hu (by rw [hl]; decide) (d := 56) rfl (of_decide_eq_true rfl) rfl, ?_⟩
          exact hW
        · -- [23] load 3 t56
          have hc := (B1.out.below hW B1.out.lt).cell 0
          refine wpOp_val rfl (d := 57) rfl ((wanted_slot rfl (d := 53) rfl (hR.slot 19 53 (hd 19 rfl) rfl)).trans rfl) (ex_load (hR.slot 22 56 (hd 22 rfl) rfl) (load_i hc)) ⟨hR.put hu (by rw [hl]; decide) (d := 57) rfl (of_decide_eq_true rfl) rfl, ?_⟩
          clear hc
          exact hW
        · -- [24] call f13 [t57]
          refine wpOp_call rfl (d := 58) rfl ((wanted_slot rfl (d := 53) rfl (hR.slot 19 53 (hd 19 rfl) rfl)).trans rfl) (ex_call (vs := #[(.int .i64 X.op)]) (by rw [List.map_toArray]; simp only [List.map_cons, List.map_nil, show a.eval (.tmp 57) = (.int .i64 X.op) from (hR.slot 23 57 (hd 23 rfl) rfl)]) (enters_fn Tryd.func13 (by kernel_rfl) rfl)) (R := fun v w' => v = S (nameOf X.op) ∧ Below wx.heap.size wx w') ((name_any X.op wx).mono fun e w' ⟨h1, h2⟩ => ⟨_, h1, rfl, h2⟩) ?_
          rintro v w' ⟨rfl, h2⟩
          exact ⟨hR.put hu (by rw [hl]; decide) (d := 58) rfl (of_decide_eq_true rfl) rfl, bel_from hW h2⟩
        · -- [25] binOp add 9 t58 (.string ⟨#[32, 114]⟩) 9
          refine wpOp_val rfl (d := 59) rfl ((wanted_slot rfl (d := 53) rfl (hR.slot 19 53 (hd 19 rfl) rfl)).trans rfl) (ex_bin (hR.slot 24 58 (hd 24 rfl) rfl) rfl (fun w => by simp [eqGuard]) (A1.out _ _)) ⟨hR.put hu (by rw [hl]; decide) (d := 59) rfl (of_decide_eq_true rfl) rfl, ?_⟩
          exact hW
        · -- [26] fieldAddr 25 t1 1
          refine wpOp_val rfl (d := 60) rfl ((wanted_slot rfl (d := 53) rfl (hR.slot 19 53 (hd 19 rfl) rfl)).trans rfl) (ex_fieldAddr (hR.was 1 rfl) (ins_f1 _ _)) ⟨hR.put hu (by rw [hl]; decide) (d := 60) rfl (of_decide_eq_true rfl) rfl, ?_⟩
          exact hW
        · -- [27] load 3 t60
          have hc := (B1.out.below hW B1.out.lt).cell 1
          refine wpOp_val rfl (d := 61) rfl ((wanted_slot rfl (d := 53) rfl (hR.slot 19 53 (hd 19 rfl) rfl)).trans rfl) (ex_load (hR.slot 26 60 (hd 26 rfl) rfl) (load_i hc)) ⟨hR.put hu (by rw [hl]; decide) (d := 61) rfl (of_decide_eq_true rfl) rfl, ?_⟩
          clear hc
          exact hW
        · -- [28] call f23 [t61]
          refine wpOp_call rfl (d := 62) rfl ((wanted_slot rfl (d := 53) rfl (hR.slot 19 53 (hd 19 rfl) rfl)).trans rfl) (ex_call (vs := #[(.int .i64 X.a)]) (by rw [List.map_toArray]; simp only [List.map_cons, List.map_nil, show a.eval (.tmp 61) = (.int .i64 X.a) from (hR.slot 27 61 (hd 27 rfl) rfl)]) (enters_fn Tryd.func23 (by kernel_rfl) rfl)) (R := fun v w' => v = S (Lib.itoa X.a) ∧ Below wx.heap.size wx w') ((ldig_any X.a Hda.out.1 Hda.out.2 wx).mono fun e w' ⟨h1, h2⟩ => ⟨_, h1, rfl, h2⟩) ?_
          rintro v w' ⟨rfl, h2⟩
          exact ⟨hR.put hu (by rw [hl]; decide) (d := 62) rfl (of_decide_eq_true rfl) rfl, bel_from hW h2⟩
        · -- [29] binOp add 9 t59 t62 9
          refine wpOp_val rfl (d := 63) rfl ((wanted_slot rfl (d := 53) rfl (hR.slot 19 53 (hd 19 rfl) rfl)).trans rfl) (ex_bin (hR.slot 25 59 (hd 25 rfl) rfl) (hR.slot 28 62 (hd 28 rfl) rfl) (fun w => by simp [eqGuard]) (A2.out _ _)) ⟨hR.put hu (by rw [hl]; decide) (d := 63) rfl (of_decide_eq_true rfl) rfl, ?_⟩
          exact hW
        · -- [30] binOp add 9 t63 (.string ⟨#[32, 114]⟩) 9
          refine wpOp_val rfl (d := 64) rfl ((wanted_slot rfl (d := 53) rfl (hR.slot 19 53 (hd 19 rfl) rfl)).trans rfl) (ex_bin (hR.slot 29 63 (hd 29 rfl) rfl) rfl (fun w => by simp [eqGuard]) (A3.out _ _)) ⟨hR.put hu (by rw [hl]; decide) (d := 64) rfl (of_decide_eq_true rfl) rfl, ?_⟩
          exact hW
        · -- [31] fieldAddr 25 t1 2
          refine wpOp_val rfl (d := 65) rfl ((wanted_slot rfl (d := 53) rfl (hR.slot 19 53 (hd 19 rfl) rfl)).trans rfl) (ex_fieldAddr (hR.was 1 rfl) (ins_f2 _ _)) ⟨hR.put hu (by rw [hl]; decide) (d := 65) rfl (of_decide_eq_true rfl) rfl, ?_⟩
          exact hW
        · -- [32] load 3 t65
          have hc := (B1.out.below hW B1.out.lt).cell 2
          refine wpOp_val rfl (d := 66) rfl ((wanted_slot rfl (d := 53) rfl (hR.slot 19 53 (hd 19 rfl) rfl)).trans rfl) (ex_load (hR.slot 31 65 (hd 31 rfl) rfl) (load_i hc)) ⟨hR.put hu (by rw [hl]; decide) (d := 66) rfl (of_decide_eq_true rfl) rfl, ?_⟩
          clear hc
          exact hW
        · -- [33] call f23 [t66]
          refine wpOp_call rfl (d := 67) rfl ((wanted_slot rfl (d := 53) rfl (hR.slot 19 53 (hd 19 rfl) rfl)).trans rfl) (ex_call (vs := #[(.int .i64 X.b)]) (by rw [List.map_toArray]; simp only [List.map_cons, List.map_nil, show a.eval (.tmp 66) = (.int .i64 X.b) from (hR.slot 32 66 (hd 32 rfl) rfl)]) (enters_fn Tryd.func23 (by kernel_rfl) rfl)) (R := fun v w' => v = S (Lib.itoa X.b) ∧ Below wx.heap.size wx w') ((ldig_any X.b Hdb.out.1 Hdb.out.2 wx).mono fun e w' ⟨h1, h2⟩ => ⟨_, h1, rfl, h2⟩) ?_
          rintro v w' ⟨rfl, h2⟩
          exact ⟨hR.put hu (by rw [hl]; decide) (d := 67) rfl (of_decide_eq_true rfl) rfl, bel_from hW h2⟩
        · -- [34] binOp add 9 t64 t67 9
          refine wpOp_val rfl (d := 68) rfl ((wanted_slot rfl (d := 53) rfl (hR.slot 19 53 (hd 19 rfl) rfl)).trans rfl) (ex_bin (hR.slot 30 64 (hd 30 rfl) rfl) (hR.slot 33 67 (hd 33 rfl) rfl) (fun w => by simp [eqGuard]) (A4.out _ _)) ⟨hR.put hu (by rw [hl]; decide) (d := 68) rfl (of_decide_eq_true rfl) rfl, ?_⟩
          exact hW
        · -- [35] binOp add 9 t68 (.string ⟨#[32, 114]⟩) 9
          refine wpOp_val rfl (d := 69) rfl ((wanted_slot rfl (d := 53) rfl (hR.slot 19 53 (hd 19 rfl) rfl)).trans rfl) (ex_bin (hR.slot 34 68 (hd 34 rfl) rfl) rfl (fun w => by simp [eqGuard]) (A5.out _ _)) ⟨hR.put hu (by rw [hl]; decide) (d := 69) rfl (of_decide_eq_true rfl) rfl, ?_⟩
          exact hW
        · -- [36] fieldAddr 25 t1 3
          refine wpOp_val rfl (d := 70) rfl ((wanted_slot rfl (d := 53) rfl (hR.slot 19 53 (hd 19 rfl) rfl)).trans rfl) (ex_fieldAddr (hR.was 1 rfl) (ins_f3 _ _)) ⟨hR.put hu (by rw [hl]; decide) (d := 70) rfl (of_decide_eq_true rfl) rfl, ?_⟩
          exact hW
        · -- [37] load 3 t70
          have hc := (B1.out.below hW B1.out.lt).cell 3
          refine wpOp_val rfl (d := 71) rfl ((wanted_slot rfl (d := 53) rfl (hR.slot 19 53 (hd 19 rfl) rfl)).trans rfl) (ex_load (hR.slot 36 70 (hd 36 rfl) rfl) (load_i hc)) ⟨hR.put hu (by rw [hl]; decide) (d := 71) rfl (of_decide_eq_true rfl) rfl, ?_⟩
          clear hc
          exact hW
        · -- [38] call f23 [t71]
          refine wpOp_call rfl (d := 72) rfl ((wanted_slot rfl (d := 53) rfl (hR.slot 19 53 (hd 19 rfl) rfl)).trans rfl) (ex_call (vs := #[(.int .i64 X.c)]) (by rw [List.map_toArray]; simp only [List.map_cons, List.map_nil, show a.eval (.tmp 71) = (.int .i64 X.c) from (hR.slot 37 71 (hd 37 rfl) rfl)]) (enters_fn Tryd.func23 (by kernel_rfl) rfl)) (R := fun v w' => v = S (Lib.itoa X.c) ∧ Below wx.heap.size wx w') ((ldig_any X.c Hdc.out.1 Hdc.out.2 wx).mono fun e w' ⟨h1, h2⟩ => ⟨_, h1, rfl, h2⟩) ?_
          rintro v w' ⟨rfl, h2⟩
          exact ⟨hR.put hu (by rw [hl]; decide) (d := 72) rfl (of_decide_eq_true rfl) rfl, bel_from hW h2⟩
        · -- [39] binOp add 9 t69 t72 9
          refine wpOp_val rfl (d := 73) rfl ((wanted_slot rfl (d := 53) rfl (hR.slot 19 53 (hd 19 rfl) rfl)).trans rfl) (ex_bin (hR.slot 35 69 (hd 35 rfl) rfl) (hR.slot 38 72 (hd 38 rfl) rfl) (fun w => by simp [eqGuard]) (A6.out _ _)) ⟨hR.put hu (by rw [hl]; decide) (d := 73) rfl (of_decide_eq_true rfl) rfl, ?_⟩
          exact hW
        · -- [40] binOp add 9 t73 (.string ⟨#[32]⟩) 9
          refine wpOp_val rfl (d := 74) rfl ((wanted_slot rfl (d := 53) rfl (hR.slot 19 53 (hd 19 rfl) rfl)).trans rfl) (ex_bin (hR.slot 39 73 (hd 39 rfl) rfl) rfl (fun w => by simp [eqGuard]) (A7.out _ _)) ⟨hR.put hu (by rw [hl]; decide) (d := 74) rfl (of_decide_eq_true rfl) rfl, ?_⟩
          exact hW
        · -- [41] fieldAddr 25 t1 4
          refine wpOp_val rfl (d := 75) rfl ((wanted_slot rfl (d := 53) rfl (hR.slot 19 53 (hd 19 rfl) rfl)).trans rfl) (ex_fieldAddr (hR.was 1 rfl) (ins_f4 _ _)) ⟨hR.put hu (by rw [hl]; decide) (d := 75) rfl (of_decide_eq_true rfl) rfl, ?_⟩
          exact hW
        · -- [42] load 21 t75
          have hc := (B1.out.below hW B1.out.lt).cell 4
          refine wpOp_val rfl (d := 76) rfl ((wanted_slot rfl (d := 53) rfl (hR.slot 19 53 (hd 19 rfl) rfl)).trans rfl) (ex_load (hR.slot 41 75 (hd 41 rfl) rfl) (load_i32 hc)) ⟨hR.put hu (by rw [hl]; decide) (d := 76) rfl (of_decide_eq_true rfl) rfl, ?_⟩
          clear hc
          exact hW
        · -- [43] convert 21 2 t76
          refine wpOp_val rfl (d := 77) rfl ((wanted_slot rfl (d := 53) rfl (hR.slot 19 53 (hd 19 rfl) rfl)).trans rfl) (ex_convert (hR.slot 42 76 (hd 42 rfl) rfl) (conv_imm X.imm Hi.out _)) ⟨hR.put hu (by rw [hl]; decide) (d := 77) rfl (of_decide_eq_true rfl) rfl, ?_⟩
          exact hW
        · -- [44] call f23 [t77]
          refine wpOp_call rfl (d := 78) rfl ((wanted_slot rfl (d := 53) rfl (hR.slot 19 53 (hd 19 rfl) rfl)).trans rfl) (ex_call (vs := #[(.int .i64 X.imm)]) (by rw [List.map_toArray]; simp only [List.map_cons, List.map_nil, show a.eval (.tmp 77) = (.int .i64 X.imm) from (hR.slot 43 77 (hd 43 rfl) rfl)]) (enters_fn Tryd.func23 (by kernel_rfl) rfl)) (R := fun v w' => v = S (Lib.itoa X.imm) ∧ Below wx.heap.size wx w') ((ldig_any X.imm Hdimm.out.1 Hdimm.out.2 wx).mono fun e w' ⟨h1, h2⟩ => ⟨_, h1, rfl, h2⟩) ?_
          rintro v w' ⟨rfl, h2⟩
          exact ⟨hR.put hu (by rw [hl]; decide) (d := 78) rfl (of_decide_eq_true rfl) rfl, bel_from hW h2⟩
        · -- [45] binOp add 9 t74 t78 9
          refine wpOp_val rfl (d := 79) rfl ((wanted_slot rfl (d := 53) rfl (hR.slot 19 53 (hd 19 rfl) rfl)).trans rfl) (ex_bin (hR.slot 40 74 (hd 40 rfl) rfl) (hR.slot 44 78 (hd 44 rfl) rfl) (fun w => by simp [eqGuard]) (A8.out _ _)) ⟨hR.put hu (by rw [hl]; decide) (d := 79) rfl (of_decide_eq_true rfl) rfl, ?_⟩
          exact hW
        · -- [46] binOp eql 9 t55 t79 9
          refine wpOp_val rfl (d := 80) rfl ((wanted_slot rfl (d := 53) rfl (hR.slot 19 53 (hd 19 rfl) rfl)).trans rfl) (ex_bin (hR.slot 21 55 (hd 21 rfl) rfl) (hR.slot 45 79 (hd 45 rfl) rfl) (fun w => by simp [eqGuard]) (eql_S HE.out _)) ⟨hR.put hu (by rw [hl]; decide) (d := 80) rfl (of_decide_eq_true rfl) rfl, ?_⟩
          exact hW
        · -- [47] pick [t53, t80, (.bool false)]
          refine wpOp_val rfl (d := 81) rfl (wanted_plain rfl _) (ex_pick_true (hR.slot 19 53 (hd 19 rfl) rfl) (hR.slot 46 80 (hd 46 rfl) rfl)) ⟨hR.put hu (by rw [hl]; decide) (d := 81) rfl (of_decide_eq_true rfl) rfl, ?_⟩
          exact hW
        · -- [48] assign [t81]
          refine wpOp_val rfl (d := 2) rfl (wanted_plain rfl _) (ex_assign (hR.slot 47 81 (hd 47 rfl) rfl)) ⟨hR.put hu (by rw [hl]; decide) (d := 2) rfl (of_decide_eq_true rfl) rfl, ?_⟩
          exact hW
-- ENDB10
      · intro l a w9 hl hR hW
        have Hb9 := Lib.hid (bel_from Hb8.out hW)
        have e2 : a.tmps.getD 2 undef = .bool true := hR.slot 48 2 (hl 48 (by decide)) rfl
        rw [hR.fold [34, 35, 36, 37, 38, 39, 40, 41, 42, 43, 44, 45, 46, 47, 48, 49, 50, 51, 52, 53, 54, 55, 56, 57, 58, 59, 60, 61, 62, 63, 64, 65, 66, 67, 68, 69, 70, 71, 72, 73, 74, 75, 76, 77, 78, 79, 80, 81, 2] (by kernel_rfl)]
        simp only [List.foldl, e2]
        clear hW hR e2 hl
        generalize a.tmps.getD 34 undef = u34
        generalize a.tmps.getD 35 undef = u35
        generalize a.tmps.getD 36 undef = u36
        generalize a.tmps.getD 37 undef = u37
        generalize a.tmps.getD 38 undef = u38
        generalize a.tmps.getD 39 undef = u39
        generalize a.tmps.getD 40 undef = u40
        generalize a.tmps.getD 41 undef = u41
        generalize a.tmps.getD 42 undef = u42
        generalize a.tmps.getD 43 undef = u43
        generalize a.tmps.getD 44 undef = u44
        generalize a.tmps.getD 45 undef = u45
        generalize a.tmps.getD 46 undef = u46
        generalize a.tmps.getD 47 undef = u47
        generalize a.tmps.getD 48 undef = u48
        generalize a.tmps.getD 49 undef = u49
        generalize a.tmps.getD 50 undef = u50
        generalize a.tmps.getD 51 undef = u51
        generalize a.tmps.getD 52 undef = u52
        generalize a.tmps.getD 53 undef = u53
        generalize a.tmps.getD 54 undef = u54
        generalize a.tmps.getD 55 undef = u55
        generalize a.tmps.getD 56 undef = u56
        generalize a.tmps.getD 57 undef = u57
        generalize a.tmps.getD 58 undef = u58
        generalize a.tmps.getD 59 undef = u59
        generalize a.tmps.getD 60 undef = u60
        generalize a.tmps.getD 61 undef = u61
        generalize a.tmps.getD 62 undef = u62
        generalize a.tmps.getD 63 undef = u63
        generalize a.tmps.getD 64 undef = u64
        generalize a.tmps.getD 65 undef = u65
        generalize a.tmps.getD 66 undef = u66
        generalize a.tmps.getD 67 undef = u67
        generalize a.tmps.getD 68 undef = u68
        generalize a.tmps.getD 69 undef = u69
        generalize a.tmps.getD 70 undef = u70
        generalize a.tmps.getD 71 undef = u71
        generalize a.tmps.getD 72 undef = u72
        generalize a.tmps.getD 73 undef = u73
        generalize a.tmps.getD 74 undef = u74
        generalize a.tmps.getD 75 undef = u75
        generalize a.tmps.getD 76 undef = u76
        generalize a.tmps.getD 77 undef = u77
        generalize a.tmps.getD 78 undef = u78
        generalize a.tmps.getD 79 undef = u79
        generalize a.tmps.getD 80 undef = u80
        generalize a.tmps.getD 81 undef = u81
        go_simp
        clear a l
        go_wp2_with fail
        go_ret
        exact ⟨rfl, Hb9.out⟩
theorem back_walk (v : Value) (w : World) (h : ∃ x : Ins, v = x.v ∧ x.wf) (hp : HasPar w) :
    Calls Tryd.prog 10 #[v] w fun e w' => e = .returned (.bool true) ∧ Below w.heap.size w w' := by
  obtain ⟨X, rfl, hX⟩ := h
  exact back_ins X w hX.2 hp
end Go.Proofs.YtidaopggidccmaaDoor
