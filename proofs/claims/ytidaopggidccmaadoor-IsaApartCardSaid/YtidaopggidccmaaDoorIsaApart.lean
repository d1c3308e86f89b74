/- The walk of IsaApart: it returns true, whatever the two instructions. -/
import Derived.Test.YtidaopggidccmaaDoorIsaF
import Derived.Test.YtidaopggidccmaaDoorIsaE
import Derived.Test.YtidaopggidccmaaDoorIsaL
import Derived.Test.YtidaopggidccmaaDoorDec
import Derived.Test.YtidaopggidccmaaDoorIsaD
namespace Go.Proofs.YtidaopggidccmaaDoor
open Go.RowKit
attribute [local irreducible] World.setCell World.alloc World.drew Calls Code.wp

theorem nm_word (k : Nat) : Word (nm k) := by
  rcases Nat.lt_or_ge k 43 with h | h
  · have h1 : ∀ k, k < 43 → (nm k).all (fun c => decide (c ≠ 32)) = true := by decide +kernel
    intro c hc
    simpa using List.all_eq_true.1 (h1 k h) c hc
  · have : nm k = [] := by
      unfold nm
      rw [List.getD, List.getElem?_eq_none (by rw [names_len]; exact h)]; rfl
    rw [this]; intro c hc; simp at hc
/-- An instruction that lies in memory, loaded. -/
theorem load_ins {w : World} {b : Nat} {x : Ins} (h : ∀ i, w.cell? ⟨b, i, none⟩ = x.cells[i]?) : (Instr.loadAt 25 (.pointer (some ⟨b, 0, none⟩))).run Tryd.prog w = .ok x.v w := by
  have h0 : w.cell? ⟨b, 0, none⟩ = some (.int .i64 x.op) := h 0
  have h1 : w.cell? ⟨b, 1, none⟩ = some (.int .i64 x.a) := h 1
  have h2 : w.cell? ⟨b, 2, none⟩ = some (.int .i64 x.b) := h 2
  have h3 : w.cell? ⟨b, 3, none⟩ = some (.int .i64 x.c) := h 3
  have h4 : w.cell? ⟨b, 4, none⟩ = some (.int .i32 x.imm) := h 4
  clear h
  go_simp
  rfl
/-- In the midst of the statement that makes both texts of bytes. -/
structure A5 (w0 : World) (n1 n2 : Nat) (X Y : Ins) (b1 b4 : Option Bool) (v18 v21 : Value) (w : World) : Prop where
  blk1 : Blk w n1 X.cells 25
  blk2 : Blk w n2 Y.cells 25
  bel : Below w0.heap.size w0 w
  g1 : b1 = some true → StrIn w v18 X.enc
  g4 : b4 = some true → StrIn w v21 Y.enc
/-- In the midst of the last statement. -/
structure A6 (w0 : World) (n1 n2 : Nat) (X Y : Ins) (w : World) : Prop where
  blk1 : Blk w n1 X.cells 25
  blk2 : Blk w n2 Y.cells 25
  bel : Below w0.heap.size w0 w
  pow : HasPow w
  sp : HasSp w

theorem str_inj {s r : ByteArray} (h : s.data.toList = r.data.toList) : s = r := Go.WideShapes.bytes_inj h
theorem eql_str {P : Program} {w : World} (t : TypeId) (s r : ByteArray) (b : Bool) (h : b = true ↔ s = r) : (binOp .eql t (.string s) (.string r)).run P w = .ok (.bool b) w := by
  rw [binOp_string_eql]
  have : (s.toList == r.toList) = b := by
    rw [Bool.eq_iff_iff, h, beq_iff_eq]
    constructor
    · intro e
      rw [Go.Lib.toList_data, Go.Lib.toList_data] at e
      exact str_inj e
    · rintro rfl; rfl
  rw [this]; rfl
theorem eql_bool {P : Program} {w : World} (t : TypeId) (ht : P.underlying t = some .bool) (a b : Bool) : (binOp .eql t (.bool a) (.bool b)).run P w = .ok (.bool (a == b)) w := by
  go_simp
theorem eql_ins {w : World} (x y : Ins) (b : Bool) (h : b = true ↔ x = y) : (binOp .eql 25 x.v y.v).run Tryd.prog w = .ok (.bool b) w := by
  unfold Ins.v
  go_simp
  cases hbb : b
  · have hne : ¬ x = y := fun e => by
      have := h.2 e
      rw [hbb] at this; cases this
    by_cases e1 : x.op = y.op
    · by_cases e2 : x.a = y.a
      · by_cases e3 : x.b = y.b
        · by_cases e4 : x.c = y.c
          · by_cases e5 : x.imm = y.imm
            · exact absurd (by cases x; cases y; simp_all) hne
            · simp [e1, e2, e3, e4, e5]
          · simp [e1, e2, e3, e4]
        · simp [e1, e2, e3]
      · simp [e1, e2]
    · simp [e1]
  · obtain rfl := h.1 hbb
    simp
theorem eql_self {P : Program} {w : World} (t : TypeId) (ht : P.underlying t = some .bool) (a : Bool) : (binOp .eql t (.bool a) (.bool a)).run P w = .ok (.bool true) w := by
  rw [eql_bool t ht]; simp
theorem guard_ins (x y : Ins) {p q : Operand} (w : World) : (eqGuard .eql 25 p q x.v y.v).run Tryd.prog w = .ok () w := by
  have h : Tryd.prog.eqGuardType Tryd.prog.depth 25 = false := by kernel_rfl
  simp [eqGuard, Ins.v, h]

theorem byte_inj {a b : Int} (ha : 0 ≤ a ∧ a ≤ 255) (hb : 0 ≤ b ∧ b ≤ 255) (h : UInt8.ofNat a.toNat = UInt8.ofNat b.toNat) : a = b := by
  have h1 := congrArg UInt8.toNat h
  rw [UInt8.toNat_ofNat', UInt8.toNat_ofNat', Nat.mod_eq_of_lt (by omega), Nat.mod_eq_of_lt (by omega)] at h1
  omega
/-- No two instructions that may be have the same bytes. -/
theorem enc_inj {x y : Ins} (rx : x.right = true) (ry : y.right = true) (hx : -2147483648 ≤ x.imm ∧ x.imm ≤ 2147483647) (hy : -2147483648 ≤ y.imm ∧ y.imm ≤ 2147483647) : bs x.enc = bs y.enc ↔ x = y := by
  constructor
  · intro h
    obtain ⟨⟨o0, o1⟩, ⟨a0, a1⟩, ⟨b0, b1⟩, ⟨c0, c1⟩⟩ := Ins.right_spec rx
    obtain ⟨⟨p0, p1⟩, ⟨d0, d1⟩, ⟨e0, e1⟩, ⟨f0, f1⟩⟩ := Ins.right_spec ry
    have h1 := congrArg (fun s : ByteArray => s.data.toList) h
    simp only [bs_list, Ins.enc, List.map_cons, List.map_nil, List.cons.injEq, and_true] at h1
    obtain ⟨g0, g1, g2, g3, g4, g5, g6, g7⟩ := h1
    have u0 : 0 ≤ uns x.imm ∧ uns x.imm < 4294967296 := by unfold uns; omega
    have v0 : 0 ≤ uns y.imm ∧ uns y.imm < 4294967296 := by unfold uns; omega
    have k0 := byte_inj ⟨by omega, by omega⟩ ⟨by omega, by omega⟩ g0
    have k1 := byte_inj ⟨by omega, by omega⟩ ⟨by omega, by omega⟩ g1
    have k2 := byte_inj ⟨by omega, by omega⟩ ⟨by omega, by omega⟩ g2
    have k3 := byte_inj ⟨by omega, by omega⟩ ⟨by omega, by omega⟩ g3
    have k4 := byte_inj ⟨by omega, by omega⟩ ⟨by omega, by omega⟩ g4
    have k5 := byte_inj ⟨by omega, by omega⟩ ⟨by omega, by omega⟩ g5
    have k6 := byte_inj ⟨by omega, by omega⟩ ⟨by omega, by omega⟩ g6
    have k7 := byte_inj ⟨by omega, by omega⟩ ⟨by omega, by omega⟩ g7
    have k : uns x.imm = uns y.imm := by omega
    have ki : x.imm = y.imm := by unfold uns at k; omega
    obtain ⟨o, a, b, c, i⟩ := x
    obtain ⟨o', a', b', c', i'⟩ := y
    simp only [Ins.mk.injEq]
    exact ⟨k0, k1, k2, k3, ki⟩
  · rintro rfl; rfl
/-- No two instructions that may be have the same text. -/
theorem text_inj {x y : Ins} (hx : x.right = true) (hy : y.right = true) : x.text = y.text ↔ x = y := by
  constructor
  · intro h
    obtain ⟨ho, _⟩ := Ins.right_spec hx
    obtain ⟨ho', _⟩ := Ins.right_spec hy
    unfold Ins.text at h
    rw [if_pos hx, if_pos hy] at h
    simp only [List.append_assoc, List.cons_append, List.nil_append] at h
    have w1 := nm_word (x.op.toNat - 1)
    have w2 := nm_word (y.op.toNat - 1)
    obtain ⟨e1, h⟩ := word_split w1 w2 h
    have h := (List.cons.inj h).2
    obtain ⟨e2, h⟩ := word_split (itoa_word _) (itoa_word _) h
    have h := (List.cons.inj h).2
    obtain ⟨e3, h⟩ := word_split (itoa_word _) (itoa_word _) h
    have h := (List.cons.inj h).2
    obtain ⟨e4, h⟩ := word_split (itoa_word _) (itoa_word _) h
    have e5 := itoa_inj h
    have e2 := itoa_inj e2; have e3 := itoa_inj e3; have e4 := itoa_inj e4
    have e1 := names_inj _ _ (by omega) (by omega) e1
    obtain ⟨o, a, b, c, i⟩ := x
    obtain ⟨o', a', b', c', i'⟩ := y
    simp only at e1 e2 e3 e4 e5 ho ho'
    have : o = o' := by omega
    simp only [Ins.mk.injEq]
    exact ⟨this, e2, e3, e4, e5⟩
  · rintro rfl; rfl

set_option maxRecDepth 100000 in
set_option maxHeartbeats 1000000 in
theorem apart_yes (X Y : Ins) (w : World) (hX : X.right = true) (hY : Y.right = true) (hXi : -2147483648 ≤ X.imm ∧ X.imm ≤ 2147483647) (hYi : -2147483648 ≤ Y.imm ∧ Y.imm ≤ 2147483647) (hp : HasPow w) (hs : HasSp w) :
    Calls Tryd.prog 4 #[.agg #[.int .i64 X.op, .int .i64 X.a, .int .i64 X.b, .int .i64 X.c, .int .i32 X.imm], .agg #[.int .i64 Y.op, .int .i64 Y.a, .int .i64 Y.b, .int .i64 Y.c, .int .i32 Y.imm]] w fun e w' => e = .returned (.bool true) ∧ Below w.heap.size w w' := by
  obtain ⟨q, hq⟩ : ∃ q : Bool, q = true ↔ X = Y := by
    by_cases h : X = Y
    · exact ⟨true, by simp [h]⟩
    · exact ⟨false, by simp [h]⟩
  have He : Hid (q = true ↔ bs X.enc = bs Y.enc) := by
    unfold Hid
    rw [hq]; exact (enc_inj hX hY hXi hYi).symm
  have Ht : Hid (q = true ↔ (⟨X.text.toArray⟩ : ByteArray) = ⟨Y.text.toArray⟩) := by
    unfold Hid
    rw [hq, ← text_inj hX hY]
    constructor
    · intro h; rw [h]
    · intro h; simpa using h
  have Hq := Lib.hid hq; have Hp := Lib.hid hp; have Hs := Lib.hid hs; have HX := Lib.hid hX; have HY := Lib.hid hY; have HXi := Lib.hid hXi; have HYi := Lib.hid hYi
  clear hq hp hs hX hY hXi hYi
  have hB0 := (Below.alloc (Below.refl w.heap.size w) (Nat.le_refl _) (.cells X.cells 25)).alloc (by simp) (.cells Y.cells 25)
  have HB0 := Lib.hid hB0; clear hB0
  have HA0 := Lib.hid ((Blk.new w X.cells 25).alloc (.cells Y.cells 25))
  have hA1 := Blk.new (w.alloc (.cells X.cells 25)) Y.cells 25
  rw [World.size_alloc] at hA1
  have HA1 := Lib.hid hA1; clear hA1
  go_enter Tryd.func4, Tryd.ntmps4
  go_wp2_with fail
  refine (fit04_any _ (Hp.out.below HB0.out) (Hs.out.below HB0.out)).mono ?_
  rintro e w1 ⟨rfl, hb1⟩
  have HA2 := Lib.hid (HA0.out.below hb1 HA0.out.lt); have HC2 := Lib.hid (HA1.out.below hb1 HA1.out.lt)
  have Hb1 := Lib.hid (bel_from HB0.out hb1); clear hb1
  have hc1 := HA2.out.cell; have hc2 := HC2.out.cell
  simp only [Ins.cells] at hc1 hc2
  go_wp2_with fail
  refine (lright_any _ _ _ _ _ _).mono ?_
  rintro e w2 ⟨rfl, hb2⟩
  rw [show Ins.right ⟨X.op, X.a, X.b, X.c, X.imm⟩ = true from HX.out]
  clear hc1 hc2
  have HA3 := Lib.hid (HA2.out.below hb2 HA2.out.lt); have HC3 := Lib.hid (HC2.out.below hb2 HC2.out.lt)
  have Hb2 := Lib.hid (bel_from Hb1.out hb2); clear hb2
  have hc1 := HA3.out.cell; have hc2 := HC3.out.cell
  simp only [Ins.cells] at hc1 hc2
  go_wp2_with fail
  refine (lright_any _ _ _ _ _ _).mono ?_
  rintro e w3 ⟨rfl, hb3⟩
  rw [show Ins.right ⟨Y.op, Y.a, Y.b, Y.c, Y.imm⟩ = true from HY.out]
  clear hc1 hc2
  have HA4 := Lib.hid (HA3.out.below hb3 HA3.out.lt); have HC4 := Lib.hid (HC3.out.below hb3 HC3.out.lt)
  have Hb3 := Lib.hid (bel_from Hb2.out hb3); clear hb3
  go_wp2_with fail
  refine wp_region_rinv (by kernel_rfl) (by kernel_rfl) (by kernel_rfl)
    (fun i v => match i with | 0 => v = X.v | 2 => v = .string (bs X.enc) | 3 => v = Y.v | 5 => v = .string (bs Y.enc) | 6 => v = (.string (bs X.enc)) | 7 => v = (.string (bs Y.enc)) | _ => True)
    (fun l a wx => A5 w w.heap.size (w.heap.size + 1) X Y l[1]? l[4]? (a.tmps.getD 18 undef) (a.tmps.getD 21 undef) wx) ?_ ?_ ?_
  · exact ⟨HA4.out.drew, HC4.out.drew, Hb3.out.drew, fun h => by simp at h, fun h => by simp at h⟩
  · intro hu i l a wx hi hl hli hd hcl hR hW
    have hi27 : i = 0 ∨ i = 1 ∨ i = 2 ∨ i = 3 ∨ i = 4 ∨ i = 5 ∨ i = 6 ∨ i = 7 := by have : i < 8 := hi; omega
    rcases hi27 with rfl | rfl | rfl | rfl | rfl | rfl | rfl | rfl
    · -- [0] load 25 t2
      have hc := hW.blk1.cell
      refine wpOp_val rfl (d := 17) rfl (wanted_plain rfl _) (ex_load (hR.was 2 rfl) (load_ins hc)) ⟨hR.put hu (by rw [hl]; decide) (d := 17) rfl (of_decide_eq_true rfl) rfl, ?_⟩
      clear hc
      simpa only [set_other, put_other, ne_eq, not_false_eq_true, Nat.reduceEqDiff] using hW
    · -- [1] call f15 [t17]
      have hno : ¬ (l[1]? = some true) := by rw [hli]; simp
      refine wpOp_call rfl (d := 18) rfl (wanted_plain rfl _) (ex_call (vs := #[X.v]) (by rw [List.map_toArray]; simp only [List.map_cons, List.map_nil, show a.eval (.tmp 17) = X.v from (hR.slot 0 17 (hd 0 rfl) rfl)]) (enters_fn Tryd.func15 (by kernel_rfl) rfl)) (R := fun v w' => StrIn w' v X.enc ∧ Below wx.heap.size wx w') ((enc_any X.op X.a X.b X.c X.imm wx HX.out HXi.out).mono fun e w' ⟨v, h1, h2, h3⟩ => ⟨v, h1, h2, h3⟩) ?_
      rintro v w' ⟨h1, h2⟩
      refine ⟨hR.put hu (by rw [hl]; decide) (d := 18) rfl (of_decide_eq_true rfl) trivial, ?_⟩
      simp only [set_other, put_other, ne_eq, not_false_eq_true, Nat.reduceEqDiff, set_self (show 1 < l.size by rw [hl]; decide), put_self (show 18 < a.tmps.size by rw [hR.size]; exact of_decide_eq_true rfl)]
      exact ⟨hW.blk1.below h2 hW.blk1.lt, hW.blk2.below h2 hW.blk2.lt, bel_from hW.bel h2, fun _ => h1, fun h => absurd (hcl.of 1 rfl h) hno⟩
    · -- [2] convert 29 9 t18
      refine wpOp_val rfl (d := 19) rfl (wanted_plain rfl _) (ex_convert rfl (hW.g1 (hd 1 rfl)).str) ⟨hR.put hu (by rw [hl]; decide) (d := 19) rfl (of_decide_eq_true rfl) rfl, ?_⟩
      simpa only [set_other, put_other, ne_eq, not_false_eq_true, Nat.reduceEqDiff] using hW
    · -- [3] load 25 t3
      have hc := hW.blk2.cell
      refine wpOp_val rfl (d := 20) rfl (wanted_plain rfl _) (ex_load (hR.was 3 rfl) (load_ins hc)) ⟨hR.put hu (by rw [hl]; decide) (d := 20) rfl (of_decide_eq_true rfl) rfl, ?_⟩
      clear hc
      simpa only [set_other, put_other, ne_eq, not_false_eq_true, Nat.reduceEqDiff] using hW
    · -- [4] call f15 [t20]
      refine wpOp_call rfl (d := 21) rfl (wanted_plain rfl _) (ex_call (vs := #[Y.v]) (by rw [List.map_toArray]; simp only [List.map_cons, List.map_nil, show a.eval (.tmp 20) = Y.v from (hR.slot 3 20 (hd 3 rfl) rfl)]) (enters_fn Tryd.func15 (by kernel_rfl) rfl)) (R := fun v w' => StrIn w' v Y.enc ∧ Below wx.heap.size wx w') ((enc_any Y.op Y.a Y.b Y.c Y.imm wx HY.out HYi.out).mono fun e w' ⟨v, h1, h2, h3⟩ => ⟨v, h1, h2, h3⟩) ?_
      rintro v w' ⟨h1, h2⟩
      refine ⟨hR.put hu (by rw [hl]; decide) (d := 21) rfl (of_decide_eq_true rfl) trivial, ?_⟩
      simp only [set_other, put_other, ne_eq, not_false_eq_true, Nat.reduceEqDiff, set_self (show 4 < l.size by rw [hl]; decide), put_self (show 21 < a.tmps.size by rw [hR.size]; exact of_decide_eq_true rfl)]
      exact ⟨hW.blk1.below h2 hW.blk1.lt, hW.blk2.below h2 hW.blk2.lt, bel_from hW.bel h2, fun h => (hW.g1 h).below h2 (Nat.le_refl _), fun _ => h1⟩
    · -- [5] convert 29 9 t21
      refine wpOp_val rfl (d := 22) rfl (wanted_plain rfl _) (ex_convert rfl (hW.g4 (hd 4 rfl)).str) ⟨hR.put hu (by rw [hl]; decide) (d := 22) rfl (of_decide_eq_true rfl) rfl, ?_⟩
      simpa only [set_other, put_other, ne_eq, not_false_eq_true, Nat.reduceEqDiff] using hW
    · -- [6] assign [t19]
      refine wpOp_val rfl (d := 5) rfl (wanted_plain rfl _) (ex_assign (hR.slot 2 19 (hd 2 rfl) rfl)) ⟨hR.put hu (by rw [hl]; decide) (d := 5) rfl (of_decide_eq_true rfl) rfl, ?_⟩
      simpa only [set_other, put_other, ne_eq, not_false_eq_true, Nat.reduceEqDiff] using hW
    · -- [7] assign [t22]
      refine wpOp_val rfl (d := 6) rfl (wanted_plain rfl _) (ex_assign (hR.slot 5 22 (hd 5 rfl) rfl)) ⟨hR.put hu (by rw [hl]; decide) (d := 6) rfl (of_decide_eq_true rfl) rfl, ?_⟩
      simpa only [set_other, put_other, ne_eq, not_false_eq_true, Nat.reduceEqDiff] using hW
-- END5
  · intro l a wx hl hR hW
    have HA5 := Lib.hid hW.blk1; have HC5 := Lib.hid hW.blk2
    have Hb5 := Lib.hid hW.bel
    have e5 : a.tmps.getD 5 undef = .string (bs X.enc) := hR.slot 6 5 (hl 6 (by decide)) rfl
    have e6 : a.tmps.getD 6 undef = .string (bs Y.enc) := hR.slot 7 6 (hl 7 (by decide)) rfl
    rw [hR.fold [17, 18, 19, 20, 21, 22, 5, 6] (by kernel_rfl)]
    simp only [List.foldl, e5, e6]
    clear hW hR e5 e6 hl
    generalize a.tmps.getD 17 undef = u17
    generalize a.tmps.getD 18 undef = u18
    generalize a.tmps.getD 19 undef = u19
    generalize a.tmps.getD 20 undef = u20
    generalize a.tmps.getD 21 undef = u21
    generalize a.tmps.getD 22 undef = u22
    go_simp
    clear a l
    go_wp2_with fail
    refine wp_region_rinv (by kernel_rfl) (by kernel_rfl) (by kernel_rfl)
      (fun i v => match i with | 0 => v = (.string (bs X.enc)) | 1 => v = (.string (bs Y.enc)) | 2 => v = .bool q | 3 => v = X.v | 4 => v = Y.v | 5 => v = .bool q | 6 => v = .bool true | 7 => v = (.bool true) | 8 => v = X.v | 9 => v = S X.text | 10 => v = Y.v | 11 => v = S Y.text | 12 => v = .bool q | 13 => v = X.v | 14 => v = Y.v | 15 => v = .bool q | 16 => v = .bool true | 17 => v = (.bool true) | 18 => v = (.bool true) | _ => True)
      (fun l a wx => A6 w w.heap.size (w.heap.size + 1) X Y wx) ?_ ?_ ?_
    · exact ⟨HA5.out.drew, HC5.out.drew, Hb5.out.drew, Hp.out.below Hb5.out.drew, Hs.out.below Hb5.out.drew⟩
    · intro hu i l a wx hi hl hli hd hcl hR hW
      have hi27 : i = 0 ∨ i = 1 ∨ i = 2 ∨ i = 3 ∨ i = 4 ∨ i = 5 ∨ i = 6 ∨ i = 7 ∨ i = 8 ∨ i = 9 ∨ i = 10 ∨ i = 11 ∨ i = 12 ∨ i = 13 ∨ i = 14 ∨ i = 15 ∨ i = 16 ∨ i = 17 ∨ i = 18 := by have : i < 19 := hi; omega
      rcases hi27 with rfl | rfl | rfl | rfl | rfl | rfl | rfl | rfl | rfl | rfl | rfl | rfl | rfl | rfl | rfl | rfl | rfl | rfl | rfl
      · -- [0] move [t5]
        refine wpOp_val rfl (d := 23) rfl (wanted_plain rfl _) (ex_move (hR.was 5 rfl)) ⟨hR.put hu (by rw [hl]; decide) (d := 23) rfl (of_decide_eq_true rfl) rfl, ?_⟩
        exact hW
      · -- [1] move [t6]
        refine wpOp_val rfl (d := 24) rfl (wanted_plain rfl _) (ex_move (hR.was 6 rfl)) ⟨hR.put hu (by rw [hl]; decide) (d := 24) rfl (of_decide_eq_true rfl) rfl, ?_⟩
        exact hW
      · -- [2] binOp eql 9 t23 t24 9
        refine wpOp_val rfl (d := 25) rfl (wanted_plain rfl _) (ex_bin (hR.slot 0 23 (hd 0 rfl) rfl) (hR.slot 1 24 (hd 1 rfl) rfl) (fun w => by simp [eqGuard]) (eql_str _ _ _ _ He.out)) ⟨hR.put hu (by rw [hl]; decide) (d := 25) rfl (of_decide_eq_true rfl) rfl, ?_⟩
        exact hW
      · -- [3] load 25 t2
        refine wpOp_val rfl (d := 26) rfl (wanted_plain rfl _) (ex_load (hR.was 2 rfl) (load_ins hW.blk1.cell)) ⟨hR.put hu (by rw [hl]; decide) (d := 26) rfl (of_decide_eq_true rfl) rfl, ?_⟩
        exact hW
      · -- [4] load 25 t3
        refine wpOp_val rfl (d := 27) rfl (wanted_plain rfl _) (ex_load (hR.was 3 rfl) (load_ins hW.blk2.cell)) ⟨hR.put hu (by rw [hl]; decide) (d := 27) rfl (of_decide_eq_true rfl) rfl, ?_⟩
        exact hW
      · -- [5] binOp eql 25 t26 t27 25
        refine wpOp_val rfl (d := 28) rfl (wanted_plain rfl _) (ex_bin (hR.slot 3 26 (hd 3 rfl) rfl) (hR.slot 4 27 (hd 4 rfl) rfl) (fun w => guard_ins X Y w) (eql_ins _ _ _ Hq.out)) ⟨hR.put hu (by rw [hl]; decide) (d := 28) rfl (of_decide_eq_true rfl) rfl, ?_⟩
        exact hW
      · -- [6] binOp eql 4 t25 t28 4
        refine wpOp_val rfl (d := 29) rfl (wanted_plain rfl _) (ex_bin (hR.slot 2 25 (hd 2 rfl) rfl) (hR.slot 5 28 (hd 5 rfl) rfl) (fun w => by simp [eqGuard]) (eql_self _ Tryd.underlying4 q)) ⟨hR.put hu (by rw [hl]; decide) (d := 29) rfl (of_decide_eq_true rfl) rfl, ?_⟩
        exact hW
      · -- [7] move [t29]
        refine wpOp_val rfl (d := 30) rfl (wanted_plain rfl _) (ex_move (hR.slot 6 29 (hd 6 rfl) rfl)) ⟨hR.put hu (by rw [hl]; decide) (d := 30) rfl (of_decide_eq_true rfl) rfl, ?_⟩
        exact hW
      · -- [8] load 25 t2
        refine wpOp_val rfl (d := 31) rfl ((wanted_slot rfl (d := 30) rfl (hR.slot 7 30 (hd 7 rfl) rfl)).trans rfl) (ex_load (hR.was 2 rfl) (load_ins hW.blk1.cell)) ⟨hR.put hu (by rw [hl]; decide) (d := 31) rfl (of_decide_eq_true rfl) rfl, ?_⟩
        exact hW
      · -- [9] call f12 [t31]
        refine wpOp_call rfl (d := 32) rfl ((wanted_slot rfl (d := 30) rfl (hR.slot 7 30 (hd 7 rfl) rfl)).trans rfl) (ex_call (vs := #[X.v]) (by rw [List.map_toArray]; simp only [List.map_cons, List.map_nil, show a.eval (.tmp 31) = X.v from (hR.slot 8 31 (hd 8 rfl) rfl)]) (enters_fn Tryd.func12 (by kernel_rfl) rfl)) (R := fun v w' => v = S X.text ∧ Below wx.heap.size wx w') ((text_any X HXi.out wx hW.pow hW.sp).mono fun e w' ⟨h1, h2⟩ => ⟨_, h1, rfl, h2⟩) ?_
        rintro v w' ⟨rfl, h2⟩
        exact ⟨hR.put hu (by rw [hl]; decide) (d := 32) rfl (of_decide_eq_true rfl) rfl, ⟨hW.blk1.below h2 hW.blk1.lt, hW.blk2.below h2 hW.blk2.lt, bel_from hW.bel h2, hW.pow.below h2, hW.sp.below h2⟩⟩
      · -- [10] load 25 t3
        refine wpOp_val rfl (d := 33) rfl ((wanted_slot rfl (d := 30) rfl (hR.slot 7 30 (hd 7 rfl) rfl)).trans rfl) (ex_load (hR.was 3 rfl) (load_ins hW.blk2.cell)) ⟨hR.put hu (by rw [hl]; decide) (d := 33) rfl (of_decide_eq_true rfl) rfl, ?_⟩
        exact hW
      · -- [11] call f12 [t33]
        refine wpOp_call rfl (d := 34) rfl ((wanted_slot rfl (d := 30) rfl (hR.slot 7 30 (hd 7 rfl) rfl)).trans rfl) (ex_call (vs := #[Y.v]) (by rw [List.map_toArray]; simp only [List.map_cons, List.map_nil, show a.eval (.tmp 33) = Y.v from (hR.slot 10 33 (hd 10 rfl) rfl)]) (enters_fn Tryd.func12 (by kernel_rfl) rfl)) (R := fun v w' => v = S Y.text ∧ Below wx.heap.size wx w') ((text_any Y HYi.out wx hW.pow hW.sp).mono fun e w' ⟨h1, h2⟩ => ⟨_, h1, rfl, h2⟩) ?_
        rintro v w' ⟨rfl, h2⟩
        exact ⟨hR.put hu (by rw [hl]; decide) (d := 34) rfl (of_decide_eq_true rfl) rfl, ⟨hW.blk1.below h2 hW.blk1.lt, hW.blk2.below h2 hW.blk2.lt, bel_from hW.bel h2, hW.pow.below h2, hW.sp.below h2⟩⟩
      · -- [12] binOp eql 9 t32 t34 9
        refine wpOp_val rfl (d := 35) rfl ((wanted_slot rfl (d := 30) rfl (hR.slot 7 30 (hd 7 rfl) rfl)).trans rfl) (ex_bin (hR.slot 9 32 (hd 9 rfl) rfl) (hR.slot 11 34 (hd 11 rfl) rfl) (fun w => by simp [eqGuard]) (eql_str _ _ _ _ Ht.out)) ⟨hR.put hu (by rw [hl]; decide) (d := 35) rfl (of_decide_eq_true rfl) rfl, ?_⟩
        exact hW
      · -- [13] load 25 t2
        refine wpOp_val rfl (d := 36) rfl ((wanted_slot rfl (d := 30) rfl (hR.slot 7 30 (hd 7 rfl) rfl)).trans rfl) (ex_load (hR.was 2 rfl) (load_ins hW.blk1.cell)) ⟨hR.put hu (by rw [hl]; decide) (d := 36) rfl (of_decide_eq_true rfl) rfl, ?_⟩
        exact hW
      · -- [14] load 25 t3
        refine wpOp_val rfl (d := 37) rfl ((wanted_slot rfl (d := 30) rfl (hR.slot 7 30 (hd 7 rfl) rfl)).trans rfl) (ex_load (hR.was 3 rfl) (load_ins hW.blk2.cell)) ⟨hR.put hu (by rw [hl]; decide) (d := 37) rfl (of_decide_eq_true rfl) rfl, ?_⟩
        exact hW
      · -- [15] binOp eql 25 t36 t37 25
        refine wpOp_val rfl (d := 38) rfl ((wanted_slot rfl (d := 30) rfl (hR.slot 7 30 (hd 7 rfl) rfl)).trans rfl) (ex_bin (hR.slot 13 36 (hd 13 rfl) rfl) (hR.slot 14 37 (hd 14 rfl) rfl) (fun w => guard_ins X Y w) (eql_ins _ _ _ Hq.out)) ⟨hR.put hu (by rw [hl]; decide) (d := 38) rfl (of_decide_eq_true rfl) rfl, ?_⟩
        exact hW
      · -- [16] binOp eql 4 t35 t38 4
        refine wpOp_val rfl (d := 39) rfl ((wanted_slot rfl (d := 30) rfl (hR.slot 7 30 (hd 7 rfl) rfl)).trans rfl) (ex_bin (hR.slot 12 35 (hd 12 rfl) rfl) (hR.slot 15 38 (hd 15 rfl) rfl) (fun w => by simp [eqGuard]) (eql_self _ Tryd.underlying4 q)) ⟨hR.put hu (by rw [hl]; decide) (d := 39) rfl (of_decide_eq_true rfl) rfl, ?_⟩
        exact hW
      · -- [17] pick [t30, t39, (.bool false)]
        refine wpOp_val rfl (d := 40) rfl (wanted_plain rfl _) (ex_pick_true (hR.slot 7 30 (hd 7 rfl) rfl) (hR.slot 16 39 (hd 16 rfl) rfl)) ⟨hR.put hu (by rw [hl]; decide) (d := 40) rfl (of_decide_eq_true rfl) rfl, ?_⟩
        exact hW
      · -- [18] assign [t40]
        refine wpOp_val rfl (d := 4) rfl (wanted_plain rfl _) (ex_assign (hR.slot 17 40 (hd 17 rfl) rfl)) ⟨hR.put hu (by rw [hl]; decide) (d := 4) rfl (of_decide_eq_true rfl) rfl, ?_⟩
        exact hW
-- END6
    · intro l a wx hl hR hW
      have Hb6 := Lib.hid hW.bel
      have e4 : a.tmps.getD 4 undef = .bool true := hR.slot 18 4 (hl 18 (by decide)) rfl
      rw [hR.fold [23, 24, 25, 26, 27, 28, 29, 30, 31, 32, 33, 34, 35, 36, 37, 38, 39, 40, 4] (by kernel_rfl)]
      simp only [List.foldl, e4]
      clear hW hR e4 hl
      generalize a.tmps.getD 23 undef = u23
      generalize a.tmps.getD 24 undef = u24
      generalize a.tmps.getD 25 undef = u25
      generalize a.tmps.getD 26 undef = u26
      generalize a.tmps.getD 27 undef = u27
      generalize a.tmps.getD 28 undef = u28
      generalize a.tmps.getD 29 undef = u29
      generalize a.tmps.getD 30 undef = u30
      generalize a.tmps.getD 31 undef = u31
      generalize a.tmps.getD 32 undef = u32
      generalize a.tmps.getD 33 undef = u33
      generalize a.tmps.getD 34 undef = u34
      generalize a.tmps.getD 35 undef = u35
      generalize a.tmps.getD 36 undef = u36
      generalize a.tmps.getD 37 undef = u37
      generalize a.tmps.getD 38 undef = u38
      generalize a.tmps.getD 39 undef = u39
      generalize a.tmps.getD 40 undef = u40
      go_simp
      clear a l
      go_wp2_with fail
      go_ret
      exact ⟨rfl, Hb6.out⟩

set_option maxHeartbeats 1000000 in
theorem apart_no (X Y : Ins) (w : World) (h : X.right = false ∨ Y.right = false) (hp : HasPow w) (hs : HasSp w) :
    Calls Tryd.prog 4 #[.agg #[.int .i64 X.op, .int .i64 X.a, .int .i64 X.b, .int .i64 X.c, .int .i32 X.imm], .agg #[.int .i64 Y.op, .int .i64 Y.a, .int .i64 Y.b, .int .i64 Y.c, .int .i32 Y.imm]] w fun e w' => e = .returned (.bool true) ∧ Below w.heap.size w w' := by
  have Hp := Lib.hid hp; have Hs := Lib.hid hs; have H := Lib.hid h
  clear hp hs h
  have hB0 := (Below.alloc (Below.refl w.heap.size w) (Nat.le_refl _) (.cells X.cells 25)).alloc (by simp) (.cells Y.cells 25)
  have HB0 := Lib.hid hB0; clear hB0
  have HA0 := Lib.hid ((Blk.new w X.cells 25).alloc (.cells Y.cells 25))
  have hA1 := Blk.new (w.alloc (.cells X.cells 25)) Y.cells 25
  rw [World.size_alloc] at hA1
  have HA1 := Lib.hid hA1; clear hA1
  go_enter Tryd.func4, Tryd.ntmps4
  go_wp2_with fail
  refine (fit04_any _ (Hp.out.below HB0.out) (Hs.out.below HB0.out)).mono ?_
  rintro e w1 ⟨rfl, hb1⟩
  have HA2 := Lib.hid (HA0.out.below hb1 HA0.out.lt); have HC2 := Lib.hid (HA1.out.below hb1 HA1.out.lt)
  have Hb1 := Lib.hid (bel_from HB0.out hb1); clear hb1
  have hc1 := HA2.out.cell; have hc2 := HC2.out.cell
  simp only [Ins.cells] at hc1 hc2
  go_wp2_with fail
  refine (lright_any _ _ _ _ _ _).mono ?_
  rintro e w2 ⟨rfl, hb2⟩
  clear hc1 hc2
  have HC3 := Lib.hid (HC2.out.below hb2 HC2.out.lt)
  have Hb2 := Lib.hid (bel_from Hb1.out hb2); clear hb2
  have hc2 := HC3.out.cell
  simp only [Ins.cells] at hc2
  cases hx : X.right
  · clear hx
    go_wp2_with fail
    go_ret
    exact ⟨rfl, Hb2.out⟩
  · have hy : Y.right = false := H.out.resolve_left (by rw [hx]; simp)
    have Hy := Lib.hid hy; clear hy
    clear hx
    go_wp2_with fail
    refine (lright_any _ _ _ _ _ _).mono ?_
    rintro e w3 ⟨rfl, hb3⟩
    rw [show Ins.right ⟨Y.op, Y.a, Y.b, Y.c, Y.imm⟩ = false from Hy.out]
    have Hb3 := Lib.hid (bel_from Hb2.out hb3); clear hb3
    go_wp2_with fail
    go_ret
    exact ⟨rfl, Hb3.out⟩

theorem apart_walk (v0 v1 : Value) (w : World) (h0 : ∃ x : Ins, v0 = x.v ∧ x.wf) (h1 : ∃ x : Ins, v1 = x.v ∧ x.wf) (hp : HasPow w) (hs : HasSp w) :
    Calls Tryd.prog 4 #[v0, v1] w fun e w' => e = .returned (.bool true) ∧ Below w.heap.size w w' := by
  obtain ⟨X, rfl, hX⟩ := h0
  obtain ⟨Y, rfl, hY⟩ := h1
  cases hx : X.right
  · exact apart_no X Y w (.inl hx) hp hs
  · cases hy : Y.right
    · exact apart_no X Y w (.inr hy) hp hs
    · exact apart_yes X Y w hx hy hX.2 hY.2 hp hs
end Go.Proofs.YtidaopggidccmaaDoor
