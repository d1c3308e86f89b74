/- The walk of isa.Parse. -/
import Derived.Test.YtidaopggidccmaaDoorParB
import Derived.Test.YtidaopggidccmaaDoorStrIn
import Derived.WalkMore
import Derived.Lib.ItoaLen
namespace Go.Proofs.YtidaopggidccmaaDoor
open Go.RowKit
attribute [local irreducible] World.setCell World.alloc World.drew Calls Code.wp

/-- The instruction's cells, j registers read. -/
def rowJ (o : Int) (T : Nat → List UInt8) (j : Nat) : Array Value :=
  #[.int .i64 o, .int .i64 (if 0 < j then (regO (T 0)).getD 0 else 0), .int .i64 (if 1 < j then (regO (T 1)).getD 0 else 0), .int .i64 (if 2 < j then (regO (T 2)).getD 0 else 0), .int .i32 0]

theorem idx3 (X j : Nat) (hj : j < 3) (w : World) :
    (Instr.index 61 (.agg #[.pointer (some ⟨X, 1, none⟩), .pointer (some ⟨X, 2, none⟩), .pointer (some ⟨X, 3, none⟩)]) (.int .i64 j)).run Tryd.prog w = .ok (.pointer (some ⟨X, 1 + j, none⟩)) w := by
  obtain rfl | rfl | rfl : j = 0 ∨ j = 1 ∨ j = 2 := by omega
  all_goals kernel_rfl
theorem wpList_index3 {P : Program} {ops : Array Oper} {rest : List Oper} {a : Act} {w : World} {Q : Exit → Act → World → Prop} {d : Option Tmp} {T t : TypeId} {p : String} {e : Array Edge} {x y : Operand} {u s v : Value}
    (hx : a.eval x = u) (hy : a.eval y = s) (hr : (Instr.index T u s).run P w = .ok v w) (h : wpList P ops Q rest (a.put d v) w) : wpList P ops Q (⟨d, .index T x y, t, p, e, none⟩ :: rest) a w :=
  wpList_plain rfl fun _ hK => by
    unfold Oper.wp
    simp only [execOp, hx, hy, hr, Sem.run_bind, Result.andThen_ok, Sem.run_pure]
    exact hK _ _ h

theorem neq_err {w : World} (ty : TypeId) (p : Value) : (binOp .neq 63 (.iface ty p) .nilIface).run Tryd.prog w = .ok (.bool true) w := run_neq_held_nil _ _ _ _ (by kernel_rfl)
theorem neq_nil {w : World} : (binOp .neq 63 .nilIface .nilIface).run Tryd.prog w = .ok (.bool false) w := run_neq_nil_nil _ _ (by kernel_rfl)
theorem add_one {w : World} (j : Nat) (hj : j < 3) (t : TypeId) : (binOp .add t (.int .i64 1) (.int .i64 (j : Int))).run Tryd.prog w = .ok (.int .i64 ((1 + j : Nat) : Int)) w := by
  obtain rfl | rfl | rfl : j = 0 ∨ j = 1 ∨ j = 2 := by omega
  all_goals rfl
theorem at5 (b j : Nat) (hj : j < 3) (w : World) : (Instr.indexAt 53 (.slice (some ⟨b, 0, none⟩) 5 5) (.int .i64 ((1 + j : Nat) : Int))).run Tryd.prog w = .ok (.pointer (some ⟨b, 1 + j, none⟩)) w := by
  obtain rfl | rfl | rfl : j = 0 ∨ j = 1 ∨ j = 2 := by omega
  all_goals go_simp
  all_goals try rfl
theorem load_str {w : World} {p : Addr} {s : ByteArray} (h : w.cell? p = some (.string s)) : (Instr.loadAt 9 (.pointer (some p))).run Tryd.prog w = .ok (.string s) w := by go_simp; try rfl
theorem neq_S {P : Program} {w : World} {l m : List UInt8} {B : Bool} (h : (l != m) = B) (t : TypeId) : (binOp .neq t (S l) (S m)).run P w = .ok (.bool B) w := by
  subst h
  rw [binOp_string_neq]
  congr 2
  by_cases e : l = m
  · subst e; simp
  · simp [bne]
theorem trim_len (t : List UInt8) : (Lib.trimPrefix t [114]).length ≤ t.length := by
  unfold Lib.trimPrefix; split <;> simp
theorem rowJ_at (o : Int) (T : Nat → List UInt8) (j : Nat) (hj : j < 3) : (rowJ o T j)[1 + j]? = some (.int .i64 0) := by
  obtain rfl | rfl | rfl : j = 0 ∨ j = 1 ∨ j = 2 := by omega
  all_goals rfl
theorem rowJ_set (o : Int) (T : Nat → List UInt8) (j : Nat) (hj : j < 3) (z : Int) (hz : regO (T j) = some z) : (rowJ o T j).setIfInBounds (1 + j) (.int .i64 z) = rowJ o T (j + 1) := by
  obtain rfl | rfl | rfl : j = 0 ∨ j = 1 ∨ j = 2 := by omega
  all_goals simp [rowJ, hz]
theorem par_none {t1 t2 t3 : List UInt8} (T : Nat → List UInt8) (t0 t4 : List UInt8) (hT : T 0 = t1 ∧ T 1 = t2 ∧ T 2 = t3) (j : Nat) (hj : j < 3) (h : regO (T j) = none) : parse5 t0 t1 t2 t3 t4 = none := by
  obtain ⟨rfl, rfl, rfl⟩ := hT
  unfold parse5
  obtain rfl | rfl | rfl : j = 0 ∨ j = 1 ∨ j = 2 := by omega
  · rw [h]; rfl
  · rw [h]; cases regO (T 0) <;> rfl
  · rw [h]; cases regO (T 0) <;> cases regO (T 1) <;> rfl

theorem at5_4 (b : Nat) (w : World) : (Instr.indexAt 53 (.slice (some ⟨b, 0, none⟩) 5 5) (.int .i64 4)).run Tryd.prog w = .ok (.pointer (some ⟨b, 4, none⟩)) w := by go_simp; try rfl
theorem load_ins {w : World} {b : Nat} {x : Ins} (h : ∀ i, w.cell? ⟨b, i, none⟩ = x.cells[i]?) : (Instr.loadAt 25 (.pointer (some ⟨b, 0, none⟩))).run Tryd.prog w = .ok x.v w := by
  have h0 : w.cell? ⟨b, 0, none⟩ = some (.int .i64 x.op) := h 0
  have h1 : w.cell? ⟨b, 1, none⟩ = some (.int .i64 x.a) := h 1
  have h2 : w.cell? ⟨b, 2, none⟩ = some (.int .i64 x.b) := h 2
  have h3 : w.cell? ⟨b, 3, none⟩ = some (.int .i64 x.c) := h 3
  have h4 : w.cell? ⟨b, 4, none⟩ = some (.int .i32 x.imm) := h 4
  clear h
  go_simp
  rfl

set_option maxRecDepth 100000 in
set_option maxHeartbeats 1000000 in
theorem parse_any (l : List UInt8) (hl : l.length ≤ 10000) (w : World) (h : HasPar w) :
    Calls Tryd.prog 21 #[S l] w fun e w' => e = .returned (parV (parse l)) ∧ Below w.heap.size w w' := by
  have H := Lib.hid h; clear h
  have hb0 : Below w.heap.size w (w.alloc (.cells #[.int .i64 0, .int .i64 0, .int .i64 0, .int .i64 0, .int .i32 0] 25)) := (Below.refl _ _).alloc (Nat.le_refl _) _
  have Hb0 := Lib.hid hb0; clear hb0
  go_enter Tryd.func21, Tryd.ntmps21
  go_wp2_with fail
  go_step3
  go_wp2_with fail
  refine (fields_any l (by omega) _ (H.out.below Hb0.out)).mono ?_
  rintro e w1 ⟨b, rfl, hbl, hbg, hc, hb1⟩
  have B0 : Hid (Blk w1 w.heap.size #[.int .i64 0, .int .i64 0, .int .i64 0, .int .i64 0, .int .i32 0] 25) := (Blk.new _ _ _).below hb1 (by simp)
  have Hb1 := Lib.hid (bel_from Hb0.out hb1)
  have hbw : w.heap.size < b := by have := hbg; rw [World.size_alloc] at this; omega
  have Hc := Lib.hid hc
  clear hb1 hbg hc Hb0
  obtain ⟨F, hF⟩ : ∃ F, Lib.fieldsD l = F := ⟨_, rfl⟩
  have hlens : Lib.lens F ≤ l.length := hF ▸ fieldsD_lens l
  have Hp : Hid (parse l = if Lib.join F [32] = l then parseW F else none) := by rw [← hF]; rfl
  rw [hF] at Hc
  rw [hF]
  clear hF
  have hAc := B0.out.cell; have hAf := B0.out.free
  by_cases h5 : F.length = 5
  · obtain ⟨t0, t1, t2, t3, t4, rfl⟩ : ∃ t0 t1 t2 t3 t4, F = [t0, t1, t2, t3, t4] := by
      rcases F with _ | ⟨t0, _ | ⟨t1, _ | ⟨t2, _ | ⟨t3, _ | ⟨t4, _ | ⟨t5, r⟩⟩⟩⟩⟩⟩ <;> first | exact ⟨_, _, _, _, _, rfl⟩ | simp at h5
    clear h5
    have hl5 : t0.length + t1.length + t2.length + t3.length + t4.length ≤ l.length := by simpa [Lib.lens, Nat.add_assoc] using hlens
    clear hlens
    have Hl5 := Lib.hid hl5; clear hl5
    go_wp2_with fail
    refine (join_any b [t0, t1, t2, t3, t4] w1 Hc.out hbl (by simp) (by rw [Lib.join_length]; have := Hl5.out; simp [Lib.lens]; omega)).mono ?_
    rintro e w2 ⟨rfl, hb2⟩
    obtain ⟨J, hJ⟩ : ∃ J, Lib.join [t0, t1, t2, t3, t4] [32] = J := ⟨_, rfl⟩
    rw [hJ]
    rw [hJ] at Hp
    clear hJ
    have Hb2 := Lib.hid (bel_from Hb1.out hb2)
    have B2 := Lib.hid (B0.out.below hb2 B0.out.lt)
    have hb2' : ∀ j x, [t0, t1, t2, t3, t4][j]? = some x → w2.cell? ⟨b, j, none⟩ = some (S x) := fun j x hx => by
      rw [hb2.cell (p := ⟨b, j, none⟩) hbl]; exact Hc.out j x hx
    have hbl2 : b < w2.heap.size := Nat.lt_of_lt_of_le hbl hb2.size
    clear hb2 hAc hAf Hc Hb1 B0 hbl
    have Hc := Lib.hid hb2'; clear hb2'
    have hAc := B2.out.cell; have hAf := B2.out.free
    by_cases hj : J = l
    · subst hj
      have Hp5 : Hid (parse J = parse5 t0 t1 t2 t3 t4) := by unfold Hid; rw [Hp.out, if_pos rfl]; rfl
      clear Hp
      clear hAc hAf
      go_wp2_with fail
      go_step3
      go_wp2_with fail
      have hb3 : Below w2.heap.size w2 (w2.alloc (.cells #[.int .i64 0, .int .i64 0, .int .i64 0, .int .i64 0, .int .i32 0] 25)) := (Below.refl _ _).alloc (Nat.le_refl _) _
      refine (fields_names _ (H.out.below (bel_from Hb2.out hb3)).sp).mono ?_
      rintro e w3 ⟨he, hw3⟩
      have BX : Hid (Blk w3 w2.heap.size #[.int .i64 0, .int .i64 0, .int .i64 0, .int .i64 0, .int .i32 0] 25) := by rw [hw3]; exact (Blk.new _ _ _).alloc _
      have BN : Hid (Blk w3 (w2.heap.size + 1) namesV 9) := by
        rw [hw3]
        have := Blk.new (w2.alloc (.cells #[.int .i64 0, .int .i64 0, .int .i64 0, .int .i64 0, .int .i32 0] 25)) namesV 9
        rw [World.size_alloc] at this
        exact this
      have hb23 : Below w2.heap.size w2 w3 := by rw [hw3]; exact hb3.alloc (by simp) _
      have Hb3 := Lib.hid (bel_from Hb2.out hb23)
      have B3 := Lib.hid (B2.out.below hb23 B2.out.lt)
      have hc3 : ∀ j x, [t0, t1, t2, t3, t4][j]? = some x → w3.cell? ⟨b, j, none⟩ = some (S x) := fun j x hx => by
        rw [hb23.cell (p := ⟨b, j, none⟩) hbl2]; exact Hc.out j x hx
      have Hc3 := Lib.hid hc3
      rw [World.size_alloc] at he
      have hX : w.heap.size < w2.heap.size := B2.out.lt
      have h0 := Hc3.out 0 t0 rfl
      clear hc3 hw3 hb3 hb23 Hc B2 Hb2
      subst he
      obtain ⟨X, hXe⟩ : ∃ X, w2.heap.size = X := ⟨_, rfl⟩
      simp only [hXe] at BX BN hX hbl2 ⊢
      clear hXe
      go_upto_block 0 with fail
      go_cut [6, 7, 28, 34] (fun _ _ _ _ wx => Blk wx X #[.int .i64 (opOf t0), .int .i64 0, .int .i64 0, .int .i64 0, .int .i32 0] 25 ∧ Kept (· = X) w3 wx)
      case first =>
        go_wp2_with fail
        go_loopg [6, 7, 28, 34] 43 (fun g _ _ z _ wx => ∃ k : Nat, k + g = 43 ∧ z = .int .i64 k ∧ (∀ i, i < k → nm i ≠ t0) ∧ wx = w3)
        case atStart => exact ⟨0, by omega, rfl, fun i hi => by omega, rfl⟩
        case round =>
          obtain ⟨k, hk, rfl, hno, rfl⟩ := hrel
          have Hno := Lib.hid hno; clear hno
          by_cases hlt : k < 43
          · have hck := (BN.out.cell k).trans (namesV_at k hlt)
            by_cases hn : nm k = t0
            · have he : (nm k == t0) = true := by rw [beq_iff_eq]; exact hn
              have hXc := BX.out.cell; have hXf := BX.out.free
              have Ho := Lib.hid (opOf_yes hlt hn)
              clear hn
              go_wp2_with fail
              go_meet
              exact ⟨by rw [Ho.out]; exact (BX.out.set 0 _).cells rfl, (Kept.refl (· = X) wr).setIn X 0 _ rfl⟩
            · have he : (nm k == t0) = false := by rw [beq_eq_false_iff_ne]; exact hn
              have Hn := Lib.hid hn; clear hn
              go_wp2_with fail
              go_roundg (43 - (k + 1))
              case measure => omega
              case rel => exact ⟨k + 1, by omega, by go_num, fun i hi => (if hik : i = k then hik ▸ Hn.out else Hno.out i (by omega)), rfl⟩
          · have hk43 : k = 43 := by omega
            go_wp2_with fail
            go_meet
            have ho : opOf t0 = 0 := opOf_no (fun i hi => Hno.out i (by omega))
            rw [ho]
            exact ⟨BX.out, Kept.refl _ _⟩
      case rest =>
        obtain ⟨hBX, hK⟩ := hcut
        have HBX := Lib.hid hBX; have HK := Lib.hid hK
        clear hBX hK BX BN h0
        obtain ⟨T, hT⟩ : ∃ T : Nat → List UInt8, T = fun i => [t1, t2, t3].getD i [] := ⟨_, rfl⟩
        have HcT : Hid (∀ j, j < 3 → w3.cell? ⟨b, 1 + j, none⟩ = some (S (T j))) := fun j hj => by
          rw [hT]
          obtain rfl | rfl | rfl : j = 0 ∨ j = 1 ∨ j = 2 := by omega
          · exact Hc3.out 1 t1 rfl
          · exact Hc3.out 2 t2 rfl
          · exact Hc3.out 3 t3 rfl
        have HT : Hid (T 0 = t1 ∧ T 1 = t2 ∧ T 2 = t3) := by rw [hT]; exact ⟨rfl, rfl, rfl⟩
        have HTl : Hid (∀ j, (T j).length ≤ 10000) := fun j => by
          have := Hl5.out
          rw [hT]
          rcases j with _ | _ | _ | j
          · show t1.length ≤ _; omega
          · show t2.length ≤ _; omega
          · show t3.length ≤ _; omega
          · show ([] : List UInt8).length ≤ _; simp
        clear hT
        go_wp2_with fail
        go_loopg [8, 9, 10, 11, 47] 3 (fun g _ _ _ _ z wx => ∃ j : Nat, j + g = 3 ∧ z = .int .i64 j ∧ (∀ i, i < j → (regO (T i)).isSome = true) ∧ Blk wx X (rowJ (opOf t0) T j) 25 ∧ Kept (· = X) w3 wx)
        case atStart => exact ⟨0, by omega, rfl, fun i hi => by omega, HBX.out, HK.out⟩
        case round =>
          clear HBX HK
          obtain ⟨j, hj, rfl, hR, hB, hK⟩ := hrel
          have HR := Lib.hid hR; have HB := Lib.hid hB; have HK := Lib.hid hK
          clear hR hB hK
          have HA := Lib.hid (HK.out.blk B3.out (by omega))
          have Hbr := Lib.hid (Hb3.out.trans (HK.out.below Hb3.out.size (fun i hi e => by omega)))
          by_cases hlt : j < 3
          · obtain ⟨t, ht⟩ : ∃ t, T j = t := ⟨_, rfl⟩
            have hcj : wr.cell? ⟨b, 1 + j, none⟩ = some (S t) := by
              rw [← ht, World.cell?_of_block (a := ⟨b, 1 + j, none⟩) (HK.out.block b (cell_lt (HcT.out j hlt)) (by omega))]
              exact HcT.out j hlt
            have htl : t.length ≤ 10000 := ht ▸ HTl.out j
            have Ht := Lib.hid ht; clear ht
            go_wp2_with (refine wpList_index3 rfl rfl (idx3 X j hlt _) ?_)
            refine (trim_any t _).mono ?_
            rintro e w5 ⟨rfl, rfl⟩
            go_wp2_with fail
            refine (atoi_any (Lib.trimPrefix t [114]) (Nat.le_trans (trim_len t) (by omega)) _ (H.out.below Hbr.out)).mono ?_
            rintro e w6 ⟨v, rfl, hne, hb6⟩
            have hcj5 : w6.cell? ⟨b, 1 + j, none⟩ = some (S t) := by rw [hb6.cell (p := ⟨b, 1 + j, none⟩) (cell_lt hcj)]; exact hcj
            have Hcj5 := Lib.hid hcj5
            have Hb6 := Lib.hid (bel_from Hbr.out hb6)
            have H5 := Lib.hid (H.out.below Hb6.out)
            have HA6 := Lib.hid (HA.out.below hb6 HA.out.lt)
            have HB6 := Lib.hid (HB.out.below hb6 HB.out.lt)
            have HK6 := Lib.hid (HK.out.then (Kept.of_below hb6) (S' := fun _ => False) (fun _ _ h => h.elim))
            clear hb6 hcj hcj5 HA HB HK Hbr
            rcases hne with ⟨z, hz, rfl⟩ | ⟨hz, y, ty, bb, rfl⟩
            · have Hz := Lib.hid (atoiO_bd hz)
              have Hzl : Hid ((Lib.itoa z).length ≤ 30) := by
                have := Lib.itoa_length_le (n := z) Hz.out.1 Hz.out.2
                unfold Hid; omega
              obtain ⟨B, hBe⟩ : ∃ B, (t != 114 :: Lib.itoa z) = B := ⟨_, rfl⟩
              have HBe := Lib.hid hBe; clear hBe
              have Hzo := Lib.hid hz; clear hz
              go_wp2_with fail
              refine wp_region_rinv (by kernel_rfl) (by kernel_rfl) (by kernel_rfl)
                (fun i v => match i with | 0 => v = .nilIface | 1 => v = .bool false | 2 => v = (.bool false) | 3 => v = (.slice (some ⟨b, 0, none⟩) 5 5) | 4 => v = (.int .i64 (j : Int)) | 5 => v = .int .i64 ((1 + j : Nat) : Int) | 6 => v = .pointer (some ⟨b, 1 + j, none⟩) | 7 => v = S t | 8 => v = (.int .i64 z) | 9 => v = S (Lib.itoa z) | 10 => v = S (114 :: Lib.itoa z) | 11 => v = .bool B | 12 => v = (.bool B) | _ => True)
                (fun _ _ wx => Below w6.heap.size w6 wx) ?_ ?_ ?_
              · exact (Below.refl _ _).drew
              · intro hu i l a wx hi hl hli hd hcl hR hW
                have hi27 : i = 0 ∨ i = 1 ∨ i = 2 ∨ i = 3 ∨ i = 4 ∨ i = 5 ∨ i = 6 ∨ i = 7 ∨ i = 8 ∨ i = 9 ∨ i = 10 ∨ i = 11 ∨ i = 12 := by have : i < 13 := hi; omega
                rcases hi27 with rfl | rfl | rfl | rfl | rfl | rfl | rfl | rfl | rfl | rfl | rfl | rfl | rfl
                · -- [0] move [t11]
                  refine wpOp_val rfl (d := 61) rfl (wanted_plain rfl _) (ex_move (hR.was 11 rfl)) ⟨hR.put hu (by rw [hl]; decide) (d := 61) rfl (of_decide_eq_true rfl) rfl, ?_⟩
                  exact hW
                · -- [1] binOp neq 63 t61 (.nilIface) 63
                  refine wpOp_val rfl (d := 62) rfl (wanted_plain rfl _) (ex_bin (s := .nilIface) (hR.slot 0 61 (hd 0 rfl) rfl) rfl (fun w => by simp [eqGuard]) neq_nil) ⟨hR.put hu (by rw [hl]; decide) (d := 62) rfl (of_decide_eq_true rfl) rfl, ?_⟩
                  exact hW
                · -- [2] move [t62]
                  refine wpOp_val rfl (d := 63) rfl (wanted_plain rfl _) (ex_move (hR.slot 1 62 (hd 1 rfl) rfl)) ⟨hR.put hu (by rw [hl]; decide) (d := 63) rfl (of_decide_eq_true rfl) rfl, ?_⟩
                  exact hW
                · -- [3] move [t4]
                  refine wpOp_val rfl (d := 64) rfl ((wanted_slot rfl (d := 63) rfl (hR.slot 2 63 (hd 2 rfl) rfl)).trans rfl) (ex_move (hR.was 4 rfl)) ⟨hR.put hu (by rw [hl]; decide) (d := 64) rfl (of_decide_eq_true rfl) rfl, ?_⟩
                  exact hW
                · -- [4] move [t8]
                  refine wpOp_val rfl (d := 65) rfl ((wanted_slot rfl (d := 63) rfl (hR.slot 2 63 (hd 2 rfl) rfl)).trans rfl) (ex_move (hR.was 8 rfl)) ⟨hR.put hu (by rw [hl]; decide) (d := 65) rfl (of_decide_eq_true rfl) rfl, ?_⟩
                  exact hW
                · -- [5] binOp add 3 (.int .i64 1) t65 3
                  refine wpOp_val rfl (d := 66) rfl ((wanted_slot rfl (d := 63) rfl (hR.slot 2 63 (hd 2 rfl) rfl)).trans rfl) (ex_bin rfl (hR.slot 4 65 (hd 4 rfl) rfl) (fun w => by simp [eqGuard]) (add_one j hlt _)) ⟨hR.put hu (by rw [hl]; decide) (d := 66) rfl (of_decide_eq_true rfl) rfl, ?_⟩
                  exact hW
                · -- [6] indexAddr 53 t64 t66
                  refine wpOp_val rfl (d := 67) rfl ((wanted_slot rfl (d := 63) rfl (hR.slot 2 63 (hd 2 rfl) rfl)).trans rfl) (ex_indexAddr (hR.slot 3 64 (hd 3 rfl) rfl) (hR.slot 5 66 (hd 5 rfl) rfl) (at5 b j hlt _)) ⟨hR.put hu (by rw [hl]; decide) (d := 67) rfl (of_decide_eq_true rfl) rfl, ?_⟩
                  exact hW
                · -- [7] load 9 t67
                  have hcx : wx.cell? ⟨b, 1 + j, none⟩ = some (S t) := by rw [hW.cell (p := ⟨b, 1 + j, none⟩) (cell_lt Hcj5.out)]; exact Hcj5.out
                  refine wpOp_val rfl (d := 68) rfl ((wanted_slot rfl (d := 63) rfl (hR.slot 2 63 (hd 2 rfl) rfl)).trans rfl) (ex_load (hR.slot 6 67 (hd 6 rfl) rfl) (load_str hcx)) ⟨hR.put hu (by rw [hl]; decide) (d := 68) rfl (of_decide_eq_true rfl) rfl, ?_⟩
                  exact hW
                · -- [8] move [t10]
                  refine wpOp_val rfl (d := 69) rfl ((wanted_slot rfl (d := 63) rfl (hR.slot 2 63 (hd 2 rfl) rfl)).trans rfl) (ex_move (hR.was 10 rfl)) ⟨hR.put hu (by rw [hl]; decide) (d := 69) rfl (of_decide_eq_true rfl) rfl, ?_⟩
                  exact hW
                · -- [9] call f25 [t69]
                  refine wpOp_call rfl (d := 70) rfl ((wanted_slot rfl (d := 63) rfl (hR.slot 2 63 (hd 2 rfl) rfl)).trans rfl) (ex_call (vs := #[(.int .i64 z)]) (by rw [List.map_toArray]; simp only [List.map_cons, List.map_nil, show a.eval (.tmp 69) = (.int .i64 z) from (hR.slot 8 69 (hd 8 rfl) rfl)]) (enters_fn Tryd.func25 (by kernel_rfl) rfl)) (R := fun v w' => v = S (Lib.itoa z) ∧ Below wx.heap.size wx w') ((itoa_any z Hz.out.1 Hz.out.2 wx (H5.out.below hW).pow).mono fun e w' ⟨h1, h2⟩ => ⟨_, h1, rfl, h2⟩) ?_
                  rintro v w' ⟨rfl, h2⟩
                  exact ⟨hR.put hu (by rw [hl]; decide) (d := 70) rfl (of_decide_eq_true rfl) rfl, bel_from hW h2⟩
                · -- [10] binOp add 9 (.string ⟨#[114]⟩) t70 9
                  refine wpOp_val rfl (d := 71) rfl ((wanted_slot rfl (d := 63) rfl (hR.slot 2 63 (hd 2 rfl) rfl)).trans rfl) (ex_bin rfl (hR.slot 9 70 (hd 9 rfl) rfl) (fun w => by simp [eqGuard]) (run_add [114] (Lib.itoa z) (by have := Hzl.out; simp; omega))) ⟨hR.put hu (by rw [hl]; decide) (d := 71) rfl (of_decide_eq_true rfl) rfl, ?_⟩
                  exact hW
                · -- [11] binOp neq 9 t68 t71 9
                  refine wpOp_val rfl (d := 72) rfl ((wanted_slot rfl (d := 63) rfl (hR.slot 2 63 (hd 2 rfl) rfl)).trans rfl) (ex_bin (hR.slot 7 68 (hd 7 rfl) rfl) (hR.slot 10 71 (hd 10 rfl) rfl) (fun w => by simp [eqGuard]) (neq_S HBe.out _)) ⟨hR.put hu (by rw [hl]; decide) (d := 72) rfl (of_decide_eq_true rfl) rfl, ?_⟩
                  exact hW
                · -- [12] pick [t63, (.bool true), t72]
                  refine wpOp_val rfl (d := 73) rfl (wanted_plain rfl _) (ex_pick_false (hR.slot 2 63 (hd 2 rfl) rfl) (hR.slot 11 72 (hd 11 rfl) rfl)) ⟨hR.put hu (by rw [hl]; decide) (d := 73) rfl (of_decide_eq_true rfl) rfl, ?_⟩
                  exact hW
-- ENDP1
              · intro l a wb hl hR hW
                have Hbb := Lib.hid (bel_from Hb6.out hW)
                have HAb := Lib.hid (HA6.out.below hW HA6.out.lt)
                have HBb := Lib.hid (HB6.out.below hW HB6.out.lt)
                have HKb := Lib.hid (HK6.out.then (Kept.of_below hW) (S' := fun _ => False) (fun _ _ h => h.elim))
                have e73 : a.tmps.getD 73 undef = .bool B := hR.slot 12 73 (hl 12 (by decide)) rfl
                rw [hR.fold [61, 62, 63, 64, 65, 66, 67, 68, 69, 70, 71, 72, 73] (by kernel_rfl)]
                simp only [List.foldl, e73]
                clear hW hR e73 hl HA6 HB6 HK6 Hb6 H5 Hcj5
                generalize a.tmps.getD 61 undef = u61
                generalize a.tmps.getD 62 undef = u62
                generalize a.tmps.getD 63 undef = u63
                generalize a.tmps.getD 64 undef = u64
                generalize a.tmps.getD 65 undef = u65
                generalize a.tmps.getD 66 undef = u66
                generalize a.tmps.getD 67 undef = u67
                generalize a.tmps.getD 68 undef = u68
                generalize a.tmps.getD 69 undef = u69
                generalize a.tmps.getD 70 undef = u70
                generalize a.tmps.getD 71 undef = u71
                generalize a.tmps.getD 72 undef = u72
                go_simp
                clear a l
                cases B
                · have ho : Hid (regO t = some z) := by
                    have := HBe.out
                    unfold Hid regO
                    rw [Hzo.out]
                    simp only [Option.bind_some]
                    rw [if_pos (by simpa using this)]
                  have hXc : wb.cell? ⟨X, 1 + j, none⟩ = some (.int .i64 0) := by
                    rw [HBb.out.cell, rowJ_at _ _ j hlt]
                  have hXf := HBb.out.free (1 + j)
                  clear HBe Hzo
                  go_wp2_with fail
                  go_roundg (3 - (j + 1))
                  case measure => omega
                  case rel =>
                    refine ⟨j + 1, by omega, by go_num, fun i hi => ?_, ?_, HKb.out.setIn X (1 + j) _ rfl⟩
                    · by_cases hij : i = j
                      · rw [hij, Ht.out, ho.out]; rfl
                      · exact HR.out i (by omega)
                    · have := HBb.out.set (1 + j) (.int .i64 z)
                      rwa [rowJ_set _ T j hlt z (by rw [Ht.out]; exact ho.out)] at this
                · have ho : Hid (regO t = none) := by
                    have := HBe.out
                    unfold Hid regO
                    rw [Hzo.out]
                    simp only [Option.bind_some]
                    rw [if_neg (by simpa using this)]
                  have hp : Hid (parse J = none) := by
                    unfold Hid
                    rw [Hp5.out]
                    exact par_none T t0 t4 HT.out j hlt (by rw [Ht.out]; exact ho.out)
                  have hAc := HAb.out.cell; have hAf := HAb.out.free
                  clear HBe Hzo
                  go_wp2_with fail
                  rw [Exit.noGoto_ret]
                  exact bodyPost_ret (v := .tuple #[ins0, .bool false]) (by simp [results, Tryd.results21, go_sem, hAc, ins0]) rfl ⟨by rw [hp.out]; rfl, (((((Hbb.out.setCell (by simp) _).setCell (by simp) _).setCell (by simp) _).setCell (by simp) _).setCell (by simp) _)⟩
            · have ho : Hid (regO t = none) := by unfold Hid regO; rw [hz]; rfl
              have hp : Hid (parse J = none) := by
                unfold Hid
                rw [Hp5.out]
                exact par_none T t0 t4 HT.out j hlt (by rw [Ht.out]; exact ho.out)
              clear hz
              go_wp2_with fail
              refine wp_region_rinv (by kernel_rfl) (by kernel_rfl) (by kernel_rfl)
                (fun i v => match i with | 0 => v = (.iface ty (.pointer (some ⟨bb, 0, none⟩))) | 1 => v = .bool true | 2 => v = (.bool true) | 3 => v = undef | 4 => v = undef | 5 => v = undef | 6 => v = undef | 7 => v = undef | 8 => v = undef | 9 => v = undef | 10 => v = undef | 11 => v = undef | 12 => v = (.bool true) | _ => True)
                (fun _ _ wx => Below w6.heap.size w6 wx) ?_ ?_ ?_
              · exact (Below.refl _ _).drew
              · intro hu i l a wx hi hl hli hd hcl hR hW
                have hi27 : i = 0 ∨ i = 1 ∨ i = 2 ∨ i = 3 ∨ i = 4 ∨ i = 5 ∨ i = 6 ∨ i = 7 ∨ i = 8 ∨ i = 9 ∨ i = 10 ∨ i = 11 ∨ i = 12 := by have : i < 13 := hi; omega
                rcases hi27 with rfl | rfl | rfl | rfl | rfl | rfl | rfl | rfl | rfl | rfl | rfl | rfl | rfl
                · -- [0] move [t11]
                  refine wpOp_val rfl (d := 61) rfl (wanted_plain rfl _) (ex_move (hR.was 11 rfl)) ⟨hR.put hu (by rw [hl]; decide) (d := 61) rfl (of_decide_eq_true rfl) rfl, ?_⟩
                  exact hW
                · -- [1] binOp neq 63 t61 (.nilIface) 63
                  refine wpOp_val rfl (d := 62) rfl (wanted_plain rfl _) (ex_bin (s := .nilIface) (hR.slot 0 61 (hd 0 rfl) rfl) rfl (fun w => by simp [eqGuard]) (neq_err _ _)) ⟨hR.put hu (by rw [hl]; decide) (d := 62) rfl (of_decide_eq_true rfl) rfl, ?_⟩
                  exact hW
                · -- [2] move [t62]
                  refine wpOp_val rfl (d := 63) rfl (wanted_plain rfl _) (ex_move (hR.slot 1 62 (hd 1 rfl) rfl)) ⟨hR.put hu (by rw [hl]; decide) (d := 63) rfl (of_decide_eq_true rfl) rfl, ?_⟩
                  exact hW
                · -- [3] move [t4]
                  refine wpOp_skip rfl (d := 64) rfl ((wanted_slot rfl (d := 63) rfl (hR.slot 2 63 (hd 2 rfl) rfl)).trans rfl) ⟨hR.put hu (by rw [hl]; decide) (d := 64) rfl (of_decide_eq_true rfl) rfl, ?_⟩
                  exact hW
                · -- [4] move [t8]
                  refine wpOp_skip rfl (d := 65) rfl ((wanted_slot rfl (d := 63) rfl (hR.slot 2 63 (hd 2 rfl) rfl)).trans rfl) ⟨hR.put hu (by rw [hl]; decide) (d := 65) rfl (of_decide_eq_true rfl) rfl, ?_⟩
                  exact hW
                · -- [5] binOp add 3 (.int .i64 1) t65 3
                  refine wpOp_skip rfl (d := 66) rfl ((wanted_slot rfl (d := 63) rfl (hR.slot 2 63 (hd 2 rfl) rfl)).trans rfl) ⟨hR.put hu (by rw [hl]; decide) (d := 66) rfl (of_decide_eq_true rfl) rfl, ?_⟩
                  exact hW
                · -- [6] indexAddr 53 t64 t66
                  refine wpOp_skip rfl (d := 67) rfl ((wanted_slot rfl (d := 63) rfl (hR.slot 2 63 (hd 2 rfl) rfl)).trans rfl) ⟨hR.put hu (by rw [hl]; decide) (d := 67) rfl (of_decide_eq_true rfl) rfl, ?_⟩
                  exact hW
                · -- [7] load 9 t67
                  refine wpOp_skip rfl (d := 68) rfl ((wanted_slot rfl (d := 63) rfl (hR.slot 2 63 (hd 2 rfl) rfl)).trans rfl) ⟨hR.put hu (by rw [hl]; decide) (d := 68) rfl (of_decide_eq_true rfl) rfl, ?_⟩
                  exact hW
                · -- [8] move [t10]
                  refine wpOp_skip rfl (d := 69) rfl ((wanted_slot rfl (d := 63) rfl (hR.slot 2 63 (hd 2 rfl) rfl)).trans rfl) ⟨hR.put hu (by rw [hl]; decide) (d := 69) rfl (of_decide_eq_true rfl) rfl, ?_⟩
                  exact hW
                · -- [9] call f25 [t69]
                  refine wpOp_skip rfl (d := 70) rfl ((wanted_slot rfl (d := 63) rfl (hR.slot 2 63 (hd 2 rfl) rfl)).trans rfl) ⟨hR.put hu (by rw [hl]; decide) (d := 70) rfl (of_decide_eq_true rfl) rfl, ?_⟩
                  exact hW
                · -- [10] binOp add 9 (.string ⟨#[114]⟩) t70 9
                  refine wpOp_skip rfl (d := 71) rfl ((wanted_slot rfl (d := 63) rfl (hR.slot 2 63 (hd 2 rfl) rfl)).trans rfl) ⟨hR.put hu (by rw [hl]; decide) (d := 71) rfl (of_decide_eq_true rfl) rfl, ?_⟩
                  exact hW
                · -- [11] binOp neq 9 t68 t71 9
                  refine wpOp_skip rfl (d := 72) rfl ((wanted_slot rfl (d := 63) rfl (hR.slot 2 63 (hd 2 rfl) rfl)).trans rfl) ⟨hR.put hu (by rw [hl]; decide) (d := 72) rfl (of_decide_eq_true rfl) rfl, ?_⟩
                  exact hW
                · -- [12] pick [t63, (.bool true), t72]
                  refine wpOp_val rfl (d := 73) rfl (wanted_plain rfl _) (ex_pick_true (hR.slot 2 63 (hd 2 rfl) rfl) rfl) ⟨hR.put hu (by rw [hl]; decide) (d := 73) rfl (of_decide_eq_true rfl) rfl, ?_⟩
                  exact hW
-- ENDP2
              · intro l a wb hl hR hW
                have Hbb := Lib.hid (bel_from Hb6.out hW)
                have HAb := Lib.hid (HA6.out.below hW HA6.out.lt)
                have e73 : a.tmps.getD 73 undef = .bool true := hR.slot 12 73 (hl 12 (by decide)) rfl
                rw [hR.fold [61, 62, 63, 64, 65, 66, 67, 68, 69, 70, 71, 72, 73] (by kernel_rfl)]
                simp only [List.foldl, e73]
                clear hW hR e73 hl HA6 HB6 HK6 Hb6 H5 Hcj5
                generalize a.tmps.getD 61 undef = u61
                generalize a.tmps.getD 62 undef = u62
                generalize a.tmps.getD 63 undef = u63
                generalize a.tmps.getD 64 undef = u64
                generalize a.tmps.getD 65 undef = u65
                generalize a.tmps.getD 66 undef = u66
                generalize a.tmps.getD 67 undef = u67
                generalize a.tmps.getD 68 undef = u68
                generalize a.tmps.getD 69 undef = u69
                generalize a.tmps.getD 70 undef = u70
                generalize a.tmps.getD 71 undef = u71
                generalize a.tmps.getD 72 undef = u72
                go_simp
                clear a l
                have hAc := HAb.out.cell; have hAf := HAb.out.free
                go_wp2_with fail
                rw [Exit.noGoto_ret]
                exact bodyPost_ret (v := .tuple #[ins0, .bool false]) (by simp [results, Tryd.results21, go_sem, hAc, ins0]) rfl ⟨by rw [hp.out]; rfl, (((((Hbb.out.setCell (by simp) _).setCell (by simp) _).setCell (by simp) _).setCell (by simp) _).setCell (by simp) _)⟩
          · have hj3 : j = 3 := by omega
            obtain ⟨e1, e2, e3⟩ := HT.out
            obtain ⟨za, ha⟩ := Option.isSome_iff_exists.1 (HR.out 0 (by omega))
            obtain ⟨zb, hb⟩ := Option.isSome_iff_exists.1 (HR.out 1 (by omega))
            obtain ⟨zc, hc⟩ := Option.isSome_iff_exists.1 (HR.out 2 (by omega))
            have HBj : Hid (Blk wr X #[.int .i64 (opOf t0), .int .i64 za, .int .i64 zb, .int .i64 zc, .int .i32 0] 25) := by
              have := HB.out
              rw [hj3] at this
              refine this.cells ?_
              simp [rowJ, ha, hb, hc]
            have hc4 : wr.cell? ⟨b, 4, none⟩ = some (S t4) := by
              rw [World.cell?_of_block (a := ⟨b, 4, none⟩) (HK.out.block b (cell_lt (Hc3.out 4 t4 rfl)) (by omega))]
              exact Hc3.out 4 t4 rfl
            rw [e1] at ha
            rw [e2] at hb
            rw [e3] at hc
            have Hpn : Hid (numO t4 = none → parse J = none) := fun h => by
              rw [Hp5.out]; unfold parse5; rw [ha, hb, hc, h]; rfl
            have Hps : Hid (∀ zn, numO t4 = some zn → parse J = rightO ⟨opOf t0, za, zb, zc, zn⟩) := fun zn h => by
              rw [Hp5.out]; unfold parse5; rw [ha, hb, hc, h]; rfl
            have hl4 : t4.length ≤ 100000 := by have := Hl5.out; omega
            clear ha hb hc e1 e2 e3 hj3 HB HR HT HTl HcT
            go_wp2_with fail
            refine (pint_any t4 hl4 _ (H.out.below Hbr.out)).mono ?_
            rintro e w7 ⟨v, rfl, hne, hb7⟩
            have hc7 : w7.cell? ⟨b, 4, none⟩ = some (S t4) := by rw [hb7.cell (p := ⟨b, 4, none⟩) (cell_lt hc4)]; exact hc4
            have Hb7 := Lib.hid (bel_from Hbr.out hb7)
            have A7 := Lib.hid (HA.out.below hb7 HA.out.lt)
            have X7 := Lib.hid (HBj.out.below hb7 HBj.out.lt)
            have hXc := X7.out.cell; have hXf := X7.out.free
            clear hb7 hc4 HA HBj HK Hbr
            rcases hne with ⟨zn, hz, rfl⟩ | ⟨hz, y, ty, bb, rfl⟩
            · obtain ⟨z0, z1⟩ := pintO_bd hz
              have Hz : Hid (-9223372036854775808 ≤ zn ∧ zn ≤ 9223372036854775807) := ⟨by omega, by omega⟩
              have hw32 : IntKind.i32.wrap zn = zn := by simp [IntKind.wrap, IntKind.bits, IntKind.signed]; omega
              have Hzo := Lib.hid hz; clear hz
              go_wp2_with fail
              obtain ⟨w9, hw9⟩ : ∃ w9, w7.setCell ⟨X, 4, none⟩ (.int .i32 zn) = w9 := ⟨_, rfl⟩
              rw [hw9]
              have K9 : Kept (· = X) w7 w9 := by rw [← hw9]; exact (Kept.refl (· = X) w7).setIn X 4 _ rfl
              obtain ⟨xx, hxx⟩ : ∃ xx : Ins, (⟨opOf t0, za, zb, zc, zn⟩ : Ins) = xx := ⟨_, rfl⟩
              have B9 : Hid (Blk w9 X xx.cells 25) := by rw [← hw9, ← hxx]; exact (X7.out.set 4 _).cells rfl
              have A9 := Lib.hid (K9.blk A7.out (by omega))
              have Hb9 := Lib.hid (Hb7.out.trans (K9.below Hb7.out.size (fun i hi e => by omega)))
              have H9 := Lib.hid (H.out.below Hb9.out)
              have hb4X : b ≠ X := by omega
              have Hc9 : Hid (w9.cell? ⟨b, 4, none⟩ = some (S t4)) := by
                rw [Hid, World.cell?_of_block (a := ⟨b, 4, none⟩) (K9.block b (cell_lt hc7) hb4X)]; exact hc7
              clear hw9 K9 X7 A7 hXc hXf hc7 Hb7
              by_cases hB : Lib.itoa zn = t4
              · have HBe : Hid ((Lib.itoa zn != t4) = false) := by unfold Hid; rw [bne_eq_false_iff_eq]; exact hB
                have hno : numO t4 = some zn := by unfold numO; rw [Hzo.out]; simp [hB]
                have Hpr : Hid (parse J = rightO xx) := by rw [← hxx]; exact Hps.out zn hno
                obtain ⟨R, hR'⟩ : ∃ R, xx.right = R := ⟨_, rfl⟩
                have HRe := Lib.hid hR'; clear hR' hB hno Hps Hpn
                refine wp_region_rinv (by kernel_rfl) (by kernel_rfl) (by kernel_rfl)
                  (fun i v => match i with | 0 => v = .nilIface | 1 => v = .bool false | 2 => v = (.bool false) | 3 => v = (.int .i64 zn) | 4 => v = S (Lib.itoa zn) | 5 => v = (.slice (some ⟨b, 0, none⟩) 5 5) | 6 => v = .pointer (some ⟨b, 4, none⟩) | 7 => v = S t4 | 8 => v = .bool false | 9 => v = (.bool false) | 10 => v = (.bool false) | 11 => v = xx.v | 12 => v = .bool R | 13 => v = .bool (!R) | 14 => v = (.bool (!R)) | _ => True)
                  (fun _ _ wx => Below w9.heap.size w9 wx) ?_ ?_ ?_
                · exact (Below.refl _ _).drew
                · intro hu i l a wx hi hl hli hd hcl hR hW
                  have hi27 : i = 0 ∨ i = 1 ∨ i = 2 ∨ i = 3 ∨ i = 4 ∨ i = 5 ∨ i = 6 ∨ i = 7 ∨ i = 8 ∨ i = 9 ∨ i = 10 ∨ i = 11 ∨ i = 12 ∨ i = 13 ∨ i = 14 := by have : i < 15 := hi; omega
                  rcases hi27 with rfl | rfl | rfl | rfl | rfl | rfl | rfl | rfl | rfl | rfl | rfl | rfl | rfl | rfl | rfl
                  · -- [0] move [t13]
                    refine wpOp_val rfl (d := 89) rfl (wanted_plain rfl _) (ex_move (hR.was 13 rfl)) ⟨hR.put hu (by rw [hl]; decide) (d := 89) rfl (of_decide_eq_true rfl) rfl, ?_⟩
                    exact hW
                  · -- [1] binOp neq 63 t89 (.nilIface) 63
                    refine wpOp_val rfl (d := 90) rfl (wanted_plain rfl _) (ex_bin (s := .nilIface) (hR.slot 0 89 (hd 0 rfl) rfl) rfl (fun w => by simp [eqGuard]) neq_nil) ⟨hR.put hu (by rw [hl]; decide) (d := 90) rfl (of_decide_eq_true rfl) rfl, ?_⟩
                    exact hW
                  · -- [2] move [t90]
                    refine wpOp_val rfl (d := 91) rfl (wanted_plain rfl _) (ex_move (hR.slot 1 90 (hd 1 rfl) rfl)) ⟨hR.put hu (by rw [hl]; decide) (d := 91) rfl (of_decide_eq_true rfl) rfl, ?_⟩
                    exact hW
                  · -- [3] move [t12]
                    refine wpOp_val rfl (d := 92) rfl ((wanted_slot rfl (d := 91) rfl (hR.slot 2 91 (hd 2 rfl) rfl)).trans rfl) (ex_move (hR.was 12 rfl)) ⟨hR.put hu (by rw [hl]; decide) (d := 92) rfl (of_decide_eq_true rfl) rfl, ?_⟩
                    exact hW
                  · -- [4] call f25 [t92]
                    refine wpOp_call rfl (d := 93) rfl ((wanted_slot rfl (d := 91) rfl (hR.slot 2 91 (hd 2 rfl) rfl)).trans rfl) (ex_call (vs := #[(.int .i64 zn)]) (by rw [List.map_toArray]; simp only [List.map_cons, List.map_nil, show a.eval (.tmp 92) = (.int .i64 zn) from (hR.slot 3 92 (hd 3 rfl) rfl)]) (enters_fn Tryd.func25 (by kernel_rfl) rfl)) (R := fun v w' => v = S (Lib.itoa zn) ∧ Below wx.heap.size wx w') ((itoa_any zn Hz.out.1 Hz.out.2 wx (H9.out.below hW).pow).mono fun e w' ⟨h1, h2⟩ => ⟨_, h1, rfl, h2⟩) ?_
                    rintro v w' ⟨rfl, h2⟩
                    exact ⟨hR.put hu (by rw [hl]; decide) (d := 93) rfl (of_decide_eq_true rfl) rfl, bel_from hW h2⟩
                  · -- [5] move [t4]
                    refine wpOp_val rfl (d := 94) rfl ((wanted_slot rfl (d := 91) rfl (hR.slot 2 91 (hd 2 rfl) rfl)).trans rfl) (ex_move (hR.was 4 rfl)) ⟨hR.put hu (by rw [hl]; decide) (d := 94) rfl (of_decide_eq_true rfl) rfl, ?_⟩
                    exact hW
                  · -- [6] indexAddr 53 t94 (.int .i64 4)
                    refine wpOp_val rfl (d := 95) rfl ((wanted_slot rfl (d := 91) rfl (hR.slot 2 91 (hd 2 rfl) rfl)).trans rfl) (ex_indexAddr (hR.slot 5 94 (hd 5 rfl) rfl) rfl (at5_4 b _)) ⟨hR.put hu (by rw [hl]; decide) (d := 95) rfl (of_decide_eq_true rfl) rfl, ?_⟩
                    exact hW
                  · -- [7] load 9 t95
                    have hcx : wx.cell? ⟨b, 4, none⟩ = some (S t4) := by rw [hW.cell (p := ⟨b, 4, none⟩) (cell_lt Hc9.out)]; exact Hc9.out
                    refine wpOp_val rfl (d := 96) rfl ((wanted_slot rfl (d := 91) rfl (hR.slot 2 91 (hd 2 rfl) rfl)).trans rfl) (ex_load (hR.slot 6 95 (hd 6 rfl) rfl) (load_str hcx)) ⟨hR.put hu (by rw [hl]; decide) (d := 96) rfl (of_decide_eq_true rfl) rfl, ?_⟩
                    exact hW
                  · -- [8] binOp neq 9 t93 t96 9
                    refine wpOp_val rfl (d := 97) rfl ((wanted_slot rfl (d := 91) rfl (hR.slot 2 91 (hd 2 rfl) rfl)).trans rfl) (ex_bin (hR.slot 4 93 (hd 4 rfl) rfl) (hR.slot 7 96 (hd 7 rfl) rfl) (fun w => by simp [eqGuard]) (neq_S HBe.out _)) ⟨hR.put hu (by rw [hl]; decide) (d := 97) rfl (of_decide_eq_true rfl) rfl, ?_⟩
                    exact hW
                  · -- [9] pick [t91, (.bool true), t97]
                    refine wpOp_val rfl (d := 98) rfl (wanted_plain rfl _) (ex_pick_false (hR.slot 2 91 (hd 2 rfl) rfl) (hR.slot 8 97 (hd 8 rfl) rfl)) ⟨hR.put hu (by rw [hl]; decide) (d := 98) rfl (of_decide_eq_true rfl) rfl, ?_⟩
                    exact hW
                  · -- [10] move [t98]
                    refine wpOp_val rfl (d := 99) rfl (wanted_plain rfl _) (ex_move (hR.slot 9 98 (hd 9 rfl) rfl)) ⟨hR.put hu (by rw [hl]; decide) (d := 99) rfl (of_decide_eq_true rfl) rfl, ?_⟩
                    exact hW
                  · -- [11] load 25 t5
                    have hcx := (B9.out.below hW B9.out.lt).cell
                    refine wpOp_val rfl (d := 100) rfl ((wanted_slot rfl (d := 99) rfl (hR.slot 10 99 (hd 10 rfl) rfl)).trans rfl) (ex_load (hR.was 5 rfl) (load_ins hcx)) ⟨hR.put hu (by rw [hl]; decide) (d := 100) rfl (of_decide_eq_true rfl) rfl, ?_⟩
                    exact hW
                  · -- [12] call f22 [t100]
                    refine wpOp_call rfl (d := 101) rfl ((wanted_slot rfl (d := 99) rfl (hR.slot 10 99 (hd 10 rfl) rfl)).trans rfl) (ex_call (vs := #[xx.v]) (by rw [List.map_toArray]; simp only [List.map_cons, List.map_nil, show a.eval (.tmp 100) = xx.v from (hR.slot 11 100 (hd 11 rfl) rfl)]) (enters_fn Tryd.func22 (by kernel_rfl) rfl)) (R := fun v w' => v = .bool R ∧ Below wx.heap.size wx w') ((right_any xx.op xx.a xx.b xx.c xx.imm wx).mono fun e w' ⟨h1, h2⟩ => ⟨_, h1, by rw [← HRe.out], h2⟩) ?_
                    rintro v w' ⟨rfl, h2⟩
                    exact ⟨hR.put hu (by rw [hl]; decide) (d := 101) rfl (of_decide_eq_true rfl) rfl, bel_from hW h2⟩
                  · -- [13] unOp not 4 t101
                    refine wpOp_val rfl (d := 102) rfl ((wanted_slot rfl (d := 99) rfl (hR.slot 10 99 (hd 10 rfl) rfl)).trans rfl) (ex_not (hR.slot 12 101 (hd 12 rfl) rfl)) ⟨hR.put hu (by rw [hl]; decide) (d := 102) rfl (of_decide_eq_true rfl) rfl, ?_⟩
                    exact hW
                  · -- [14] pick [t99, (.bool true), t102]
                    refine wpOp_val rfl (d := 103) rfl (wanted_plain rfl _) (ex_pick_false (hR.slot 10 99 (hd 10 rfl) rfl) (hR.slot 13 102 (hd 13 rfl) rfl)) ⟨hR.put hu (by rw [hl]; decide) (d := 103) rfl (of_decide_eq_true rfl) rfl, ?_⟩
                    exact hW
-- ENDY
                · intro l a wb hl hR hW
                  have Hbb := Lib.hid (bel_from Hb9.out hW)
                  have HAb := Lib.hid (A9.out.below hW A9.out.lt)
                  have B9b := Lib.hid (B9.out.below hW B9.out.lt)
                  have e103 : a.tmps.getD 103 undef = .bool (!R) := hR.slot 14 103 (hl 14 (by decide)) rfl
                  rw [hR.fold [89, 90, 91, 92, 93, 94, 95, 96, 97, 98, 99, 100, 101, 102, 103] (by kernel_rfl)]
                  simp only [List.foldl, e103]
                  clear hW hR e103 hl
                  generalize a.tmps.getD 89 undef = u89
                  generalize a.tmps.getD 90 undef = u90
                  generalize a.tmps.getD 91 undef = u91
                  generalize a.tmps.getD 92 undef = u92
                  generalize a.tmps.getD 93 undef = u93
                  generalize a.tmps.getD 94 undef = u94
                  generalize a.tmps.getD 95 undef = u95
                  generalize a.tmps.getD 96 undef = u96
                  generalize a.tmps.getD 97 undef = u97
                  generalize a.tmps.getD 98 undef = u98
                  generalize a.tmps.getD 99 undef = u99
                  generalize a.tmps.getD 100 undef = u100
                  generalize a.tmps.getD 101 undef = u101
                  generalize a.tmps.getD 102 undef = u102
                  go_simp
                  clear a l
                  cases R
                  · have hp : Hid (parse J = none) := by unfold Hid; rw [Hpr.out]; unfold rightO; rw [if_neg (by rw [HRe.out]; simp)]
                    have hAc := HAb.out.cell; have hAf := HAb.out.free
                    go_wp2_with fail
                    rw [Exit.noGoto_ret]
                    exact bodyPost_ret (v := .tuple #[ins0, .bool false]) (by simp [results, Tryd.results21, go_sem, hAc, ins0]) rfl ⟨by rw [hp.out]; rfl, (((((Hbb.out.setCell (by simp) _).setCell (by simp) _).setCell (by simp) _).setCell (by simp) _).setCell (by simp) _)⟩
                  · have hp : Hid (parse J = some xx) := by unfold Hid; rw [Hpr.out]; unfold rightO; rw [if_pos HRe.out]
                    have hAc := HAb.out.cell; have hAf := HAb.out.free; have hXc := B9b.out.cell
                    have hx0 : wb.cell? ⟨X, 0, none⟩ = some (.int .i64 xx.op) := hXc 0
                    have hx1 : wb.cell? ⟨X, 1, none⟩ = some (.int .i64 xx.a) := hXc 1
                    have hx2 : wb.cell? ⟨X, 2, none⟩ = some (.int .i64 xx.b) := hXc 2
                    have hx3 : wb.cell? ⟨X, 3, none⟩ = some (.int .i64 xx.c) := hXc 3
                    have hx4 : wb.cell? ⟨X, 4, none⟩ = some (.int .i32 xx.imm) := hXc 4
                    clear hXc
                    go_wp2_with fail
                    rw [Exit.noGoto_ret]
                    exact bodyPost_ret (v := .tuple #[xx.v, .bool true]) (by simp [results, Tryd.results21, go_sem, hAc, Ins.v]) rfl ⟨by rw [hp.out]; rfl, (((((Hbb.out.setCell (by simp) _).setCell (by simp) _).setCell (by simp) _).setCell (by simp) _).setCell (by simp) _)⟩
              · have HBe : Hid ((Lib.itoa zn != t4) = true) := by unfold Hid; rw [bne_iff_ne]; exact hB
                have hno : numO t4 = none := by unfold numO; rw [Hzo.out]; simp [hB]
                have hp := Lib.hid (Hpn.out hno)
                clear hB hno Hps Hpn
                refine wp_region_rinv (by kernel_rfl) (by kernel_rfl) (by kernel_rfl)
                  (fun i v => match i with | 0 => v = .nilIface | 1 => v = .bool false | 2 => v = (.bool false) | 3 => v = (.int .i64 zn) | 4 => v = S (Lib.itoa zn) | 5 => v = (.slice (some ⟨b, 0, none⟩) 5 5) | 6 => v = .pointer (some ⟨b, 4, none⟩) | 7 => v = S t4 | 8 => v = .bool true | 9 => v = (.bool true) | 10 => v = (.bool true) | 11 => v = undef | 12 => v = undef | 13 => v = undef | 14 => v = (.bool true) | _ => True)
                  (fun _ _ wx => Below w9.heap.size w9 wx) ?_ ?_ ?_
                · exact (Below.refl _ _).drew
                · intro hu i l a wx hi hl hli hd hcl hR hW
                  have hi27 : i = 0 ∨ i = 1 ∨ i = 2 ∨ i = 3 ∨ i = 4 ∨ i = 5 ∨ i = 6 ∨ i = 7 ∨ i = 8 ∨ i = 9 ∨ i = 10 ∨ i = 11 ∨ i = 12 ∨ i = 13 ∨ i = 14 := by have : i < 15 := hi; omega
                  rcases hi27 with rfl | rfl | rfl | rfl | rfl | rfl | rfl | rfl | rfl | rfl | rfl | rfl | rfl | rfl | rfl
                  · -- [0] move [t13]
                    refine wpOp_val rfl (d := 89) rfl (wanted_plain rfl _) (ex_move (hR.was 13 rfl)) ⟨hR.put hu (by rw [hl]; decide) (d := 89) rfl (of_decide_eq_true rfl) rfl, ?_⟩
                    exact hW
                  · -- [1] binOp neq 63 t89 (.nilIface) 63
                    refine wpOp_val rfl (d := 90) rfl (wanted_plain rfl _) (ex_bin (s := .nilIface) (hR.slot 0 89 (hd 0 rfl) rfl) rfl (fun w => by simp [eqGuard]) neq_nil) ⟨hR.put hu (by rw [hl]; decide) (d := 90) rfl (of_decide_eq_true rfl) rfl, ?_⟩
                    exact hW
                  · -- [2] move [t90]
                    refine wpOp_val rfl (d := 91) rfl (wanted_plain rfl _) (ex_move (hR.slot 1 90 (hd 1 rfl) rfl)) ⟨hR.put hu (by rw [hl]; decide) (d := 91) rfl (of_decide_eq_true rfl) rfl, ?_⟩
                    exact hW
                  · -- [3] move [t12]
                    refine wpOp_val rfl (d := 92) rfl ((wanted_slot rfl (d := 91) rfl (hR.slot 2 91 (hd 2 rfl) rfl)).trans rfl) (ex_move (hR.was 12 rfl)) ⟨hR.put hu (by rw [hl]; decide) (d := 92) rfl (of_decide_eq_true rfl) rfl, ?_⟩
                    exact hW
                  · -- [4] call f25 [t92]
                    refine wpOp_call rfl (d := 93) rfl ((wanted_slot rfl (d := 91) rfl (hR.slot 2 91 (hd 2 rfl) rfl)).trans rfl) (ex_call (vs := #[(.int .i64 zn)]) (by rw [List.map_toArray]; simp only [List.map_cons, List.map_nil, show a.eval (.tmp 92) = (.int .i64 zn) from (hR.slot 3 92 (hd 3 rfl) rfl)]) (enters_fn Tryd.func25 (by kernel_rfl) rfl)) (R := fun v w' => v = S (Lib.itoa zn) ∧ Below wx.heap.size wx w') ((itoa_any zn Hz.out.1 Hz.out.2 wx (H9.out.below hW).pow).mono fun e w' ⟨h1, h2⟩ => ⟨_, h1, rfl, h2⟩) ?_
                    rintro v w' ⟨rfl, h2⟩
                    exact ⟨hR.put hu (by rw [hl]; decide) (d := 93) rfl (of_decide_eq_true rfl) rfl, bel_from hW h2⟩
                  · -- [5] move [t4]
                    refine wpOp_val rfl (d := 94) rfl ((wanted_slot rfl (d := 91) rfl (hR.slot 2 91 (hd 2 rfl) rfl)).trans rfl) (ex_move (hR.was 4 rfl)) ⟨hR.put hu (by rw [hl]; decide) (d := 94) rfl (of_decide_eq_true rfl) rfl, ?_⟩
                    exact hW
                  · -- [6] indexAddr 53 t94 (.int .i64 4)
                    refine wpOp_val rfl (d := 95) rfl ((wanted_slot rfl (d := 91) rfl (hR.slot 2 91 (hd 2 rfl) rfl)).trans rfl) (ex_indexAddr (hR.slot 5 94 (hd 5 rfl) rfl) rfl (at5_4 b _)) ⟨hR.put hu (by rw [hl]; decide) (d := 95) rfl (of_decide_eq_true rfl) rfl, ?_⟩
                    exact hW
                  · -- [7] load 9 t95
                    have hcx : wx.cell? ⟨b, 4, none⟩ = some (S t4) := by rw [hW.cell (p := ⟨b, 4, none⟩) (cell_lt Hc9.out)]; exact Hc9.out
                    refine wpOp_val rfl (d := 96) rfl ((wanted_slot rfl (d := 91) rfl (hR.slot 2 91 (hd 2 rfl) rfl)).trans rfl) (ex_load (hR.slot 6 95 (hd 6 rfl) rfl) (load_str hcx)) ⟨hR.put hu (by rw [hl]; decide) (d := 96) rfl (of_decide_eq_true rfl) rfl, ?_⟩
                    exact hW
                  · -- [8] binOp neq 9 t93 t96 9
                    refine wpOp_val rfl (d := 97) rfl ((wanted_slot rfl (d := 91) rfl (hR.slot 2 91 (hd 2 rfl) rfl)).trans rfl) (ex_bin (hR.slot 4 93 (hd 4 rfl) rfl) (hR.slot 7 96 (hd 7 rfl) rfl) (fun w => by simp [eqGuard]) (neq_S HBe.out _)) ⟨hR.put hu (by rw [hl]; decide) (d := 97) rfl (of_decide_eq_true rfl) rfl, ?_⟩
                    exact hW
                  · -- [9] pick [t91, (.bool true), t97]
                    refine wpOp_val rfl (d := 98) rfl (wanted_plain rfl _) (ex_pick_false (hR.slot 2 91 (hd 2 rfl) rfl) (hR.slot 8 97 (hd 8 rfl) rfl)) ⟨hR.put hu (by rw [hl]; decide) (d := 98) rfl (of_decide_eq_true rfl) rfl, ?_⟩
                    exact hW
                  · -- [10] move [t98]
                    refine wpOp_val rfl (d := 99) rfl (wanted_plain rfl _) (ex_move (hR.slot 9 98 (hd 9 rfl) rfl)) ⟨hR.put hu (by rw [hl]; decide) (d := 99) rfl (of_decide_eq_true rfl) rfl, ?_⟩
                    exact hW
                  · -- [11] load 25 t5
                    refine wpOp_skip rfl (d := 100) rfl ((wanted_slot rfl (d := 99) rfl (hR.slot 10 99 (hd 10 rfl) rfl)).trans rfl) ⟨hR.put hu (by rw [hl]; decide) (d := 100) rfl (of_decide_eq_true rfl) rfl, ?_⟩
                    exact hW
                  · -- [12] call f22 [t100]
                    refine wpOp_skip rfl (d := 101) rfl ((wanted_slot rfl (d := 99) rfl (hR.slot 10 99 (hd 10 rfl) rfl)).trans rfl) ⟨hR.put hu (by rw [hl]; decide) (d := 101) rfl (of_decide_eq_true rfl) rfl, ?_⟩
                    exact hW
                  · -- [13] unOp not 4 t101
                    refine wpOp_skip rfl (d := 102) rfl ((wanted_slot rfl (d := 99) rfl (hR.slot 10 99 (hd 10 rfl) rfl)).trans rfl) ⟨hR.put hu (by rw [hl]; decide) (d := 102) rfl (of_decide_eq_true rfl) rfl, ?_⟩
                    exact hW
                  · -- [14] pick [t99, (.bool true), t102]
                    refine wpOp_val rfl (d := 103) rfl (wanted_plain rfl _) (ex_pick_true (hR.slot 10 99 (hd 10 rfl) rfl) rfl) ⟨hR.put hu (by rw [hl]; decide) (d := 103) rfl (of_decide_eq_true rfl) rfl, ?_⟩
                    exact hW
-- ENDN
                · intro l a wb hl hR hW
                  have Hbb := Lib.hid (bel_from Hb9.out hW)
                  have HAb := Lib.hid (A9.out.below hW A9.out.lt)
                  have e103 : a.tmps.getD 103 undef = .bool true := hR.slot 14 103 (hl 14 (by decide)) rfl
                  rw [hR.fold [89, 90, 91, 92, 93, 94, 95, 96, 97, 98, 99, 100, 101, 102, 103] (by kernel_rfl)]
                  simp only [List.foldl, e103]
                  clear hW hR e103 hl
                  generalize a.tmps.getD 89 undef = u89
                  generalize a.tmps.getD 90 undef = u90
                  generalize a.tmps.getD 91 undef = u91
                  generalize a.tmps.getD 92 undef = u92
                  generalize a.tmps.getD 93 undef = u93
                  generalize a.tmps.getD 94 undef = u94
                  generalize a.tmps.getD 95 undef = u95
                  generalize a.tmps.getD 96 undef = u96
                  generalize a.tmps.getD 97 undef = u97
                  generalize a.tmps.getD 98 undef = u98
                  generalize a.tmps.getD 99 undef = u99
                  generalize a.tmps.getD 100 undef = u100
                  generalize a.tmps.getD 101 undef = u101
                  generalize a.tmps.getD 102 undef = u102
                  go_simp
                  clear a l
                  have hAc := HAb.out.cell; have hAf := HAb.out.free
                  go_wp2_with fail
                  rw [Exit.noGoto_ret]
                  exact bodyPost_ret (v := .tuple #[ins0, .bool false]) (by simp [results, Tryd.results21, go_sem, hAc, ins0]) rfl ⟨by rw [hp.out]; rfl, (((((Hbb.out.setCell (by simp) _).setCell (by simp) _).setCell (by simp) _).setCell (by simp) _).setCell (by simp) _)⟩
            · have hno : numO t4 = none := by unfold numO; rw [hz]; rfl
              have hp := Lib.hid (Hpn.out hno)
              clear hno Hps Hpn hz
              obtain ⟨zn, hzn⟩ : ∃ zn, IntKind.i32.wrap y = zn := ⟨_, rfl⟩
              go_wp2_with fail
              obtain ⟨w9, hw9⟩ : ∃ w9, w7.setCell ⟨X, 4, none⟩ (.int .i32 zn) = w9 := ⟨_, rfl⟩
              rw [hw9]
              have K9 : Kept (· = X) w7 w9 := by rw [← hw9]; exact (Kept.refl (· = X) w7).setIn X 4 _ rfl
              have A9 := Lib.hid (K9.blk A7.out (by omega))
              have Hb9 := Lib.hid (Hb7.out.trans (K9.below Hb7.out.size (fun i hi e => by omega)))
              clear hw9 K9 X7 A7 hXc hXf hc7 Hb7 hzn
              refine wp_region_rinv (by kernel_rfl) (by kernel_rfl) (by kernel_rfl)
                (fun i v => match i with | 0 => v = (.iface ty (.pointer (some ⟨bb, 0, none⟩))) | 1 => v = .bool true | 2 => v = (.bool true) | 3 => v = undef | 4 => v = undef | 5 => v = undef | 6 => v = undef | 7 => v = undef | 8 => v = undef | 9 => v = (.bool true) | 10 => v = (.bool true) | 11 => v = undef | 12 => v = undef | 13 => v = undef | 14 => v = (.bool true) | _ => True)
                (fun _ _ wx => Below w9.heap.size w9 wx) ?_ ?_ ?_
              · exact (Below.refl _ _).drew
              · intro hu i l a wx hi hl hli hd hcl hR hW
                have hi27 : i = 0 ∨ i = 1 ∨ i = 2 ∨ i = 3 ∨ i = 4 ∨ i = 5 ∨ i = 6 ∨ i = 7 ∨ i = 8 ∨ i = 9 ∨ i = 10 ∨ i = 11 ∨ i = 12 ∨ i = 13 ∨ i = 14 := by have : i < 15 := hi; omega
                rcases hi27 with rfl | rfl | rfl | rfl | rfl | rfl | rfl | rfl | rfl | rfl | rfl | rfl | rfl | rfl | rfl
                · -- [0] move [t13]
                  refine wpOp_val rfl (d := 89) rfl (wanted_plain rfl _) (ex_move (hR.was 13 rfl)) ⟨hR.put hu (by rw [hl]; decide) (d := 89) rfl (of_decide_eq_true rfl) rfl, ?_⟩
                  exact hW
                · -- [1] binOp neq 63 t89 (.nilIface) 63
                  refine wpOp_val rfl (d := 90) rfl (wanted_plain rfl _) (ex_bin (s := .nilIface) (hR.slot 0 89 (hd 0 rfl) rfl) rfl (fun w => by simp [eqGuard]) (neq_err _ _)) ⟨hR.put hu (by rw [hl]; decide) (d := 90) rfl (of_decide_eq_true rfl) rfl, ?_⟩
                  exact hW
                · -- [2] move [t90]
                  refine wpOp_val rfl (d := 91) rfl (wanted_plain rfl _) (ex_move (hR.slot 1 90 (hd 1 rfl) rfl)) ⟨hR.put hu (by rw [hl]; decide) (d := 91) rfl (of_decide_eq_true rfl) rfl, ?_⟩
                  exact hW
                · -- [3] move [t12]
                  refine wpOp_skip rfl (d := 92) rfl ((wanted_slot rfl (d := 91) rfl (hR.slot 2 91 (hd 2 rfl) rfl)).trans rfl) ⟨hR.put hu (by rw [hl]; decide) (d := 92) rfl (of_decide_eq_true rfl) rfl, ?_⟩
                  exact hW
                · -- [4] call f25 [t92]
                  refine wpOp_skip rfl (d := 93) rfl ((wanted_slot rfl (d := 91) rfl (hR.slot 2 91 (hd 2 rfl) rfl)).trans rfl) ⟨hR.put hu (by rw [hl]; decide) (d := 93) rfl (of_decide_eq_true rfl) rfl, ?_⟩
                  exact hW
                · -- [5] move [t4]
                  refine wpOp_skip rfl (d := 94) rfl ((wanted_slot rfl (d := 91) rfl (hR.slot 2 91 (hd 2 rfl) rfl)).trans rfl) ⟨hR.put hu (by rw [hl]; decide) (d := 94) rfl (of_decide_eq_true rfl) rfl, ?_⟩
                  exact hW
                · -- [6] indexAddr 53 t94 (.int .i64 4)
                  refine wpOp_skip rfl (d := 95) rfl ((wanted_slot rfl (d := 91) rfl (hR.slot 2 91 (hd 2 rfl) rfl)).trans rfl) ⟨hR.put hu (by rw [hl]; decide) (d := 95) rfl (of_decide_eq_true rfl) rfl, ?_⟩
                  exact hW
                · -- [7] load 9 t95
                  refine wpOp_skip rfl (d := 96) rfl ((wanted_slot rfl (d := 91) rfl (hR.slot 2 91 (hd 2 rfl) rfl)).trans rfl) ⟨hR.put hu (by rw [hl]; decide) (d := 96) rfl (of_decide_eq_true rfl) rfl, ?_⟩
                  exact hW
                · -- [8] binOp neq 9 t93 t96 9
                  refine wpOp_skip rfl (d := 97) rfl ((wanted_slot rfl (d := 91) rfl (hR.slot 2 91 (hd 2 rfl) rfl)).trans rfl) ⟨hR.put hu (by rw [hl]; decide) (d := 97) rfl (of_decide_eq_true rfl) rfl, ?_⟩
                  exact hW
                · -- [9] pick [t91, (.bool true), t97]
                  refine wpOp_val rfl (d := 98) rfl (wanted_plain rfl _) (ex_pick_true (hR.slot 2 91 (hd 2 rfl) rfl) rfl) ⟨hR.put hu (by rw [hl]; decide) (d := 98) rfl (of_decide_eq_true rfl) rfl, ?_⟩
                  exact hW
                · -- [10] move [t98]
                  refine wpOp_val rfl (d := 99) rfl (wanted_plain rfl _) (ex_move (hR.slot 9 98 (hd 9 rfl) rfl)) ⟨hR.put hu (by rw [hl]; decide) (d := 99) rfl (of_decide_eq_true rfl) rfl, ?_⟩
                  exact hW
                · -- [11] load 25 t5
                  refine wpOp_skip rfl (d := 100) rfl ((wanted_slot rfl (d := 99) rfl (hR.slot 10 99 (hd 10 rfl) rfl)).trans rfl) ⟨hR.put hu (by rw [hl]; decide) (d := 100) rfl (of_decide_eq_true rfl) rfl, ?_⟩
                  exact hW
                · -- [12] call f22 [t100]
                  refine wpOp_skip rfl (d := 101) rfl ((wanted_slot rfl (d := 99) rfl (hR.slot 10 99 (hd 10 rfl) rfl)).trans rfl) ⟨hR.put hu (by rw [hl]; decide) (d := 101) rfl (of_decide_eq_true rfl) rfl, ?_⟩
                  exact hW
                · -- [13] unOp not 4 t101
                  refine wpOp_skip rfl (d := 102) rfl ((wanted_slot rfl (d := 99) rfl (hR.slot 10 99 (hd 10 rfl) rfl)).trans rfl) ⟨hR.put hu (by rw [hl]; decide) (d := 102) rfl (of_decide_eq_true rfl) rfl, ?_⟩
                  exact hW
                · -- [14] pick [t99, (.bool true), t102]
                  refine wpOp_val rfl (d := 103) rfl (wanted_plain rfl _) (ex_pick_true (hR.slot 10 99 (hd 10 rfl) rfl) rfl) ⟨hR.put hu (by rw [hl]; decide) (d := 103) rfl (of_decide_eq_true rfl) rfl, ?_⟩
                  exact hW
-- ENDE
              · intro l a wb hl hR hW
                have Hbb := Lib.hid (bel_from Hb9.out hW)
                have HAb := Lib.hid (A9.out.below hW A9.out.lt)
                have e103 : a.tmps.getD 103 undef = .bool true := hR.slot 14 103 (hl 14 (by decide)) rfl
                rw [hR.fold [89, 90, 91, 92, 93, 94, 95, 96, 97, 98, 99, 100, 101, 102, 103] (by kernel_rfl)]
                simp only [List.foldl, e103]
                clear hW hR e103 hl
                generalize a.tmps.getD 89 undef = u89
                generalize a.tmps.getD 90 undef = u90
                generalize a.tmps.getD 91 undef = u91
                generalize a.tmps.getD 92 undef = u92
                generalize a.tmps.getD 93 undef = u93
                generalize a.tmps.getD 94 undef = u94
                generalize a.tmps.getD 95 undef = u95
                generalize a.tmps.getD 96 undef = u96
                generalize a.tmps.getD 97 undef = u97
                generalize a.tmps.getD 98 undef = u98
                generalize a.tmps.getD 99 undef = u99
                generalize a.tmps.getD 100 undef = u100
                generalize a.tmps.getD 101 undef = u101
                generalize a.tmps.getD 102 undef = u102
                go_simp
                clear a l
                have hAc := HAb.out.cell; have hAf := HAb.out.free
                go_wp2_with fail
                rw [Exit.noGoto_ret]
                exact bodyPost_ret (v := .tuple #[ins0, .bool false]) (by simp [results, Tryd.results21, go_sem, hAc, ins0]) rfl ⟨by rw [hp.out]; rfl, (((((Hbb.out.setCell (by simp) _).setCell (by simp) _).setCell (by simp) _).setCell (by simp) _).setCell (by simp) _)⟩
    · have hne : (J == l) = false := by rw [beq_eq_false_iff_ne]; exact hj
      have hp : Hid (parse l = none) := by unfold Hid; rw [Hp.out, if_neg hj]
      clear hj
      go_wp2_with fail
      rw [Exit.noGoto_ret]
      exact bodyPost_ret (v := .tuple #[ins0, .bool false]) (by simp [results, Tryd.results21, go_sem, hAc, ins0]) rfl ⟨by rw [hp.out]; rfl, (((((Hb2.out.setCell (by simp) _).setCell (by simp) _).setCell (by simp) _).setCell (by simp) _).setCell (by simp) _)⟩
  · have hbne : ((F.length : Int) != 5) = true := by rw [bne_iff_ne]; omega
    have hp : Hid (parse l = none) := by
      unfold Hid
      rw [Hp.out]
      split
      · rcases F with _ | ⟨t0, _ | ⟨t1, _ | ⟨t2, _ | ⟨t3, _ | ⟨t4, _ | ⟨t5, r⟩⟩⟩⟩⟩⟩ <;> first | rfl | simp at h5
      · rfl
    clear h5
    go_wp2_with fail
    rw [Exit.noGoto_ret]
    exact bodyPost_ret (v := .tuple #[ins0, .bool false]) (by simp [results, Tryd.results21, go_sem, hAc, ins0]) rfl ⟨by rw [hp.out]; rfl, (((((Hb1.out.setCell (by simp) _).setCell (by simp) _).setCell (by simp) _).setCell (by simp) _).setCell (by simp) _)⟩
end Go.Proofs.YtidaopggidccmaaDoor
