/- The walk of CallsKinds: it returns true, whatever the number. -/
import Derived.Test.YtidaopggidccmaaDoorCalNames
namespace Go.Proofs.YtidaopggidccmaaDoor
open Go.RowKit
attribute [local irreducible] World.setCell World.alloc World.drew Calls Code.wp

theorem bool_zero (w : World) : (zeroValue 4).run Tryd.prog w = .ok (.bool false) w := by simp [go_sem]
theorem spec_1 (b : Nat) (w : World) : (Instr.fieldAt 41 (.pointer (some ⟨b, 0, none⟩)) 1).run Tryd.prog w = .ok (.pointer (some ⟨b, 1, none⟩)) w := by go_simp; try rfl
theorem spec_2 (b : Nat) (w : World) : (Instr.fieldAt 41 (.pointer (some ⟨b, 0, none⟩)) 2).run Tryd.prog w = .ok (.pointer (some ⟨b, 2, none⟩)) w := by go_simp; try rfl
theorem load_ints {w : World} {p : Addr} {x : Option Addr} {n c : Nat} (h : w.cell? p = some (.slice x n c)) : (Instr.loadAt 39 (.pointer (some p))).run Tryd.prog w = .ok (.slice x n c) w := by go_simp; try rfl

/-- append(v, s...) onto a row of one's own, from a slice that may be nil. -/
theorem append_dig {w : World} {base : Nat} (v : Value) (xs : List Nat) (s : Value) (m : List Nat) (ho : w.ownsRow base 3 1 v xs.length (xs.map fun x : Nat => Value.int .i64 (x : Int))) {B : Nat} (hs : Dig B w s m) (hb : base ≤ w.heap.size) (hl : xs.length + m.length < 1000)
    (t : TypeId) (ht : Tryd.prog.underlying t = some (.slice 3)) :
    ∃ v' w', (∀ ty, (Builtin.append_ #[t, t] ty #[v, s]).run Tryd.prog w = .ok v' w') ∧ w'.ownsRow base 3 1 v' (xs ++ m).length ((xs ++ m).map fun x : Nat => Value.int .i64 (x : Int)) ∧ w.grownBy w' v.ownBlock := by
  obtain ⟨i0, hi, hz0, hz1, hz2⟩ := info_parts int_info
  obtain ⟨x, c, rfl, h⟩ := hs
  rcases h with ⟨rfl, rfl, rfl⟩ | ⟨b, rfl, _, hlt, hc⟩
  · refine ⟨v, w, fun ty => ?_, by simpa using ho, ⟨rfl, rfl, rfl, Nat.le_refl _, fun _ _ _ => rfl⟩⟩
    rcases ho.2 with ⟨rfl, h0⟩ | ⟨g, cap, cur, rfl, _, _, hn, _⟩
    · simp [Builtin.append_, run_underlying ht, sizeOf, typeInfo, hi, Builtin.lenOf, Builtin.firstCells]
    · simp [Builtin.append_, run_underlying ht, sizeOf, typeInfo, hi, Builtin.lenOf, Builtin.firstCells, loadCells, storeCells, hn]
  · have hex := fun ty => run_append_own (P := Tryd.prog) w base t ty 3 i0 (.int .i64 0) 1 8 ht hi hz0 hz1 hz2 rfl (by decide) v xs.length _ ho ⟨b, 0, none⟩ m.length c (m.map fun x : Nat => Value.int .i64 (x : Int)) (by simp) (fun j u hu => by
      rw [List.getElem?_map] at hu
      rcases hj : m[j]? with _ | y
      · rw [hj] at hu; cases hu
      · have hjl := (List.getElem?_eq_some_iff.1 hj).1
        rw [hj] at hu
        have e := hc j hjl
        simp [List.getD, hj] at e
        rw [Addr.add_lit, Nat.zero_add, e]
        simpa using hu) (fun u hu => by obtain ⟨y, _, rfl⟩ := List.mem_map.1 hu; rfl) (by unfold maxLen; omega) (by omega) hb
    obtain ⟨v', w', hr, h1, h2, _⟩ := hex 39
    refine ⟨v', w', fun ty => ?_, by simpa using h1, h2⟩
    rw [← hr]
    rfl
theorem ex_append {P : Program} {a : Act} {w w' : World} {d : Option Tmp} {t : TypeId} {p : String} {e : Array Edge} {g : Option (Nat × Bool)} {T : TypeId} {x y : Operand} {u v r : Value} (hx : a.eval x = u) (hy : a.eval y = v) (hr : ∀ ty, (Builtin.append_ #[T, T] ty #[u, v]).run P w = .ok r w') :
    (execOp a.eval ⟨d, .call { callee := .builtin .append, args := #[x, y], argTypes := #[T, T] }, t, p, e, g⟩).run P w = .ok (.value r) w' := by
  simp only [execOp, resolve, invoke, builtin, Sem.run_bind, Sem.run_pure, Result.andThen_ok, List.map_toArray, List.map_cons, List.map_nil, hx, hy, hr]

theorem kinds_ok (i : Nat) (hi : i < 40) : (∀ x ∈ cC i ++ cR i, 1 ≤ x ∧ x ≤ 5) ∧ (cC i ++ cR i).Nodup ∧ (cC i).length + (cR i).length < 1000 := by
  have h1 : ∀ i, i < 40 → (∀ x ∈ cC i ++ cR i, 1 ≤ x ∧ x ≤ 5) ∧ (cC i ++ cR i).Nodup ∧ (cC i).length + (cR i).length < 1000 := by decide +kernel
  exact h1 i hi

/-- In the midst of the two appends. -/
structure Yk (w4 : World) (i : Nat) (b2 b5 : Option Bool) (v27 v30 : Value) (w : World) : Prop where
  bel : Below w4.heap.size w4 w
  g2 : b2 = some true → b5 ≠ some true → w.ownsRow w4.heap.size 3 1 v27 (cC i).length ((cC i).map fun x : Nat => Value.int .i64 (x : Int))
  g5 : b5 = some true → w.ownsRow w4.heap.size 3 1 v30 (cC i ++ cR i).length ((cC i ++ cR i).map fun x : Nat => Value.int .i64 (x : Int))

set_option maxRecDepth 100000 in
set_option maxHeartbeats 1000000 in
theorem ckinds_walk (n : Int) (w : World) (_ : (Lit.int .i64 n).wf = true) (hs : HasSp w) (hm : HasMax w) :
    Calls Tryd.prog 7 #[.int .i64 n] w fun e w' => e = .returned (.bool true) ∧ Below w.heap.size w w' := by
  have Hs := Lib.hid hs; have Hm := Lib.hid hm; clear hs hm
  obtain ⟨f0, f1⟩ := tmod_bd n 40 (by omega)
  obtain ⟨q, hq, hq', hi⟩ : ∃ z : Nat, n.tmod 40 % 40 = z ∧ (n.tmod 40 + 40) % 40 = z ∧ z < 40 := ⟨(n.tmod 40 % 40).toNat, by omega, by omega, by omega⟩
  have hi' : (q : Int) < 40 := by omega
  have Hi := Lib.hid hi; clear hi
  have hmm := @run_makeMap Tryd.prog
  go_enter Tryd.func7, Tryd.ntmps7
  go_wp2_with fail
  refine (fit21_any _ Hs.out Hm.out).mono ?_
  rintro e w1 ⟨rfl, hb1⟩
  have Hb1 := Lib.hid hb1; clear hb1
  go_wp2_with fail
  refine (of_yes q Hi.out _ (Hs.out.below Hb1.out) (Hm.out.below Hb1.out)).mono ?_
  rintro e w2 ⟨v, rfl, ⟨s1, s2, rfl, d1, d2⟩, hb2⟩
  have Hb2 := Lib.hid (bel_from Hb1.out hb2); clear hb2
  have E1 := Lib.hid d1; have E2 := Lib.hid d2
  obtain ⟨x1, c1, rfl, _⟩ := d1
  obtain ⟨x2, c2, rfl, _⟩ := d2
  go_wp2_with fail
  obtain ⟨w4, hw4⟩ : ∃ w4, (w2.alloc (.cells #[S (cN q), .slice x1 (cC q).length c1, .slice x2 (cR q).length c2] 41)).alloc (.map #[] 0) = w4 := ⟨_, rfl⟩
  have B4 : Hid (Blk w4 w2.heap.size #[S (cN q), .slice x1 (cC q).length c1, .slice x2 (cR q).length c2] 41) := by rw [← hw4]; exact (Blk.new _ _ _).alloc _
  have M4 : Hid (MapAt w4 (w2.heap.size + 1) []) := by
    rw [← hw4]
    have := MapAt.new (w2.alloc (.cells #[S (cN q), .slice x1 (cC q).length c1, .slice x2 (cR q).length c2] 41))
    simpa [Hid] using this
  have hsw0 : w.heap.size ≤ w2.heap.size := Hb2.out.size
  have hb24 : Below w2.heap.size w2 w4 := by rw [← hw4]; exact ((Below.refl _ _).alloc (Nat.le_refl _) _).alloc (by simp) _
  have hs4 : w4.heap.size = w2.heap.size + 2 := by rw [← hw4]; simp
  have D1 := Lib.hid (E1.out.below hb24)
  have D2 := Lib.hid (E2.out.below hb24)
  have Hb4 := Lib.hid (bel_from Hb2.out hb24)
  have Hsm := Lib.hid (kinds_ok q Hi.out).2.2
  rw [hw4]
  clear hw4 hb24 E1 E2 Hb2
  refine wp_region_rinv (by kernel_rfl) (by kernel_rfl) (by kernel_rfl)
    (fun i v => match i with | 0 => v = .pointer (some ⟨w2.heap.size, 1, none⟩) | 1 => v = .slice x1 (cC q).length c1 | 3 => v = .pointer (some ⟨w2.heap.size, 2, none⟩) | 4 => v = .slice x2 (cR q).length c2 | 6 => v = .int .i64 ((cC q ++ cR q).length : Nat) | 7 => v = (.int .i64 0) | _ => True)
    (fun l a wx => Yk w4 q l[2]? l[5]? (a.tmps.getD 27 undef) (a.tmps.getD 30 undef) wx) ?_ ?_ ?_
  · exact ⟨(Below.refl _ _).drew, fun h => by simp at h, fun h => by simp at h⟩
  · intro hu i l a wx hi hl hli hd hcl hR hW
    have hi27 : i = 0 ∨ i = 1 ∨ i = 2 ∨ i = 3 ∨ i = 4 ∨ i = 5 ∨ i = 6 ∨ i = 7 := by have : i < 8 := hi; omega
    rcases hi27 with rfl | rfl | rfl | rfl | rfl | rfl | rfl | rfl
    · -- [0] fieldAddr 41 t4 1
      refine wpOp_val rfl (d := 25) rfl (wanted_plain rfl _) (ex_fieldAddr (hR.was 4 rfl) (spec_1 _ _)) ⟨hR.put hu (by rw [hl]; decide) (d := 25) rfl (of_decide_eq_true rfl) rfl, ?_⟩
      simpa only [set_other, put_other, ne_eq, not_false_eq_true, Nat.reduceEqDiff] using hW
    · -- [1] load 39 t25
      have hc := (B4.out.below hW.bel B4.out.lt).cell 1
      refine wpOp_val rfl (d := 26) rfl (wanted_plain rfl _) (ex_load (hR.slot 0 25 (hd 0 rfl) rfl) (load_ints hc)) ⟨hR.put hu (by rw [hl]; decide) (d := 26) rfl (of_decide_eq_true rfl) rfl, ?_⟩
      clear hc
      simpa only [set_other, put_other, ne_eq, not_false_eq_true, Nat.reduceEqDiff] using hW
    · -- [2] builtin append [(.slice none 0 0), t26]
      have hno : ¬ (l[2]? = some true) := by rw [hli]; simp
      obtain ⟨v', w', hr, ho, hg⟩ := append_dig (base := w4.heap.size) (w := wx) (.slice none 0 0) [] _ (cC q) (World.ownsRow_nil _ _ _ _) (D1.out.below hW.bel) hW.bel.size (by simp; have := Hsm.out; omega) 39 Tryd.underlying39
      refine wpOp_val rfl (d := 27) rfl (wanted_plain rfl _) (ex_append rfl (hR.slot 1 26 (hd 1 rfl) rfl) hr) ⟨hR.put hu (by rw [hl]; decide) (d := 27) rfl (of_decide_eq_true rfl) trivial, ?_⟩
      simp only [set_other, put_other, ne_eq, not_false_eq_true, Nat.reduceEqDiff, set_self (show 2 < l.size by rw [hl]; decide), put_self (show 27 < a.tmps.size by rw [hR.size]; exact of_decide_eq_true rfl)]
      exact ⟨hW.bel.grown hg hW.bel.size (fun k hk => by simp [Value.ownBlock] at hk), fun _ _ => ho, fun h => absurd (hcl.of 2 rfl h) hno⟩
    · -- [3] fieldAddr 41 t4 2
      refine wpOp_val rfl (d := 28) rfl (wanted_plain rfl _) (ex_fieldAddr (hR.was 4 rfl) (spec_2 _ _)) ⟨hR.put hu (by rw [hl]; decide) (d := 28) rfl (of_decide_eq_true rfl) rfl, ?_⟩
      simpa only [set_other, put_other, ne_eq, not_false_eq_true, Nat.reduceEqDiff] using hW
    · -- [4] load 39 t28
      have hc := (B4.out.below hW.bel B4.out.lt).cell 2
      refine wpOp_val rfl (d := 29) rfl (wanted_plain rfl _) (ex_load (hR.slot 3 28 (hd 3 rfl) rfl) (load_ints hc)) ⟨hR.put hu (by rw [hl]; decide) (d := 29) rfl (of_decide_eq_true rfl) rfl, ?_⟩
      clear hc
      simpa only [set_other, put_other, ne_eq, not_false_eq_true, Nat.reduceEqDiff] using hW
    · -- [5] builtin append [t27, t29]
      have hno : ¬ (l[5]? = some true) := by rw [hli]; simp
      have g2 := hW.g2 (hd 2 rfl) hno
      obtain ⟨v', w', hr, ho, hg⟩ := append_dig (base := w4.heap.size) (w := wx) _ (cC q) _ (cR q) g2 (D2.out.below hW.bel) hW.bel.size (by have := Hsm.out; omega) 39 Tryd.underlying39
      refine wpOp_val rfl (d := 30) rfl (wanted_plain rfl _) (ex_append rfl (hR.slot 4 29 (hd 4 rfl) rfl) hr) ⟨hR.put hu (by rw [hl]; decide) (d := 30) rfl (of_decide_eq_true rfl) trivial, ?_⟩
      simp only [set_other, put_other, ne_eq, not_false_eq_true, Nat.reduceEqDiff, set_self (show 5 < l.size by rw [hl]; decide), put_self (show 30 < a.tmps.size by rw [hR.size]; exact of_decide_eq_true rfl)]
      exact ⟨hW.bel.grown hg hW.bel.size (fun k hk => (g2.lt k hk).1), fun _ h => absurd rfl h, fun _ => ho⟩
    · -- [6] builtin len [t30]
      have g5 := hW.g5 (hd 5 rfl)
      obtain ⟨b, c, e30⟩ : ∃ b c, a.tmps.getD 30 undef = .slice b (cC q ++ cR q).length c := by
        obtain ⟨x, c, h, _⟩ := own_dig g5
        exact ⟨x, c, h⟩
      refine wpOp_val rfl (d := 31) rfl (wanted_plain rfl _) (ex_len Tryd.underlying39 e30) ⟨hR.put hu (by rw [hl]; decide) (d := 31) rfl (of_decide_eq_true rfl) rfl, ?_⟩
      simpa only [set_other, put_other, ne_eq, not_false_eq_true, Nat.reduceEqDiff] using hW
    · -- [7] move [(.int .i64 0)]
      refine wpOp_val rfl (d := 32) rfl (wanted_plain rfl _) (ex_move rfl) ⟨hR.put hu (by rw [hl]; decide) (d := 32) rfl (of_decide_eq_true rfl) rfl, ?_⟩
      simpa only [set_other, put_other, ne_eq, not_false_eq_true, Nat.reduceEqDiff] using hW
-- ENDK
  · intro l a wb hl hR hW
    have hg5 := hW.g5 (hl 5 (by decide))
    have Hbb := Lib.hid hW.bel
    obtain ⟨v30, h30⟩ : ∃ v, a.tmps.getD 30 undef = v := ⟨_, rfl⟩
    rw [h30] at hg5
    have e31 : a.tmps.getD 31 undef = .int .i64 ((cC q ++ cR q).length : Nat) := hR.slot 6 31 (hl 6 (by decide)) rfl
    have e32 : a.tmps.getD 32 undef = .int .i64 0 := hR.slot 7 32 (hl 7 (by decide)) rfl
    obtain ⟨hL5, hLn, hLs⟩ := kinds_ok q Hi.out
    have hLs' : (cC q ++ cR q).length < 1000 := by rw [List.length_append]; exact hLs
    obtain ⟨L, hL⟩ : ∃ L, cC q ++ cR q = L := ⟨_, rfl⟩
    rw [hL] at hg5 e31 hL5 hLn hLs'
    have HO := Lib.hid (own_dig hg5)
    have HL5 := Lib.hid hL5; have HLn := Lib.hid hLn
    rw [hR.fold [25, 26, 27, 28, 29, 30, 31, 32] (by kernel_rfl)]
    simp only [List.foldl, e31, e32, h30]
    clear hW hR e31 e32 h30 hl
    generalize a.tmps.getD 25 undef = u25
    generalize a.tmps.getD 26 undef = u26
    generalize a.tmps.getD 27 undef = u27
    generalize a.tmps.getD 28 undef = u28
    generalize a.tmps.getD 29 undef = u29
    generalize a.tmps.getD 31 undef = u31
    generalize a.tmps.getD 32 undef = u32
    go_simp
    clear a l
    have MB : Hid (MapAt wb (w2.heap.size + 1) []) := M4.out.below Hbb.out M4.out.lt
    have HbB := Lib.hid (bel_from Hb4.out Hbb.out)
    have hsb : w4.heap.size ≤ wb.heap.size := Hbb.out.size
    have hsw : w.heap.size ≤ w2.heap.size := hsw0
    clear hg5 hL hL5 hLn hLs Hsm D1 D2 B4 M4 Hb4 Hbb
    obtain ⟨x, c, rfl, hO⟩ := HO.out
    clear HO
    go_wp2_with fail
    rcases hO with ⟨rfl, rfl, rfl⟩ | ⟨b, rfl, hb4, hbl, hc⟩
    · go_loopg [8, 32] 0 (fun g _ z wx => 0 = g ∧ z = .int .i64 0 ∧ Below w.heap.size w wx)
      case atStart => exact ⟨rfl, rfl, HbB.out⟩
      case round =>
        obtain ⟨_, rfl, hb⟩ := hrel
        have Hb := Lib.hid hb; clear hb
        go_wp2_with fail
        go_ret
        exact ⟨rfl, Hb.out⟩
    · have Hc := Lib.hid hc; clear hc
      have hbr : b ≠ w2.heap.size + 1 := by omega
      go_loopg [8, 32] L.length (fun g _ z wx => ∃ (j : Nat) (es : List (Int × Value)), j + g = L.length ∧ z = .int .i64 j ∧ MapAt wx (w2.heap.size + 1) es ∧ (∀ k, (look es k).isSome = true → ∃ y, y ∈ L.take j ∧ k = (y : Int)) ∧ Kept (· = w2.heap.size + 1) wb wx)
      case atStart => exact ⟨0, [], by omega, rfl, MB.out, fun k h => by simp [look_nil] at h, Kept.refl _ _⟩
      case round =>
        obtain ⟨j, es, hj, rfl, hM, hE, hK⟩ := hrel
        have HK := Lib.hid hK; clear hK
        have HE := Lib.hid hE; clear hE
        by_cases hlt : j < L.length
        · obtain ⟨y, hy⟩ : ∃ y, L[j] = y := ⟨_, rfl⟩
          have hcj : wr.cell? ⟨b, j, none⟩ = some (.int .i64 y) := by
            rw [World.cell?_of_block (a := ⟨b, j, none⟩) (HK.out.block b hbl hbr), Hc.out j hlt, ← hy]
            simp [List.getD, hlt]
          obtain ⟨hy1, hy5⟩ := HL5.out y (hy ▸ List.getElem_mem hlt)
          have hy1' : (1 : Int) ≤ y := by omega
          have hy5' : (y : Int) ≤ 5 := by omega
          have et : L.take (j + 1) = L.take j ++ [y] := by
            rw [List.take_add_one]
            congr 1
            simp [hlt, hy]
          have hnew : look es y = none := by
            rcases hl : look es y with _ | v
            · rfl
            · obtain ⟨y', hy', e⟩ := HE.out y (by rw [hl]; rfl)
              obtain rfl : y = y' := by omega
              have hnd : (L.take (j + 1)).Nodup := HLn.out.sublist (List.take_sublist _ _)
              rw [et, List.nodup_append] at hnd
              exact absurd rfl (hnd.2.2 y hy' y (by simp))
          have hlk := hM.run_lookup (P := Tryd.prog) (T := 47) (K := 3) (E := 4) (by kernel_rfl) (by kernel_rfl) bool_zero (y : Int)
          rw [hnew] at hlk
          obtain ⟨w6, hrun, hM6, hK6⟩ := hM.run_update (P := Tryd.prog) (T := 47) (K := 3) (E := 4) (by kernel_rfl) (by kernel_rfl) (y : Int) (.bool true)
          have HM6 := Lib.hid hM6; have HK6 := Lib.hid (HK.out.trans hK6); have Het := Lib.hid et
          clear hM hM6 hK6 et hnew hy hy1 hy5
          go_wp2_with fail
          go_roundg (L.length - (j + 1))
          case measure => omega
          case rel =>
            refine ⟨j + 1, _, by omega, by go_num, HM6.out, fun k hk => ?_, HK6.out⟩
            rw [Het.out]
            rw [look_put] at hk
            by_cases e : k = (y : Int)
            · exact ⟨y, by simp, e⟩
            · rw [if_neg e] at hk
              obtain ⟨y', h1, h2⟩ := HE.out k hk
              exact ⟨y', by simp [h1], h2⟩
        · have hjL : j = L.length := by omega
          clear hM
          go_wp2_with fail
          go_ret
          exact ⟨rfl, HbB.out.trans (HK.out.below HbB.out.size (fun i hi e => by omega))⟩
end Go.Proofs.YtidaopggidccmaaDoor
