/- Objects and configurations as bytes. -/
import Derived.Test.YtjjnidbggoaonaaGreatDoorWoPl
namespace Go.Proofs.YtjjnidbggoaonaaGreatDoor
open Go.RowKit
attribute [local irreducible] World.setCell World.alloc World.drew World.setRow Calls Code.wp
attribute [local go_sem] Oper.semAt_some

theorem row_drew {w : World} {base e size n : Nat} {v : Value} {xs : List Value} (h : w.ownsRow base e size v n xs) : w.drew.ownsRow base e size v n xs := row_kept h ((Kept.refl (fun _ => False) w).drew) (fun _ _ h => h)
theorem row_bel {w w' : World} {base e size n : Nat} {v : Value} {xs : List Value} (h : w.ownsRow base e size v n xs) (k : Below w.heap.size w w') : w'.ownsRow base e size v n xs := row_kept h (T := fun _ => False) (Kept.of_below k) (fun _ _ h => h)
theorem wpList_ix' {P : Program} {ops : Array Oper} {rest : List Oper} {a : Act} {w : World} {Q : Exit → Act → World → Prop} {d : Option Tmp} {T t : TypeId} {p : String} {e : Array Edge} {x y : Operand} {u s v : Value}
    (hx : a.eval x = u) (hy : a.eval y = s) (hr : (Instr.index T u s).run P w = .ok v w) (h : wpList P ops Q rest (a.put d v) w) : wpList P ops Q (⟨d, .index T x y, t, p, e, none⟩ :: rest) a w :=
  wpList_plain rfl fun _ hK => by
    unfold Oper.wp
    simp only [execOp, hx, hy, hr, Sem.run_bind, Result.andThen_ok, Sem.run_pure]
    exact hK _ _ h
theorem ix5 (a b c d f : Int) (j : Nat) (hj : j < 5) (w : World) :
    (Instr.index 203 (.agg #[.int .u64 a, .int .u64 b, .int .u64 c, .int .u64 d, .int .u64 f]) (.int .i64 j)).run Tryz.prog w = .ok (.int .u64 (([a, b, c, d, f] : List Int).getD j 0)) w := by
  obtain rfl | rfl | rfl | rfl | rfl : j = 0 ∨ j = 1 ∨ j = 2 ∨ j = 3 ∨ j = 4 := by omega
  all_goals kernel_rfl
theorem putL_len (n : Nat) (x : Int) : (putL n x).length = n := by simp [putL]
theorem labP_len {l : Lab} (h : l.right = true) : (labP l).length ≤ 70 := by
  have hn := (Lab.right_spec h).2.1
  have h1 : ∀ ps : List (Nat × Nat), (ps.flatMap pairP).length = ps.length * 5 := fun ps => by
    induction ps with
    | nil => rfl
    | cons p r ih => rw [List.flatMap_cons, List.length_append, ih, List.length_cons]; show 5 + _ = _; omega
  rw [labP_eq]
  simp only [List.length_append, putL_len, h1]
  omega
theorem mapP_len (m : WMap) : (mapP m).length = 10 := by unfold mapP; simp only [List.length_append, putL_len]
theorem mapP_eq (m : WMap) : mapP m = ([m.at_, m.seg, m.from_, m.n, (if m.wr then 1 else 0)] : List Int).flatMap (putL 2) := by
  unfold mapP; simp
theorem mapsP_len : ∀ l : List WMap, (l.flatMap mapP).length = l.length * 10
  | [] => rfl
  | m :: r => by rw [List.flatMap_cons, List.length_append, mapP_len, mapsP_len r, List.length_cons]; omega
set_option maxRecDepth 100000 in
set_option maxHeartbeats 8000000 in
theorem eobj_any (g0 : Nat) (bs : List UInt8) (v : Value) (o : WObj) (ls lc0 vd vm : Value) (w : World) (h : w.ownsRow g0 5 1 v bs.length (bs.map byteV)) (hl : bs.length ≤ 500000) (hV : ObjV w o ls lc0 vd vm) (hok : o.ok) (hln : o.data.length ≤ 100000 ∧ (o.kind = 4 → o.maps.length ≤ 16)) :
    Calls Tryz.prog 91 #[v, .agg #[.int .i64 o.kind, .int .i64 o.parent, .int .i64 (o.lab.d : Nat), ls, .int .i64 (o.clr.d : Nat), lc0, .int .i64 o.pages, .int .i64 o.names, vd, vm, .int .i64 o.space, .int .i64 o.pc]] w fun e w' => ∃ v', e = .returned v' ∧ w'.ownsRow w.heap.size 5 1 v' (bs ++ objP o).length ((bs ++ objP o).map byteV) ∧ Below w.heap.size w w' := by
  obtain ⟨la, lc, rfl, -, -⟩ := RowAt.form hV.lab
  obtain ⟨ca, cc, rfl, -, -⟩ := RowAt.form hV.clr
  obtain ⟨da, dc, rfl, -, -⟩ := RowAt.form hV.data
  obtain ⟨ma, mc, rfl, -, -⟩ := RowAt.form hV.maps
  obtain ⟨k1, k6⟩ := hok.kind
  obtain ⟨p1, p2⟩ := hok.par
  obtain ⟨w1, hw1⟩ : ∃ w1 : World, w1 = w.alloc (.cells #[.int .i64 o.kind, .int .i64 o.parent, .int .i64 (o.lab.d : Nat), .slice la o.lab.ps.length lc, .int .i64 (o.clr.d : Nat), .slice ca o.clr.ps.length cc, .int .i64 o.pages, .int .i64 o.names, .slice da o.data.length dc, .slice ma o.maps.length mc, .int .i64 o.space, .int .i64 o.pc] 107) := ⟨_, rfl⟩
  obtain ⟨xb, hxb⟩ : ∃ xb, xb = w.heap.size := ⟨_, rfl⟩
  have HX : Hid (Blk w1 xb #[.int .i64 o.kind, .int .i64 o.parent, .int .i64 (o.lab.d : Nat), .slice la o.lab.ps.length lc, .int .i64 (o.clr.d : Nat), .slice ca o.clr.ps.length cc, .int .i64 o.pages, .int .i64 o.names, .slice da o.data.length dc, .slice ma o.maps.length mc, .int .i64 o.space, .int .i64 o.pc] 107) := by rw [hw1, hxb]; exact Blk.new _ _ _
  have HB1 : Hid (Below w.heap.size w w1) := by rw [hw1]; exact (Below.refl _ w).alloc (Nat.le_refl _) _
  have HR1 : Hid (w1.ownsRow g0 5 1 v bs.length (bs.map byteV)) := by rw [hw1]; exact h.alloc _
  have HV := Lib.hid (hV.below HB1.out (Nat.le_refl _))
  have Hok := Lib.hid hok
  obtain ⟨hdl, hml⟩ := hln
  have hkw : IntKind.u64.wrap o.kind = o.kind := IntWalk.u64_in _ (by omega)
  have hpw : IntKind.u64.wrap o.parent = o.parent := IntWalk.u64_in _ (by omega)
  have hcx := HX.out.cell
  have HXx : Hid (∀ w', Below w1.heap.size w1 w' → Blk w' xb #[.int .i64 o.kind, .int .i64 o.parent, .int .i64 (o.lab.d : Nat), .slice la o.lab.ps.length lc, .int .i64 (o.clr.d : Nat), .slice ca o.clr.ps.length cc, .int .i64 o.pages, .int .i64 o.names, .slice da o.data.length dc, .slice ma o.maps.length mc, .int .i64 o.space, .int .i64 o.pc] 107) := fun w' k => Blk.below HX.out k HX.out.lt
  have HSS : Hid (∀ w', Below w1.heap.size w1 w' → w'.cell? ⟨xb, 0, none⟩ = some (.int .i64 o.kind) ∧ w'.cell? ⟨xb, 1, none⟩ = some (.int .i64 o.parent) ∧ w'.cell? ⟨xb, 2, none⟩ = some (.int .i64 (o.lab.d : Nat)) ∧ w'.cell? ⟨xb, 3, none⟩ = some (.slice la o.lab.ps.length lc)) := fun w' k => by
    have h1 := HXx.out w' k
    exact ⟨h1.cell 0, h1.cell 1, h1.cell 2, h1.cell 3⟩
  have HG : Hid (∀ (T : List UInt8) (V : Value) (w' : World) (n : Nat) (x : Int), Below w1.heap.size w1 w' → w'.ownsRow w1.heap.size 5 1 V (T).length ((T).map byteV) → T.length ≤ 1000000 → n ≤ 8 → 0 ≤ x → x ≤ 18446744073709551615 → Calls Tryz.prog 66 #[V, .int .i64 n, .int .u64 x] w' fun e w'' => ∃ v', e = .returned v' ∧ w''.ownsRow w1.heap.size 5 1 v' (T ++ putL n x).length ((T ++ putL n x).map byteV) ∧ Below w1.heap.size w1 w'') := fun T V w' n x kb ho ht hn h0 h1 => by
    refine (put2_any w1.heap.size T V n x w' ho ht hn h0 h1).mono ?_
    rintro e w'' ⟨v', rfl, ho', hb'⟩
    exact ⟨v', rfl, row_base ho' kb.size, bel_from kb hb'⟩
  have HGL : Hid (∀ (T : List UInt8) (V : Value) (w' : World) (lv : Value) (l : Lab), Below w1.heap.size w1 w' → w'.ownsRow w1.heap.size 5 1 V (T).length ((T).map byteV) → T.length ≤ 900000 → LabIn w1 lv l → l.right = true → Calls Tryz.prog 132 #[V, lv] w' fun e w'' => ∃ v', e = .returned v' ∧ w''.ownsRow w1.heap.size 5 1 v' (T ++ labP l).length ((T ++ labP l).map byteV) ∧ Below w1.heap.size w1 w'') := fun T V w' lv l kb ho ht hL hr => by
    refine (putlab_any w1.heap.size T V lv l w' ho ht (hL.below kb (Nat.le_refl _)) hr).mono ?_
    rintro e w'' ⟨v', rfl, ho', hb'⟩
    exact ⟨v', rfl, row_base ho' kb.size, bel_from kb hb'⟩
  have Hp1 : Hid (Calls Tryz.prog 66 #[v, .int .i64 1, .int .u64 o.kind] w1.drew fun e w'' => ∃ v', e = .returned v' ∧ w''.ownsRow w1.heap.size 5 1 v' (bs ++ putL 1 o.kind).length ((bs ++ putL 1 o.kind).map byteV) ∧ Below w1.heap.size w1 w'') := by
    refine (put2_any g0 bs v 1 o.kind w1.drew (row_drew HR1.out) (by omega) (by omega) (by omega) (by omega)).mono ?_
    rintro e w'' ⟨v', rfl, ho', hb'⟩
    exact ⟨v', rfl, row_base ho' (by simp), bel_from ((Below.refl _ w1).drew) hb'⟩
  have hl1 : (bs ++ putL 1 o.kind).length ≤ 500001 := by rw [List.length_append, putL_len]; omega
  have hl2 : (bs ++ putL 1 o.kind ++ putL 1 o.parent).length ≤ 500002 := by rw [List.length_append, putL_len]; omega
  have hlr := hok.lab
  have hlb := labP_len hlr
  have hl3 : (bs ++ putL 1 o.kind ++ putL 1 o.parent ++ labP o.lab).length ≤ 500100 := by rw [List.length_append]; omega
  have HO : Hid (bs ++ objP o = bs ++ putL 1 o.kind ++ putL 1 o.parent ++ labP o.lab ++
    (if o.kind = 1 then putL 2 o.pages ++ putL 4 o.names
    else if o.kind = 2 then putL 1 o.pages ++ (putL 2 (o.data.length : Nat) ++ o.data)
    else if o.kind = 4 then putL 1 (o.maps.length : Nat) ++ o.maps.flatMap mapP
    else if o.kind = 3 ∨ o.kind = 5 then labP o.clr ++ (putL 1 o.space ++ putL 4 o.pc)
    else [])) := by
    show _ = _
    unfold objP
    simp only [List.append_assoc]
  have HLI : Hid (LabIn w1 (.agg #[.int .i64 (o.lab.d : Nat), .slice la o.lab.ps.length lc]) o.lab) := ⟨_, rfl, HV.out.lab⟩
  have HCI : Hid (PairsIn w1 (.slice ca o.clr.ps.length cc) o.clr.ps) := HV.out.clr
  clear h hV hok
  go_enter Tryz.func91, Tryz.ntmps91
  go_upto_region 1 with fail
  rw [← hw1, ← hxb]
  clear hw1 hxb
  have hx0 := HSS.out _ ((Below.refl _ w1).drew)
  obtain ⟨hx0a, hx0b, hx0c, hx0d⟩ := hx0
  first
  | go_region_held3 (fun w' => w'.cell? ⟨xb, 0, none⟩ = some (.int .i64 o.kind) ∧ w'.cell? ⟨xb, 1, none⟩ = some (.int .i64 o.parent) ∧ w'.cell? ⟨xb, 2, none⟩ = some (.int .i64 (o.lab.d : Nat)) ∧ w'.cell? ⟨xb, 3, none⟩ = some (.slice la o.lab.ps.length lc))
      (first | exact HSS.out _ ((Below.refl _ w1).drew) | exact HSS.out _ hb2 | exact HSS.out _ hb3 | exact HSS.out _ hb4)
      ((first
        | (refine Hp1.out.mono ?_; rintro e w2 ⟨v2, rfl, ho2, hb2⟩)
        | (refine (HG.out _ _ _ 1 o.parent hb2 ho2 (by omega) (by omega) (by omega) (by omega)).mono ?_; rintro e w3 ⟨v3, rfl, ho3, hb3⟩)
        | (refine (HGL.out _ _ _ _ o.lab hb3 ho3 (by omega) HLI.out hlr).mono ?_; rintro e w4 ⟨v4, rfl, ho4, hb4⟩)
        | fail))
  | fail
  all_goals
    obtain ⟨T4, hT4⟩ : ∃ T, bs ++ putL 1 o.kind ++ putL 1 o.parent ++ labP o.lab = T := ⟨_, rfl⟩
    rw [hT4] at ho4 hl3 HO
    have Ho4 := Lib.hid (row_drew ho4); have Hb4 := Lib.hid hb4; have Hb4d : Hid (Below w1.heap.size w1 w4.drew) := hb4.drew
    have Ho4' := Lib.hid ho4
    have hX4 := (HXx.out _ hb4).cell
    have HSz := HB1.out.size
    clear hT4 ho4 hb4 hb2 ho2 hb3 ho3 Hp1 hx0a hx0b hx0c hx0d HSS hcx HR1
    by_cases k1 : o.kind = 1
    · have k1b : (o.kind == 1) = true := by simp [k1]
      obtain ⟨⟨g1, g2⟩, ⟨g3, g4⟩⟩ := Hok.out.k1 k1
      have hw1 : IntKind.u64.wrap o.pages = o.pages := IntWalk.u64_in _ (by omega)
      have hw2 : IntKind.u64.wrap o.names = o.names := IntWalk.u64_in _ (by omega)
      have HO2 : Hid (bs ++ objP o = T4 ++ putL 2 o.pages ++ putL 4 o.names) := by
        show _ = _
        rw [HO.out, if_pos k1]
        simp only [List.append_assoc]
      have hl5 : (T4 ++ putL 2 o.pages).length ≤ 500110 := by rw [List.length_append, putL_len]; omega
      clear k1
      have HSk : Hid (∀ w', Below w1.heap.size w1 w' → w'.cell? ⟨xb, 6, none⟩ = some (.int .i64 o.pages) ∧ w'.cell? ⟨xb, 7, none⟩ = some (.int .i64 o.names)) := fun w' k => by
        have h1 := HXx.out w' k
        exact ⟨h1.cell 6, h1.cell 7⟩
      have hz0 := HSk.out _ Hb4d.out
      obtain ⟨hz6, hz7⟩ := hz0
      go_wp2_with fail
      first
      | go_region_held3 (fun w' => w'.cell? ⟨xb, 6, none⟩ = some (.int .i64 o.pages) ∧ w'.cell? ⟨xb, 7, none⟩ = some (.int .i64 o.names))
          (first | exact HSk.out _ Hb4d.out | exact HSk.out _ hb5 | exact HSk.out _ hb6)
          ((first
            | (refine (HG.out T4 _ _ 2 o.pages Hb4d.out Ho4.out (by omega) (by omega) (by omega) (by omega)).mono ?_; rintro e w5 ⟨v5, rfl, ho5, hb5⟩)
            | (refine (HG.out _ _ _ 4 o.names hb5 ho5 (by omega) (by omega) (by omega) (by omega)).mono ?_; rintro e w6 ⟨v6, rfl, ho6, hb6⟩)
            | fail))
      | fail
      all_goals
        go_wp2_with fail
        go_ret
        refine ⟨_, rfl, ?_, bel_from HB1.out hb6⟩
        rw [HO2.out]
        exact row_base ho6 HSz
    have k1b : (o.kind == 1) = false := by simpa using k1
    by_cases k2 : o.kind = 2
    · have k2b : (o.kind == 2) = true := by simp [k2]
      obtain ⟨g1, g2⟩ := Hok.out.k2 k2
      have hw1 : IntKind.u64.wrap o.pages = o.pages := IntWalk.u64_in _ (by omega)
      have hw2 : IntKind.u64.wrap (o.data.length : Int) = o.data.length := IntWalk.u64_in _ (by omega)
      have HO2 : Hid (bs ++ objP o = T4 ++ putL 1 o.pages ++ putL 2 (o.data.length : Nat) ++ o.data) := by
        show _ = _
        rw [HO.out, if_neg k1, if_pos k2]
        simp only [List.append_assoc]
      have hl5 : (T4 ++ putL 1 o.pages).length ≤ 500110 := by rw [List.length_append, putL_len]; omega
      have hl6 : (T4 ++ putL 1 o.pages ++ putL 2 (o.data.length : Nat)).length ≤ 500120 := by rw [List.length_append, putL_len]; omega
      have HDt := Lib.hid (fun w' (k : Below w1.heap.size w1 w') => (RowAt.below HV.out.data k (Nat.le_refl _) : DataIn w' _ o.data))
      clear k1 k2
      have HSk : Hid (∀ w', Below w1.heap.size w1 w' → w'.cell? ⟨xb, 6, none⟩ = some (.int .i64 o.pages) ∧ w'.cell? ⟨xb, 8, none⟩ = some (.slice da o.data.length dc)) := fun w' k => by
        have h1 := HXx.out w' k
        exact ⟨h1.cell 6, h1.cell 8⟩
      have hz0 := HSk.out _ Hb4d.out
      obtain ⟨hz6, hz8⟩ := hz0
      go_wp2_with fail
      first
      | go_region_held3 (fun w' => w'.cell? ⟨xb, 6, none⟩ = some (.int .i64 o.pages) ∧ w'.cell? ⟨xb, 8, none⟩ = some (.slice da o.data.length dc))
          (first | exact HSk.out _ Hb4d.out | exact HSk.out _ hb5 | exact HSk.out _ hb6 | exact HSk.out _ hb7)
          ((first
            | (refine (HG.out T4 _ _ 1 o.pages Hb4d.out Ho4.out (by omega) (by omega) (by omega) (by omega)).mono ?_; rintro e w5 ⟨v5, rfl, ho5, hb5⟩)
            | (refine (HG.out _ _ _ 2 (o.data.length : Nat) hb5 ho5 (by omega) (by omega) (by omega) (by omega)).mono ?_; rintro e w6 ⟨v6, rfl, ho6, hb6⟩)
            | (refine step_row_bytes (by rfl) (.tmp 46) (.tmp 48) (by rfl) w1.heap.size _ o.data _ _ rfl ho6 (by rfl) (HDt.out _ hb6) (by omega) hb6.size ?_; intro v7 w7 ho7 hg7; have hb7 : Below w1.heap.size w1 w7 := hb6.grown hg7 hb6.size (fun b e => (ho6.lt b e).1))
            | fail))
      | fail
      all_goals
        go_wp2_with fail
        go_ret
        refine ⟨_, rfl, ?_, bel_from HB1.out hb7⟩
        rw [HO2.out]
        exact row_base ho7 HSz
    have k2b : (o.kind == 2) = false := by simpa using k2
    by_cases k4 : o.kind = 4
    · have k4b : (o.kind == 4) = true := by simp [k4]
      have hm16 := hml k4
      have Hmo := Lib.hid (Hok.out.k4 k4)
      have hwl : IntKind.u64.wrap (o.maps.length : Int) = o.maps.length := IntWalk.u64_in _ (by omega)
      have HO2 : Hid (bs ++ objP o = T4 ++ putL 1 (o.maps.length : Nat) ++ o.maps.flatMap mapP) := by
        show _ = _
        rw [HO.out, if_neg k1, if_neg k2, if_pos k4]
        simp only [List.append_assoc]
      have HMs := Lib.hid (fun w' (k : Below w1.heap.size w1 w') => (RowAt.below HV.out.maps k (Nat.le_refl _) : MapsIn w' _ o.maps))
      have Hp5 := Lib.hid (HG.out T4 v4 w4 1 (o.maps.length : Nat) Hb4.out Ho4'.out (by omega) (by omega) (by omega) (by omega))
      clear k1 k2 k4 hml
      go_wp2_with fail
      refine Hp5.out.mono ?_
      rintro e w5 ⟨v5, rfl, ho5, hb5⟩
      obtain ⟨T5, hT5⟩ : ∃ T, T4 ++ putL 1 (o.maps.length : Nat) = T := ⟨_, rfl⟩
      have hl5 : T5.length ≤ 500110 := by rw [← hT5, List.length_append, putL_len]; omega
      rw [hT5] at ho5 HO2
      have Ho5 := Lib.hid ho5; have Hb5 := Lib.hid hb5
      have hX5 := (HXx.out _ hb5).cell
      clear hT5 ho5 hb5 hX4 Hp5
      go_wp2_with fail
      go_loopg [0, 6, 7, 9, 61, 80] o.maps.length (fun g u0 _ _ _ vi _ wx => ∃ (j : Nat) (v0 : Value), j + g = o.maps.length ∧ vi = .int .i64 j ∧ v0 = u0 ∧ Hid (wx.ownsRow w1.heap.size 5 1 v0 (T5 ++ (o.maps.take j).flatMap mapP).length ((T5 ++ (o.maps.take j).flatMap mapP).map byteV)) ∧ Hid (Below w1.heap.size w1 wx))
      case atStart => exact ⟨0, _, by omega, rfl, rfl, by rw [List.take_zero, List.flatMap_nil, List.append_nil]; exact Ho5, Hb5⟩
      case round =>
        obtain ⟨j, v0, hj, rfl, rfl, HR, HB⟩ := hrel
        by_cases hlt : j < o.maps.length
        · have hlt' : (j : Int) < o.maps.length := by omega
          obtain ⟨m, hm⟩ : ∃ m, o.maps[j]? = some m := ⟨_, List.getElem?_eq_getElem hlt⟩
          obtain ⟨b, rfl, -, m0, m1, m2, m3, m4⟩ := MapsIn.at (HMs.out wr HB.out) hm
          obtain ⟨⟨a0, a1⟩, ⟨s0, s1⟩, ⟨f0, f1⟩, ⟨n0, n1⟩⟩ := Hmo.out m (List.mem_of_getElem? hm)
          have Hnx : Hid (T5 ++ (o.maps.take (j + 1)).flatMap mapP = T5 ++ (o.maps.take j).flatMap mapP ++ ([m.at_, m.seg, m.from_, m.n, (if m.wr then 1 else 0)] : List Int).flatMap (putL 2)) := by
            show _ = _
            rw [List.take_add_one, hm, ← mapP_eq]; simp
          have hTl : (T5 ++ (o.maps.take j).flatMap mapP).length ≤ 500500 := by
            have h2 : (o.maps.take j).length ≤ 16 := by rw [List.length_take]; omega
            rw [List.length_append, mapsP_len]; omega
          obtain ⟨T6, hT6⟩ : ∃ T, T5 ++ (o.maps.take j).flatMap mapP = T := ⟨_, rfl⟩
          rw [hT6] at HR hTl Hnx
          obtain ⟨zb, hzb⟩ : ∃ zb, zb = wr.heap.size := ⟨_, rfl⟩
          obtain ⟨w6, hw6⟩ : ∃ w6 : World, w6 = wr.alloc (.cells #[.int .i64 m.at_, .int .u64 m.seg, .int .i64 m.from_, .int .i64 m.n, .bool m.wr] 157) := ⟨_, rfl⟩
          have HZ : Hid (Blk w6 zb #[.int .i64 m.at_, .int .u64 m.seg, .int .i64 m.from_, .int .i64 m.n, .bool m.wr] 157) := by rw [hw6, hzb]; exact Blk.new _ _ _
          have HB6 : Hid (Below w1.heap.size w1 w6) := by rw [hw6]; exact HB.out.alloc HB.out.size _
          have HR6 : Hid (w6.ownsRow w1.heap.size 5 1 v0 T6.length (T6.map byteV)) := by rw [hw6]; exact HR.out.alloc _
          have hZ := HZ.out.cell
          have x1 : IntKind.u64.wrap m.at_ = m.at_ := IntWalk.u64_in _ (by omega)
          have x2 : IntKind.u64.wrap m.from_ = m.from_ := IntWalk.u64_in _ (by omega)
          have x3 : IntKind.u64.wrap m.n = m.n := IntWalk.u64_in _ (by omega)
          clear hT6 hm hX5
          go_upto_region 12 with fail
          rw [← hw6, ← hzb]
          clear hw6 hzb
          go_upto_if 66 with fail
          go_cut [7] (fun v wx => v = .int .u64 (if m.wr then 1 else 0) ∧ w6 = wx)
          case first =>
            cases hwr : m.wr
            all_goals
              go_wp2_with fail
              go_meet
              exact ⟨by rw [hwr]; rfl, rfl⟩
          case rest =>
          obtain ⟨rfl, hwc⟩ := hcut
          obtain rfl : w6 = wc := hwc
          obtain ⟨y, hy⟩ : ∃ y : Int, (if m.wr then 1 else 0) = y := ⟨_, rfl⟩
          have hy1 : 0 ≤ y ∧ y ≤ 1 := by rw [← hy]; split <;> omega
          rw [hy] at Hnx ⊢
          obtain ⟨L, hL⟩ : ∃ L, ([m.at_, m.seg, m.from_, m.n, y] : List Int) = L := ⟨_, rfl⟩
          have HLb : Hid (∀ x ∈ L, 0 ≤ x ∧ x ≤ 18446744073709551615) := fun x hx => by
            rw [← hL] at hx
            simp only [List.mem_cons, List.not_mem_nil, or_false] at hx
            rcases hx with rfl | rfl | rfl | rfl | rfl <;> omega
          have HLl : Hid (L.length = 5) := by rw [← hL]; exact Lib.hid rfl
          have Hix : Hid (∀ (i : Nat) (x : Int), L[i]? = some x → ∀ w, (Instr.index 203 (.agg #[.int .u64 m.at_, .int .u64 m.seg, .int .u64 m.from_, .int .u64 m.n, .int .u64 y]) (.int .i64 i)).run Tryz.prog w = .ok (.int .u64 x) w) := fun i x hx w => by
            have hi : i < 5 := by have := (List.getElem?_eq_some_iff.1 hx).1; rw [HLl.out] at this; exact this
            have := ix5 m.at_ m.seg m.from_ m.n y i hi w
            rw [hL, List.getD, hx] at this
            exact this
          rw [hL] at Hnx
          clear hL hy
          go_wp2_with fail
          go_loopg [0, 9, 80] 5 (fun g u0 _ vi wx => ∃ (i : Nat) (v7 : Value), i + g = 5 ∧ vi = .int .i64 i ∧ v7 = u0 ∧ Hid (wx.ownsRow w1.heap.size 5 1 v7 (T6 ++ (L.take i).flatMap (putL 2)).length ((T6 ++ (L.take i).flatMap (putL 2)).map byteV)) ∧ Hid (Below w1.heap.size w1 wx))
          case atStart => exact ⟨0, _, by omega, rfl, rfl, by rw [List.take_zero, List.flatMap_nil, List.append_nil]; exact HR6, HB6⟩
          case round =>
            obtain ⟨i, v7, hi, rfl, rfl, HR7, HB7⟩ := hrel
            by_cases hi5 : i < 5
            · have hi5' : (i : Int) < 5 := by omega
              obtain ⟨x, hx⟩ : ∃ x, L[i]? = some x := ⟨_, List.getElem?_eq_getElem (by rw [HLl.out]; exact hi5)⟩
              have hxb := HLb.out x (List.mem_of_getElem? hx)
              have Hn7 : Hid (T6 ++ (L.take (i + 1)).flatMap (putL 2) = T6 ++ (L.take i).flatMap (putL 2) ++ putL 2 x) := by
                show _ = _
                rw [List.take_add_one, hx]; simp
              have hT7 : (T6 ++ (L.take i).flatMap (putL 2)).length ≤ 500520 := by
                have h1 : ∀ l : List Int, (l.flatMap (putL 2)).length = l.length * 2 := fun l => by
                  induction l with
                  | nil => rfl
                  | cons p r ih => rw [List.flatMap_cons, List.length_append, ih, List.length_cons, putL_len]; omega
                have h2 : (L.take i).length ≤ 5 := by rw [List.length_take]; omega
                rw [List.length_append, h1]; omega
              have Hix2 := Lib.hid (Hix.out i x hx)
              have Hp7 := Lib.hid (HG.out _ v7 wr 2 x HB7.out HR7.out (by omega) (by omega) hxb.1 hxb.2)
              clear hx
              go_wp2_with (refine wpList_ix' rfl rfl (Hix2.out _) ?_)
              refine Hp7.out.mono ?_
              rintro e w8 ⟨v8, rfl, ho8, hb8⟩
              have Ho8 := Lib.hid ho8; have Hb8 := Lib.hid hb8
              clear ho8 hb8
              go_wp2_with fail
              go_roundg (5 - (i + 1))
              case measure => omega
              case rel => exact ⟨i + 1, _, by omega, by go_num, rfl, by rw [Hn7.out]; exact Ho8, Hb8⟩
            · obtain rfl : i = 5 := by omega
              have hLt : L.take 5 = L := List.take_of_length_le (by rw [HLl.out]; exact Nat.le_refl _)
              rw [hLt] at HR7
              clear hLt
              go_wp2_with fail
              go_roundg (o.maps.length - (j + 1))
              case measure => omega
              case rel => exact ⟨j + 1, _, by omega, by go_num, rfl, by rw [Hnx.out]; exact HR7, HB7⟩
        · obtain rfl : j = o.maps.length := by omega
          rw [List.take_length] at HR
          go_wp2_with fail
          go_ret
          refine ⟨_, rfl, ?_, bel_from HB1.out HB.out⟩
          rw [HO2.out]
          exact row_base HR.out HSz
    have k4b : (o.kind == 4) = false := by simpa using k4
    by_cases k35 : o.kind = 3 ∨ o.kind = 5
    · obtain ⟨hcr, ⟨g1, g2⟩, ⟨g3, g4⟩⟩ := Hok.out.k35 k35
      have hw1 : IntKind.u64.wrap o.space = o.space := IntWalk.u64_in _ (by omega)
      have hw2 : IntKind.u64.wrap o.pc = o.pc := IntWalk.u64_in _ (by omega)
      have HO2 : Hid (bs ++ objP o = T4 ++ labP o.clr ++ putL 1 o.space ++ putL 4 o.pc) := by
        show _ = _
        rw [HO.out, if_neg k1, if_neg k2, if_neg k4, if_pos k35]
        simp only [List.append_assoc]
      have hlc := labP_len hcr
      have hl5 : (T4 ++ labP o.clr).length ≤ 500200 := by rw [List.length_append]; omega
      have hl6 : (T4 ++ labP o.clr ++ putL 1 o.space).length ≤ 500210 := by rw [List.length_append, putL_len]; omega
      have hk : (o.kind = 3 ∧ (o.kind == 3) = true) ∨ ((o.kind == 3) = false ∧ (o.kind == 5) = true) := by
        rcases Decidable.em (o.kind = 3) with h | h
        · exact .inl ⟨h, by simp [h]⟩
        · exact .inr ⟨by simpa using h, by rcases k35 with h' | h'; exact absurd h' h; simp [h']⟩
      clear k1 k2 k4 k35
      rcases hk with ⟨-, k3⟩ | ⟨k3, k5⟩
      all_goals
        have HSk : Hid (∀ w', Below w1.heap.size w1 w' → w'.cell? ⟨xb, 4, none⟩ = some (.int .i64 (o.clr.d : Nat)) ∧ w'.cell? ⟨xb, 5, none⟩ = some (.slice ca o.clr.ps.length cc) ∧ w'.cell? ⟨xb, 10, none⟩ = some (.int .i64 o.space) ∧ w'.cell? ⟨xb, 11, none⟩ = some (.int .i64 o.pc)) := fun w' k => by
          have h1 := HXx.out w' k
          exact ⟨h1.cell 4, h1.cell 5, h1.cell 10, h1.cell 11⟩
        have hz0 := HSk.out _ Hb4d.out
        obtain ⟨hz4, hz5, hz10, hz11⟩ := hz0
        go_wp2_with fail
        first
        | go_region_held3 (fun w' => w'.cell? ⟨xb, 4, none⟩ = some (.int .i64 (o.clr.d : Nat)) ∧ w'.cell? ⟨xb, 5, none⟩ = some (.slice ca o.clr.ps.length cc) ∧ w'.cell? ⟨xb, 10, none⟩ = some (.int .i64 o.space) ∧ w'.cell? ⟨xb, 11, none⟩ = some (.int .i64 o.pc))
            (first | exact HSk.out _ Hb4d.out | exact HSk.out _ hb5 | exact HSk.out _ hb6 | exact HSk.out _ hb7)
            ((first
              | (refine (HGL.out T4 _ _ (.agg #[.int .i64 (o.clr.d : Nat), .slice ca o.clr.ps.length cc]) o.clr Hb4d.out Ho4.out (by omega) ⟨_, rfl, HCI.out⟩ hcr).mono ?_; rintro e w5 ⟨v5, rfl, ho5, hb5⟩)
              | (refine (HG.out _ _ _ 1 o.space hb5 ho5 (by omega) (by omega) (by omega) (by omega)).mono ?_; rintro e w6 ⟨v6, rfl, ho6, hb6⟩)
              | (refine (HG.out _ _ _ 4 o.pc hb6 ho6 (by omega) (by omega) (by omega) (by omega)).mono ?_; rintro e w7 ⟨v7, rfl, ho7, hb7⟩)
              | fail))
        | fail
        all_goals
          go_wp2_with fail
          go_ret
          refine ⟨_, rfl, ?_, bel_from HB1.out hb7⟩
          rw [HO2.out]
          exact row_base ho7 HSz
    · have k3b : (o.kind == 3) = false := by simp; exact fun h => k35 (.inl h)
      have k5b : (o.kind == 5) = false := by simp; exact fun h => k35 (.inr h)
      have HO2 : Hid (bs ++ objP o = T4) := by
        show _ = _
        rw [HO.out, if_neg k1, if_neg k2, if_neg k4, if_neg k35, List.append_nil]
      go_wp2_with fail
      go_ret
      refine ⟨_, rfl, ?_, bel_from HB1.out Hb4.out⟩
      rw [HO2.out]
      exact row_base Ho4'.out HSz
end Go.Proofs.YtjjnidbggoaonaaGreatDoor
