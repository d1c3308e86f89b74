/- The printer's objects. -/
import Derived.Test.YtjjnidbggoaonaaGreatDoorWoPc
import Derived.Test.YtjjnidbggoaonaaGreatDoorWoKi
import Derived.Test.YtjjnidbggoaonaaGreatDoorWoHo
import Derived.Deep.RegionWith
namespace Go.Proofs.YtjjnidbggoaonaaGreatDoor
open Go.RowKit
attribute [local irreducible] World.setCell World.alloc World.drew World.setRow Calls Code.wp
attribute [local go_sem] Oper.semAt_some

theorem wpList_ix {P : Program} {ops : Array Oper} {rest : List Oper} {a : Act} {w : World} {Q : Exit → Act → World → Prop} {d : Option Tmp} {T t : TypeId} {p : String} {e : Array Edge} {x y : Operand} {u s v : Value}
    (hx : a.eval x = u) (hy : a.eval y = s) (hr : (Instr.index T u s).run P w = .ok v w) (h : wpList P ops Q rest (a.put d v) w) : wpList P ops Q (⟨d, .index T x y, t, p, e, none⟩ :: rest) a w :=
  wpList_plain rfl fun _ hK => by
    unfold Oper.wp
    simp only [execOp, hx, hy, hr, Sem.run_bind, Result.andThen_ok, Sem.run_pure]
    exact hK _ _ h
theorem enters_map {P : Program} {f : FuncId} (h : (P.funcs[f]?).map (fun fn => (fn.name == "runtime.NumGoroutine", fn.body.isSome)) = some (false, true)) (vs : Array Value) (w : World) : (callFunc f vs).run P w = .ok (.enter f vs) w := by
  obtain ⟨fn, hf, h2⟩ := Option.map_eq_some_iff.1 h
  simp only [Prod.mk.injEq] at h2
  obtain ⟨c, hc⟩ := Option.isSome_iff_exists.1 h2.2
  exact enters_fn hf h2.1 hc vs w
theorem ix3 (a b c : Int) (j : Nat) (hj : j < 3) (w : World) :
    (Instr.index 115 (.agg #[.int .i64 a, .int .i64 b, .int .i64 c]) (.int .i64 j)).run Tryz.prog w = .ok (.int .i64 (([a, b, c] : List Int).getD j 0)) w := by
  obtain rfl | rfl | rfl : j = 0 ∨ j = 1 ∨ j = 2 := by omega
  all_goals kernel_rfl
def comT (n : Int) : List UInt8 := 44 :: Lib.itoa n
def howT (m : WMap) : List UInt8 := if m.wr then [119] else [114]
theorem mapT_eq (m : WMap) : mapT m = numT m.at_ ++ ([m.seg, m.from_, m.n] : List Int).flatMap comT ++ (44 :: howT m) := by
  unfold mapT numT comT howT
  simp
theorem numT_len (n : Int) (h0 : -9223372036854775808 ≤ n) (h1 : n ≤ 9223372036854775807) : (numT n).length ≤ 30 := by
  have := Lib.itoa_length_le n h0 h1
  unfold numT; rw [List.length_cons]; omega
theorem comT_len (n : Int) (h0 : -9223372036854775808 ≤ n) (h1 : n ≤ 9223372036854775807) : (comT n).length ≤ 30 := by
  have := Lib.itoa_length_le n h0 h1
  unfold comT; rw [List.length_cons]; omega
theorem kind_short : ∀ k : Nat, k < 7 → (kindW.getD k []).length ≤ 10 := by decide
theorem maps_len : ∀ (l : List WMap), (∀ m ∈ l, m.ok) → (l.flatMap mapT).length ≤ l.length * 50
  | [], _ => Nat.zero_le _
  | m :: r, h => by
    have h1 := maps_len r fun x hx => h x (List.mem_cons_of_mem _ hx)
    have h2 := map_short (h m List.mem_cons_self)
    rw [List.flatMap_cons, List.length_append, List.length_cons, mapK_T, List.length_cons]
    omega
/-- What an object must be to be printed. -/
structure WObj.pr (o : WObj) : Prop where
  lab : o.lab.right = true
  clr : o.kind = 3 ∨ o.kind = 5 → o.clr.right = true
  ms : o.kind = 4 → o.maps.length ≤ 16 ∧ ∀ m ∈ o.maps, m.ok
  dl : o.data.length ≤ 100000
set_option maxRecDepth 100000 in
set_option maxHeartbeats 8000000 in
theorem pobj_any (w0 : World) (B p : Nat) (l : List UInt8) (o : WObj) (k : Nat) (ls lc0 vd vm : Value) (w : World) (h : PB B p l w) (hl : l.length ≤ 500000) (hV : ObjV w0 o ls lc0 vd vm) (hbd : o.bd) (hpr : o.pr) (hk : o.kind = (k : Nat)) (hk7 : k < 7) (hpow : HasPow w0) (hsp : HasSp w0) (hw : w0.heap.size ≤ B) (hb : Below B w0 w) :
    Calls Tryz.prog 50 #[.pointer (some ⟨p, 0, none⟩), .agg #[.int .i64 (k : Nat), .int .i64 o.parent, .int .i64 (o.lab.d : Nat), ls, .int .i64 (o.clr.d : Nat), lc0, .int .i64 o.pages, .int .i64 o.names, vd, vm, .int .i64 o.space, .int .i64 o.pc]] w fun e w' => e = .returned (.tuple #[]) ∧ PB B p (l ++ objT o) w' ∧ PK B p w w' := by
  obtain ⟨la, lc, rfl, -, -⟩ := RowAt.form hV.lab
  obtain ⟨ca, cc, rfl, -, -⟩ := RowAt.form hV.clr
  obtain ⟨da, dc, rfl, -, -⟩ := RowAt.form hV.data
  obtain ⟨ma, mc, rfl, -, -⟩ := RowAt.form hV.maps
  have hge := h.ge
  have hB : B ≤ w.heap.size := by omega
  obtain ⟨xb, hxb⟩ : ∃ xb, xb = w.heap.size := ⟨_, rfl⟩
  obtain ⟨wa, hwa⟩ : ∃ wa : World, wa = w.alloc (.cells #[.int .i64 (k : Nat), .int .i64 o.parent, .int .i64 (o.lab.d : Nat), .slice la o.lab.ps.length lc, .int .i64 (o.clr.d : Nat), .slice ca o.clr.ps.length cc, .int .i64 o.pages, .int .i64 o.names, .slice da o.data.length dc, .slice ma o.maps.length mc, .int .i64 o.space, .int .i64 o.pc] 107) := ⟨_, rfl⟩
  have HX : Hid (Blk wa xb #[.int .i64 (k : Nat), .int .i64 o.parent, .int .i64 (o.lab.d : Nat), .slice la o.lab.ps.length lc, .int .i64 (o.clr.d : Nat), .slice ca o.clr.ps.length cc, .int .i64 o.pages, .int .i64 o.names, .slice da o.data.length dc, .slice ma o.maps.length mc, .int .i64 o.space, .int .i64 o.pc] 107) := by rw [hwa, hxb]; exact Blk.new _ _ _
  have HKa : Hid (PK B p w wa) := by rw [hwa]; exact (PK.refl B p w).alloc hB _
  have HPa : Hid (PB B p l wa) := by rw [hwa]; exact h.below ((Below.refl _ w).alloc (Nat.le_refl _) _)
  have Hxp : Hid (xb ≠ p) := by show _ ≠ _; omega
  have HKw : Hid (∀ w', PK B p wa w' → PK B p w w') := fun w' q => HKa.out.trans q
  have HBx : Hid (∀ w', PK B p wa w' → Below B w0 w') := fun w' q => hb.trans (HKa.out.trans q).bel
  have HBs : Hid (∀ w', PK B p wa w' → B ≤ w'.heap.size) := fun w' q => Nat.le_trans hB (HKa.out.trans q).size
  have HXx : Hid (∀ w', PK B p wa w' → Blk w' xb #[.int .i64 (k : Nat), .int .i64 o.parent, .int .i64 (o.lab.d : Nat), .slice la o.lab.ps.length lc, .int .i64 (o.clr.d : Nat), .slice ca o.clr.ps.length cc, .int .i64 o.pages, .int .i64 o.names, .slice da o.data.length dc, .slice ma o.maps.length mc, .int .i64 o.space, .int .i64 o.pc] 107) := fun w' q => q.blk HX.out Hxp.out (by decide)
  have HV := Lib.hid hV
  have Hpow := Lib.hid hpow
  have Hpr := Lib.hid hpr
  obtain ⟨kw, hkw⟩ : ∃ kw, kindW.getD k [] = kw := ⟨_, rfl⟩
  have hkl : kw.length ≤ 10 := by rw [← hkw]; exact kind_short k hk7
  have hkc : kindW[k]? = some kw := by
    rw [← hkw]
    have : k < kindW.length := hk7
    simp [List.getD, this]
  have HKK : Hid (o.kind = (k : Nat)) := hk
  have HOt : Hid (l ++ objT o = l ++ kw ++ numT o.parent ++ labT o.lab ++ partT o) := by
    show _ = _
    unfold objT
    rw [hk, Int.toNat_natCast, hkw]
    simp
  have hdsz : wa.drew.heap.size = wa.heap.size := by simp
  have HFl : Hid (Calls Tryz.prog 58 #[S kindText] wa.drew fun e w' => ∃ v, e = .returned v ∧ ∃ qb, v = .slice (some ⟨qb, 0, none⟩) 7 7 ∧ w'.cell? ⟨qb, k, none⟩ = some (S kw) ∧ PK B p wa w' ∧ Below wa.drew.heap.size wa.drew w') := by
    refine (fields_kinds wa.drew (hsp.below ((HBx.out _ ((PK.refl B p wa).drew)).mono hw))).mono ?_
    rintro e w' ⟨rfl, rfl⟩
    refine ⟨_, rfl, _, rfl, ?_, ((PK.refl B p wa).drew).alloc (by have := HBs.out _ (PK.refl B p wa); exact this) _, (Below.refl _ _).alloc (Nat.le_refl _) _⟩
    rw [(Blk.new wa.drew (kindW.map S).toArray 9).cell]
    simp only [List.getElem?_toArray, List.getElem?_map, hkc]
    rfl
  have HWd : Hid (∀ w2, PK B p wa w2 → Below wa.drew.heap.size wa.drew w2 → Calls Tryz.prog 48 #[.pointer (some ⟨p, 0, none⟩), .slice (some ⟨w2.heap.size, 0, none⟩) 1 1] (w2.alloc (.cells #[S kw] 9)) fun e w' => ∃ v, e = .returned v ∧ (v = .tuple #[] ∧ PB B p (l ++ kw) w' ∧ PK B p wa w')) := fun w2 q2 b2 => by
    have hc2 : (w2.alloc (.cells #[S kw] 9)).cell? ⟨w2.heap.size, 0, none⟩ = some (S kw) := (Blk.new w2 #[S kw] 9).cell 0
    have q3 : PK B p wa (w2.alloc (.cells #[S kw] 9)) := q2.alloc (HBs.out _ (PK.refl B p wa)) _
    have hp2 : PB B p l (w2.alloc (.cells #[S kw] 9)) := (((HPa.out.below ((Below.refl _ wa).drew)).below b2).below ((Below.refl _ w2).alloc (Nat.le_refl _) _))
    refine (pwords_any B p _ 1 l kw _ hp2 (by omega) (HBs.out _ q3) hc2).mono ?_
    rintro e w4 ⟨rfl, hp4, hk4⟩
    exact ⟨_, rfl, rfl, hp4, q3.trans hk4⟩
  have HSS : Hid (∀ w', PK B p wa w' → w'.cell? ⟨xb, 0, none⟩ = some (.int .i64 (k : Nat))) := fun w' q => (HXx.out w' q).cell 0
  have HS0 := Lib.hid (HSS.out _ ((PK.refl B p wa).drew))
  have hk7' : (k : Int) < 7 := by omega
  have hk0' : (0 : Int) ≤ k := by omega
  have HKB : Hid (B ≤ wa.heap.size) := HBs.out _ (PK.refl B p wa)
  clear h hV hpr hpow hsp hkw hkc hk
  go_enter Tryz.func50, Tryz.ntmps50
  go_upto_region 1 with fail
  rw [← hwa, ← hxb]
  clear hwa hxb hge
  have hc0 := HS0.out
  go_cut [] (fun wx => Hid (PB B p (l ++ kw) wx) ∧ Hid (PK B p wa wx))
  case first =>
    go_region_with ((first
      | (refine HFl.out.mono ?_; rintro e w2 ⟨v, rfl, qb, rfl, hq2, hk2, hb2⟩; have hc2 := HSS.out _ hk2)
      | (refine (HWd.out _ hk2 hb2).mono ?_; rintro e w4 ⟨v, rfl, rfl, hp4, hk4⟩)))
    all_goals
      go_wp2_with fail
      go_meet
      exact ⟨hp4, hk4⟩
  case rest =>
  rename World => w1
  obtain ⟨hp4, hk4⟩ := hcut
  · obtain ⟨T1, hT1⟩ : ∃ T, l ++ kw = T := ⟨_, rfl⟩
    have hl1 : T1.length ≤ l.length + 10 := by rw [← hT1, List.length_append]; omega
    rw [hT1] at hp4
    have HP1 := Lib.hid hp4; have HK1 := Lib.hid hk4; have HT1 := Lib.hid hT1
    have hX1 := (HXx.out _ HK1.out).cell
    clear hp4 hk4 hT1 HFl HWd HS0 hc0
    have Hn2 := Lib.hid (prnum_any w0 B p T1 (o.parent) w1 HP1.out (by omega) hbd.p.1 hbd.p.2 Hpow.out hw (HBx.out _ HK1.out))
    go_wp2_with fail
    refine Hn2.out.mono ?_
    rintro e w2 ⟨rfl, hp2, hk2⟩
    obtain ⟨T2, hT2⟩ : ∃ T, T1 ++ numT (o.parent) = T := ⟨_, rfl⟩
    rw [hT2] at hp2
    have HP2 := Lib.hid hp2; have HK2 := Lib.hid (HK1.out.trans hk2); have HT2 := Lib.hid hT2
    have hX2 := (HXx.out _ HK2.out).cell
    have hl2 : T2.length ≤ T1.length + 30 := by rw [← hT2, List.length_append]; have := numT_len (o.parent) hbd.p.1 hbd.p.2; omega
    clear hp2 hk2 hT2 Hn2 hX1
    have Hn3 := Lib.hid (plabel_any w0 B p T2 o.lab (.agg #[.int .i64 (o.lab.d : Nat), .slice la o.lab.ps.length lc]) w2 HP2.out (by omega) ⟨_, rfl, HV.out.lab⟩ ⟨(Lab.right_spec Hpr.out.lab).1.2, (Lab.right_spec Hpr.out.lab).2.1, (Lab.right_spec Hpr.out.lab).2.2⟩ Hpow.out hw (HBx.out _ HK2.out))
    go_wp2_with fail
    refine Hn3.out.mono ?_
    rintro e w3 ⟨rfl, hp3, hk3⟩
    obtain ⟨T3, hT3⟩ : ∃ T, T2 ++ labT o.lab = T := ⟨_, rfl⟩
    rw [hT3] at hp3
    have HP3 := Lib.hid hp3; have HK3 := Lib.hid (HK2.out.trans hk3); have HT3 := Lib.hid hT3
    have hX3 := (HXx.out _ HK3.out).cell
    have hl3 : T3.length ≤ T2.length + 200 := by rw [← hT3, List.length_append]; have := lab_short Hpr.out.lab; rw [labK_T, List.length_cons]; omega
    clear hp3 hk3 hT3 Hn3 hX2
    have HOt3 : Hid (l ++ objT o = T3 ++ partT o) := by show _ = _; rw [HOt.out, HT1.out, HT2.out, HT3.out]
    by_cases k1 : k = 1
    · subst k1
      have HO : Hid (l ++ objT o = T3 ++ numT o.pages ++ numT o.names) := by
        show _ = _
        rw [HOt3.out]; unfold partT
        rw [if_pos (by rw [HKK.out]; rfl)]
        simp
      have Hn4 := Lib.hid (prnum_any w0 B p T3 (o.pages) w3 HP3.out (by omega) hbd.pg.1 hbd.pg.2 Hpow.out hw (HBx.out _ HK3.out))
      go_wp2_with fail
      refine Hn4.out.mono ?_
      rintro e w4 ⟨rfl, hp4, hk4⟩
      obtain ⟨T4, hT4⟩ : ∃ T, T3 ++ numT (o.pages) = T := ⟨_, rfl⟩
      rw [hT4] at hp4
      have HP4 := Lib.hid hp4; have HK4 := Lib.hid (HK3.out.trans hk4); have HT4 := Lib.hid hT4
      have hX4 := (HXx.out _ HK4.out).cell
      have hl4 : T4.length ≤ T3.length + 30 := by rw [← hT4, List.length_append]; have := numT_len (o.pages) hbd.pg.1 hbd.pg.2; omega
      clear hp4 hk4 hT4 Hn4 hX3
      have Hn5 := Lib.hid (prnum_any w0 B p T4 (o.names) w4 HP4.out (by omega) hbd.nm.1 hbd.nm.2 Hpow.out hw (HBx.out _ HK4.out))
      go_wp2_with fail
      refine Hn5.out.mono ?_
      rintro e w5 ⟨rfl, hp5, hk5⟩
      obtain ⟨T5, hT5⟩ : ∃ T, T4 ++ numT (o.names) = T := ⟨_, rfl⟩
      rw [hT5] at hp5
      have HP5 := Lib.hid hp5; have HK5 := Lib.hid (HK4.out.trans hk5); have HT5 := Lib.hid hT5
      have hX5 := (HXx.out _ HK5.out).cell
      have hl5 : T5.length ≤ T4.length + 30 := by rw [← hT5, List.length_append]; have := numT_len (o.names) hbd.nm.1 hbd.nm.2; omega
      clear hp5 hk5 hT5 Hn5 hX4
      go_wp2_with fail
      first | (refine bodyPost_end (results_none rfl _ _ _) rfl ?_) | (refine bodyPost_ret (results_none rfl _ _ _) rfl ?_)
      refine ⟨rfl, ?_, HKw.out _ HK5.out⟩
      rw [HO.out, HT4.out, HT5.out]
      exact HP5.out
    by_cases k2 : k = 2
    · subst k2
      have HO : Hid (l ++ objT o = T3 ++ numT o.pages ++ hexT o.data) := by
        show _ = _
        rw [HOt3.out]; unfold partT
        rw [if_neg (by rw [HKK.out]; decide), if_pos (by rw [HKK.out]; rfl)]
        simp
      have hdl := Hpr.out.dl
      have Hn4 := Lib.hid (prnum_any w0 B p T3 (o.pages) w3 HP3.out (by omega) hbd.pg.1 hbd.pg.2 Hpow.out hw (HBx.out _ HK3.out))
      go_wp2_with fail
      refine Hn4.out.mono ?_
      rintro e w4 ⟨rfl, hp4, hk4⟩
      obtain ⟨T4, hT4⟩ : ∃ T, T3 ++ numT (o.pages) = T := ⟨_, rfl⟩
      rw [hT4] at hp4
      have HP4 := Lib.hid hp4; have HK4 := Lib.hid (HK3.out.trans hk4); have HT4 := Lib.hid hT4
      have hX4 := (HXx.out _ HK4.out).cell
      have hl4 : T4.length ≤ T3.length + 30 := by rw [← hT4, List.length_append]; have := numT_len (o.pages) hbd.pg.1 hbd.pg.2; omega
      clear hp4 hk4 hT4 Hn4 hX3
      have Hn5 := Lib.hid (phex_any w0 B p T4 o.data (.slice da o.data.length dc) w4 HP4.out (by omega) HV.out.data hw (HBx.out _ HK4.out))
      go_wp2_with fail
      refine Hn5.out.mono ?_
      rintro e w5 ⟨rfl, hp5, hk5⟩
      obtain ⟨T5, hT5⟩ : ∃ T, T4 ++ hexT o.data = T := ⟨_, rfl⟩
      rw [hT5] at hp5
      have HP5 := Lib.hid hp5; have HK5 := Lib.hid (HK4.out.trans hk5); have HT5 := Lib.hid hT5
      have hX5 := (HXx.out _ HK5.out).cell
      have hl5 : T5.length ≤ T4.length + (hexT o.data).length := by rw [← hT5, List.length_append]; exact Nat.add_le_add_left (Nat.le_refl _) _
      clear hp5 hk5 hT5 Hn5 hX4
      go_wp2_with fail
      first | (refine bodyPost_end (results_none rfl _ _ _) rfl ?_) | (refine bodyPost_ret (results_none rfl _ _ _) rfl ?_)
      refine ⟨rfl, ?_, HKw.out _ HK5.out⟩
      rw [HO.out, HT4.out, HT5.out]
      exact HP5.out
    by_cases k4 : k = 4
    · subst k4
      obtain ⟨hml, hmo⟩ := Hpr.out.ms HKK.out
      have Hmo := Lib.hid hmo
      have HO : Hid (l ++ objT o = T3 ++ o.maps.flatMap mapT) := by
        show _ = _
        rw [HOt3.out]; unfold partT
        rw [if_neg (by rw [HKK.out]; decide), if_neg (by rw [HKK.out]; decide), if_pos (by rw [HKK.out]; rfl)]
      clear hmo k1 k2
      go_wp2_with fail
      go_loopg [5, 6, 8, 52, 70] o.maps.length (fun g _ _ _ vi _ wx => ∃ j : Nat, j + g = o.maps.length ∧ vi = .int .i64 j ∧ Hid (PB B p (T3 ++ (o.maps.take j).flatMap mapT) wx) ∧ Hid (PK B p wa wx))
      case atStart => exact ⟨0, by omega, rfl, by rw [List.take_zero, List.flatMap_nil, List.append_nil]; exact HP3, HK3⟩
      case round =>
        obtain ⟨j, hj, rfl, HP, HK⟩ := hrel
        by_cases hlt : j < o.maps.length
        · have hlt' : (j : Int) < o.maps.length := by omega
          obtain ⟨m, hm⟩ : ∃ m, o.maps[j]? = some m := ⟨_, List.getElem?_eq_getElem hlt⟩
          obtain ⟨b, rfl, -, m0, m1, m2, m3, m4⟩ := MapsIn.at (RowAt.below HV.out.maps (HBx.out _ HK.out) hw : MapsIn wr (.slice ma o.maps.length mc) o.maps) hm
          have hok := Hmo.out m (List.mem_of_getElem? hm)
          obtain ⟨⟨a0, a1⟩, ⟨s0, s1⟩, ⟨f0, f1⟩, ⟨n0, n1⟩⟩ := hok
          have Hnx : Hid ((o.maps.take (j + 1)).flatMap mapT = (o.maps.take j).flatMap mapT ++ mapT m) := by
            show _ = _
            rw [List.take_add_one, hm]; simp
          have hTl : (T3 ++ (o.maps.take j).flatMap mapT).length ≤ 510000 := by
            have h1 := maps_len (o.maps.take j) fun x hx => Hmo.out x (List.mem_of_mem_take hx)
            have h2 : (o.maps.take j).length ≤ 16 := by rw [List.length_take]; omega
            rw [List.length_append]; omega
          obtain ⟨T4, hT4⟩ : ∃ T, T3 ++ (o.maps.take j).flatMap mapT = T := ⟨_, rfl⟩
          have HT4 := Lib.hid hT4
          rw [hT4] at HP hTl
          obtain ⟨zb, hzb⟩ : ∃ zb, zb = wr.heap.size := ⟨_, rfl⟩
          obtain ⟨w4, hw4⟩ : ∃ w4 : World, w4 = wr.alloc (.cells #[.int .i64 m.at_, .int .u64 m.seg, .int .i64 m.from_, .int .i64 m.n, .bool m.wr] 157) := ⟨_, rfl⟩
          have HZ : Hid (Blk w4 zb #[.int .i64 m.at_, .int .u64 m.seg, .int .i64 m.from_, .int .i64 m.n, .bool m.wr] 157) := by rw [hw4, hzb]; exact Blk.new _ _ _
          have HK4 : Hid (PK B p wa w4) := by rw [hw4]; exact HK.out.alloc (HBs.out _ (PK.refl B p wa)) _
          have HP4 : Hid (PB B p T4 w4) := by rw [hw4]; exact HP.out.below ((Below.refl _ wr).alloc (Nat.le_refl _) _)
          have Hzp : Hid (zb ≠ p) := by have := HP.out.ge; show zb ≠ p; omega
          have Hn5 := Lib.hid (prnum_any w0 B p T4 m.at_ w4 HP4.out (by omega) (by omega) (by omega) Hpow.out hw (HBx.out _ HK4.out))
          have hX3 := HZ.out.cell
          clear hT4 hm
          go_upto_region 15 with fail
          rw [← hw4, ← hzb]
          clear hw4 hzb
          go_wp2_with fail
          refine Hn5.out.mono ?_
          rintro e w5 ⟨rfl, hp5, hk5⟩
          obtain ⟨T5, hT5⟩ : ∃ T, T4 ++ numT m.at_ = T := ⟨_, rfl⟩
          rw [hT5] at hp5
          have HP5 := Lib.hid hp5; have HK5 := Lib.hid (HK4.out.trans hk5); have HT5 := Lib.hid hT5
          have HZ5 := Lib.hid (hk5.blk HZ.out Hzp.out (by decide))
          have hX5 := HZ5.out.cell
          have hl5 : T5.length ≤ T4.length + 30 := by rw [← hT5, List.length_append]; have := numT_len m.at_ (by omega) (by omega); omega
          have hwz : IntKind.i64.wrap m.seg = m.seg := IntWalk.i64_in _ (by omega)
          clear hp5 hk5 hT5 Hn5 hX3
          have hlh : (howT m).length = 1 := by unfold howT; split <;> rfl
          have Hmp := Lib.hid (mapT_eq m)
          go_upto_if 61 with fail
          go_cut [6] (fun v wx => v = S (howT m) ∧ w5 = wx)
          case first =>
            cases hwr : m.wr
            all_goals
              go_wp2_with fail
              go_meet
              exact ⟨by unfold howT; rw [hwr]; rfl, rfl⟩
          case rest =>
          obtain ⟨rfl, hwc⟩ := hcut
          obtain rfl : w5 = wc := hwc
          obtain ⟨L, hL⟩ : ∃ L, ([m.seg, m.from_, m.n] : List Int) = L := ⟨_, rfl⟩
          have HLb : Hid (∀ x ∈ L, -9223372036854775808 ≤ x ∧ x ≤ 9223372036854775807) := fun x hx => by
            rw [← hL] at hx
            simp only [List.mem_cons, List.not_mem_nil, or_false] at hx
            rcases hx with rfl | rfl | rfl <;> omega
          have HLl : Hid (L.length = 3) := by rw [← hL]; exact Lib.hid rfl
          have Hix : Hid (∀ (i : Nat) (x : Int), L[i]? = some x → ∀ w, (Instr.index 115 (.agg #[.int .i64 m.seg, .int .i64 m.from_, .int .i64 m.n]) (.int .i64 i)).run Tryz.prog w = .ok (.int .i64 x) w) := fun i x hx w => by
            have hi : i < 3 := by have := (List.getElem?_eq_some_iff.1 hx).1; rw [HLl.out] at this; exact this
            have := ix3 m.seg m.from_ m.n i hi w
            rw [hL, List.getD, hx] at this
            exact this
          rw [hL] at Hmp
          obtain ⟨H, hH⟩ : ∃ H, howT m = H := ⟨_, rfl⟩
          rw [hH] at Hmp hlh ⊢
          clear hL hH
          go_wp2_with fail
          go_loopg [8, 70] 3 (fun g _ vi wx => ∃ i : Nat, i + g = 3 ∧ vi = .int .i64 i ∧ Hid (PB B p (T5 ++ (L.take i).flatMap comT) wx) ∧ Hid (PK B p wa wx))
          case atStart => exact ⟨0, by omega, rfl, by rw [List.take_zero, List.flatMap_nil, List.append_nil]; exact HP5, HK5⟩
          case round =>
            obtain ⟨i, hi, rfl, HP6, HK6⟩ := hrel
            have hT6 : ∀ i, (T5 ++ (L.take i).flatMap comT).length ≤ 510200 := fun i => by
              have h1 : ∀ l : List Int, (∀ x ∈ l, -9223372036854775808 ≤ x ∧ x ≤ 9223372036854775807) → (l.flatMap comT).length ≤ l.length * 30 := fun l => by
                induction l with
                | nil => intro _; exact Nat.zero_le _
                | cons p r ih =>
                  intro h
                  have h1 := ih fun x hx => h x (List.mem_cons_of_mem _ hx)
                  have h2 := comT_len p (h p List.mem_cons_self).1 (h p List.mem_cons_self).2
                  rw [List.flatMap_cons, List.length_append, List.length_cons]; omega
              have h2 := h1 (L.take i) fun x hx => HLb.out x (List.mem_of_mem_take hx)
              have h3 : (L.take i).length ≤ 3 := by rw [List.length_take, HLl.out]; omega
              rw [List.length_append]; omega
            by_cases hi3 : i < 3
            · have hi3' : (i : Int) < 3 := by omega
              obtain ⟨x, hx⟩ : ∃ x, L[i]? = some x := ⟨_, List.getElem?_eq_getElem (by rw [HLl.out]; exact hi3)⟩
              obtain ⟨x0, x1⟩ := HLb.out x (List.mem_of_getElem? hx)
              have Hn7 : Hid (T5 ++ (L.take (i + 1)).flatMap comT = T5 ++ (L.take i).flatMap comT ++ comT x) := by
                show _ = _
                rw [List.take_add_one, hx]; simp
              have Hix2 := Lib.hid (Hix.out i x hx)
              have hl6 := hT6 i
              have hlx := Lib.itoa_length_le x x0 x1
              have hlc := comT_len x x0 x1
              obtain ⟨C, hC⟩ : ∃ C, comT x = C := ⟨_, rfl⟩
              have s1 : ∀ w, (Op.stringOp .add ⟨#[44]⟩ ⟨(Lib.itoa x).toArray⟩).run Tryz.prog w = .ok (S C) w := by rw [← hC]; exact run_saddP [44] (Lib.itoa x) (by simp; omega)
              rw [hC] at Hn7 hlc
              have Hit : Hid (Calls Tryz.prog 39 #[.int .i64 x] wr.drew fun e w' => e = .returned (S (Lib.itoa x)) ∧ Below wr.drew.heap.size wr.drew w') := itoa_any x x0 x1 wr.drew (Hpow.out.below ((HBx.out _ HK6.out.drew).mono hw))
              have Hwr : Hid (∀ w2, Below wr.drew.heap.size wr.drew w2 → Calls Tryz.prog 42 #[.pointer (some ⟨p, 0, none⟩), S C] w2 fun e w' => e = .returned (.tuple #[.int .i64 C.length, .nilIface]) ∧ PB B p (T5 ++ (L.take (i + 1)).flatMap comT) w' ∧ PK B p wa w') := fun w2 hb2 => by
                have hd : wr.drew.heap.size = wr.heap.size := by simp
                have hs2 := hb2.size
                have hs3 := HBs.out _ HK6.out
                refine (pwrite_any B p _ C w2 ((HP6.out.below ((Below.refl _ wr).drew)).below hb2) (by omega) (by omega)).mono ?_
                rintro e w3 ⟨rfl, hp3, hk3⟩
                exact ⟨rfl, by rw [Hn7.out]; exact hp3, (HK6.out.drew.trans (PK.of hb2 (by omega))).trans hk3⟩
              clear hx hC
              go_upto_region 22 with (refine wpList_ix rfl rfl (Hix2.out _) ?_)
              first
              | go_region_held3 (fun w' => True) (exact trivial) ((first
                | (refine Hit.out.mono ?_; rintro e w6 ⟨rfl, hb6⟩)
                | (refine (Hwr.out _ hb6).mono ?_; rintro e w7 ⟨rfl, hp7, hk7⟩)
                | fail))
              | fail
              all_goals
                have HP7 := Lib.hid hp7; have HK7 := Lib.hid hk7
                clear hp7 hk7 hb6
                (try simp only [Exit.inBlock, Exit.then])
                go_wp2_with fail
                go_roundg (3 - (i + 1))
                case measure => omega
                case rel => exact ⟨i + 1, by omega, by go_num, HP7, HK7⟩
            · obtain rfl : i = 3 := by omega
              have hLt : L.take 3 = L := List.take_of_length_le (by rw [HLl.out]; exact Nat.le_refl _)
              have hl6 := hT6 3
              rw [hLt] at HP6 hl6
              obtain ⟨T6, hT6'⟩ : ∃ T, T5 ++ L.flatMap comT = T := ⟨_, rfl⟩
              have HT6 := Lib.hid hT6'
              rw [hT6'] at HP6 hl6
              obtain ⟨C, hC⟩ : ∃ C, (44 : UInt8) :: H = C := ⟨_, rfl⟩
              have hlC : C.length = 2 := by rw [← hC, List.length_cons, hlh]
              have s1 : ∀ w, (Op.stringOp .add ⟨#[44]⟩ ⟨H.toArray⟩).run Tryz.prog w = .ok (S C) w := by rw [← hC]; exact run_saddP [44] H (by simp; omega)
              have Hw8 := Lib.hid (pwrite_any B p T6 C wr HP6.out (by omega) (by have := HBs.out _ HK6.out; omega))
              have HnC : Hid (T3 ++ (o.maps.take (j + 1)).flatMap mapT = T6 ++ C) := by
                show _ = _
                rw [Hnx.out, ← hC, ← HT6.out, ← HT5.out, ← HT4.out, Hmp.out]
                simp
              clear hLt hT6' hC hT6
              go_wp2_with fail
              refine Hw8.out.mono ?_
              rintro e w8 ⟨rfl, hp8, hk8⟩
              have HP8 := Lib.hid hp8; have HK8 := Lib.hid (HK6.out.trans hk8)
              clear hp8 hk8
              go_wp2_with fail
              go_roundg (o.maps.length - (j + 1))
              case measure => omega
              case rel => exact ⟨j + 1, by omega, by go_num, by rw [HnC.out]; exact HP8, HK8⟩
        · obtain rfl : j = o.maps.length := by omega
          rw [List.take_length] at HP
          go_wp2_with fail
          first | (refine bodyPost_end (results_none rfl _ _ _) rfl ?_) | (refine bodyPost_ret (results_none rfl _ _ _) rfl ?_)
          refine ⟨rfl, ?_, HKw.out _ HK.out⟩
          rw [HO.out]
          exact HP.out
    by_cases k35 : k = 3 ∨ k = 5
    · have HO : Hid (l ++ objT o = T3 ++ labT o.clr ++ numT o.space ++ numT o.pc) := by
        show _ = _
        rw [HOt3.out]; unfold partT
        rw [if_neg (by rw [HKK.out]; omega), if_neg (by rw [HKK.out]; omega), if_neg (by rw [HKK.out]; omega), if_pos (by rw [HKK.out]; omega)]
        simp
      have Hclr : Hid (o.clr.right = true) := Hpr.out.clr (by rw [HKK.out]; omega)
      clear HKK k1 k2 k4
      rcases k35 with rfl | rfl
      all_goals
        have Hn4 := Lib.hid (plabel_any w0 B p T3 o.clr (.agg #[.int .i64 (o.clr.d : Nat), .slice ca o.clr.ps.length cc]) w3 HP3.out (by omega) ⟨_, rfl, HV.out.clr⟩ ⟨(Lab.right_spec Hclr.out).1.2, (Lab.right_spec Hclr.out).2.1, (Lab.right_spec Hclr.out).2.2⟩ Hpow.out hw (HBx.out _ HK3.out))
        go_wp2_with fail
        refine Hn4.out.mono ?_
        rintro e w4 ⟨rfl, hp4, hk4⟩
        obtain ⟨T4, hT4⟩ : ∃ T, T3 ++ labT o.clr = T := ⟨_, rfl⟩
        rw [hT4] at hp4
        have HP4 := Lib.hid hp4; have HK4 := Lib.hid (HK3.out.trans hk4); have HT4 := Lib.hid hT4
        have hX4 := (HXx.out _ HK4.out).cell
        have hl4 : T4.length ≤ T3.length + 200 := by rw [← hT4, List.length_append]; have := lab_short Hclr.out; rw [labK_T, List.length_cons]; omega
        clear hp4 hk4 hT4 Hn4 hX3
        have Hn5 := Lib.hid (prnum_any w0 B p T4 (o.space) w4 HP4.out (by omega) hbd.sp.1 hbd.sp.2 Hpow.out hw (HBx.out _ HK4.out))
        go_wp2_with fail
        refine Hn5.out.mono ?_
        rintro e w5 ⟨rfl, hp5, hk5⟩
        obtain ⟨T5, hT5⟩ : ∃ T, T4 ++ numT (o.space) = T := ⟨_, rfl⟩
        rw [hT5] at hp5
        have HP5 := Lib.hid hp5; have HK5 := Lib.hid (HK4.out.trans hk5); have HT5 := Lib.hid hT5
        have hX5 := (HXx.out _ HK5.out).cell
        have hl5 : T5.length ≤ T4.length + 30 := by rw [← hT5, List.length_append]; have := numT_len (o.space) hbd.sp.1 hbd.sp.2; omega
        clear hp5 hk5 hT5 Hn5 hX4
        have Hn6 := Lib.hid (prnum_any w0 B p T5 (o.pc) w5 HP5.out (by omega) hbd.pc.1 hbd.pc.2 Hpow.out hw (HBx.out _ HK5.out))
        go_wp2_with fail
        refine Hn6.out.mono ?_
        rintro e w6 ⟨rfl, hp6, hk6⟩
        obtain ⟨T6, hT6⟩ : ∃ T, T5 ++ numT (o.pc) = T := ⟨_, rfl⟩
        rw [hT6] at hp6
        have HP6 := Lib.hid hp6; have HK6 := Lib.hid (HK5.out.trans hk6); have HT6 := Lib.hid hT6
        have hX6 := (HXx.out _ HK6.out).cell
        have hl6 : T6.length ≤ T5.length + 30 := by rw [← hT6, List.length_append]; have := numT_len (o.pc) hbd.pc.1 hbd.pc.2; omega
        clear hp6 hk6 hT6 Hn6 hX5
        go_wp2_with fail
        first | (refine bodyPost_end (results_none rfl _ _ _) rfl ?_) | (refine bodyPost_ret (results_none rfl _ _ _) rfl ?_)
        refine ⟨rfl, ?_, HKw.out _ HK6.out⟩
        rw [HO.out, HT4.out, HT5.out, HT6.out]
        exact HP6.out
    · have HO : Hid (l ++ objT o = T3) := by
        show _ = _
        rw [HOt3.out]; unfold partT
        rw [if_neg (by rw [HKK.out]; omega), if_neg (by rw [HKK.out]; omega), if_neg (by rw [HKK.out]; omega), if_neg (by rw [HKK.out]; omega), List.append_nil]
      obtain rfl | rfl : k = 0 ∨ k = 6 := by omega
      all_goals
        go_wp2_with fail
        first | (refine bodyPost_end (results_none rfl _ _ _) rfl ?_) | (refine bodyPost_ret (results_none rfl _ _ _) rfl ?_)
        refine ⟨rfl, ?_, HKw.out _ HK3.out⟩
        rw [HO.out]
        exact HP3.out
end Go.Proofs.YtjjnidbggoaonaaGreatDoor
