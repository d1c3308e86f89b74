/- glacislaw25.WorldBack: the walk. -/
import Derived.Test.YtjjnidbggoaonaaGreatDoorWoBk
namespace Go.Proofs.YtjjnidbggoaonaaGreatDoor
open Go.RowKit
attribute [local irreducible] World.setCell World.alloc World.drew World.setRow Calls Code.wp
attribute [local go_sem] Oper.semAt_some
set_option maxRecDepth 100000 in
set_option maxHeartbeats 8000000 in
theorem back_walk (p : WPlan) (v : Value) (w : World) (h : PlanIn w v p) (hbd : p.bd) (hwo : HasWo w) :
    Calls Tryz.prog 10 #[v] w fun e w' => e = .returned (.bool true) ∧ Below w.heap.size w w' := by
  obtain ⟨sv, lv, Q, rfl, hS, hL0⟩ := h
  obtain ⟨sa, sc, rfl, -, -⟩ := hS.form
  obtain ⟨h1, la, lc, rfl, hc1, hc2, h4⟩ := hL0
  have hP : PlanIn w (.agg #[.int .i64 p.cores, .int .i64 p.frames, .int .i64 p.names, .slice sa p.slots.length sc, .slice la p.l.length lc]) p := ⟨_, _, Q, rfl, hS, h1, la, lc, rfl, hc1, hc2, h4⟩
  clear h1 h4 hS
  obtain ⟨w1, hw1⟩ : ∃ w1 : World, w1 = w.alloc (.cells #[.int .i64 p.cores, .int .i64 p.frames, .int .i64 p.names, .slice sa p.slots.length sc, .slice la p.l.length lc] 54) := ⟨_, rfl⟩
  obtain ⟨xb, hxb⟩ : ∃ xb, xb = w.heap.size := ⟨_, rfl⟩
  have HX : Hid (Blk w1 xb #[.int .i64 p.cores, .int .i64 p.frames, .int .i64 p.names, .slice sa p.slots.length sc, .slice la p.l.length lc] 54) := by rw [hw1, hxb]; exact Blk.new _ _ _
  have HB1 : Hid (Below w.heap.size w w1) := by rw [hw1]; exact (Below.refl _ w).alloc (Nat.le_refl _) _
  have HP := Lib.hid (fun w' (k : Below w.heap.size w w') => hP.below k (Nat.le_refl _))
  have HW := Lib.hid (fun w' (k : Below w.heap.size w w') => hwo.below k)
  have Hlt : Hid (xb < w1.heap.size) := HX.out.lt
  have HF := Lib.hid (fit25_any w1 (HW.out w1 HB1.out))
  clear hP hwo
  go_enter Tryz.func10, Tryz.ntmps10
  go_upto_region 1 with fail
  rw [← hw1, ← hxb]
  clear hw1 hxb
  go_wp2_with fail
  refine HF.out.mono ?_
  rintro e w2 ⟨rfl, hb2⟩
  have HB2 := Lib.hid (bel_from HB1.out hb2)
  have HX2 := Lib.hid (HX.out.below hb2 Hlt.out)
  have hc2' := HX2.out.cell
  have HL := Lib.hid (light_any p _ w2 (HP.out w2 HB2.out) hbd)
  have Hlt2 : Hid (xb < w2.heap.size) := HX2.out.lt
  clear HB1 HX HF Hlt hb2
  go_wp2_with fail
  refine HL.out.mono ?_
  rintro e w3 ⟨rfl, hb3⟩
  have HB3 := Lib.hid (bel_from HB2.out hb3)
  have HX3 := Lib.hid (HX2.out.below hb3 Hlt2.out)
  have hc3' := HX3.out.cell
  clear HX2 HB2 HL Hlt2 hb3 hc2'
  by_cases hw8 : p.weight ≤ 3000
  · have HW8 := Lib.hid hw8
    rw [decide_eq_true hw8]
    clear hw8
    have HCf := Lib.hid (config_any p _ w3 (HP.out w3 HB3.out) hbd HW8.out)
    have Hlt3 : Hid (xb < w3.heap.size) := HX3.out.lt
    go_wp2_with fail
    refine HCf.out.mono ?_
    rintro e w4 ⟨ca, cl, cc, oa, ol, oc, rfl, hcf, hb4⟩
    have HB4 := Lib.hid (bel_from HB3.out hb4)
    obtain ⟨wc, hwc⟩ : ∃ wc : World, wc = w4.alloc (.cells #[.int .i64 p.cores, .int .i64 p.frames, .int .i64 p.names, .slice ca cl cc, .slice oa ol oc] 57) := ⟨_, rfl⟩
    obtain ⟨yc, hyc⟩ : ∃ yc, yc = w4.heap.size := ⟨_, rfl⟩
    have HY : Hid (Blk wc yc #[.int .i64 p.cores, .int .i64 p.frames, .int .i64 p.names, .slice ca cl cc, .slice oa ol oc] 57) := by rw [hwc, hyc]; exact Blk.new _ _ _
    have HBc4 : Hid (Below w4.heap.size w4 wc) := by rw [hwc]; exact (Below.refl _ w4).alloc (Nat.le_refl _) _
    have HBc := Lib.hid (bel_from HB4.out HBc4.out)
    have HCI := Lib.hid (hcf.below HBc4.out (Nat.le_refl _))
    have HRt := Lib.hid (cfg_right_any _ _ wc HCI.out (plan_bd hbd HW8.out))
    have Hltc : Hid (yc < wc.heap.size) := HY.out.lt
    have hcy := HY.out.cell
    clear hcf hb4 HB3 HX3 HCf Hlt3 HB4 HBc4 hc3'
    go_upto_region 6 with fail
    rw [← hwc, ← hyc]
    clear hwc hyc
    go_wp2_with fail
    refine HRt.out.mono ?_
    rintro e w5 ⟨rfl, hb5⟩
    have HB5 := Lib.hid (bel_from HBc.out hb5)
    have HY5 := Lib.hid (HY.out.below hb5 Hltc.out)
    have HCI5 := Lib.hid (HCI.out.below hb5 (Nat.le_refl _))
    have hcy5 := HY5.out.cell
    clear HRt hcy HY HBc hb5 HCI Hltc
    by_cases hr : p.cfg.right = true
    · rw [hr]
      have hwf := plan_wf hbd
      have Hok : Hid p.cfg.ok := cfg_ok hwf hr
      have hdat := plan_data p HW8.out
      have htx := plan_text hwf HW8.out hr
      have Hprn : Hid p.cfg.prn := prn_ok Hok.out hr (by omega)
      have Hen : Hid p.cfg.en := enc_ok Hok.out hr (by omega)
      have Hbk : Hid (parseC (printT p.cfg) = some p.cfg) := back_all hwf HW8.out hr
      have Htl : Hid ((printT p.cfg).length ≤ 65009) := htx
      have Hpr := Lib.hid (print_any p.cfg _ w5 HCI5.out Hprn.out (HW.out w5 HB5.out).base.pow (HW.out w5 HB5.out).base.sp)
      have Hlt5 : Hid (yc < w5.heap.size) := HY5.out.lt
      clear hr hwf hdat htx
      go_wp2_with fail
      refine Hpr.out.mono ?_
      rintro e w6 ⟨rfl, hb6⟩
      have HB6 := Lib.hid (bel_from HB5.out hb6)
      have HY6 := Lib.hid (HY5.out.below hb6 Hlt5.out)
      have HCI6 := Lib.hid (HCI5.out.below hb6 (Nat.le_refl _))
      have hcy6 := HY6.out.cell
      have Hlt6 : Hid (yc < w6.heap.size) := HY6.out.lt
      have Hpa := Lib.hid (parse_any (printT p.cfg) (by have := Htl.out; omega) w6 (HW.out w6 HB6.out))
      clear Hpr hcy5 HY5 HB5 hb6 HCI5 Hlt5
      go_wp2_with fail
      refine Hpa.out.mono ?_
      rintro e w7 ⟨hb7, hcase⟩
      rcases hcase with ⟨hn, -⟩ | ⟨c, x, y, z, sa2, sl2, sc2, oa2, ol2, oc2, hc, rfl, hv⟩
      · exact absurd (hn.symm.trans Hbk.out) (by simp)
      obtain rfl : c = p.cfg := Option.some.inj (hc.symm.trans Hbk.out)
      have HB7 := Lib.hid (bel_from HB6.out hb7)
      have HY7 := Lib.hid (HY6.out.below hb7 Hlt6.out)
      have HCI7 := Lib.hid (HCI6.out.below hb7 (Nat.le_refl _))
      have Hlt7 : Hid (yc < w7.heap.size) := HY7.out.lt
      obtain ⟨wd, hwd⟩ : ∃ wd : World, wd = w7.alloc (.cells #[.int .i64 x, .int .i64 y, .int .i64 z, .slice sa2 sl2 sc2, .slice oa2 ol2 oc2] 57) := ⟨_, rfl⟩
      obtain ⟨yd, hyd⟩ : ∃ yd, yd = w7.heap.size := ⟨_, rfl⟩
      have HD : Hid (Blk wd yd #[.int .i64 x, .int .i64 y, .int .i64 z, .slice sa2 sl2 sc2, .slice oa2 ol2 oc2] 57) := by rw [hwd, hyd]; exact Blk.new _ _ _
      have HBd7 : Hid (Below w7.heap.size w7 wd) := by rw [hwd]; exact (Below.refl _ w7).alloc (Nat.le_refl _) _
      have HBd := Lib.hid (bel_from HB7.out HBd7.out)
      have HYd := Lib.hid (HY7.out.below HBd7.out Hlt7.out)
      have HCId := Lib.hid (HCI7.out.below HBd7.out (Nat.le_refl _))
      have HDI := Lib.hid (hv.below HBd7.out (Nat.le_refl _))
      have hcyd := HYd.out.cell
      have hcd := HD.out.cell
      have Hltd : Hid (yc < wd.heap.size) := HYd.out.lt
      have Hltd2 : Hid (yd < wd.heap.size) := HD.out.lt
      have Hal := Lib.hid (alike_any _ _ _ _ wd HCId.out HDI.out Hen.out Hen.out)
      rw [beq_self_eq_true] at Hal
      obtain ⟨sv1, ov1, e1, -, hO1⟩ := HCId.out
      cases e1
      obtain ⟨_, _, e1, -⟩ := hO1.form
      cases e1
      obtain ⟨sv1, ov1, e1, -, hO1⟩ := HDI.out
      cases e1
      obtain ⟨_, _, e1, -⟩ := hO1.form
      cases e1
      clear hc hv HB6 HY6 HCI6 Hlt6 hb7 hcy6 Hpa HB7 HY7 HCI7 Hlt7 HBd7
      go_upto_region 10 with fail
      rw [← hwd, ← hyd]
      clear hwd hyd
      go_wp2_with fail
      refine Hal.out.mono ?_
      rintro e w8 ⟨rfl, hb8⟩
      have HB8 := Lib.hid (bel_from HBd.out hb8)
      have HY8 := Lib.hid (HYd.out.below hb8 Hltd.out)
      have HD8 := Lib.hid (HD.out.below hb8 Hltd2.out)
      have HDI8 := Lib.hid (HDI.out.below hb8 (Nat.le_refl _))
      have hcy8 := HY8.out.cell
      have hcd8 := HD8.out.cell
      have Hltd : Hid (yc < w8.heap.size) := HY8.out.lt
      have Hltd2 : Hid (yd < w8.heap.size) := HD8.out.lt
      have Hpr2 := Lib.hid (print_any p.cfg _ w8 HDI8.out Hprn.out (HW.out w8 HB8.out).base.pow (HW.out w8 HB8.out).base.sp)
      clear hcyd hcd HYd HD HDI HCId HBd hb8
      go_wp2_with fail
      refine Hpr2.out.mono ?_
      rintro e w9 ⟨rfl, hb9⟩
      have HB9 := Lib.hid (bel_from HB8.out hb9)
      have hcy9 := (HY8.out.below hb9 Hltd.out).cell
      have hcd9 := (HD8.out.below hb9 Hltd2.out).cell
      clear hcy8 hcd8 hb9
      go_wp2_with fail
      go_ret
      exact ⟨rfl, HB9.out⟩
    · rw [Bool.not_eq_true] at hr
      rw [hr]
      go_wp2_with fail
      go_ret
      exact ⟨rfl, HB5.out⟩
  · rw [decide_eq_false hw8]
    go_wp2_with fail
    go_ret
    exact ⟨rfl, HB3.out⟩
theorem back_law (v : Value) (W : World) (hv : ∃ q : WPlan, PlanIn W v q ∧ q.bd) (h : HasWo W) :
    Calls Tryz.prog 10 #[v] W fun e W' => e = .returned (.bool true) ∧ Below W.heap.size W W' := by
  obtain ⟨q, h1, h2⟩ := hv
  exact back_walk q v W h1 h2 h
end Go.Proofs.YtjjnidbggoaonaaGreatDoor
