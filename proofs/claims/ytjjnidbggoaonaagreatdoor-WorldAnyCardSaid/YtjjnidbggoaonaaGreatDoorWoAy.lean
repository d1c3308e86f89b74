/- glacislaw25.WorldAny: the walk. -/
import Derived.Test.YtjjnidbggoaonaaGreatDoorWoBk
import Derived.Test.YtjjnidbggoaonaaGreatDoorZaB
import Derived.Laws.IdiomStrings
namespace Go.Proofs.YtjjnidbggoaonaaGreatDoor
open Go.RowKit
/-- The row that a conversion of a string makes. -/
structure NewBytes (w w1 : World) (l : List UInt8) (cap : Nat) : Prop where
  run : (convert 9 27 (S l)).run Tryz.prog w = .ok (.slice (some ⟨w.heap.size, 0, none⟩) l.length cap) w1
  bel : Below w.heap.size w w1
  lt : w.heap.size < w1.heap.size
  cap : l.length ≤ cap
  cell : ∀ i, i < l.length → w1.cell? ⟨w.heap.size, i, none⟩ = some (byteV (l.getD i 0))
  free : ∀ i, i < l.length → w1.frozen? ⟨w.heap.size, i, none⟩ = false
theorem bytes_new (w : World) (l : List UInt8) : ∃ w1 cap, NewBytes w w1 l cap := by
  have hrun := run_bytes_of_string w 9 27 5 ⟨l.toArray⟩ Tryz.underlying9 Tryz.underlying27 Tryz.underlying5
  have hsz : (⟨l.toArray⟩ : ByteArray).size = l.length := by simp [ByteArray.size]
  rw [hsz] at hrun
  have hh : ∀ (C : Array Value) (f : Nat × Nat), (w.drew.alloc (.cells C 5 f)).heap[w.heap.size]? = some (.cells C 5 f) := fun C f => by
    show (w.heap.push _)[w.heap.size]? = _
    simp
  have hz : l.length ≤ (bytesRow ⟨l.toArray⟩ (grownCap w l.length 0 5)).size := by simp [bytesRow]
  refine ⟨_, _, hrun, ((Below.refl w.heap.size w).drew).alloc (Nat.le_refl _) _, ?_, ?_, fun i hi => ?_, fun i hi => ?_⟩
  · show w.heap.size < (w.heap.push _).size
    simp
  · exact grownCap_ge w l.length 0 5
  · unfold World.cell?
    rw [hh]
    simp only [bytesRow, Array.getElem?_append, Array.size_map, List.size_toArray, hi, if_true, Array.getElem?_map, List.getElem?_toArray, List.getElem?_eq_getElem hi, List.getD, Option.getD_some, Option.map_some, byteV]
    rfl
  · unfold World.frozen?
    rw [hh]
    simp
    omega
theorem set_getD (l : List UInt8) (r i : Nat) (c : UInt8) (hr : r < l.length) : (l.set r c).getD i 0 = if i = r then c else l.getD i 0 := by
  simp only [List.getD, List.getElem?_set]
  by_cases h : r = i
  · subst h; simp [hr]
  · simp [h, Ne.symm h]
/-- The string of a slice of bytes whose one byte has been written. -/
theorem bytes_set {w w1 : World} {l : List UInt8} {cap : Nat} (h : NewBytes w w1 l cap) (r : Nat) (x : Nat) (hx : x < 256) (hr : r < l.length) :
    (convert 27 9 (.slice (some ⟨w.heap.size, 0, none⟩) l.length cap)).run Tryz.prog (w1.setCell ⟨w.heap.size, r, none⟩ (.int .u8 x)) = .ok (S (l.set r (UInt8.ofNat x))) (w1.setCell ⟨w.heap.size, r, none⟩ (.int .u8 x)) := by
  have e := run_convert_bytes_back (P := Tryz.prog) (w1.setCell ⟨w.heap.size, r, none⟩ (.int .u8 x)) 27 9 5 ⟨w.heap.size, 0, none⟩ cap (l.set r (UInt8.ofNat x)) Tryz.underlying27 Tryz.underlying5 Tryz.underlying9 (fun j hj => by
    rw [List.length_set] at hj
    have hg : (l.set r (UInt8.ofNat x))[j] = (l.set r (UInt8.ofNat x)).getD j 0 := by simp [List.getD, hj]
    rw [hg, set_getD l r j _ hr, Addr.add_lit, Nat.zero_add]
    by_cases hjr : j = r
    · subst hjr
      rw [if_pos rfl]
      have := World.cell?_setCell_same w1 ⟨w.heap.size, j, none⟩ (.int .u8 x) (by rw [h.cell j hr])
      rw [this]
      simp [Nat.mod_eq_of_lt hx]
    · rw [if_neg hjr, World.cell?_setCell_other _ _ _ _ (by simp), h.cell j hj]
      rfl)
  rw [List.length_set] at e
  exact e
theorem sum_data : ∀ (l : List WObj), (∀ o ∈ l, o.ok) → (l.map fun o => o.data.length).sum ≤ ((l.map objT).flatMap fun t => t ++ [10]).length
  | [], _ => Nat.zero_le _
  | o :: l, h => by
    have h1 := (obj_big (h o List.mem_cons_self)).1
    have h2 := sum_data l fun x hx => h x (List.mem_cons_of_mem _ hx)
    rw [List.map_cons, List.sum_cons, List.map_cons, List.flatMap_cons, List.length_append, List.length_append]
    omega
theorem data_sum {c : WCfg} (h : c.ok) : (c.objs.map fun o => o.data.length).sum ≤ (printT c).length := by
  have h1 := sum_data c.objs h.ob
  unfold printT linesT
  rw [List.flatMap_cons, List.flatMap_append]
  simp only [List.length_append]
  omega
theorem print_le {t : List UInt8} {c : WCfg} (h : parseC t = some c) : (printT c).length ≤ t.length + 1 := by
  unfold parseC at h
  cases e : parseT t with
  | none => rw [e] at h; cases h
  | some d =>
    rw [e] at h
    simp only at h
    split at h
    · cases h; exact (parse_ok e).2
    · cases h
theorem print_pos (c : WCfg) : 1 ≤ (printT c).length := by have := line_count c; omega
attribute [local irreducible] World.setCell World.alloc World.drew World.setRow Calls Code.wp
attribute [local go_sem] Oper.semAt_some
set_option maxRecDepth 100000 in
set_option maxHeartbeats 8000000 in
theorem any_walk (p : WPlan) (v : Value) (at_ : Int) (x : Nat) (w : World) (h : PlanIn w v p) (hbd : p.bd) (hx : x < 256) (hwo : HasWo w) :
    Calls Tryz.prog 12 #[v, .int .i64 at_, .int .u8 x] w fun e w' => e = .returned (.bool true) ∧ Below w.heap.size w w' := by
  obtain ⟨sv, lv, Q, rfl, hS, hL0⟩ := h
  obtain ⟨sa, sc, rfl, -, -⟩ := hS.form
  obtain ⟨h1, la, lc, rfl, hc1, hc2, h4⟩ := hL0
  have hP : PlanIn w (.agg #[.int .i64 p.cores, .int .i64 p.frames, .int .i64 p.names, .slice sa p.slots.length sc, .slice la p.l.length lc]) p := ⟨_, _, Q, rfl, hS, h1, la, lc, rfl, hc1, hc2, h4⟩
  clear h1 h4 hS
  obtain ⟨w1, hw1⟩ : ∃ w1 : World, w1 = w.alloc (.cells #[.int .i64 p.cores, .int .i64 p.frames, .int .i64 p.names, .slice sa p.slots.length sc, .slice la p.l.length lc] 54) := ⟨_, rfl⟩
  obtain ⟨xb, hxb⟩ : ∃ xb, xb = w.heap.size := ⟨_, rfl⟩
  have HX : Hid (Blk w1 xb #[.int .i64 p.cores, .int .i64 p.frames, .int .i64 p.names, .slice sa p.slots.length sc, .slice la p.l.length lc] 54) := by rw [hw1, hxb]; exact Blk.new _ _ _
  have HB1 : Hid (Below w.heap.size w w1) := by rw [hw1]; exact (Below.refl _ w).alloc (Nat.le_refl _) _
  have HP := Lib.hid (fun w' (k : Below w.heap.size w w') => hP.below k (Nat.le_refl _))
  have HW := Lib.hid (fun w' (k : Below w.heap.size w w') => hwo.below k)
  have Hlt : Hid (xb < w1.heap.size) := HX.out.lt
  have HF := Lib.hid (fit25_any w1 (HW.out w1 HB1.out))
  clear hP hwo
  go_enter Tryz.func12, Tryz.ntmps12
  go_upto_region 1 with fail
  rw [← hw1, ← hxb]
  clear hw1 hxb
  go_wp2_with fail
  refine HF.out.mono ?_
  rintro e w2 ⟨rfl, hb2⟩
  have HB2 := Lib.hid (bel_from HB1.out hb2)
  have HX2 := Lib.hid (HX.out.below hb2 Hlt.out)
  have hc2' := HX2.out.cell
  have HL := Lib.hid (light_any p _ w2 (HP.out w2 HB2.out) hbd)
  have Hlt2 : Hid (xb < w2.heap.size) := HX2.out.lt
  clear HB1 HX HF Hlt hb2
  go_wp2_with fail
  refine HL.out.mono ?_
  rintro e w3 ⟨rfl, hb3⟩
  have HB3 := Lib.hid (bel_from HB2.out hb3)
  have HX3 := Lib.hid (HX2.out.below hb3 Hlt2.out)
  have hc3' := HX3.out.cell
  clear HX2 HB2 HL Hlt2 hb3 hc2'
  by_cases hw8 : p.weight ≤ 3000
  case neg =>
    rw [decide_eq_false hw8]
    go_wp2_with fail
    go_ret
    exact ⟨rfl, HB3.out⟩
  have HW8 := Lib.hid hw8
  rw [decide_eq_true hw8]
  clear hw8
  have HCf := Lib.hid (config_any p _ w3 (HP.out w3 HB3.out) hbd HW8.out)
  have Hlt3 : Hid (xb < w3.heap.size) := HX3.out.lt
  go_wp2_with fail
  refine HCf.out.mono ?_
  rintro e w4 ⟨ca, cl, cc, oa, ol, oc, rfl, hcf, hb4⟩
  have HB4 := Lib.hid (bel_from HB3.out hb4)
  have HX4 := Lib.hid (HX3.out.below hb4 Hlt3.out)
  have HRt := Lib.hid (cfg_right_any _ _ w4 hcf (plan_bd hbd HW8.out))
  have hc4' := HX4.out.cell
  have Hlt4 : Hid (xb < w4.heap.size) := HX4.out.lt
  clear hcf hb4 HB3 HX3 HCf Hlt3 hc3'
  go_wp2_with fail
  refine HRt.out.mono ?_
  rintro e w5 ⟨rfl, hb5⟩
  have HB5 := Lib.hid (bel_from HB4.out hb5)
  have HX5 := Lib.hid (HX4.out.below hb5 Hlt4.out)
  have hc5' := HX5.out.cell
  have Hlt5 : Hid (xb < w5.heap.size) := HX5.out.lt
  clear HRt hb5 HB4 HX4 Hlt4 hc4'
  by_cases hr : p.cfg.right = true
  case neg =>
    rw [Bool.not_eq_true] at hr
    rw [hr]
    go_wp2_with fail
    go_ret
    exact ⟨rfl, HB5.out⟩
  rw [hr]
  have hwf := plan_wf hbd
  have Hok : Hid p.cfg.ok := cfg_ok hwf hr
  have Hr : Hid (p.cfg.right = true) := hr
  have hdat := plan_data p HW8.out
  have htx := plan_text hwf HW8.out hr
  have Hprn : Hid p.cfg.prn := prn_ok Hok.out hr (by omega)
  have Hen : Hid p.cfg.en := enc_ok Hok.out hr (by omega)
  have Htl : Hid ((printT p.cfg).length ≤ 65009) := htx
  have HCf := Lib.hid (config_any p _ w5 (HP.out w5 HB5.out) hbd HW8.out)
  clear hr htx hdat hwf
  go_wp2_with fail
  refine HCf.out.mono ?_
  rintro e w6 ⟨ca2, cl2, cc2, oa2, ol2, oc2, rfl, hcf, hb6⟩
  have HB6 := Lib.hid (bel_from HB5.out hb6)
  have HX6 := Lib.hid (HX5.out.below hb6 Hlt5.out)
  have Hpr := Lib.hid (print_any p.cfg _ w6 hcf Hprn.out (HW.out w6 HB6.out).base.pow (HW.out w6 HB6.out).base.sp)
  have Hlt6 : Hid (xb < w6.heap.size) := HX6.out.lt
  clear HCf hb6 hcf HB5 HX5 Hlt5 hc5'
  go_wp2_with fail
  refine Hpr.out.mono ?_
  rintro e w7 ⟨rfl, hb7⟩
  have HB7 := Lib.hid (bel_from HB6.out hb7)
  have HX7 := Lib.hid (HX6.out.below hb7 Hlt6.out)
  have Hlt7 : Hid (xb < w7.heap.size) := HX7.out.lt
  clear Hpr HB6 HX6 Hlt6 hb7
  obtain ⟨wb, cap, hNB⟩ := bytes_new w7 (printT p.cfg)
  obtain ⟨b0, hb0⟩ : ∃ b0, b0 = w7.heap.size := ⟨_, rfl⟩
  obtain ⟨T, hT⟩ : ∃ T, T = printT p.cfg := ⟨_, rfl⟩
  obtain ⟨n, hn⟩ : ∃ n, n = T.length := ⟨_, rfl⟩
  have hpos := print_pos p.cfg
  have htl := Htl.out
  rw [← hT] at hNB hpos htl
  rw [← hn] at hpos htl
  have hrun := hNB.run
  rw [← hb0, ← hn] at hrun
  have hm0 := tmod_bd at_ n (by omega)
  have m1 : IntKind.i64.wrap (at_.tmod n + n) = at_.tmod n + n := IntWalk.i64_in _ (by omega)
  obtain ⟨r, hr⟩ : ∃ r : Nat, (at_.tmod n + n).tmod n = (r : Int) := ⟨((at_.tmod n + n).tmod n).toNat, by
    have := Int.tmod_nonneg (a := at_.tmod n + n) n (by omega); omega⟩
  have hrn : r < n := by have := tmod_bd (at_.tmod n + n) n (by omega); omega
  have hrn' : (r : Int) < n := by omega
  have hn0 : (n : Int) ≠ 0 := by omega
  have hcell := hNB.cell r (by omega)
  have hfree := hNB.free r (by omega)
  rw [← hb0] at hcell hfree
  have hcv := bytes_set hNB r x hx (by omega)
  rw [← hb0, ← hn] at hcv
  rw [← hT]
  obtain ⟨T2, hT2⟩ : ∃ T2, T2 = T.set r (UInt8.ofNat x) := ⟨_, rfl⟩
  rw [← hT2] at hcv
  have HT2l : Hid (T2.length ≤ 65009) := by show _ ≤ _; rw [hT2, List.length_set, ← hn]; exact htl
  obtain ⟨ws, hws⟩ : ∃ ws : World, ws = wb.setCell ⟨b0, r, none⟩ (.int .u8 x) := ⟨_, rfl⟩
  rw [← hws] at hcv
  have HBb := Lib.hid (bel_from HB7.out hNB.bel)
  have HBs : Hid (Below w.heap.size w ws) := by rw [hws]; exact HBb.out.setCell (by show w.heap.size ≤ b0; rw [hb0]; exact HB7.out.size) _
  clear hNB hb0 hT hT2 hpos htl hn hm0 hx HBb HB7 HX7 Hlt7 Htl
  go_upto_region 7 with fail
  rw [← hws]
  clear hws
  have Hpa := Lib.hid (parse_any T2 (by have := HT2l.out; omega) ws (HW.out ws HBs.out))
  go_wp2_with fail
  refine Hpa.out.mono ?_
  rintro e w8 ⟨hb8, hcase⟩
  have HB8 := Lib.hid (bel_from HBs.out hb8)
  clear hcell hfree hcv hrun Hpa HBs
  rcases hcase with ⟨hn, rfl⟩ | ⟨c, x1, y1, z1, sa2, sl2, sc2, oa3, ol3, oc3, hc, rfl, hv⟩
  · clear hr hrn hrn' hn0 m1
    obtain ⟨wc, hwc⟩ : ∃ wc : World, wc = w8.alloc (.cells #[.int .i64 0, .int .i64 0, .int .i64 0, .slice none 0 0, .slice none 0 0] 57) := ⟨_, rfl⟩
    obtain ⟨yc, hyc⟩ : ∃ yc, yc = w8.heap.size := ⟨_, rfl⟩
    have HY : Hid (Blk wc yc #[.int .i64 0, .int .i64 0, .int .i64 0, .slice none 0 0, .slice none 0 0] 57) := by rw [hwc, hyc]; exact Blk.new _ _ _
    have HBc4 : Hid (Below w8.heap.size w8 wc) := by rw [hwc]; exact (Below.refl _ w8).alloc (Nat.le_refl _) _
    have HBc := Lib.hid (bel_from HB8.out HBc4.out)
    have hcy := HY.out.cell
    go_upto_region 8 with fail
    rw [← hwc, ← hyc]
    clear hwc hyc HB8 hb8
    go_wp2_with fail
    go_ret
    exact ⟨rfl, HBc.out⟩
  · clear hr hrn hrn' hn0 m1
    obtain ⟨Hcr, Hcok, Hcb⟩ := any_all (by have := HT2l.out; omega) hc
    have Hpl := print_le hc
    have Hds := data_sum Hcok
    have HTl := HT2l.out
    have Hprn : Hid c.prn := prn_ok Hcok Hcr (by omega)
    have Hen : Hid c.en := enc_ok Hcok Hcr (by omega)
    have Hbk := Lib.hid Hcb
    have Hcr := Lib.hid Hcr
    have Hpl : Hid ((printT c).length ≤ 65010) := by show _ ≤ _; omega
    obtain ⟨wc, hwc⟩ : ∃ wc : World, wc = w8.alloc (.cells #[.int .i64 x1, .int .i64 y1, .int .i64 z1, .slice sa2 sl2 sc2, .slice oa3 ol3 oc3] 57) := ⟨_, rfl⟩
    obtain ⟨yc, hyc⟩ : ∃ yc, yc = w8.heap.size := ⟨_, rfl⟩
    have HY : Hid (Blk wc yc #[.int .i64 x1, .int .i64 y1, .int .i64 z1, .slice sa2 sl2 sc2, .slice oa3 ol3 oc3] 57) := by rw [hwc, hyc]; exact Blk.new _ _ _
    have HBc4 : Hid (Below w8.heap.size w8 wc) := by rw [hwc]; exact (Below.refl _ w8).alloc (Nat.le_refl _) _
    have HBc := Lib.hid (bel_from HB8.out HBc4.out)
    have HCI := Lib.hid (hv.below HBc4.out (Nat.le_refl _))
    have hcy := HY.out.cell
    have Hltc : Hid (yc < wc.heap.size) := HY.out.lt
    have Hpr := Lib.hid (print_any c _ wc HCI.out Hprn.out (HW.out wc HBc.out).base.pow (HW.out wc HBc.out).base.sp)
    clear hv Hds HTl Hcok Hcb hb8 HB8 HBc4 hc
    go_upto_region 8 with fail
    rw [← hwc, ← hyc]
    clear hwc hyc
    go_wp2_with fail
    refine Hpr.out.mono ?_
    rintro e w9 ⟨rfl, hb9⟩
    have HB9 := Lib.hid (bel_from HBc.out hb9)
    have HY9 := Lib.hid (HY.out.below hb9 Hltc.out)
    have HCI9 := Lib.hid (HCI.out.below hb9 (Nat.le_refl _))
    have hcy9 := HY9.out.cell
    have Hlt9 : Hid (yc < w9.heap.size) := HY9.out.lt
    have Hpa := Lib.hid (parse_any (printT c) (by have := Hpl.out; omega) w9 (HW.out w9 HB9.out))
    clear hcy HY HBc HCI Hltc Hpr hb9
    go_wp2_with fail
    refine Hpa.out.mono ?_
    rintro e wd0 ⟨hbd0, hcase⟩
    rcases hcase with ⟨hn, -⟩ | ⟨c', x2, y2, z2, sa4, sl4, sc4, oa4, ol4, oc4, hc, rfl, hv⟩
    · exact absurd (hn.symm.trans Hbk.out) (by simp)
    obtain rfl : c' = c := Option.some.inj (hc.symm.trans Hbk.out)
    have HBd0 := Lib.hid (bel_from HB9.out hbd0)
    have HYd0 := Lib.hid (HY9.out.below hbd0 Hlt9.out)
    have HCId0 := Lib.hid (HCI9.out.below hbd0 (Nat.le_refl _))
    have Hltd0 : Hid (yc < wd0.heap.size) := HYd0.out.lt
    obtain ⟨wd, hwd⟩ : ∃ wd : World, wd = wd0.alloc (.cells #[.int .i64 x2, .int .i64 y2, .int .i64 z2, .slice sa4 sl4 sc4, .slice oa4 ol4 oc4] 57) := ⟨_, rfl⟩
    obtain ⟨yd, hyd⟩ : ∃ yd, yd = wd0.heap.size := ⟨_, rfl⟩
    have HD : Hid (Blk wd yd #[.int .i64 x2, .int .i64 y2, .int .i64 z2, .slice sa4 sl4 sc4, .slice oa4 ol4 oc4] 57) := by rw [hwd, hyd]; exact Blk.new _ _ _
    have HBd7 : Hid (Below wd0.heap.size wd0 wd) := by rw [hwd]; exact (Below.refl _ wd0).alloc (Nat.le_refl _) _
    have HBd := Lib.hid (bel_from HBd0.out HBd7.out)
    have HYd := Lib.hid (HYd0.out.below HBd7.out Hltd0.out)
    have HCId := Lib.hid (HCId0.out.below HBd7.out (Nat.le_refl _))
    have HDI := Lib.hid (hv.below HBd7.out (Nat.le_refl _))
    have hcyd := HYd.out.cell
    have hcd := HD.out.cell
    have Hltd : Hid (yc < wd.heap.size) := HYd.out.lt
    have Hltd2 : Hid (yd < wd.heap.size) := HD.out.lt
    have HRt := Lib.hid (cfg_right_any _ _ wd HCId.out Hprn.out.bd)
    rw [Hcr.out] at HRt
    clear hc hv HB9 HY9 HCI9 Hlt9 hbd0 hcy9 Hpa HBd0 HYd0 HCId0 Hltd0 HBd7
    go_upto_region 11 with fail
    rw [← hwd, ← hyd]
    clear hwd hyd
    go_wp2_with fail
    refine HRt.out.mono ?_
    rintro e we ⟨rfl, hbe⟩
    have HBe := Lib.hid (bel_from HBd.out hbe)
    have hcye := (HYd.out.below hbe Hltd.out).cell
    have hcde := (HD.out.below hbe Hltd2.out).cell
    have Hal := Lib.hid (alike_any _ _ _ _ we (HCId.out.below hbe (Nat.le_refl _)) (HDI.out.below hbe (Nat.le_refl _)) Hen.out Hen.out)
    rw [beq_self_eq_true] at Hal
    clear hcyd hcd HYd HD HRt HCId HDI HBd hbe Hltd Hltd2
    go_wp2_with fail
    refine Hal.out.mono ?_
    rintro e wf ⟨rfl, hbf⟩
    have HBf := Lib.hid (bel_from HBe.out hbf)
    go_wp2_with fail
    go_ret
    exact ⟨rfl, HBf.out⟩
theorem any_law (v : Value) (a b : Int) (W : World) (hv : ∃ q : WPlan, PlanIn W v q ∧ q.bd) (_ : (Lit.int .i64 a).wf = true) (hb : (Lit.int .u8 b).wf = true) (h : HasWo W) :
    Calls Tryz.prog 12 #[v, .int .i64 a, .int .u8 b] W fun e W' => e = .returned (.bool true) ∧ Below W.heap.size W W' := by
  obtain ⟨q, h1, h2⟩ := hv
  have hx := wf_u8 hb
  have := any_walk q v a b.toNat W h1 h2 (by omega) h
  rwa [Int.toNat_of_nonneg hx.1] at this
end Go.Proofs.YtjjnidbggoaonaaGreatDoor
