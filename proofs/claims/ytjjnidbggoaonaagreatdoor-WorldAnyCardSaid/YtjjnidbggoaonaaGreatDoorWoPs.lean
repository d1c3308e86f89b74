/- world.Parse. -/
import Derived.Test.YtjjnidbggoaonaaGreatDoorWoPn
namespace Go.Proofs.YtjjnidbggoaonaaGreatDoor
open Go.RowKit
attribute [local irreducible] World.setCell World.alloc World.drew World.setRow Calls Code.wp
attribute [local go_sem] Oper.semAt_some

theorem info_slot : (Tryz.prog.info? 110).map (fun i => (i.zero, i.size, i.bytes)) = some (some (.agg #[.int .u64 0, .int .i64 0]), 2, 16) := by kernel_rfl
theorem info_obj : (Tryz.prog.info? 107).map (fun i => (i.zero, i.size, i.bytes)) = some (some (.agg #[.int .i64 0, .int .i64 0, .int .i64 0, .slice none 0 0, .int .i64 0, .slice none 0 0, .int .i64 0, .int .i64 0, .slice none 0 0, .slice none 0 0, .int .i64 0, .int .i64 0]), 12, 160) := by kernel_rfl
theorem maps_slen : ∀ (g : Nat) (r : Rd), (Rd.maps g r).1.s.length ≤ r.s.length
  | 0, r => Nat.le_refl _
  | g + 1, r => by
    unfold Rd.maps
    split
    · exact Nat.le_refl _
    · exact Nat.le_trans (maps_slen g r.one.1) (one_len r)
theorem object_len (r : Rd) (k : Nat) : (r.object k).1.s.length ≤ r.s.length := by
  have h1 := num_len r
  have h2 := label_len r.num.1
  unfold Rd.object
  simp only
  split
  · have h3 := num_len r.num.1.label.1
    have h4 := num_len r.num.1.label.1.num.1
    simp only; omega
  · split
    · have h3 := num_len r.num.1.label.1
      have h4 := hex_len r.num.1.label.1.num.1
      simp only; omega
    · split
      · have h3 := maps_slen (r.num.1.label.1.s.length + 1) r.num.1.label.1
        simp only; omega
      · split
        · have h3 := label_len r.num.1.label.1
          have h4 := num_len r.num.1.label.1.label.1
          have h5 := num_len r.num.1.label.1.label.1.num.1
          simp only; omega
        · simp only; omega
/-- What Parse answers. -/
def ParsePost (text : List UInt8) (w : World) (e : Ending) (w' : World) : Prop :=
  Below w.heap.size w w' ∧ ((parseC text = none ∧ e = .returned (.tuple #[.agg #[.int .i64 0, .int .i64 0, .int .i64 0, .slice none 0 0, .slice none 0 0], .int .i64 10])) ∨
    ∃ c x y z sa sl sc oa ol oc, parseC text = some c ∧ e = .returned (.tuple #[.agg #[.int .i64 x, .int .i64 y, .int .i64 z, .slice sa sl sc, .slice oa ol oc], .int .i64 0]) ∧ CfgIn w' (.agg #[.int .i64 x, .int .i64 y, .int .i64 z, .slice sa sl sc, .slice oa ol oc]) c)
set_option maxRecDepth 100000 in
set_option maxHeartbeats 16000000 in
theorem parse_any (text : List UInt8) (hl : text.length ≤ 1000000) (w : World) (h : HasWo w) :
    Calls Tryz.prog 26 #[S text] w fun e w' => ParsePost text w e w' := by
  have H := Lib.hid h
  obtain ⟨wa, hwa⟩ : ∃ wa : World, wa = w.alloc (.cells #[.int .i64 0, .int .i64 0, .int .i64 0, .slice none 0 0, .slice none 0 0] 57) := ⟨_, rfl⟩
  obtain ⟨xb, hxb⟩ : ∃ xb, xb = w.heap.size := ⟨_, rfl⟩
  have HX : Hid (Blk wa xb #[.int .i64 0, .int .i64 0, .int .i64 0, .slice none 0 0, .slice none 0 0] 57) := by rw [hwa, hxb]; exact Blk.new _ _ _
  have HKa : Hid (Kept (fun _ => False) w wa) := by rw [hwa]; exact (Kept.refl _ w).alloc _
  have Hxb := Lib.hid hxb
  have HWo : Hid (∀ w', Kept (fun _ => False) w w' → HasWo w') := fun w' k => h.below (k.below (Nat.le_refl _) (fun _ _ f => f))
  have HWi : Hid (∀ w', Kept (fun _ => False) w w' → WoIn w.heap.size w') := fun w' k => (WoIn.start h).kept k (fun _ f => f.elim)
  have HLn := Lib.hid (lines_any text hl wa (HWo.out _ HKa.out).base.mx)
  -- the end, where there is none
  have HNo : Hid (∀ w', Blk w' xb #[.int .i64 0, .int .i64 0, .int .i64 0, .slice none 0 0, .slice none 0 0] 57 → Kept (fun _ => False) w w' → Blk (set5 w' xb (.int .i64 0) (.int .i64 0) (.int .i64 0) (.slice none 0 0) (.slice none 0 0)) xb #[.int .i64 0, .int .i64 0, .int .i64 0, .slice none 0 0, .slice none 0 0] 57 ∧ Below w.heap.size w (set5 w' xb (.int .i64 0) (.int .i64 0) (.int .i64 0) (.slice none 0 0) (.slice none 0 0))) := fun w' hb k =>
    ⟨set5_blk hb _ _ _ _ _, (k.then (set5_kept w' xb _ _ _ _ _) (fun i hi e => by have := Hxb.out; omega)).below (Nat.le_refl _) (fun _ _ f => f)⟩
  unfold set5 at HNo
  clear h
  go_enter Tryz.func26, Tryz.ntmps26
  go_upto_region 1 with fail
  rw [← hwa, ← hxb]
  clear hwa hxb
  go_wp2_with fail
  refine HLn.out.mono ?_
  rintro e w1 ⟨hb1, hcase⟩
  have HX1 := Lib.hid (HX.out.below hb1 HX.out.lt)
  have HK1 : Hid (Kept (fun _ => False) w w1) := HKa.out.trans (Kept.of_below hb1)
  have hcx := HX1.out.cell
  have hfx := HX1.out.free
  obtain ⟨z1, z2⟩ := HNo.out w1 HX1.out HK1.out
  have Z1 := Lib.hid z1; have Z2 := Lib.hid z2
  clear z1 z2 hb1 HLn HX
  rcases hcase with ⟨hlong, rfl⟩ | ⟨hshort, lv, rfl, hls⟩
  · have Hp : Hid (parseC text = none) := by
      show _ = _
      unfold parseC parseT
      rw [if_pos hlong]
    go_wp2_with fail
    refine bodyPost_ret (results_ct rfl _ _ ⟨xb, 0, none⟩ _ rfl (load_cfg _ _ _ rfl Z1.out)) rfl ?_
    exact ⟨Z2.out, .inl ⟨Hp.out, rfl⟩⟩
  obtain ⟨hll, hle⟩ := linesOf_len text
  obtain ⟨LA, hLA⟩ : ∃ L, linesOf text = L := ⟨_, rfl⟩
  have HLA := Lib.hid hLA
  rw [hLA] at hls hll hle
  obtain ⟨qa, qc, rfl, hq1, hq2⟩ := RowAt.form hls
  rcases LA with _ | ⟨l0, LS⟩
  · have Hp : Hid (parseC text = none) := by
      show _ = _
      unfold parseC parseT
      rw [if_neg (by omega), HLA.out]
    clear hls hLA hle
    go_wp2_with fail
    refine bodyPost_ret (results_ct rfl _ _ ⟨xb, 0, none⟩ _ rfl (load_cfg _ _ _ rfl Z1.out)) rfl ?_
    exact ⟨Z2.out, .inl ⟨Hp.out, rfl⟩⟩
  obtain ⟨qb, rfl, hqlt, hqc⟩ := RowAt.cells hls (by simp)
  have c0 : w1.cell? ⟨qb, 0, none⟩ = some (S l0) := hqc 0 _ (by simp)
  have HLs : Hid (StrsIn w1 (.slice (some ⟨qb, 0, none⟩) (l0 :: LS).length qc) (l0 :: LS)) := hls
  have Hle := Lib.hid hle
  have hl0 : l0.length ≤ 65536 := Nat.le_trans (hle l0 List.mem_cons_self) hshort
  have hLS : LS.length ≤ 65536 := by simp only [List.length_cons] at hll; omega
  have hlen1 : ((l0 :: LS).length : Int) = (LS.length : Int) + 1 := by simp
  have hlen0 : (((l0 :: LS).length : Int) == 0) = false := by simp only [beq_eq_false_iff_ne, ne_eq]; omega
  have hlp : (0 : Int) < ((l0 :: LS).length : Int) := by omega
  obtain ⟨rb, hrb⟩ : ∃ rb, rb = w1.heap.size := ⟨_, rfl⟩
  obtain ⟨w2, hw2⟩ : ∃ w2 : World, w2 = w1.alloc (.cells #[S l0, .bool false] 122) := ⟨_, rfl⟩
  have HR2 : Hid (RdW w2 rb ⟨l0, false⟩) := by rw [hw2, hrb]; exact Blk.new _ _ _
  have HK2 : Hid (Kept (fun _ => False) w w2) := by rw [hw2]; exact HK1.out.alloc _
  have HX2 : Hid (Blk w2 xb #[.int .i64 0, .int .i64 0, .int .i64 0, .slice none 0 0, .slice none 0 0] 57) := by rw [hw2]; exact HX1.out.alloc _
  have HL2 : Hid (StrsIn w2 (.slice (some ⟨qb, 0, none⟩) (l0 :: LS).length qc) (l0 :: LS)) := by rw [hw2]; exact RowAt.below HLs.out ((Below.refl _ w1).alloc (Nat.le_refl _) _) (Nat.le_refl _)
  have Hrg : Hid (w.heap.size ≤ rb) := by rw [hrb]; exact HK1.out.size
  obtain ⟨⟨r0, W0⟩, e0⟩ : ∃ p, Rd.word ⟨l0, false⟩ = p := ⟨_, rfl⟩
  obtain ⟨⟨ra, x⟩, e1⟩ : ∃ p, r0.num = p := ⟨_, rfl⟩
  obtain ⟨⟨rc, y⟩, e2⟩ : ∃ p, ra.num = p := ⟨_, rfl⟩
  obtain ⟨⟨rd, z⟩, e3⟩ : ∃ p, rc.num = p := ⟨_, rfl⟩
  have Hx := Lib.hid (num_nn r0); have Hy := Lib.hid (num_nn ra); have Hz := Lib.hid (num_nn rc)
  rw [e1] at Hx; rw [e2] at Hy; rw [e3] at Hz
  simp only at Hx Hy Hz
  have hr0 := (word_len ⟨l0, false⟩).2
  rw [e0] at hr0
  have hra := num_len r0; rw [e1] at hra
  have hrc := num_len ra; rw [e2] at hrc
  have hrd := num_len rc; rw [e3] at hrd
  simp only at hr0 hra hrc hrd
  obtain ⟨b0, hb0⟩ : ∃ b, (W0 == ([109, 97, 99, 104, 105, 110, 101] : List UInt8)) = b := ⟨_, rfl⟩
  have HHd : Hid (readHead l0 = (!b0 || (rd.bad || !rd.over), ⟨x, y, z, [], []⟩)) := by
    show _ = _
    unfold readHead
    simp only [e0, e1, e2, e3]
    have : decide (W0 ≠ machW) = !b0 := by
      rw [← hb0]
      show decide (W0 ≠ machW) = !(W0 == machW)
      by_cases h : W0 = machW <;> simp [h]
    rw [this]
  have Hwd := Lib.hid (word_any w.heap.size rb ⟨l0, false⟩ (by simp only; omega) Hrg.out w2 (HWi.out _ HK2.out) HR2.out)
  rw [e0] at Hwd
  simp only at Hwd
  have HN := Lib.hid (fun (q : Rd) (hq : q.s.length ≤ 100000) w' (k : Kept (fun _ => False) w w') hR => rnum_any w.heap.size rb q hq Hrg.out w' (HWi.out w' k) hR)
  have HKt : Hid (∀ w' w'', Kept (fun _ => False) w w' → Kept (· = rb) w' w'' → Kept (fun _ => False) w w'') := fun w' w'' k q => k.then q (fun i hi e => by have := Hrg.out; omega)
  clear hls hLA hll hle hqc e0
  go_upto_region 5 with fail
  rw [← hw2, ← hrb]
  have Hrb := Lib.hid hrb
  have hxr : xb ≠ rb := by have := HX1.out.lt; omega
  clear hw2 hrb hcx hfx Z1 Z2 c0
  go_wp2_with fail
  refine Hwd.out.mono ?_
  rintro e w3 ⟨rfl, hR3, hk3⟩
  have HK3 := Lib.hid (HKt.out _ _ HK2.out hk3)
  have Hn1 := Lib.hid (HN.out r0 (by omega) w3 HK3.out hR3)
  rw [e1] at Hn1
  have hk23 := hk3
  clear hR3 hk3 Hwd e1
  go_wp2_with fail
  refine Hn1.out.mono ?_
  rintro e w4 ⟨rfl, hR4, hk4⟩
  have HK4 := Lib.hid (HKt.out _ _ HK3.out hk4)
  have Hn2 := Lib.hid (HN.out ra (by omega) w4 HK4.out hR4)
  rw [e2] at Hn2
  have hk24 := hk23.trans hk4
  clear hR4 hk4 Hn1 e2 hk23
  go_wp2_with fail
  refine Hn2.out.mono ?_
  rintro e w5 ⟨rfl, hR5, hk5⟩
  have HK5 := Lib.hid (HKt.out _ _ HK4.out hk5)
  have Hn3 := Lib.hid (HN.out rc (by omega) w5 HK5.out hR5)
  rw [e3] at Hn3
  have hk25 := hk24.trans hk5
  clear hR5 hk5 Hn2 e3 hk24
  go_wp2_with fail
  refine Hn3.out.mono ?_
  rintro e w6 ⟨rfl, hR6, hk6⟩
  have HK6 := Lib.hid (HKt.out _ _ HK5.out hk6)
  have hk26 := hk25.trans hk6
  obtain ⟨cb, hcb⟩ : ∃ cb, cb = w6.heap.size := ⟨_, rfl⟩
  obtain ⟨w7, hw7⟩ : ∃ w7 : World, w7 = w6.alloc (.cells #[.int .i64 x, .int .i64 y, .int .i64 z, .slice none 0 0, .slice none 0 0] 57) := ⟨_, rfl⟩
  have HX6 := Lib.hid (HX2.out.below' hk26 hxr)
  have HR7 : Hid (RdW w7 rb rd) := by rw [hw7]; exact Blk.alloc hR6 _
  have Hcg : Hid (w.heap.size ≤ cb) := by rw [hcb]; exact HK6.out.size
  have Hcx : Hid (cb ≠ xb) := by have := HX6.out.lt; show _ ≠ _; omega
  have HM7 : Hid (PMem w w7 cb xb (.slice (some ⟨qb, 0, none⟩) (l0 :: LS).length qc) (l0 :: LS) x y z (.slice none 0 0) (.slice none 0 0) [] []) := by
    rw [hw7, hcb]
    refine ⟨Blk.new _ _ _, HX6.out.alloc _, RowAt.below (rowat_far HL2.out hk26 (blk_T HR2.out) (by decide)) ((Below.refl _ w6).alloc (Nat.le_refl _) _) (Nat.le_refl _), World.ownsRow_nil _ _ _ _, ⟨[], rfl, fun j o s hj => by simp at hj, World.ownsRow_nil _ _ _ _⟩, HK6.out.alloc _⟩
  clear hR6 hk6 hk25 hk26 Hn3 HX6 HK2 HK3 HK4 HK5 HK6 HR2 HX2 HL2 HX1 HK1
  go_upto_region 7 with fail
  rw [← hw7, ← hcb]
  clear hw7 hcb
  obtain ⟨B0, hB0⟩ : ∃ B, (!b0 || (rd.bad || !rd.over)) = B := ⟨_, rfl⟩
  have HB0 := Lib.hid hB0
  rw [hB0] at HHd
  have Hov := Lib.hid (over_any rb rd (by omega) w7 HR7.out)
  clear hB0 hb0
  go_cut [7, 34] (fun v _ wx => v = .bool B0 ∧ Hid (PMem w wx cb xb (.slice (some ⟨qb, 0, none⟩) (l0 :: LS).length qc) (l0 :: LS) x y z (.slice none 0 0) (.slice none 0 0) [] []))
  case first =>
    cases b0 with
    | false =>
      have Hd : Hid (B0 = true) := by show _ = _; rw [← HB0.out]; rfl
      go_wp2_with fail
      go_meet
      exact ⟨by rw [Hd.out], HM7⟩
    | true =>
      cases hbd : rd.bad with
      | true =>
        have Hd : Hid (B0 = true) := by show _ = _; rw [← HB0.out, hbd]; rfl
        have hcr : w7.cell? ⟨rb, 1, none⟩ = some (.bool true) := by rw [Blk.cell HR7.out 1, hbd]; rfl
        clear hbd
        go_wp2_with fail
        go_meet
        exact ⟨by rw [Hd.out], HM7⟩
      | false =>
        have Hd : Hid (B0 = !rd.over) := by show _ = _; rw [← HB0.out, hbd]; rfl
        have hcr : w7.cell? ⟨rb, 1, none⟩ = some (.bool false) := by rw [Blk.cell HR7.out 1, hbd]; rfl
        clear hbd
        go_wp2_with fail
        refine Hov.out.mono ?_
        rintro e w8 ⟨rfl, hb8⟩
        have HM8 := Lib.hid (HM7.out.below hb8)
        go_wp2_with fail
        go_meet
        exact ⟨by rw [Hd.out], HM8⟩
  case rest =>
  rename World => w8
  obtain ⟨rfl, HM8⟩ := hcut
  clear HB0 Hov HM7 HR7
  have h1n : (1 : Int) ≤ ((l0 :: LS).length : Int) := by omega
  have hqi : (((l0 :: LS).length : Nat) : Int) ≤ qc := by omega
  have hsub : (l0 :: LS).length - 1 = LS.length := by simp
  obtain ⟨NL, hNL⟩ : ∃ n, (l0 :: LS).length = n := ⟨_, rfl⟩
  have hN1 : NL = LS.length + 1 := by rw [← hNL]; simp
  subst hN1
  go_upto_region 8 with fail
  go_cut [4, 55, 56, 57] (fun _ a b c wx => ∃ (P : Option Addr) (C : Nat), a = .slice P LS.length C ∧ b = .int .i64 (LS.length : Int) ∧ c = .int .i64 0 ∧ w8 = wx ∧ Hid (0 < LS.length → P = some ⟨qb, 1, none⟩))
  case first =>
    go_wp2_with fail
    all_goals
      go_meet
      exact ⟨_, _, rfl, rfl, rfl, rfl, fun hp => by first | rfl | (exfalso; omega)⟩
  case rest =>
  obtain ⟨P, C, rfl, rfl, rfl, hwc, HP⟩ := hcut
  obtain rfl : w8 = wc := hwc
  go_wp2_with fail
  have HQl : Hid (∀ wx sv ov ss os, PMem w wx cb xb (.slice (some ⟨qb, 0, none⟩) (LS.length + 1) qc) (l0 :: LS) x y z sv ov ss os → ∀ (k : Nat) s, LS[k]? = some s → wx.cell? ⟨qb, 1 + k, none⟩ = some (S s)) := fun wx sv ov ss os hm k s hs => by
    obtain ⟨b, e, -, hc⟩ := RowAt.cells (n := LS.length + 1) hm.lines (by omega)
    cases e
    refine hc (1 + k) (S s) ?_
    rw [Nat.add_comm, List.getElem?_map, List.getElem?_cons_succ, hs]; rfl
  clear hlen1 hlen0 hlp h1n hqi hsub hNL
  go_loopg [7, 10, 11, 12, 13, 57] LS.length (fun g v7 _ _ _ _ vi wx => ∃ (k : Nat) (bd : Bool) (cm : WCfg) (os : List WObj) (sv ov : Value), k + g = LS.length ∧ vi = .int .i64 k ∧ v7 = .bool bd ∧ Hid (ParSt LS B0 (WCfg.mk x y z [] []) k bd cm os) ∧ Hid (PMem w wx cb xb (.slice (some ⟨qb, 0, none⟩) (LS.length + 1) qc) (l0 :: LS) x y z sv ov cm.slots os))
  case atStart => exact ⟨0, B0, ⟨x, y, z, [], []⟩, [], .slice none 0 0, .slice none 0 0, by omega, rfl, rfl, Lib.hid (ParSt.begin LS B0 x y z), HM8⟩
  case round =>
    obtain ⟨k, bd, cm, os, sv, ov, hk, rfl, rfl, HS, HM⟩ := hrel
    obtain ⟨sl, hsl, hsv, hso⟩ := HM.out.objs
    obtain ⟨oa, oc, rfl, -, -⟩ := RowAt.form (RowAt.own hso)
    obtain ⟨sa, sc, rfl, -, -⟩ := RowAt.form (RowAt.own HM.out.slots)
    have hln := HS.out.ln
    by_cases hlt : k < LS.length
    · have hlt' : (k : Int) < LS.length := by omega
      obtain ⟨s, hs⟩ : ∃ s, LS[k]? = some s := ⟨_, List.getElem?_eq_getElem hlt⟩
      obtain rfl : P = some ⟨qb, 1, none⟩ := HP.out (by omega)
      have hcs := HQl.out wr _ _ _ _ HM.out k s hs
      have hcs' : wr.cell? ⟨qb, k + 1, none⟩ = some (S s) := by rw [Nat.add_comm]; exact hcs
      have hsl6 : s.length ≤ 65536 := Nat.le_trans (Hle.out s (List.mem_cons_of_mem _ (List.mem_of_getElem? hs))) hshort
      have Hs := Lib.hid hs
      obtain ⟨rb2, hrb2⟩ : ∃ b, b = wr.heap.size := ⟨_, rfl⟩
      obtain ⟨w2, hw2⟩ : ∃ w2 : World, w2 = wr.alloc (.cells #[S s, .bool false] 122) := ⟨_, rfl⟩
      have HR2 : Hid (RdW w2 rb2 ⟨s, false⟩) := by rw [hw2, hrb2]; exact Blk.new _ _ _
      have HM2 : Hid (PMem w w2 cb xb (.slice (some ⟨qb, 0, none⟩) (LS.length + 1) qc) (l0 :: LS) x y z (.slice sa cm.slots.length sc) (.slice oa os.length oc) cm.slots os) := by rw [hw2]; exact HM.out.below ((Below.refl _ wr).alloc (Nat.le_refl _) _)
      have Hrg2 : Hid (w.heap.size ≤ rb2) := by rw [hrb2]; exact HM.out.kept.size
      obtain ⟨⟨r1, wd⟩, e1⟩ : ∃ p, Rd.word ⟨s, false⟩ = p := ⟨_, rfl⟩
      have Hwd := Lib.hid (word_any w.heap.size rb2 ⟨s, false⟩ (by simp only; omega) Hrg2.out w2 (HM2.out.in H.out) HR2.out)
      have hr1 := (word_len ⟨s, false⟩).2
      have hwl := (word_len ⟨s, false⟩).1
      rw [e1] at Hwd hr1 hwl
      simp only at Hwd hr1 hwl
      have He1 := Lib.hid e1
      clear hs e1 hsl hsv hso HM
      go_upto_region 12 with fail
      rw [← hw2, ← hrb2]
      clear hw2 hrb2 hcs hcs'
      go_wp2_with fail
      refine Hwd.out.mono ?_
      rintro e w3 ⟨rfl, hR3, hk3⟩
      have HR3 := Lib.hid hR3
      have HM3 := Lib.hid (HM2.out.reader HR2.out Hrg2.out hk3)
      clear hR3 hk3 Hwd HR2 HM2
      have hcf4 : w3.cell? ⟨cb, 4, none⟩ = some (.slice oa os.length oc) := (HM3.out.cfg.cell 4).trans rfl
      have hkl : cm.slots.length ≤ 65536 ∧ os.length ≤ 65536 := ⟨by omega, by omega⟩
      go_upto_block 2 with fail
      go_cut [7, 12, 13, 65] (fun v7 _ _ _ wx => ∃ (bd1 : Bool) (rr : Rd) (cm' : WCfg) (os' : List WObj) (sv' ov' : Value), v7 = .bool bd1 ∧ rr.s.length ≤ 100000 ∧ Hid (ParSt LS B0 (WCfg.mk x y z [] []) (k + 1) (bd1 || (rr.bad || !rr.over)) cm' os') ∧ Hid (RdW wx rb2 rr) ∧ Hid (PMem w wx cb xb (.slice (some ⟨qb, 0, none⟩) (LS.length + 1) qc) (l0 :: LS) x y z sv' ov' cm'.slots os'))
      case first =>
        by_cases hc : wd = slotW ∧ os = []
        · obtain ⟨hw, ho⟩ := hc
          have hwb : (wd == ([115, 108, 111, 116] : List UInt8)) = true := by rw [hw]; rfl
          have hob : ((os.length : Int) == 0) = true := by rw [ho]; rfl
          have hol : os.length = 0 := by rw [ho]; rfl
          obtain ⟨⟨ra2, x1⟩, e2⟩ : ∃ p, r1.num = p := ⟨_, rfl⟩
          obtain ⟨⟨rb3, y1⟩, e3⟩ : ∃ p, ra2.num = p := ⟨_, rfl⟩
          have HP := Lib.hid (HS.out.slot Hs.out (by rw [He1.out, hw]) ho e2 e3)
          have hx1 := num_nn r1
          rw [e2] at hx1
          obtain ⟨hx10, hx11⟩ := hx1
          simp only at hx10 hx11
          have hl2 := num_len r1; rw [e2] at hl2
          have hl3 := num_len ra2; rw [e3] at hl3
          simp only at hl2 hl3
          have Hn1 := Lib.hid (rnum_any w.heap.size rb2 r1 (by omega) Hrg2.out w3 (HM3.out.in H.out) HR3.out)
          rw [e2] at Hn1
          simp only at Hn1
          have hwx : IntKind.u64.wrap x1 = x1 := IntWalk.u64_in _ (by omega)
          clear hw ho e2
          go_wp2_with fail
          refine Hn1.out.mono ?_
          rintro e w4 ⟨rfl, hR4, hk4⟩
          have HR4 := Lib.hid hR4
          have HM4 := Lib.hid (HM3.out.reader HR3.out Hrg2.out hk4)
          have HM4d := Lib.hid (HM4.out.below ((Below.refl _ w4).drew))
          have hA2' : w4.cell? ⟨cb, 3, none⟩ = some (.slice sa cm.slots.length sc) := (HM4.out.cfg.cell 3).trans rfl
          have hA2 : w4.drew.cell? ⟨cb, 3, none⟩ = some (.slice sa cm.slots.length sc) := (HM4d.out.cfg.cell 3).trans rfl
          have Hnz : Hid (∀ wz, wz = w4.drew → Calls Tryz.prog 53 #[.pointer (some ⟨rb2, 0, none⟩)] wz fun e w' => ∃ v, e = .returned v ∧ (v = .int .i64 y1 ∧ RdW w' rb2 rb3 ∧ Kept (· = rb2) w4.drew w')) := fun wz ez => by
            rw [ez]
            refine (rnum_any w.heap.size rb2 ra2 (by omega) Hrg2.out w4.drew (HM4d.out.in H.out) (Blk.drew HR4.out)).mono ?_
            rw [e3]
            rintro e w' ⟨rfl, h1, h2⟩
            exact ⟨_, rfl, rfl, h1, h2⟩
          obtain ⟨i0, hi0, hz0, hz1, hz2⟩ := info_parts info_slot
          have Hi0 := Lib.hid hi0; have Hz0 := Lib.hid hz0; have Hz1 := Lib.hid hz1; have Hz2 := Lib.hid hz2
          have h1c : Hid (∀ u ∈ [Value.int .u64 x1, .int .i64 y1], u.oneCell' = true) := fun u hu => by
            simp at hu
            rcases hu with rfl | rfl <;> rfl
          clear hR4 hk4 hi0 hz0 hz1 hz2 e3 hcf4 Hn1
          go_upto_region 17 with fail
          first
          | go_region_law (first
            | (refine step_call (by rfl) (ex_call (vs := #[.pointer (some ⟨rb2, 0, none⟩)]) (by simp [Act.eval, Act.put]) (enters_fn Tryz.func53 (by kernel_rfl) rfl)) (Hnz.out _ (by first | rfl | exact drew_eq w4)) ?_; rintro v w9 ⟨rfl, hr9, hk9⟩; have hM9 := HM4d.out.reader (Blk.drew HR4.out) Hrg2.out hk9; have hA3 : w9.cell? ⟨cb, 3, none⟩ = some (.slice sa cm.slots.length sc) := (hM9.cfg.cell 3).trans rfl; have hMy := hM9.below ((Below.refl _ w9).alloc (Nat.le_refl _) (.cells #[.int .u64 x1, .int .i64 y1] 110)); have hA4 : (w9.alloc (.cells #[.int .u64 x1, .int .i64 y1] 110)).cell? ⟨cb, 3, none⟩ = some (.slice sa cm.slots.length sc) := (hMy.cfg.cell 3).trans rfl)
            | (refine step_append_lies _ (by rfl) (.tmp 93) (.tmp 99) 51 (by rfl) w.heap.size 110 i0 _ 2 16 Tryz.underlying51 Hi0.out Hz0.out Hz1.out Hz2.out rfl (by decide) (.slice sa cm.slots.length sc) cm.slots.length (cm.slots.flatMap slotV) (by simp [Act.eval]) hMy.slots ⟨w9.heap.size, 0, none⟩ 1 1 [.int .u64 x1, .int .i64 y1] (by simp [Act.eval]) rfl (World.news_of_block (Blk.new w9 #[.int .u64 x1, .int .i64 y1] 110)) h1c.out (by omega) (by unfold maxLen; omega) (by omega) hMy.kept.size _ rfl ?_; intro g5 cap w5 hown5 hgrow5 _ _; have hadd := hMy.addSlot (s := (x1, y1)) Hcx.out Hcg.out hgrow5 (by rw [List.length_append, List.flatMap_append]; exact hown5); have hA5 : w5.cell? ⟨cb, 3, none⟩ = some (.slice sa cm.slots.length sc) := (hadd.2.cell 3).trans rfl; have hf5 : w5.frozen? ⟨cb, 3, none⟩ = false := hadd.2.free 3))
          | fail
          all_goals
            have HMn := Lib.hid hadd.1
            have HRn : Hid (RdW (w5.setCell ⟨cb, 3, none⟩ (.slice (some ⟨g5, 0, none⟩) (cm.slots.length + 1) cap)) rb2 rb3) := (blk_far (Blk.alloc hr9 (.cells #[.int .u64 x1, .int .i64 y1] 110)) (kept_grown hgrow5) (row_T hMy.slots) (by decide)).set_other (a := ⟨cb, 3, none⟩) (fun e => by
              have h1 := hadd.2
              have h2 : RdW w5 rb2 rb3 := blk_far (Blk.alloc hr9 (.cells #[.int .u64 x1, .int .i64 y1] 110)) (kept_grown hgrow5) (row_T hMy.slots) (by decide)
              unfold RdW Blk at h2
              unfold Blk at h1
              have e' : cb = rb2 := e
              rw [e', h2] at h1
              simp at h1) _
            clear hadd hA3 hA4 hA5 hf5 hgrow5 hown5 hr9 hk9 hM9 hMy
            go_wp2_with fail
            go_meet
            exact ⟨bd, rb3, _, os, _, _, rfl, by omega, HP, HRn, HMn⟩
        · obtain ⟨kk, hkk⟩ : ∃ kk, kindOf wd = kk := ⟨_, rfl⟩
          have Hhow : Hid ((wd == ([115, 108, 111, 116] : List UInt8)) = false ∨ ((wd == ([115, 108, 111, 116] : List UInt8)) = true ∧ ((os.length : Int) == 0) = false)) := by
            by_cases h1 : wd = slotW
            · right
              refine ⟨by rw [h1]; rfl, ?_⟩
              have h2 : os ≠ [] := fun e => hc ⟨h1, e⟩
              have h3 : os.length ≠ 0 := fun e => h2 (List.length_eq_zero_iff.1 e)
              simp only [beq_eq_false_iff_ne, ne_eq]; omega
            · left
              have : wd ≠ ([115, 108, 111, 116] : List UInt8) := h1
              simpa using this
          obtain ⟨⟨rb3, om⟩, e3⟩ : ∃ p, r1.object kk = p := ⟨_, rfl⟩
          have HP := Lib.hid (fun o (ho : rb3.bad = false → o = om) => HS.out.obj Hs.out He1.out hc (by rw [hkk]; exact e3) ho)
          rw [hkk] at HP
          have hlo : rb3.s.length ≤ 100000 := by
            have := object_len r1 kk
            rw [e3] at this
            simp only at this
            omega
          have HM3d := Lib.hid (HM3.out.below ((Below.refl _ w3).drew))
          have hA2 : w3.drew.cell? ⟨cb, 4, none⟩ = some (.slice oa os.length oc) := (HM3d.out.cfg.cell 4).trans rfl
          have Hkz : Hid (∀ wz, wz = w3.drew → Calls Tryz.prog 56 #[S wd] wz fun e w' => ∃ v, e = .returned v ∧ (v = .int .i64 (kk : Nat) ∧ Below w3.drew.heap.size w3.drew w')) := fun wz ez => by
            rw [ez]
            refine (kind_any wd w3.drew (HM3d.out.in H.out).has.base.sp).mono ?_
            rw [hkk]
            rintro e w' ⟨rfl, h1⟩
            exact ⟨_, rfl, rfl, h1⟩
          have Hoz : Hid (∀ w', Below w3.drew.heap.size w3.drew w' → Calls Tryz.prog 55 #[.pointer (some ⟨rb2, 0, none⟩), .int .i64 (kk : Nat)] w' fun e w'' => ∃ v, e = .returned v ∧ ∃ (o : WObj) (a1 : Option Addr) (c1 : Nat) (a2 : Option Addr) (c2 : Nat) (a3 : Option Addr) (c3 : Nat) (a4 : Option Addr) (c4 : Nat), v = .agg #[.int .i64 (kk : Nat), .int .i64 o.parent, .int .i64 (o.lab.d : Nat), .slice a1 o.lab.ps.length c1, .int .i64 (o.clr.d : Nat), .slice a2 o.clr.ps.length c2, .int .i64 o.pages, .int .i64 o.names, .slice a3 o.data.length c3, .slice a4 o.maps.length c4, .int .i64 o.space, .int .i64 o.pc] ∧ ObjV w'' o (.slice a1 o.lab.ps.length c1) (.slice a2 o.clr.ps.length c2) (.slice a3 o.data.length c3) (.slice a4 o.maps.length c4) ∧ (o.kind = (kk : Nat) ∧ (rb3.bad = false → o = om)) ∧ RdW w'' rb2 rb3 ∧ Kept (· = rb2) w' w'') := fun w' kb => by
            have hM8 := HM3d.out.below kb
            refine (robj_any w.heap.size rb2 r1 kk (by omega) Hrg2.out w' (hM8.in H.out) (Blk.below HR3.out.drew kb HR3.out.drew.lt)).mono ?_
            rw [e3]
            rintro e w'' ⟨o, ls, lc, vd, vm, rfl, h1, h2, h3, h4, h5⟩
            obtain ⟨a1, c1, rfl, -, -⟩ := RowAt.form h1.lab
            obtain ⟨a2, c2, rfl, -, -⟩ := RowAt.form h1.clr
            obtain ⟨a3, c3, rfl, -, -⟩ := RowAt.form h1.data
            obtain ⟨a4, c4, rfl, -, -⟩ := RowAt.form h1.maps
            exact ⟨_, rfl, o, a1, c1, a2, c2, a3, c3, a4, c4, rfl, h1, ⟨h2, h3⟩, h4, h5⟩
          have Hkq : Hid (∀ w', WoIn w.heap.size w' → Calls Tryz.prog 56 #[S wd] w' fun e w'' => e = .returned (.int .i64 (kk : Nat)) ∧ Below w'.heap.size w' w'') := fun w' hw' => by
            have := kind_any wd w' hw'.has.base.sp
            rw [hkk] at this
            exact this
          obtain ⟨i0, hi0, hz0, hz1, hz2⟩ := info_parts info_obj
          have Hi0 := Lib.hid hi0; have Hz0 := Lib.hid hz0; have Hz1 := Lib.hid hz1; have Hz2 := Lib.hid hz2
          have h1c : Hid (∀ (o : WObj) (a1 : Option Addr) (c1 : Nat) (a2 : Option Addr) (c2 : Nat) (a3 : Option Addr) (c3 : Nat) (a4 : Option Addr) (c4 : Nat), ∀ u ∈ [Value.int .i64 (kk : Nat), Value.int .i64 o.parent, Value.int .i64 (o.lab.d : Nat), Value.slice a1 o.lab.ps.length c1, Value.int .i64 (o.clr.d : Nat), Value.slice a2 o.clr.ps.length c2, Value.int .i64 o.pages, Value.int .i64 o.names, Value.slice a3 o.data.length c3, Value.slice a4 o.maps.length c4, Value.int .i64 o.space, Value.int .i64 o.pc], u.oneCell' = true) := fun o a1 c1 a2 c2 a3 c3 a4 c4 u hu => by
            simp at hu
            rcases hu with rfl | rfl | rfl | rfl | rfl | rfl | rfl | rfl | rfl | rfl | rfl | rfl <;> rfl
          clear hc hi0 hz0 hz1 hz2 e3 hkk
          rcases Hhow.out with hwb | ⟨hwb, hob⟩
          all_goals
            go_upto_region 13 with fail
            first
            | go_region_law (first
              | (refine step_call (by rfl) (ex_call (vs := #[S wd]) (by simp [Act.eval, Act.put]) (enters_fn Tryz.func56 (by kernel_rfl) rfl)) (Hkz.out _ (by first | rfl | exact drew_eq w3)) ?_; rintro v w8 ⟨rfl, hb8⟩; have hM8 := HM3d.out.below hb8; have hA8 : w8.cell? ⟨cb, 4, none⟩ = some (.slice oa os.length oc) := (hM8.cfg.cell 4).trans rfl)
              | (refine step_call (by rfl) (ex_call (vs := #[.pointer (some ⟨rb2, 0, none⟩), .int .i64 (kk : Nat)]) (by simp [Act.eval]) (enters_fn Tryz.func55 (by kernel_rfl) rfl)) (Hoz.out _ hb8) ?_; rintro v w9 ⟨o, a1, c1, a2, c2, a3, c3, a4, c4, rfl, hov, hok, hr9, hk9⟩; have hM9 := hM8.reader (Blk.below HR3.out.drew hb8 HR3.out.drew.lt) Hrg2.out hk9; have hA9 : w9.cell? ⟨cb, 4, none⟩ = some (.slice oa os.length oc) := (hM9.cfg.cell 4).trans rfl; have hMy := hM9.below ((Below.refl _ w9).alloc (Nat.le_refl _) (.cells #[.int .i64 (kk : Nat), .int .i64 o.parent, .int .i64 (o.lab.d : Nat), .slice a1 o.lab.ps.length c1, .int .i64 (o.clr.d : Nat), .slice a2 o.clr.ps.length c2, .int .i64 o.pages, .int .i64 o.names, .slice a3 o.data.length c3, .slice a4 o.maps.length c4, .int .i64 o.space, .int .i64 o.pc] 107)); have hA4 : (w9.alloc (.cells #[.int .i64 (kk : Nat), .int .i64 o.parent, .int .i64 (o.lab.d : Nat), .slice a1 o.lab.ps.length c1, .int .i64 (o.clr.d : Nat), .slice a2 o.clr.ps.length c2, .int .i64 o.pages, .int .i64 o.names, .slice a3 o.data.length c3, .slice a4 o.maps.length c4, .int .i64 o.space, .int .i64 o.pc] 107)).cell? ⟨cb, 4, none⟩ = some (.slice oa os.length oc) := (hMy.cfg.cell 4).trans rfl)
              | (obtain ⟨sl9, hs1, hs2, hs3⟩ := hMy.objs; refine step_append_lies _ (by rfl) (.tmp 67) (.tmp 72) 55 (by rfl) w.heap.size 107 i0 _ 12 160 Tryz.underlying55 Hi0.out Hz0.out Hz1.out Hz2.out rfl (by decide) (.slice oa os.length oc) os.length (objsC os sl9) (by simp [Act.eval]) hs3 ⟨w9.heap.size, 0, none⟩ 1 1 [.int .i64 (kk : Nat), .int .i64 o.parent, .int .i64 (o.lab.d : Nat), .slice a1 o.lab.ps.length c1, .int .i64 (o.clr.d : Nat), .slice a2 o.clr.ps.length c2, .int .i64 o.pages, .int .i64 o.names, .slice a3 o.data.length c3, .slice a4 o.maps.length c4, .int .i64 o.space, .int .i64 o.pc] (by simp [Act.eval]) rfl (World.news_of_block (Blk.new w9 #[.int .i64 (kk : Nat), .int .i64 o.parent, .int .i64 (o.lab.d : Nat), .slice a1 o.lab.ps.length c1, .int .i64 (o.clr.d : Nat), .slice a2 o.clr.ps.length c2, .int .i64 o.pages, .int .i64 o.names, .slice a3 o.data.length c3, .slice a4 o.maps.length c4, .int .i64 o.space, .int .i64 o.pc] 107)) (h1c.out o a1 c1 a2 c2 a3 c3 a4 c4) (by omega) (by unfold maxLen; omega) (by omega) hMy.kept.size _ rfl ?_; intro g5 cap w5 hown5 hgrow5 _ _; have hadd := hMy.addObj (o := o) (q := ⟨.slice a1 o.lab.ps.length c1, .slice a2 o.clr.ps.length c2, .slice a3 o.data.length c3, .slice a4 o.maps.length c4⟩) Hcx.out Hcg.out (hov.below ((Below.refl _ w9).alloc (Nat.le_refl _) _) (Nat.le_refl _)) hs1 hs2 hs3 hgrow5 (by rw [List.length_append, objsC_snoc o _ os sl9 hs1]; unfold objC; rw [hok.1]; exact hown5); have hA5 : w5.cell? ⟨cb, 4, none⟩ = some (.slice oa os.length oc) := (hadd.2.cell 4).trans rfl; have hf5 : w5.frozen? ⟨cb, 4, none⟩ = false := hadd.2.free 4))
            | fail
            all_goals
              have HMn := Lib.hid hadd.1
              have HRn : Hid (RdW (w5.setCell ⟨cb, 4, none⟩ (.slice (some ⟨g5, 0, none⟩) (os.length + 1) cap)) rb2 rb3) := (blk_far (Blk.alloc hr9 (.cells #[.int .i64 (kk : Nat), .int .i64 o.parent, .int .i64 (o.lab.d : Nat), .slice a1 o.lab.ps.length c1, .int .i64 (o.clr.d : Nat), .slice a2 o.clr.ps.length c2, .int .i64 o.pages, .int .i64 o.names, .slice a3 o.data.length c3, .slice a4 o.maps.length c4, .int .i64 o.space, .int .i64 o.pc] 107)) (kept_grown hgrow5) (row_T hs3) (by decide)).set_other (a := ⟨cb, 4, none⟩) (fun e => by
                have h1 := hadd.2
                have h2 : RdW w5 rb2 rb3 := blk_far (Blk.alloc hr9 (.cells #[.int .i64 (kk : Nat), .int .i64 o.parent, .int .i64 (o.lab.d : Nat), .slice a1 o.lab.ps.length c1, .int .i64 (o.clr.d : Nat), .slice a2 o.clr.ps.length c2, .int .i64 o.pages, .int .i64 o.names, .slice a3 o.data.length c3, .slice a4 o.maps.length c4, .int .i64 o.space, .int .i64 o.pc] 107)) (kept_grown hgrow5) (row_T hs3) (by decide)
                unfold RdW Blk at h2
                unfold Blk at h1
                have e' : cb = rb2 := e
                rw [e', h2] at h1
                simp at h1) _
              have HPo := Lib.hid (HP.out o hok.2)
              clear hadd hA4 hA5 hf5 hA8 hA9 hgrow5 hown5 hr9 hk9 hM9 hMy hM8 hb8 hok hov hs1 hs2 hs3
              cases bd with
              | true =>
                go_wp2_with fail
                go_meet
                exact ⟨true, rb3, _, _, _, _, rfl, hlo, HPo, HRn, HMn⟩
              | false =>
                have Hk2 := Lib.hid (Hkq.out _ (HMn.out.in H.out))
                go_wp2_with fail
                refine Hk2.out.mono ?_
                rintro e w10 ⟨rfl, hb10⟩
                have HMq := Lib.hid (HMn.out.below hb10)
                have HRq : Hid (RdW w10 rb2 rb3) := Blk.below HRn.out hb10 (Blk.lt HRn.out)
                by_cases hk0 : kk = 0
                · have hkb : ((kk : Int) == 0) = true := by simp [hk0]
                  have HPd : Hid (ParSt LS B0 (WCfg.mk x y z [] []) (k + 1) (true || (rb3.bad || !rb3.over)) { cm with objs := cm.objs ++ [om] } (os ++ [o])) := by
                    have := HPo.out
                    rw [show decide (kk = 0) = true from decide_eq_true hk0] at this
                    exact this
                  clear hk0
                  go_wp2_with fail
                  go_meet
                  exact ⟨true, rb3, _, _, _, _, rfl, hlo, HPd, HRq, HMq⟩
                · have hkb : ((kk : Int) == 0) = false := by simp only [beq_eq_false_iff_ne, ne_eq]; omega
                  have HPd : Hid (ParSt LS B0 (WCfg.mk x y z [] []) (k + 1) (false || (rb3.bad || !rb3.over)) { cm with objs := cm.objs ++ [om] } (os ++ [o])) := by
                    have := HPo.out
                    rw [show decide (kk = 0) = false from decide_eq_false hk0] at this
                    exact this
                  clear hk0
                  go_wp2_with fail
                  go_meet
                  exact ⟨false, rb3, _, _, _, _, rfl, hlo, HPd, HRq, HMq⟩
      case rest =>
      rename World => w3
      obtain ⟨bd1, rr, cm', os', sv', ov', rfl, hrl, HPn, HRn, HMn⟩ := hcut
      have Hov2 := Lib.hid (over_any rb2 rr hrl w3 HRn.out)
      clear hcf4 HM3 HR3 HS
      cases bd1 with
      | true =>
        go_wp2_with fail
        go_roundg (LS.length - (k + 1))
        case measure => omega
        case rel => exact ⟨k + 1, true, cm', os', sv', ov', by omega, by go_num, rfl, HPn, HMn⟩
      | false =>
        cases hbd : rr.bad with
        | true =>
          have hcr : w3.cell? ⟨rb2, 1, none⟩ = some (.bool true) := by rw [Blk.cell HRn.out 1, hbd]; rfl
          rw [hbd] at HPn
          clear hbd
          go_wp2_with fail
          go_roundg (LS.length - (k + 1))
          case measure => omega
          case rel => exact ⟨k + 1, true, cm', os', sv', ov', by omega, by go_num, rfl, HPn, HMn⟩
        | false =>
          have hcr : w3.cell? ⟨rb2, 1, none⟩ = some (.bool false) := by rw [Blk.cell HRn.out 1, hbd]; rfl
          rw [hbd] at HPn
          clear hbd
          go_wp2_with fail
          refine Hov2.out.mono ?_
          rintro e w8' ⟨rfl, hb8'⟩
          have HMo := Lib.hid (HMn.out.below hb8')
          go_wp2_with fail
          go_roundg (LS.length - (k + 1))
          case measure => omega
          case rel => exact ⟨k + 1, _, cm', os', sv', ov', by omega, by go_num, rfl, HPn, HMo⟩
    · obtain rfl : k = LS.length := by omega
      have HPt : Hid (parseT text = if bd = true then none else some cm) := by
        show _ = _
        unfold parseT
        rw [if_neg (by omega), HLA.out]
        simp only [HHd.out]
        rw [HS.out.eq, List.drop_length]
        rfl
      have HX9 := Lib.hid HM.out.zero
      have hcx := HX9.out.cell
      have hfx := HX9.out.free
      obtain ⟨z1, z2⟩ := HNo.out wr HX9.out HM.out.kept
      have Z1 := Lib.hid z1; have Z2 := Lib.hid z2
      clear z1 z2 hsv hso hsl
      cases bd with
      | true =>
        have Hp : Hid (parseC text = none) := by show _ = _; unfold parseC; rw [HPt.out, if_pos rfl]
        go_wp2_with fail
        refine bodyPost_ret (results_ct rfl _ _ ⟨xb, 0, none⟩ _ rfl (load_cfg _ _ _ rfl Z1.out)) rfl ?_
        exact ⟨Z2.out, .inl ⟨Hp.out, rfl⟩⟩
      | false =>
        have HPs : Hid (parseT text = some cm) := by show _ = _; rw [HPt.out]; rfl
        obtain ⟨hok, hpl⟩ := parse_ok HPs.out
        have Hbd := Lib.hid (cfg_bd hok (by omega))
        have hos := HS.out.good rfl
        subst hos
        obtain ⟨hd1, hd2, hd3⟩ := HS.out.hd
        have hcm : (⟨x, y, z, cm.slots, cm.objs⟩ : WCfg) = cm := by
          obtain ⟨c1, c2, c3, c4, c5⟩ := cm
          simp only at hd1 hd2 hd3
          rw [← hd1, ← hd2, ← hd3]
        have HV := Lib.hid HM.out.value
        rw [hcm] at HV
        have Hrt := Lib.hid (cfg_right_any cm _ wr HV.out Hbd.out)
        have hcc := HM.out.cfg.cell
        clear hcm hok hpl hd1 hd2 hd3
        go_wp2_with fail
        refine Hrt.out.mono ?_
        rintro e w10 ⟨rfl, hb10⟩
        have HM10 := Lib.hid (HM.out.below hb10)
        have HV10 := Lib.hid (HV.out.below hb10 (Nat.le_refl _))
        have hcc10 := HM10.out.cfg.cell
        have hcx10 := HM10.out.zero.cell
        have hfx10 := HM10.out.zero.free
        clear hb10 hcx hfx hcc Z1 Z2
        cases hr : cm.right with
        | false =>
          have Hp : Hid (parseC text = none) := by show _ = _; unfold parseC; rw [HPs.out]; simp only [hr]; rfl
          obtain ⟨z1, z2⟩ := HNo.out w10 HM10.out.zero HM10.out.kept
          have Z1 := Lib.hid z1; have Z2 := Lib.hid z2
          clear z1 z2
          go_wp2_with fail
          refine bodyPost_ret (results_ct rfl _ _ ⟨xb, 0, none⟩ _ rfl (load_cfg _ _ _ rfl Z1.out)) rfl ?_
          exact ⟨Z2.out, .inl ⟨Hp.out, rfl⟩⟩
        | true =>
          have Hp : Hid (parseC text = some cm) := by show _ = _; unfold parseC; rw [HPs.out]; simp only [hr]; rfl
          have hF := set5_blk HM10.out.zero (.int .i64 x) (.int .i64 y) (.int .i64 z) (.slice sa cm.slots.length sc) (.slice oa cm.objs.length oc)
          have hKs := set5_kept w10 xb (.int .i64 x) (.int .i64 y) (.int .i64 z) (.slice sa cm.slots.length sc) (.slice oa cm.objs.length oc)
          have HVf : Hid (CfgIn (set5 w10 xb (.int .i64 x) (.int .i64 y) (.int .i64 z) (.slice sa cm.slots.length sc) (.slice oa cm.objs.length oc)) (.agg #[.int .i64 x, .int .i64 y, .int .i64 z, .slice sa cm.slots.length sc, .slice oa cm.objs.length oc]) cm) := by
            obtain ⟨sv, ov, e, h1, h2⟩ := HV10.out
            have hT := blk_T HM10.out.zero
            obtain ⟨ss, g1, g2, g3⟩ := h2
            exact ⟨sv, ov, e, rowat_far h1 hKs hT (by decide), ss, g1, fun j o s hj hs => objv_far (g2 j o s hj hs) hKs hT (by decide), rowat_far g3 hKs hT (by decide)⟩
          have HBf : Hid (Below w.heap.size w (set5 w10 xb (.int .i64 x) (.int .i64 y) (.int .i64 z) (.slice sa cm.slots.length sc) (.slice oa cm.objs.length oc))) := (HM10.out.kept.then hKs (fun i hi e => by have := Hxb.out; omega)).below (Nat.le_refl _) (fun _ _ f => f)
          have HF := Lib.hid hF
          unfold set5 at HVf HBf HF
          clear hF hKs
          go_wp2_with fail
          refine bodyPost_ret (results_ct rfl _ _ ⟨xb, 0, none⟩ _ rfl (load_cfg _ _ _ rfl HF.out)) rfl ?_
          exact ⟨HBf.out, .inr ⟨cm, _, _, _, _, _, _, _, _, _, Hp.out, rfl, HVf.out⟩⟩
end Go.Proofs.YtjjnidbggoaonaaGreatDoor
