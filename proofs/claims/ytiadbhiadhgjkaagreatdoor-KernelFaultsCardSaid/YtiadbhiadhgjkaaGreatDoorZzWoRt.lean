/- Of the proof of this claim: a joined text. -/
import Derived.Test.YtiadbhiadhgjkaaGreatDoorZzWoHm
import Derived.Test.YtiadbhiadhgjkaaGreatDoorZzKq
set_option maxRecDepth 100000
set_option maxHeartbeats 4000000
namespace Go.Proofs.YtiadbhiadhgjkaaGreatDoor
open Go.RowKit
attribute [local irreducible] World.setCell World.alloc World.drew World.setRow Calls Code.wp
attribute [local go_sem] Oper.semAt_some
theorem pairsR_pos {d : Nat} : ∀ {last : Nat} {l : List (Nat × Nat)}, pairsR d last l = true -> ∀ p ∈ l, last < p.1
 | _, [], _, p, hp => by cases hp
 | last, q :: r, h, p, hp => by
  simp only [pairsR, Bool.and_eq_true, decide_eq_true_eq] at h;rcases List.mem_cons.1 hp with rfl | hp
  ·exact h.1.1
  ·exact Nat.lt_trans h.1.1 (pairsR_pos h.2 p hp)
theorem lab_ok_right {l : Lab} (h : l.right = true) : LabOk l := by
 obtain ⟨⟨d1, d4⟩, hn, hp⟩ := Lab.right_spec h;have h2 : pairsR l.d 0 l.ps = true := by unfold Lab.right at h; simp only [Bool.and_eq_true] at h; exact h.2
 exact ⟨by omega, by omega, fun p hm => ⟨by have := pairsR_pos h2 p hm; omega, by have := (hp p hm).2; omega⟩⟩
theorem rest_len {l : Lab} (h : l.right = true) : l.rest.ps.length <= 1000 := by
 have hn := (Lab.right_spec h).2.1;have h1 : l.rest.ps.length <= (bothL l l).length := by unfold Lab.rest Lab.merge; exact List.length_filterMap_le _ _
 have h2 : (bothL l l).length <= l.ps.length + l.ps.length := bothF_len _ _ _ _ _;omega
theorem cright_any (x y z : Int) (sv ov : Value) (os : List WObj) (i : Nat) (o : WObj) (w : World) (hO : ObjsIn w ov os) (hi : os[i]? = some o) (hbd : o.bd) (hbo : ∀ p ∈ os, p.lab.ps.length <= 1000) (hn : os.length <= 100000) :
  Calls Tryz.prog 60 #[.agg #[.int .i64 x, .int .i64 y, .int .i64 z, sv, ov], .int .i64 (i : Int)] w fun e w' => e = .returned (.bool (objR os i o)) /\ Below w.heap.size w w' := by
 obtain ⟨a, c, rfl, hc1, hc2⟩ := hO.form;have hlt := (List.getElem?_eq_some_iff.1 hi).1;obtain ⟨w1, hw1⟩ : ∃ w1 : World, w1 = w.alloc (.cells #[.int .i64 x, .int .i64 y, .int .i64 z, sv, .slice a os.length c] 81) := ⟨_, rfl⟩;obtain ⟨xb, hxb⟩ : ∃ xb, xb = w.heap.size := ⟨_, rfl⟩
 have HLh : Hid (∀ h, homeL os i o = some h -> h.ps.length <= 1000) := fun h e => by
  unfold homeL at e;split at e
  ·cases e; exact Nat.zero_le _
  split at e
  ·cases e
  split at e
  ·rename_i p hp
   split at e
   ·cases e; exact hbo p (List.mem_of_getElem? hp)
   ·cases e
  ·cases e
 have HX : Hid (Blk w1 xb #[.int .i64 x, .int .i64 y, .int .i64 z, sv, .slice a os.length c] 81) := by rw [hw1, hxb]; exact Blk.new _ _ _
 have HB1 : Hid (Below w.heap.size w w1) := by rw [hw1]; exact (Below.refl _ w).alloc (Nat.le_refl _) _
 have HO1 := Lib.hid (hO.below HB1.out (Nat.le_refl _));obtain ⟨b, s, rfl, hb, hV, hcell⟩ := HO1.out.at hi;obtain ⟨la, lc, hls, hl1, hl2⟩ := RowAt.form hV.lab;obtain ⟨ca, cc, hlc, hc1', hc2'⟩ := RowAt.form hV.clr;obtain ⟨da, dc, hvd, hd1, hd2⟩ := RowAt.form hV.data;obtain ⟨ma, mc, hvm, hm1, hm2⟩ := RowAt.form hV.maps;have q0 : w1.cell? ⟨b, i * 12, none⟩ = some (.int .i64 o.kind) := by have := hcell 0 (by omega); rw [Nat.add_zero] at this; rw [this]; rfl
 have q1 : w1.cell? ⟨b, i * 12 + 1, none⟩ = some (.int .i64 o.parent) := by rw [hcell 1 (by omega)]; rfl
 have q2 : w1.cell? ⟨b, i * 12 + 2, none⟩ = some (.int .i64 (o.lab.d : Nat)) := by rw [hcell 2 (by omega)]; rfl
 have q3 : w1.cell? ⟨b, i * 12 + 3, none⟩ = some (.slice la o.lab.ps.length lc) := by rw [hcell 3 (by omega), <- hls]; rfl
 have q4 : w1.cell? ⟨b, i * 12 + 4, none⟩ = some (.int .i64 (o.clr.d : Nat)) := by rw [hcell 4 (by omega)]; rfl
 have q5 : w1.cell? ⟨b, i * 12 + 5, none⟩ = some (.slice ca o.clr.ps.length cc) := by rw [hcell 5 (by omega), <- hlc]; rfl
 have q6 : w1.cell? ⟨b, i * 12 + 6, none⟩ = some (.int .i64 o.pages) := by rw [hcell 6 (by omega)]; rfl
 have q7 : w1.cell? ⟨b, i * 12 + 7, none⟩ = some (.int .i64 o.names) := by rw [hcell 7 (by omega)]; rfl
 have q8 : w1.cell? ⟨b, i * 12 + 8, none⟩ = some (.slice da o.data.length dc) := by rw [hcell 8 (by omega), <- hvd]; rfl
 have q9 : w1.cell? ⟨b, i * 12 + 9, none⟩ = some (.slice ma o.maps.length mc) := by rw [hcell 9 (by omega), <- hvm]; rfl
 have q10 : w1.cell? ⟨b, i * 12 + 10, none⟩ = some (.int .i64 o.space) := by rw [hcell 10 (by omega)]; rfl
 have q11 : w1.cell? ⟨b, i * 12 + 11, none⟩ = some (.int .i64 o.pc) := by rw [hcell 11 (by omega)]; rfl
 obtain ⟨w2, hw2⟩ : ∃ w2 : World, w2 = w1.alloc (.cells #[.int .i64 o.kind, .int .i64 o.parent, .int .i64 (o.lab.d : Nat), .slice la o.lab.ps.length lc, .int .i64 (o.clr.d : Nat), .slice ca o.clr.ps.length cc, .int .i64 o.pages, .int .i64 o.names, .slice da o.data.length dc, .slice ma o.maps.length mc, .int .i64 o.space, .int .i64 o.pc] 120) := ⟨_, rfl⟩;obtain ⟨ob, hob⟩ : ∃ ob, ob = w1.heap.size := ⟨_, rfl⟩;have HX2 : Hid (Blk w2 xb #[.int .i64 x, .int .i64 y, .int .i64 z, sv, .slice (some ⟨b, 0, none⟩) os.length c] 81) := by rw [hw2]; exact HX.out.alloc _
 have HE2 : Hid (Blk w2 ob #[.int .i64 o.kind, .int .i64 o.parent, .int .i64 (o.lab.d : Nat), .slice la o.lab.ps.length lc, .int .i64 (o.clr.d : Nat), .slice ca o.clr.ps.length cc, .int .i64 o.pages, .int .i64 o.names, .slice da o.data.length dc, .slice ma o.maps.length mc, .int .i64 o.space, .int .i64 o.pc] 120) := by rw [hw2, hob]; exact Blk.new _ _ _
 have HB12 : Hid (Below w1.heap.size w1 w2) := by rw [hw2]; exact (Below.refl _ w1).alloc (Nat.le_refl _) _
 have HB2 := Lib.hid (bel_from HB1.out HB12.out);have HO2 := Lib.hid (HO1.out.below HB12.out (Nat.le_refl _));have HV2 := Lib.hid (hV.below HB12.out (Nat.le_refl _));have hcx := HX.out.cell;have hcx2 := HX2.out.cell;have hi' : (i : Int) < os.length := by omega
 have Hi := Lib.hid hi;have HV := Lib.hid hV;have Hbd := Lib.hid hbd;have Hls := Lib.hid hls; have Hlc := Lib.hid hlc; have Hvd := Lib.hid hvd; have Hvm := Lib.hid hvm;clear hcell hV hO hi hbd hls hlc hvd hvm;go_enter Tryz.func60, Tryz.ntmps60
 go_upto_region 1 with fail
 rw [<- hw1, <- hxb];have Hxb := Lib.hid hxb;clear hw1 hxb;go_upto_region 2 with fail
 rw [<- hw2, <- hob];have Hob := Lib.hid hob;clear hw2 hob hcx q0 q1 q2 q3 q4 q5 q6 q7 q8 q9 q10 q11;go_wp2_with fail
 refine (home_any x y z sv _ os i o w2 HO2.out Hi.out Hbd.out.p hn).mono ?_;rintro e w3 ⟨dv, ha, hl, hc, rfl, hh, hb3⟩;obtain ⟨kb, hkb⟩ : ∃ kb, kb = w3.heap.size := ⟨_, rfl⟩;obtain ⟨w4, hw4⟩ : ∃ w4 : World, w4 = w3.alloc (.cells #[.int .i64 dv, .slice ha hl hc] 43) := ⟨_, rfl⟩;have HX4 : Hid (Blk w4 xb #[.int .i64 x, .int .i64 y, .int .i64 z, sv, .slice (some ⟨b, 0, none⟩) os.length c] 81) := by rw [hw4]; exact (Blk.below HX2.out hb3 HX2.out.lt).alloc _
 have HE4 : Hid (Blk w4 ob #[.int .i64 o.kind, .int .i64 o.parent, .int .i64 (o.lab.d : Nat), .slice la o.lab.ps.length lc, .int .i64 (o.clr.d : Nat), .slice ca o.clr.ps.length cc, .int .i64 o.pages, .int .i64 o.names, .slice da o.data.length dc, .slice ma o.maps.length mc, .int .i64 o.space, .int .i64 o.pc] 120) := by rw [hw4]; exact (Blk.below HE2.out hb3 HE2.out.lt).alloc _
 have HK4 : Hid (Blk w4 kb #[.int .i64 dv, .slice ha hl hc] 43) := by rw [hw4, hkb]; exact Blk.new _ _ _
 have HB34 : Hid (Below w2.heap.size w2 w4) := by rw [hw4]; exact hb3.alloc hb3.size _
 have HB4 := Lib.hid (bel_from HB2.out HB34.out);have HV4 := Lib.hid (HV2.out.below HB34.out (Nat.le_refl _));have HO4 := Lib.hid (HO2.out.below HB34.out (Nat.le_refl _))
 have HH4 : Hid (∀ h, homeL os i o = some h -> LabIn w4 (.agg #[.int .i64 dv, .slice ha hl hc]) h) := fun h e => by
  rw [hw4]; exact (hh h e).below ((Below.refl _ w3).alloc (Nat.le_refl _) _) (Nat.le_refl _)
 go_upto_region 3 with fail
 rw [<- hw4, <- hkb];have Hkb := Lib.hid hkb;clear hw4 hkb hh hb3
 have HSS : Hid (∀ w', Below w4.drew.heap.size w4.drew w' -> w'.cell? ⟨ob, 2, none⟩ = some (.int .i64 (o.lab.d : Nat)) /\ w'.cell? ⟨ob, 3, none⟩ = some (.slice la o.lab.ps.length lc) /\ w'.cell? ⟨kb, 0, none⟩ = some (.int .i64 dv) /\ w'.cell? ⟨kb, 1, none⟩ = some (.slice ha hl hc)) := fun w' k => by
  have h1 := Blk.below HE4.out.drew k HE4.out.drew.lt;have h2 := Blk.below HK4.out.drew k HK4.out.drew.lt;exact ⟨h1.cell 2, h1.cell 3, h2.cell 0, h2.cell 1⟩
 have HLd : Hid (PairsIn w4.drew (.slice la o.lab.ps.length lc) o.lab.ps) := by
  have := HV4.out.lab;rw [Hls.out] at this;exact RowAt.below this (Below.refl _ w4).drew (Nat.le_refl _)
 have HD : Hid (Below w4.heap.size w4 w4.drew) := (Below.refl _ w4).drew;have hr1 := HSS.out _ (Below.refl _ w4.drew);obtain ⟨hr1a, hr1b, hr1c, hr1d⟩ := hr1;obtain ⟨okB, hokB⟩ : ∃ b : Bool, (match homeL os i o with | none => false | some h => o.lab.right && h.leq o.lab.rest) = b := ⟨_, rfl⟩;have HokB := Lib.hid hokB;go_cut [7, 34] (fun _ v wx => v = .bool (!okB) /\ Hid (Below w4.heap.size w4 wx))
 case first =>
  rcases hA : homeL os i o with _ | h
  ·have Hd : Hid (okB = false) := by show _ = _; rw [<- HokB.out, hA]
   simp only [Option.isSome];clear hA hokB;go_region
   all_goals
    go_wp2_with fail
    go_meet;exact ⟨by rw [Hd.out]; rfl, HD⟩
  simp only [Option.isSome];have hR1 := lab_right_any o.lab (by have := Hbd.out.lab.1; omega) (fun p hp => ⟨(Hbd.out.lab.2.2 p hp).1, by have := (Hbd.out.lab.2.2 p hp).2; omega⟩) (.agg #[.int .i64 (o.lab.d : Nat), .slice la o.lab.ps.length lc]) w4.drew ⟨_, rfl, (HLd.out)⟩;have HR1 : Hid (Calls Tryz.prog 25 #[.agg #[.int .i64 (o.lab.d : Nat), .slice la o.lab.ps.length lc]] w4.drew fun e w' => ∃ v, e = .returned v /\ (v = .bool o.lab.right /\ Below w4.drew.heap.size w4.drew w')) := hR1.mono fun e w' h => ⟨_, h.1, rfl, h.2⟩
  clear hR1
  cases hB : o.lab.right
  ·have Hd : Hid (okB = false) := by show _ = _; rw [<- HokB.out, hA, hB]; rfl
   clear hA hokB;rw [hB] at HR1;first
   | go_region_law (refine step_callG (by rfl) (ex_call (vs := #[.agg #[.int .i64 (o.lab.d : Nat), .slice la o.lab.ps.length lc]]) (by simp [Act.eval]) (enters_fn Tryz.func25 (by kernel_rfl) rfl)) (HR1.out) ?_; rintro v w6 ⟨rfl, hb6⟩)
   | fail
   all_goals
    go_wp2_with fail
    go_meet;exact ⟨by rw [Hd.out]; rfl, Lib.hid (bel_from HD.out hb6)⟩
  rw [hB] at HR1
  have hR2 : ∀ w', Below w4.drew.heap.size w4.drew w' -> Calls Tryz.prog 27 #[.agg #[.int .i64 (o.lab.d : Nat), .slice la o.lab.ps.length lc]] w' fun e w'' => ∃ v, e = .returned v /\ (LabIn w'' v o.lab.rest /\ Below w'.heap.size w' w'') := fun w' k =>
   rest_lab_any o.lab _ w' (lab_ok_right hB) ⟨_, rfl, RowAt.below HLd.out k (Nat.le_refl _)⟩
  have HR2 := Lib.hid hR2;have HHd : Hid (LabIn w4.drew (.agg #[.int .i64 dv, .slice ha hl hc]) h) := (HH4.out h hA).below HD.out (Nat.le_refl _)
  have hR3 : ∀ w' v, Below w4.drew.heap.size w4.drew w' -> LabIn w' v o.lab.rest -> Calls Tryz.prog 26 #[.agg #[.int .i64 dv, .slice ha hl hc], v] w' fun e w'' => ∃ u, e = .returned u /\ (u = .bool (h.leq o.lab.rest) /\ Below w'.heap.size w' w'') := fun w' v k hv =>
   (leq_any h o.lab.rest _ v w' (HHd.out.below k (Nat.le_refl _)) hv ⟨HLh.out h hA, rest_len hB⟩).mono fun e w' h => ⟨_, h.1, rfl, h.2⟩
  have HR3 := Lib.hid hR3;have Hd : Hid (okB = h.leq o.lab.rest) := by show _ = _; rw [<- HokB.out, hA, hB]; rfl
  clear hR2 hR3 hA hokB;first
  | go_region_law (first
   | (refine step_callG (by rfl) (ex_call (vs := #[.agg #[.int .i64 (o.lab.d : Nat), .slice la o.lab.ps.length lc]]) (by simp [Act.eval]) (enters_fn Tryz.func25 (by kernel_rfl) rfl)) (HR1.out) ?_; rintro v w6 ⟨rfl, hb6⟩; obtain ⟨hr2a, hr2b, hr2c, hr2d⟩ := HSS.out _ hb6)
   | (refine step_callG (by rfl) (ex_call (vs := #[.agg #[.int .i64 (o.lab.d : Nat), .slice la o.lab.ps.length lc]]) (by simp [Act.eval]) (enters_fn Tryz.func27 (by kernel_rfl) rfl)) (HR2.out _ hb6) ?_; rintro v7 w7 ⟨hl7, hb7⟩; obtain ⟨hr3a, hr3b, hr3c, hr3d⟩ := HSS.out _ (bel_from hb6 hb7))
   | (refine step_callG (by rfl) (ex_call (vs := #[.agg #[.int .i64 dv, .slice ha hl hc], v7]) (by simp [Act.eval]) (enters_fn Tryz.func26 (by kernel_rfl) rfl)) (HR3.out _ _ (bel_from hb6 hb7) hl7) ?_; rintro v w8 ⟨rfl, hb8⟩))
  | fail
  all_goals
   go_wp2_with fail
   go_meet;exact ⟨by rw [Hd.out], Lib.hid (bel_from HD.out (bel_from (bel_from hb6 hb7) hb8))⟩
 case rest =>
 rename World => w8
 obtain ⟨rfl, HB8⟩ := hcut;clear hokB
 cases okB
 ·have Hd : Hid (objR os i o = false) := by
   show _ = _
   unfold objR;have hh := HokB.out
   cases hA : homeL os i o with
   | none => rfl
   | some h =>
    rw [hA] at hh;show (o.lab.right && (h.leq o.lab.rest && _)) = false
    rw [<- Bool.and_assoc];simp only at hh;rw [hh, Bool.false_and]
  go_wp2_with fail
  go_ret;exact ⟨by rw [Hd.out]; rfl, bel_from HB4.out HB8.out⟩
 all_goals
  have HE8 := Lib.hid (Blk.below HE4.out HB8.out HE4.out.lt);have HX8 := Lib.hid (Blk.below HX4.out HB8.out HX4.out.lt);have HV8 := Lib.hid (HV4.out.below HB8.out (Nat.le_refl _));have HW8 := Lib.hid (bel_from HB4.out HB8.out)
  have HOb : Hid (objR os i o = (if o.kind = 1 then o.lab.plain && decide (0 <= o.pages /\ o.pages <= 4096 /\ 0 <= o.names /\ o.names <= 4194304)
   else if o.kind = 2 then o.lab.plain && decide (0 <= o.pages /\ o.pages <= 16 /\ (o.data.length : Int) <= o.pages * 64)
   else if o.kind = 4 then o.lab.plain && (mapsRight o.maps && o.maps.all fun m => decide (m.seg <= (os.length : Int)))
   else if o.kind = 3 \/ o.kind = 5 then o.clr.right && (o.lab.leq o.clr && decide (0 <= o.pc /\ o.pc < 262144 /\ 0 <= o.space /\ o.space <= (os.length : Int)))
   else if o.kind = 6 then o.lab.plain else false)) := by
   show _ = _
   unfold objR;have hh := HokB.out
   cases hA : homeL os i o with
   | none => rw [hA] at hh; cases hh
   | some h =>
    rw [hA] at hh;show (o.lab.right && (h.leq o.lab.rest && _)) = _
    rw [<- Bool.and_assoc];simp only at hh;rw [hh, Bool.true_and]
  have Hpl := Lib.hid (plain_lab_any o.lab (.agg #[.int .i64 (o.lab.d : Nat), .slice la o.lab.ps.length lc]) w8 ⟨_, rfl, by have := HV8.out.lab; rw [Hls.out] at this; exact this⟩ Hbd.out.lab.2.1);have hE := HE8.out.cell;have hX := HX8.out.cell;have Hlen : Hid (o.data.length <= 100000 /\ o.maps.length <= 100000) := Hbd.out.ln;clear HokB HB8 HB4 HE4 HX4 HV4 HO4 HO2 HV2 HO1 HV HH4 HSS HLd hr1a hr1b hr1c hr1d;by_cases k1 : o.kind = 1
  ·have k1b : (o.kind == 1) = true := by simp [k1]
   rw [if_pos k1] at HOb;clear k1;go_wp2_with fail
   refine Hpl.out.mono ?_;rintro e w9 ⟨rfl, hb9⟩;have HB9 := Lib.hid (bel_from HW8.out hb9);have HE9 := Lib.hid (Blk.below HE8.out hb9 HE8.out.lt);have HX9 := Lib.hid (Blk.below HX8.out hb9 HX8.out.lt);have HV9 := Lib.hid (HV8.out.below hb9 (Nat.le_refl _));have hE9 := HE9.out.cell;clear hE hb9
   cases hP : o.lab.plain
   ·go_wp2_with fail
    go_ret;exact ⟨by rw [HOb.out, hP]; rfl, HB9.out⟩
   rw [hP, Bool.true_and] at HOb;have hcs : (0 <= o.pages /\ o.pages <= 4096 /\ 0 <= o.names /\ o.names <= 4194304) \/ (¬ 0 <= o.pages) \/ (0 <= o.pages /\ ¬ o.pages <= 4096) \/ (0 <= o.pages /\ o.pages <= 4096 /\ ¬ 0 <= o.names) \/ (0 <= o.pages /\ o.pages <= 4096 /\ 0 <= o.names /\ ¬ o.names <= 4194304) := by omega
   rcases hcs with ⟨c1, c2, c3, c4⟩ | c1 | ⟨c1, c2⟩ | ⟨c1, c2, c3⟩ | ⟨c1, c2, c3, c4⟩
   all_goals
    go_wp2_with fail
    go_ret;first
    | (have Hd : objR os i o = true := by rw [HOb.out, decide_eq_true (by omega)]
       exact ⟨by rw [Hd]; first | rfl | exact congrArg (fun b => Ending.returned (Value.bool b)) (decide_eq_true (by omega)), HB9.out⟩)
    | (have Hd : objR os i o = false := by rw [HOb.out, decide_eq_false (by omega)]
       exact ⟨by rw [Hd]; first | rfl | exact congrArg (fun b => Ending.returned (Value.bool b)) (decide_eq_false (by omega)), HB9.out⟩)
  by_cases k2 : o.kind = 2
  ·have k1b : (o.kind == 1) = false := by simpa using k1
   have k2b : (o.kind == 2) = true := by simp [k2]
   rw [if_neg k1, if_pos k2] at HOb;clear k1 k2;go_wp2_with fail
   refine Hpl.out.mono ?_;rintro e w9 ⟨rfl, hb9⟩;have HB9 := Lib.hid (bel_from HW8.out hb9);have HE9 := Lib.hid (Blk.below HE8.out hb9 HE8.out.lt);have HX9 := Lib.hid (Blk.below HX8.out hb9 HX8.out.lt);have HV9 := Lib.hid (HV8.out.below hb9 (Nat.le_refl _));have hE9 := HE9.out.cell;clear hE hb9
   cases hP : o.lab.plain
   ·go_wp2_with fail
    go_ret;exact ⟨by rw [HOb.out, hP]; rfl, HB9.out⟩
   rw [hP, Bool.true_and] at HOb;obtain ⟨hdl, -⟩ := Hlen.out;have hcs : (0 <= o.pages /\ o.pages <= 16) \/ (¬ 0 <= o.pages) \/ (0 <= o.pages /\ ¬ o.pages <= 16) := by omega
   rcases hcs with ⟨c1, c2⟩ | c1 | ⟨c1, c2⟩
   ·have hw : IntKind.i64.wrap (o.pages * 64) = o.pages * 64 := IntWalk.i64_in _ (by omega)
    rcases Decidable.em ((o.data.length : Int) <= o.pages * 64) with c3 | c3
    all_goals
     go_wp2_with fail
     go_ret;first
     | (have Hd : objR os i o = true := by rw [HOb.out, decide_eq_true (by omega)]
        exact ⟨by rw [Hd]; first | rfl | exact congrArg (fun b => Ending.returned (Value.bool b)) (decide_eq_true (by omega)), HB9.out⟩)
     | (have Hd : objR os i o = false := by rw [HOb.out, decide_eq_false (by omega)]
        exact ⟨by rw [Hd]; first | rfl | exact congrArg (fun b => Ending.returned (Value.bool b)) (decide_eq_false (by omega)), HB9.out⟩)
   all_goals
    go_wp2_with fail
    go_ret;first
    | (have Hd : objR os i o = true := by rw [HOb.out, decide_eq_true (by omega)]
       exact ⟨by rw [Hd]; first | rfl | exact congrArg (fun b => Ending.returned (Value.bool b)) (decide_eq_true (by omega)), HB9.out⟩)
    | (have Hd : objR os i o = false := by rw [HOb.out, decide_eq_false (by omega)]
       exact ⟨by rw [Hd]; first | rfl | exact congrArg (fun b => Ending.returned (Value.bool b)) (decide_eq_false (by omega)), HB9.out⟩)
  by_cases k4 : o.kind = 4
  ·have k1b : (o.kind == 1) = false := by simpa using k1
   have k2b : (o.kind == 2) = false := by simpa using k2
   have k4b : (o.kind == 4) = true := by simp [k4]
   rw [if_neg k1, if_neg k2, if_pos k4] at HOb;clear k1 k2 k4;go_wp2_with fail
   refine Hpl.out.mono ?_;rintro e w9 ⟨rfl, hb9⟩;have HB9 := Lib.hid (bel_from HW8.out hb9);have HE9 := Lib.hid (Blk.below HE8.out hb9 HE8.out.lt);have HX9 := Lib.hid (Blk.below HX8.out hb9 HX8.out.lt);have HV9 := Lib.hid (HV8.out.below hb9 (Nat.le_refl _));have hE9 := HE9.out.cell;clear hE hb9
   cases hP : o.lab.plain
   ·go_wp2_with fail
    go_ret;exact ⟨by rw [HOb.out, hP]; rfl, HB9.out⟩
   rw [hP, Bool.true_and] at HOb;have HMs : Hid (MapsIn w9 (.slice ma o.maps.length mc) o.maps) := by have := HV9.out.maps; rw [Hvm.out] at this; exact this
   have Hmr := Lib.hid (mapsR_any o.maps _ w9 HMs.out Hbd.out.ms Hlen.out.2);go_wp2_with fail
   refine Hmr.out.mono ?_;rintro e w10 ⟨rfl, hb10⟩;have HB10 := Lib.hid (bel_from HB9.out hb10);have hE10 := (Blk.below HE9.out hb10 HE9.out.lt).cell;have hX10 := (Blk.below HX9.out hb10 HX9.out.lt).cell;have Hsg := Lib.hid (segs_any x y z sv (some ⟨b, 0, none⟩) os.length c hn o.maps (.slice ma o.maps.length mc) w10 (RowAt.below HMs.out hb10 (Nat.le_refl _)) Hbd.out.ms Hlen.out.2);clear hE9 hb10
   cases hQ : mapsRight o.maps
   ·go_wp2_with fail
    go_ret;exact ⟨by rw [HOb.out, hQ]; rfl, HB10.out⟩
   rw [hQ, Bool.true_and] at HOb;go_wp2_with fail
   refine Hsg.out.mono ?_;rintro e w11 ⟨rfl, hb11⟩;go_wp2_with fail
   go_ret;exact ⟨by rw [HOb.out]; rfl, bel_from HB10.out hb11⟩
  by_cases k3 : o.kind = 3 \/ o.kind = 5
  ·have k1b : (o.kind == 1) = false := by simpa using k1
   have k2b : (o.kind == 2) = false := by simpa using k2
   have k4b : (o.kind == 4) = false := by simpa using k4
   rw [if_neg k1, if_neg k2, if_neg k4, if_pos k3] at HOb;have HC8 : Hid (PairsIn w8 (.slice ca o.clr.ps.length cc) o.clr.ps) := by have := HV8.out.clr; rw [Hlc.out] at this; exact this
   have HL8 : Hid (PairsIn w8 (.slice la o.lab.ps.length lc) o.lab.ps) := by have := HV8.out.lab; rw [Hls.out] at this; exact this
   have Hcr := Lib.hid (lab_right_any o.clr (by have := Hbd.out.clr.1; omega) (fun p hp => ⟨(Hbd.out.clr.2.2 p hp).1, by have := (Hbd.out.clr.2.2 p hp).2; omega⟩) (.agg #[.int .i64 (o.clr.d : Nat), .slice ca o.clr.ps.length cc]) w8 ⟨_, rfl, HC8.out⟩)
   have hk : (o.kind = 3 /\ (o.kind == 3) = true) \/ ((o.kind == 3) = false /\ (o.kind == 5) = true) := by
    rcases Decidable.em (o.kind = 3) with h | h
    ·exact .inl ⟨h, by simp [h]⟩
    ·exact .inr ⟨by simpa using h, by rcases k3 with h' | h'; exact absurd h' h; simp [h']⟩
   clear k1 k2 k4 k3;rcases hk with ⟨-, k3⟩ | ⟨k3, k5⟩
   all_goals
    go_wp2_with fail
    refine Hcr.out.mono ?_;rintro e w9 ⟨rfl, hb9⟩;have HB9 := Lib.hid (bel_from HW8.out hb9);have HE9 := Lib.hid (Blk.below HE8.out hb9 HE8.out.lt);have HX9 := Lib.hid (Blk.below HX8.out hb9 HX8.out.lt);have hE9 := HE9.out.cell
    cases hQ : o.clr.right
    ·go_wp2_with fail
     go_ret;exact ⟨by rw [HOb.out, hQ]; rfl, HB9.out⟩
    rw [hQ, Bool.true_and] at HOb;have Hlq := Lib.hid (leq_any o.lab o.clr (.agg #[.int .i64 (o.lab.d : Nat), .slice la o.lab.ps.length lc]) (.agg #[.int .i64 (o.clr.d : Nat), .slice ca o.clr.ps.length cc]) w9 ⟨_, rfl, RowAt.below HL8.out hb9 (Nat.le_refl _)⟩ ⟨_, rfl, RowAt.below HC8.out hb9 (Nat.le_refl _)⟩ ⟨Hbd.out.lab.2.1, Hbd.out.clr.2.1⟩);clear hb9;go_wp2_with fail
    refine Hlq.out.mono ?_;rintro e w10 ⟨rfl, hb10⟩;have HB10 := Lib.hid (bel_from HB9.out hb10);have hE10 := (Blk.below HE9.out hb10 HE9.out.lt).cell;have hX10 := (Blk.below HX9.out hb10 HX9.out.lt).cell;clear hE9 hb10
    cases hR : o.lab.leq o.clr
    ·go_wp2_with fail
     go_ret;exact ⟨by rw [HOb.out, hR]; rfl, HB10.out⟩
    rw [hR, Bool.true_and] at HOb;have hcs : (0 <= o.pc /\ o.pc < 262144 /\ 0 <= o.space /\ o.space <= (os.length : Int)) \/ (¬ 0 <= o.pc) \/ (0 <= o.pc /\ ¬ o.pc < 262144) \/ (0 <= o.pc /\ o.pc < 262144 /\ ¬ 0 <= o.space) \/ (0 <= o.pc /\ o.pc < 262144 /\ 0 <= o.space /\ ¬ o.space <= (os.length : Int)) := by omega
    have HB9 := HB10;rcases hcs with ⟨c1, c2, c3, c4⟩ | c1 | ⟨c1, c2⟩ | ⟨c1, c2, c3⟩ | ⟨c1, c2, c3, c4⟩
    all_goals
     go_wp2_with fail
     go_ret;first
     | (have Hd : objR os i o = true := by rw [HOb.out, decide_eq_true (by omega)]
        exact ⟨by rw [Hd]; first | rfl | exact congrArg (fun b => Ending.returned (Value.bool b)) (decide_eq_true (by omega)), HB9.out⟩)
     | (have Hd : objR os i o = false := by rw [HOb.out, decide_eq_false (by omega)]
        exact ⟨by rw [Hd]; first | rfl | exact congrArg (fun b => Ending.returned (Value.bool b)) (decide_eq_false (by omega)), HB9.out⟩)
  by_cases k6 : o.kind = 6
  ·have k1b : (o.kind == 1) = false := by simpa using k1
   have k2b : (o.kind == 2) = false := by simpa using k2
   have k4b : (o.kind == 4) = false := by simpa using k4
   have k3b : (o.kind == 3) = false := by simp; exact fun h => k3 (.inl h)
   have k5b : (o.kind == 5) = false := by simp; exact fun h => k3 (.inr h)
   have k6b : (o.kind == 6) = true := by simp [k6]
   rw [if_neg k1, if_neg k2, if_neg k4, if_neg k3, if_pos k6] at HOb;clear k1 k2 k4 k3 k6;go_wp2_with fail
   refine Hpl.out.mono ?_;rintro e w9 ⟨rfl, hb9⟩;go_wp2_with fail
   go_ret;exact ⟨by rw [HOb.out]; rfl, bel_from HW8.out hb9⟩
  ·have k1b : (o.kind == 1) = false := by simpa using k1
   have k2b : (o.kind == 2) = false := by simpa using k2
   have k4b : (o.kind == 4) = false := by simpa using k4
   have k3b : (o.kind == 3) = false := by simp; exact fun h => k3 (.inl h)
   have k5b : (o.kind == 5) = false := by simp; exact fun h => k3 (.inr h)
   have k6b : (o.kind == 6) = false := by simpa using k6
   rw [if_neg k1, if_neg k2, if_neg k4, if_neg k3, if_neg k6] at HOb;clear k1 k2 k4 k3 k6;go_wp2_with fail
   go_ret;exact ⟨by rw [HOb.out]; rfl, HW8.out⟩
end Go.Proofs.YtiadbhiadhgjkaaGreatDoor
