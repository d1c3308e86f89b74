/- Of the proof of this claim: a joined text. -/
import Derived.Test.YtiadbhiadhgjkaaGreatDoorZzKv
import Derived.Test.YtiadbhiadhgjkaaGreatDoorZzKw
import Derived.StillTailTactics
set_option maxRecDepth 100000
set_option maxHeartbeats 4000000
namespace Go.Proofs.YtiadbhiadhgjkaaGreatDoor
open Go.RowKit
attribute [local irreducible] World.setCell World.alloc World.drew World.setRow Calls Code.wp
theorem newK_spec {c : WCfg} {K : Km} (h : newK c = some K) : c.right = true /\ ∃ K1 made K2, bootAll (km0 c) [1] c.objs = some (K1, made) /\ fillAll K1 made c.cores 0 c.objs = some K2 /\
  c.slots.all (fun s => decide (0 <= s.1 /\ s.1 < (made.length : Int))) = true /\ K = startK K2 c made := by
 unfold newK at h;split at h
 ·rename_i hr
  split at h
  ·cases h
  ·rename_i K1 made h1
   split at h
   ·cases h
   ·rename_i K2 h2
    split at h
    ·rename_i h3
     cases h;exact ⟨hr, K1, made, K2, h1, h2, h3, rfl⟩
    ·cases h
 ·cases h
theorem right_spec {c : WCfg} (h : c.right = true) : (1 <= c.cores /\ c.cores <= 4) /\ (1 <= c.frames /\ c.frames <= 4096 /\ 0 <= c.names /\ c.names <= 4194302) /\ c.objs.length <= 64 /\ (1 <= c.slots.length /\ c.slots.length <= 8) /\ ∀ s ∈ c.slots, 1 <= s.2 /\ s.2 <= 16 := by
 simp only [WCfg.right, slotsRight, Bool.and_eq_true, decide_eq_true_eq, List.all_eq_true] at h;obtain ⟨⟨h1, h2, h3, h4, h5, h6, h7⟩, ⟨h8, h9⟩, -⟩ := h;exact ⟨⟨h1, h2⟩, ⟨h3, h4, h5, h6⟩, h7, h9, h8⟩
def rootU (c : WCfg) (u : Int) : Ob := { ob0 1 1 ⟨2, []⟩ 0 with purse := ⟨c.frames, u, 0⟩, names := ⟨2, 2, 2 + c.names⟩ }
theorem knew_any (w : World) (c : WCfg) (v : Value) (K : Km) (hc : CfgIn w v c) (hbd : c.bd) (hK : newK c = some K) :
  Calls Tryz.prog 17 #[v] w fun e w' => ∃ kb, e = .returned (.tuple #[.pointer (some ⟨kb, 0, none⟩), .int .i64 0]) /\ Below w.heap.size w w' /\ ∃ g, KIn w' g K /\ Inv g K /\ g.kb = kb /\ ∀ b, b < w.heap.size -> g.A b = none := by
 have HC := Lib.hid hc;obtain ⟨hr, K1, made, K2, h1, h2, h3, rfl⟩ := newK_spec hK;obtain ⟨rc, rf, ro, rs, rs2⟩ := right_spec hr;have HR := Lib.hid hr; have H1 := Lib.hid h1; have H2 := Lib.hid h2; have H3 := Lib.hid h3; have HS := Lib.hid rs2; have HBd := Lib.hid hbd;obtain ⟨sv, ov, rfl, hs, ho⟩ := hc;obtain ⟨sa, sc, rfl, -, -⟩ := RowAt.form hs;obtain ⟨oa, oc, rfl, -, -⟩ := ho.form;obtain ⟨fn, hfn⟩ : ∃ fn : Nat, c.frames = (fn : Int) := ⟨c.frames.toNat, by omega⟩;have HFn := Lib.hid hfn; clear hfn;obtain ⟨cb, hcb⟩ : ∃ cb, cb = w.heap.size := ⟨_, rfl⟩;have hBx : Blk (w.alloc (.cells #[.int .i64 c.cores, .int .i64 c.frames, .int .i64 c.names, .slice sa c.slots.length sc, .slice oa c.objs.length oc] 81)) cb #[.int .i64 c.cores, .int .i64 c.frames, .int .i64 c.names, .slice sa c.slots.length sc, .slice oa c.objs.length oc] 81 := by rw [hcb]; exact Blk.new _ _ _
 have Hb0 : Hid (Below w.heap.size w (w.alloc (.cells #[.int .i64 c.cores, .int .i64 c.frames, .int .i64 c.names, .slice sa c.slots.length sc, .slice oa c.objs.length oc] 81))) := Lib.hid ((Below.refl _ w).alloc (Nat.le_refl _) _);have HRt := Lib.hid (cfg_right_any _ _ _ (HC.out.below Hb0.out (Nat.le_refl _)) hbd);have HBx := Lib.hid hBx;clear hs ho h1 h2 h3 hr rs2 hbd hK hBx;go_enter Tryz.func17, Tryz.ntmps17
 go_wp2_with fail
 rw [<- hcb];clear hcb;refine HRt.out.mono ?_;rintro e w1 ⟨rfl, hb1⟩;rw [HR.out];have HB1 : Hid (Below w.heap.size w w1) := bel_from Hb0.out hb1;have hBx1 := Blk.below HBx.out hb1 HBx.out.lt;have hlt1 := hBx1.lt;have k1 : w1.cell? ⟨cb, 1, none⟩ = some (.int .i64 c.frames) := (hBx1.cell 1).trans rfl;have HBx1 := Lib.hid hBx1
 have Hct : Hid (∀ wz, wz = w1.drew -> Calls Tryz.prog 33 #[] wz fun e w' => ∃ v, e = .returned v /\ (v = .pointer (some ⟨w1.heap.size + 1, 0, none⟩) /\ Blk w' (w1.heap.size + 1) #[.map (some w1.heap.size)] 137 /\ MapAt w' w1.heap.size [] /\ Below w1.heap.size w1 w')) := fun wz ez => by
  rw [ez];refine (tnew_any _).mono ?_;rintro e w' ⟨rfl, t1, t2, t3⟩;rw [World.size_drew] at t1 t2 t3;refine ⟨_, rfl, by rw [World.size_drew], t1, t2, (Below.refl _ w1).drew.trans t3⟩
 have Hcf : Hid (∀ w', Calls Tryz.prog 34 #[.int .i64 c.frames] w' fun e w'' => ∃ v, e = .returned v /\ ∃ pb db ob, v = .pointer (some ⟨pb, 0, none⟩) /\ PoolAt w'' pb db ob (newPool fn) /\ w'.heap.size <= pb /\ w'.heap.size <= db /\ w'.heap.size <= ob /\ Below w'.heap.size w' w'') := fun w' => by
  rw [HFn.out];have h := HFn.out;refine (new_any fn w' (by omega) (by omega)).mono ?_;rintro e w'' ⟨pb, db, ob, rfl, t⟩;exact ⟨_, rfl, pb, db, ob, rfl, t⟩
 clear hb1 hBx1;go_upto_region 3 with fail
 go_cut [4] (fun k wx => ∃ kb tb mb pb db ob, k = .pointer (some ⟨kb, 0, none⟩) /\ Hid (Begun w cb #[.int .i64 c.cores, .int .i64 c.frames, .int .i64 c.names, .slice sa c.slots.length sc, .slice oa c.objs.length oc] kb tb mb pb db ob (newPool fn) [] wx))
 case first =>
  go_region_law (first
   | (refine step_call (by rfl) (ex_call (vs := #[]) (by simp) (enters_fn Tryz.func33 (by kernel_rfl) rfl)) (Hct.out _ (by first | rfl | exact drew_eq w1)) ?_; rintro v w2 ⟨rfl, hT2, hM2, hb2⟩; have k2 : w2.cell? ⟨cb, 1, none⟩ = some (.int .i64 c.frames) := (hb2.cell (p := ⟨cb, 1, none⟩) hlt1).trans k1)
   | (refine step_call (by rfl) (ex_call (vs := #[.int .i64 c.frames]) (by simp [Act.eval]) (enters_fn Tryz.func34 (by kernel_rfl) rfl)) (Hcf.out _) ?_; rintro v w3 ⟨pb, db, ob, rfl, hP3, q1, q2, q3, hb3⟩))
  all_goals
   have HG3 : Hid (Begun w cb #[.int .i64 c.cores, .int .i64 c.frames, .int .i64 c.names, .slice sa c.slots.length sc, .slice oa c.objs.length oc] w3.heap.size (w1.heap.size + 1) w1.heap.size pb db ob (newPool fn) [] (w3.alloc (.cells #[.pointer (some ⟨w1.heap.size + 1, 0, none⟩), .pointer (some ⟨pb, 0, none⟩), .slice none 0 0, .slice none 0 0, .slice none 0 0, .bool false] 88))) := by
    have s1 := HB1.out.size; have s2 := hb2.size; have s3 := hb3.size;have b2 : Below w.heap.size w w2 := bel_from HB1.out hb2;exact ⟨Blk.new _ _ _, (hT2.below hb3 hT2.lt).alloc _, (hM2.below hb3 (map_lt hM2)).alloc _, hP3.below ((Below.refl _ _).alloc (Nat.le_refl _) _), ((HBx1.out.below hb2 hlt1).below hb3 (by have := s2; omega)).alloc _, (bel_from b2 hb3).trans ((Below.refl _ w3).alloc (by omega) _), by omega, by omega, by omega, by omega, by omega, by omega⟩
   clear k2 hT2 hM2 hb2 hP3 q1 q2 q3 hb3;go_wp2_with fail
   go_meet;exact ⟨_, _, _, _, _, _, rfl, HG3⟩
 case rest =>
  rename World => w4
  obtain ⟨kb, tb, mb, pb, db, ob, rfl, HG3⟩ := hcut;have k4 : w4.cell? ⟨cb, 2, none⟩ = some (.int .i64 c.names) := (HG3.out.box.cell 2).trans rfl;have Hcn : Hid (Calls Tryz.prog 35 #[.int .u64 2, .int .i64 c.names] w4 fun e w' => e = .returned (.tuple #[.agg #[.int .u64 2, .int .u64 2, .int .u64 (2 + c.names)], .bool true]) /\ Below w4.heap.size w4 w') := nnew_any 2 c.names w4 (by omega) (by omega);go_wp2_with fail
  refine Hcn.out.mono ?_;rintro e w5 ⟨rfl, hb5⟩;have HG5 := Lib.hid (HG3.out.below hb5);clear hb5 k4;go_wp2_with fail
  have HG6 := Lib.hid (HG5.out.below ((Below.refl _ w5).alloc (Nat.le_refl _) (.cells #[.int .u64 2, .int .u64 2, .int .u64 (2 + c.names)] 58)));have HR6 := Lib.hid (Blk.new w5 #[.int .u64 2, .int .u64 2, .int .u64 (2 + c.names)] 58);generalize hg1 : w5.alloc (.cells #[.int .u64 2, .int .u64 2, .int .u64 (2 + c.names)] 58) = w6 at *;generalize hg2 : w5.heap.size = gb at *;clear hg1 hg2;have hcl := HG6.out.box.lt; have hgl := HR6.out.lt;have j1 : w6.cell? ⟨cb, 1, none⟩ = some (.int .i64 c.frames) := (HG6.out.box.cell 1).trans rfl;have g0 : w6.cell? ⟨gb, 0, none⟩ = some (.int .u64 2) := (HR6.out.cell 0).trans rfl;have g1 : w6.cell? ⟨gb, 1, none⟩ = some (.int .u64 2) := (HR6.out.cell 1).trans rfl;have g2 : w6.cell? ⟨gb, 2, none⟩ = some (.int .u64 (2 + c.names)) := (HR6.out.cell 2).trans rfl
  have Hlo : Hid (∀ wz, wz = w6.drew -> Calls Tryz.prog 22 #[.int .i64 2] wz fun e w' => ∃ v, e = .returned v /\ (v = .agg #[.int .i64 2, .slice none 0 0] /\ Below w6.heap.size w6 w')) := fun wz ez => by
   rw [ez];refine (lab_of_any 2 _).mono ?_;rintro e w' ⟨rfl, t1⟩;rw [World.size_drew] at t1;exact ⟨_, rfl, rfl, (Below.refl _ w6).drew.trans t1⟩
  go_cut [7] (fun r wx => ∃ rb, r = .pointer (some ⟨rb, 0, none⟩) /\ Hid (Begun w cb #[.int .i64 c.cores, .int .i64 c.frames, .int .i64 c.names, .slice sa c.slots.length sc, .slice oa c.objs.length oc] kb tb mb pb db ob (newPool fn) [] wx) /\ Hid (Blk wx rb (obC (rootU c 0) (freshS nilV nilV) 0 (.pointer none)) 68) /\ Hid (w.heap.size <= rb /\ pb < rb /\ db < rb /\ ob < rb))
  case first =>
   go_region_law (refine step_call (by rfl) (ex_call (vs := #[.int .i64 2]) (by simp [Act.eval]) (enters_fn Tryz.func22 (by kernel_rfl) rfl)) (Hlo.out _ (by first | rfl | exact drew_eq w6)) ?_; rintro v w7 ⟨rfl, hb7⟩; have i1 : w7.cell? ⟨cb, 1, none⟩ = some (.int .i64 c.frames) := (hb7.cell (p := ⟨cb, 1, none⟩) hcl).trans j1; have l0 : w7.cell? ⟨gb, 0, none⟩ = some (.int .u64 2) := (hb7.cell (p := ⟨gb, 0, none⟩) hgl).trans g0; have l1 : w7.cell? ⟨gb, 1, none⟩ = some (.int .u64 2) := (hb7.cell (p := ⟨gb, 1, none⟩) hgl).trans g1; have l2 : w7.cell? ⟨gb, 2, none⟩ = some (.int .u64 (2 + c.names)) := (hb7.cell (p := ⟨gb, 2, none⟩) hgl).trans g2)
   all_goals
    have HG7 := HG6.out.below hb7;have HF := And.intro (HG7.below ((Below.refl _ w7).alloc (Nat.le_refl _) (.cells (obC (rootU c 0) (freshS nilV nilV) 0 (.pointer none)) 68))) (And.intro (Blk.new w7 (obC (rootU c 0) (freshS nilV nilV) 0 (.pointer none)) 68) (And.intro HG7.bel.size (And.intro HG7.pool.hp.lt (And.intro HG7.pool.hd.lt HG7.pool.ho.lt))));have HFF := Lib.hid HF;clear i1 l0 l1 l2 j1 g0 g1 g2 HG7 HF;go_wp2_with fail
    go_meet;exact ⟨_, rfl, HFF.out.1, HFF.out.2.1, HFF.out.2.2⟩
  case rest =>
   rename World => w8
   obtain ⟨rb, rfl, HG8, HB8, HL8⟩ := hcut;obtain ⟨lo1, lo2, lo3, lo4⟩ := HL8.out;have e0 : w8.cell? ⟨kb, 0, none⟩ = some (.pointer (some ⟨tb, 0, none⟩)) := (HG8.out.kern.cell 0).trans rfl
   have Hadd : Hid (Calls Tryz.prog 36 #[.pointer (some ⟨tb, 0, none⟩), .pointer (some ⟨rb, 0, none⟩)] w8 fun e w' => e = .returned (.bool true) /\ (Begun w cb #[.int .i64 c.cores, .int .i64 c.frames, .int .i64 c.names, .slice sa c.slots.length sc, .slice oa c.objs.length oc] kb tb mb pb db ob (newPool fn) [(1, .pointer (some ⟨rb, 0, none⟩))] w' /\ Blk w' rb (obC (rootU c 0) (freshS nilV nilV) 0 (.pointer none)) 68)) := by
    refine (add_root tb mb rb w8 HG8.out.tab HG8.out.map ((HB8.out.cell 2).trans rfl) ((HB8.out.cell 6).trans rfl)).mono ?_;rintro e w' ⟨rfl, t1, t2⟩;have m1 := map_ne HG8.out.kern HG8.out.map; have m2 := map_ne HG8.out.tab HG8.out.map; have m3 := map_ne HG8.out.box HG8.out.map;have m4 := map_ne HG8.out.pool.hp HG8.out.map; have m5 := map_ne HG8.out.pool.hd HG8.out.map; have m6 := map_ne HG8.out.pool.ho HG8.out.map;have hl := HG8.out.lo;exact ⟨rfl, HG8.out.wrote t2 m1 m2 m3 (fun b hb q => by subst q; omega) t1 (HG8.out.pool.kept t2 m4 m5 m6), t2.blk HB8.out (map_ne HB8.out HG8.out.map)⟩
   clear HL8;go_wp2_with fail
   refine Hadd.out.mono ?_;rintro e w9 ⟨rfl, hG9, hB9⟩;have HG9 := Lib.hid hG9; have HB9 := Lib.hid hB9;clear hG9 hB9 e0 Hadd HG8 HB8;go_wp2_with fail
   have hfb : c.frames = fn := HFn.out;refine (ptake_any ⟨c.frames, 0, 0⟩ 1 rb 9 _ _ w9 HB9.out (obC_purse _ _ _ _) ⟨⟨by show (-1099511627776 : Int) <= c.frames; omega, by show c.frames <= 1099511627776; omega⟩, ⟨by show (-1099511627776 : Int) <= 0; decide, by show (0 : Int) <= 1099511627776; decide⟩, by show (-1099511627776 : Int) <= 0; decide, by show (0 : Int) <= 1099511627776; decide⟩ ⟨by decide, by show (1 : Int) <= c.frames - 0 - 0; omega⟩).mono ?_;clear hfb;rintro e w10 ⟨rfl, hP⟩;obtain ⟨cs', p1, p2, p3, p4, -⟩ := hP;rw [obC_purse_eq p2 p3] at p1;have HB10 : Hid (Blk w10 rb (obC (rootU c 1) (freshS nilV nilV) 0 (.pointer none)) 68) := p1
   have HG10 : Hid (Begun w cb #[.int .i64 c.cores, .int .i64 c.frames, .int .i64 c.names, .slice sa c.slots.length sc, .slice oa c.objs.length oc] kb tb mb pb db ob (newPool fn) [(1, .pointer (some ⟨rb, 0, none⟩))] w10) := by
    have hd := HG9.out.pool.hd.lt;exact HG9.out.wrote p4 (blk_ne HG9.out.kern HB9.out (by decide)) (blk_ne HG9.out.tab HB9.out (by decide)) (blk_ne HG9.out.box HB9.out (by decide)) (fun b hb q => by subst q; omega) (HG9.out.map.kept p4 (fun q => map_ne HB9.out HG9.out.map q.symm)) (HG9.out.pool.kept p4 (by omega) (by omega) (by omega))
   clear p1 p2 p3 p4 HG9 HB9;have e1 : w10.cell? ⟨kb, 1, none⟩ = some (.pointer (some ⟨pb, 0, none⟩)) := (HG10.out.kern.cell 1).trans rfl;go_wp2_with fail
   refine (alloc_any pb db ob (newPool fn) 1 w10 HG10.out.pool).mono ?_;rintro e w11 ⟨rfl, hP, hk⟩;generalize hfv : (newPool fn).allocRet 1 = fv;have HB11 : Hid (Blk w11 rb (obC (rootU c 1) (freshS nilV nilV) 0 (.pointer none)) 68) := hk.blk HB10.out (by unfold PS; omega)
   have HG11 : Hid (Begun w cb #[.int .i64 c.cores, .int .i64 c.frames, .int .i64 c.names, .slice sa c.slots.length sc, .slice oa c.objs.length oc] kb tb mb pb db ob ((newPool fn).alloc 1) [(1, .pointer (some ⟨rb, 0, none⟩))] w11) := by
    have hp := HG10.out.pool;have hl := HG10.out.lo;refine HG10.out.wrote hk ?_ ?_ ?_ (fun b hb q => by unfold PS at q; omega) (HG10.out.map.kept hk ?_) hP
    ·rintro (q | q | q)
     ·exact blk_ne HG10.out.kern hp.hp (by decide) q
     ·exact blk_ne HG10.out.kern hp.hd (by decide) q
     ·exact blk_ne HG10.out.kern hp.ho (by decide) q
    ·rintro (q | q | q)
     ·exact blk_ne HG10.out.tab hp.hp (by decide) q
     ·exact blk_ne HG10.out.tab hp.hd (by decide) q
     ·exact blk_ne HG10.out.tab hp.ho (by decide) q
    ·rintro (q | q | q)
     ·exact blk_ne HG10.out.box hp.hp (by decide) q
     ·exact blk_ne HG10.out.box hp.hd (by decide) q
     ·exact blk_ne HG10.out.box hp.ho (by decide) q
    ·rintro (q | q | q)
     ·exact map_ne hp.hp HG10.out.map q.symm
     ·exact map_ne hp.hd HG10.out.map q.symm
     ·exact map_ne hp.ho HG10.out.map q.symm
   have x8 : w11.cell? ⟨rb, 8, none⟩ = some (.int .i64 0) := (HB11.out.cell 8).trans rfl;have f8 : w11.frozen? ⟨rb, 8, none⟩ = false := HB11.out.free 8;clear hP hk hfv HG10 HB10 e1;have hk12 : Kept (· = rb) w11 (w11.setCell ⟨rb, 8, none⟩ (.int .i64 fv)) := (Kept.refl (· = rb) w11).setIn rb 8 _ rfl;have HB12 : Hid (Blk (w11.setCell ⟨rb, 8, none⟩ (.int .i64 fv)) rb (obC (root0 c) (freshS nilV nilV) fv (.pointer none)) 68) := (HB11.out.set 8 (.int .i64 fv)).cells rfl
   have HG12 : Hid (Begun w cb #[.int .i64 c.cores, .int .i64 c.frames, .int .i64 c.names, .slice sa c.slots.length sc, .slice oa c.objs.length oc] kb tb mb pb db ob ((newPool fn).alloc 1) [(1, .pointer (some ⟨rb, 0, none⟩))] (w11.setCell ⟨rb, 8, none⟩ (.int .i64 fv))) := by
    exact HG11.out.wrote hk12 (blk_ne HG11.out.kern HB11.out (by decide)) (blk_ne HG11.out.tab HB11.out (by decide)) (blk_ne HG11.out.box HB11.out (by decide)) (fun b hb q => by subst q; omega) (HG11.out.map.kept hk12 (fun q => map_ne HB11.out HG11.out.map q.symm)) (HG11.out.pool.kept hk12 (by omega) (by omega) (by omega))
   clear hk12;go_upto_region 10 with fail
   generalize hw12 : w11.setCell ⟨rb, 8, none⟩ (.int .i64 fv) = w12 at *;clear hw12 HB11 HG11 x8 f8;have d0 : w12.cell? ⟨cb, 0, none⟩ = some (.int .i64 c.cores) := (HG12.out.box.cell 0).trans rfl;have d1 : w12.cell? ⟨cb, 1, none⟩ = some (.int .i64 c.frames) := (HG12.out.box.cell 1).trans rfl;have d2 : w12.cell? ⟨cb, 2, none⟩ = some (.int .i64 c.names) := (HG12.out.box.cell 2).trans rfl;have d3 : w12.cell? ⟨cb, 3, none⟩ = some (.slice sa c.slots.length sc) := (HG12.out.box.cell 3).trans rfl;have d4 : w12.cell? ⟨cb, 4, none⟩ = some (.slice oa c.objs.length oc) := (HG12.out.box.cell 4).trans rfl;have hR : RootAt w12 kb tb mb pb db ob rb ((newPool fn).alloc 1) fv c := ⟨HG12.out.kern, HG12.out.tab, HG12.out.map, HG12.out.pool, HB12.out, lo2, lo3, lo4⟩;obtain ⟨n1, -, n3⟩ := left_new fn (by have := HFn.out; omega);have hkin := hR.kin
   have hst : BootSt w w.heap.size [] (w12.alloc (.cells #[.int .u64 1] 37)) (gh0 kb tb mb pb db ob rb ((newPool fn).alloc 1) fv) (km0 c) (.slice (some ⟨w12.heap.size, 0, none⟩) 1 1) [1] := by
    refine ⟨hkin.alloc _, root_binv rf (by rw [HFn.out]; exact n1) n3, Nat.le_trans HG12.out.bel.size (by simp), HG12.out.bel.trans ((Below.refl _ w12).alloc HG12.out.bel.size _), HG12.out.free lo1, ⟨rfl, .inr ⟨w12.heap.size, 1, #[.int .u64 1], rfl, HG12.out.bel.size, Blk.new _ _ _, Nat.le_refl _, by unfold maxLen; omega, rfl, rfl⟩⟩, fun b hb => ?_, fun t ht => (by cases ht)⟩
    cases hb;exact hkin.nrm _ (Nat.le_refl _)
   have HBoot := Lib.hid (boot_any w _ w.heap.size _ (km0 c) K1 K2 c _ _ made hst rfl HC.out H1.out H2.out H3.out ro rs rc ⟨rfl, rfl⟩ HS.out);clear hst hkin n1 n3 hR;go_wp2_with fail
   refine HBoot.out.mono ?_;rintro e w14 ⟨rfl, hb14, g', hk, hi, hkb⟩;go_wp2_with fail
   exact bodyPost_ret (v := .tuple #[.pointer (some ⟨kb, 0, none⟩), .int .i64 0]) (by simp [results, Tryz.results17, go_sem]; rfl) rfl ⟨kb, rfl, hb14, g', hk, hi, hkb⟩
end Go.Proofs.YtiadbhiadhgjkaaGreatDoor
