/- Of the proof of this claim: a joined text. -/
import Derived.Test.YtiadbhiadhgjkaaGreatDoorZzLc
import Derived.Test.YtiadbhiadhgjkaaGreatDoorZzKb
import Derived.Test.YtiadbhiadhgjkaaGreatDoorZzSgR
import Derived.Test.YtiadbhiadhgjkaaGreatDoorZzPgD
import Derived.Deep.QuietTactic
import Derived.BigQuiet
import Derived.StillTailTactics
set_option maxRecDepth 100000
set_option maxHeartbeats 4000000
namespace Go.Proofs.YtiadbhiadhgjkaaGreatDoor
open Go.RowKit
attribute [local irreducible] World.setCell World.alloc World.drew World.setRow Calls Code.wp
attribute [local go_sem] Oper.semAt_some
structure ObV (w : World) (b : Nat) (o : Ob) (la ma : Option Addr) (lc mc : Nat) : Prop where
 kind : w.cell? ⟨b, 3, none⟩ = some (.int .i64 o.kind)
 ld : w.cell? ⟨b, 4, none⟩ = some (.int .i64 (o.lab.d : Nat))
 lp : w.cell? ⟨b, 5, none⟩ = some (.slice la o.lab.ps.length lc)
 maps : w.cell? ⟨b, 18, none⟩ = some (.slice ma o.maps.length mc)
 lab : LabIn w (.agg #[.int .i64 (o.lab.d : Nat), .slice la o.lab.ps.length lc]) o.lab
 row : RowAt w 125 (.slice ma o.maps.length mc) o.maps.length (o.maps.flatMap mapV)
 ok : LabOk o.lab
theorem KIn.obV {w : World} {g : Gh} {K : Km} {o : Ob} {n : Int} (h : KIn w g K) (ho : K.obj n = some o) : ∃ la ma lc mc, ObV w (g.bl n) o la ma lc mc := by
 obtain ⟨s, T, hO⟩ := h.at ho;have hn := (h.objs _ _ ho).1;have hB := hO.blk;have hR := hO.rows;rw [hn] at hB hR;obtain ⟨sq, sk, sf, sm, sl, sc, so, si, sr⟩ := s;have h1 : PairsIn w sl o.lab.ps := hR.lab;have h2 : RowAt w 125 sm o.maps.length (o.maps.flatMap mapV) := RowAt.own hR.maps.row;obtain ⟨la, lc, rfl, -, -⟩ := RowAt.form h1;obtain ⟨ma, mc, rfl, -, -⟩ := RowAt.form h2;exact ⟨la, ma, lc, mc, (hB.cell 3).trans rfl, (hB.cell 4).trans rfl, (hB.cell 5).trans rfl, (hB.cell 18).trans rfl, ⟨_, rfl, h1⟩, h2, hR.ok.1⟩
theorem ObV.below {w w' : World} {b : Nat} {o : Ob} {la ma : Option Addr} {lc mc : Nat} (h : ObV w b o la ma lc mc) (hb : b < w.heap.size) (k : Below w.heap.size w w') : ObV w' b o la ma lc mc :=
 ⟨(k.cell (p := ⟨b, 3, none⟩) hb).trans h.kind, (k.cell (p := ⟨b, 4, none⟩) hb).trans h.ld, (k.cell (p := ⟨b, 5, none⟩) hb).trans h.lp, (k.cell (p := ⟨b, 18, none⟩) hb).trans h.maps, h.lab.below k (Nat.le_refl _), RowAt.below h.row k (Nat.le_refl _), h.ok⟩
theorem KIn.seg {w : World} {g : Gh} {K : Km} {o : Ob} {n : Int} (h : KIn w g K) (hI : Inv g K) (ho : K.obj n = some o) (hk : o.kind = 2) : ∃ s T, SegAt w (g.bl n) 16 (obC o s (g.mt n) T) (g.bl n + 1) s.fr (g.fr n) /\ (g.fr n).length = o.pages /\ o.pages <= 16 := by
 obtain ⟨s, T, hO⟩ := h.at ho;have hn := (h.objs _ _ ho).1;have hs := hI.seg n o ho hk;have hB := hO.blk;have hR := hO.rows;rw [hn] at hB hR;have hl := hs.len;rw [hn] at hl;exact ⟨s, T, ⟨hB, rfl, hR.frs, by omega, by rw [hl]; exact hs.p16⟩, hl, hs.p16⟩
def whereV (g : Gh) : Option (Int × Int × Bool) -> Value
 | none => .tuple #[.pointer none, .int .i64 0, .bool false]
 | some (s, a, m) => .tuple #[.pointer (some ⟨g.bl s, 0, none⟩), .int .i64 a, .bool m]
theorem where_no1 {K : Km} {o : Ob} {va : Int} (h : K.obj o.th.space = none) : K.whereTo o va = none := by unfold Km.whereTo; rw [h]
theorem where_no2 {K : Km} {o s : Ob} {va : Int} (h : K.obj o.th.space = some s) (q : (decide (s.kind = 4) && readsL o.lab s.lab) = false) : K.whereTo o va = none := by unfold Km.whereTo; rw [h]; simp only; rw [if_neg (by rw [q]; simp)]
theorem where_go {K : Km} {o s : Ob} {va : Int} (h : K.obj o.th.space = some s) (q : s.kind = 4) (q2 : readsL o.lab s.lab = true) : K.whereTo o va = match findMap s.maps (va / 64) with
   | none => none
   | some m => match K.obj m.seg with
    | none => none
    | some g => if (decide (g.kind = 2) && (decide (m.from_ + va / 64 - m.at_ < (g.pages : Int)) && readsL o.lab g.lab)) = true then
      some (g.name, (m.from_ + va / 64 - m.at_) * 64 + va % 64, m.wr && changesL o.lab g.lab) else none := by
 unfold Km.whereTo; rw [h]; simp only; rw [if_pos (by rw [q2]; simp [q])]; rfl
theorem where_any (w : World) (g : Gh) (K : Km) (o : Ob) (va : Int) (h : KIn w g K) (hI : Inv g K) (hM : MapsOk K) (ho : K.obj o.name = some o) (hk : o.kind = 3) (hl : ∀ n s, K.obj n = some s -> s.maps.length <= 1000000) (h0 : 0 <= va) (h1 : va <= 262143) :
  Calls Tryz.prog 252 #[.pointer (some ⟨g.kb, 0, none⟩), .pointer (some ⟨g.bl o.name, 0, none⟩), .int .i64 va] w fun e w' => e = .returned (whereV g (K.whereTo o va)) /\ Below w.heap.size w w' := by
 have HK := Lib.hid h; have HI := Lib.hid hI; have HM := Lib.hid hM; have HO := Lib.hid ho; have HL := Lib.hid hl;have k0 := h.kcell.1;have t0 := h.tcell ho hk;obtain ⟨x, hT⟩ := h.thAt ho hk;have t1 : w.cell? ⟨g.tl o.name, 19, none⟩ = some (.int .u64 o.th.space) := (hT.blk.cell 19).trans rfl;obtain ⟨ola, oma, olc, omc, hV⟩ := h.obV ho;have HV := Lib.hid hV;have hblt := Lib.hid ((h.at ho).elim fun _ e => e.elim fun _ e => e.blk.lt)
 have HG : Hid (∀ k, Calls Tryz.prog 15 #[.pointer (some ⟨g.tb, 0, none⟩), .int .u64 o.th.space] (w.drewN k) fun e w' => e = .returned (obP g K.obj o.th.space) /\ w' = w.drewN k) := fun k =>
  (get_any _ g _ _ (h.below (below_dr w k)).tab).mono fun e w' (q : e = _ /\ _ = w') => ⟨q.1, q.2.symm⟩
 clear h hI hM ho hl hT hV;go_enter Tryz.func252, Tryz.ntmps252
 go_upto_region 1 with fail
 go_cut [9] (fun s wx => s = obP g K.obj o.th.space /\ Below w.heap.size w wx)
 case first =>
  go_quiet ((go_at_call 15; exact Calls.quiet_of_same (HG.out _)))
  go_wp2_with fail
  go_meet;exact ⟨rfl, below_dr w _⟩
 case rest =>
  rename World => w1
  obtain ⟨rfl, hb1⟩ := hcut;have HB1 := Lib.hid hb1;have hlt0 := hblt.out;clear k0 t0 t1 hb1 HG;have k0 := (HK.out.below HB1.out).kcell.1;have Hv1 := HV.out.below hlt0 HB1.out;have o4 := Hv1.ld; have o5 := Hv1.lp;clear Hv1
  cases hS : K.obj o.th.space with
  | none =>
   rw [obP_none hS];have HR := Lib.hid (where_no1 (va := va) hS);clear hS;go_wp2_with fail
   go_quiet (fail)
   go_wp2_with fail
   refine bodyPost_ret (v := .tuple #[.pointer none, .int .i64 0, .bool false]) (by simp [results, Tryz.results252, go_sem]) rfl ⟨by rw [HR.out]; rfl, bel_from HB1.out (below_dr _ _)⟩
  | some s =>
   rw [obP_some hS];obtain ⟨la, ma, lc, mc, hv⟩ := (HK.out.below HB1.out).obV hS;have HVs := Lib.hid hv;have hsl : Hid (g.bl o.th.space < w1.heap.size) := Lib.hid (((HK.out.below HB1.out).at hS).elim fun _ e => e.elim fun _ e => by have := e.blk.lt; rw [((HK.out.below HB1.out).objs _ _ hS).1] at this; exact this);have s3 := hv.kind; have s4 := hv.ld; have s5 := hv.lp;have HS := Lib.hid hS;clear hS hv;by_cases hk4 : s.kind = 4
   ·have e4 : (s.kind == 4) = true := by simp [hk4]
    have e5 : (s.kind != 4) = false := by simp [hk4]
    have Hk4 := Lib.hid hk4
    have HRd : Hid (∀ wz, wz = w1.drew -> Calls Tryz.prog 116 #[.agg #[.int .i64 (o.lab.d : Nat), .slice ola o.lab.ps.length olc], .agg #[.int .i64 (s.lab.d : Nat), .slice la s.lab.ps.length lc]] wz fun e w' => ∃ v, e = .returned v /\ (v = .bool (readsL o.lab s.lab) /\ Below w1.heap.size w1 w')) := fun wz ez => by
     rw [ez];refine (reads_any o.lab s.lab _ _ w1.drew HV.out.ok HVs.out.ok ((HV.out.lab.below HB1.out (Nat.le_refl _)).below ((Below.refl _ w1).drew) (Nat.le_refl _)) (HVs.out.lab.below ((Below.refl _ w1).drew) (Nat.le_refl _))).mono ?_;rintro e w' ⟨rfl, h2⟩;rw [World.size_drew] at h2;exact ⟨_, rfl, rfl, (Below.refl _ w1).drew.trans h2⟩
    clear hk4
    cases hq : readsL o.lab s.lab with
    | false =>
     have HR := Lib.hid (where_no2 (va := va) HS.out (by rw [hq]; simp));rw [hq] at HRd;clear hq;go_wp2_with fail
     go_still_tail 18, (by kernel_rfl)
     rw [drew_eq w1];go_wp2_with fail
     refine (HRd.out _ rfl).mono ?_;rintro e w2 ⟨v, rfl, rfl, hb2⟩;go_wp2_with fail
     refine bodyPost_ret (v := .tuple #[.pointer none, .int .i64 0, .bool false]) (by simp [results, Tryz.results252, go_sem]) rfl ⟨by rw [HR.out]; rfl, bel_from HB1.out hb2⟩
    | true =>
     have HGo := Lib.hid (where_go (va := va) HS.out Hk4.out hq);rw [hq] at HRd;clear hq;go_wp2_with fail
     go_still_tail 18, (by kernel_rfl)
     rw [drew_eq w1];go_wp2_with fail
     refine (HRd.out _ rfl).mono ?_;rintro e w2 ⟨v, rfl, rfl, hb2⟩;have HB2 := Lib.hid (bel_from HB1.out hb2);have HV2 := Lib.hid (HVs.out.below hsl.out hb2);have s18 := HV2.out.maps;clear k0 o4 o5 s3 s4 s5 e4 e5 hb2;go_wp2_with fail
     refine (page_any va _ h0 h1).mono ?_;rintro e w' ⟨rfl, rfl⟩;have hp0 : 0 <= va / 64 := by omega
     have hp1 : va / 64 <= 4095 := by omega
     have HVa := Lib.hid (And.intro h0 h1);obtain ⟨pg, hpg⟩ : ∃ pg, va / 64 = pg := ⟨_, rfl⟩;rw [hpg] at hp0 hp1 HGo ⊢;clear hpg;go_wp2_with fail
     refine (find_any s.maps pg _ w2 HV2.out.row (HM.out _ _ HS.out) (HL.out _ _ HS.out)).mono ?_;rintro e w3 ⟨rfl, hb3⟩;have HB3 := Lib.hid (bel_from HB2.out hb3);clear hb3 s18
     cases hf : findMap s.maps pg with
     | none =>
      rw [hf] at HGo;have HR : Hid (K.whereTo o va = none) := Lib.hid HGo.out;have hfv : findV s.maps pg = .tuple #[.agg #[.int .i64 0, .int .u64 0, .int .i64 0, .int .i64 0, .bool false], .bool false] := by unfold findV; rw [hf]
      rw [hfv];clear hf hfv;go_wp2_with fail
      refine bodyPost_ret (v := .tuple #[.pointer none, .int .i64 0, .bool false]) (by simp [results, Tryz.results252, go_sem]) rfl ⟨by rw [HR.out]; rfl, HB3.out.alloc HB3.out.size _⟩
     | some m =>
      rw [hf] at HGo;have hfv : findV s.maps pg = .tuple #[.agg #[.int .i64 m.at_, .int .u64 m.seg, .int .i64 m.from_, .int .i64 m.n, .bool m.wr], .bool true] := by unfold findV; rw [hf]
      rw [hfv];obtain ⟨mem, ha1, ha2⟩ := findMap_some hf;obtain ⟨⟨f1, f2⟩, ⟨f3, f4⟩, ⟨f5, f6⟩, -⟩ := fits_spec (HM.out _ _ HS.out m mem);clear hf hfv mem;have HBm := Lib.hid (Blk.new w3 #[.int .i64 m.at_, .int .u64 m.seg, .int .i64 m.from_, .int .i64 m.n, .bool m.wr] 125);have HB4 := Lib.hid (HB3.out.alloc HB3.out.size (.cells #[.int .i64 m.at_, .int .u64 m.seg, .int .i64 m.from_, .int .i64 m.n, .bool m.wr] 125));go_upto_region 8 with fail
      generalize hg4 : w3.alloc (.cells #[.int .i64 m.at_, .int .u64 m.seg, .int .i64 m.from_, .int .i64 m.n, .bool m.wr] 125) = w4 at *;generalize hgm : w3.heap.size = mb at *;clear hg4 hgm;have k0 := (HK.out.below HB4.out).kcell.1;have m1 : w4.cell? ⟨mb, 1, none⟩ = some (.int .u64 m.seg) := (HBm.out.cell 1).trans rfl
      have HG : Hid (∀ k, Calls Tryz.prog 15 #[.pointer (some ⟨g.tb, 0, none⟩), .int .u64 m.seg] (w4.drewN k) fun e w' => e = .returned (obP g K.obj m.seg) /\ w' = w4.drewN k) := fun k =>
       (get_any _ g _ _ (HK.out.below (bel_from HB4.out (below_dr w4 k))).tab).mono fun e w' (q : e = _ /\ _ = w') => ⟨q.1, q.2.symm⟩
      go_cut [13] (fun s wx => s = obP g K.obj m.seg /\ Hid (Below w.heap.size w wx) /\ Hid (Blk wx mb #[.int .i64 m.at_, .int .u64 m.seg, .int .i64 m.from_, .int .i64 m.n, .bool m.wr] 125))
      case first =>
       go_quiet ((go_at_call 15; exact Calls.quiet_of_same (HG.out _)))
       go_wp2_with fail
       go_meet;exact ⟨rfl, bel_from HB4.out (below_dr w4 _), HBm.out.below (below_dr w4 _) HBm.out.lt⟩
      case rest =>
       clear k0 m1 HG HBm HB4;rename World => w5
       obtain ⟨rfl, HB5, HBm⟩ := hcut;have m0 : w5.cell? ⟨mb, 0, none⟩ = some (.int .i64 m.at_) := (HBm.out.cell 0).trans rfl;have m2 : w5.cell? ⟨mb, 2, none⟩ = some (.int .i64 m.from_) := (HBm.out.cell 2).trans rfl;have m4 : w5.cell? ⟨mb, 4, none⟩ = some (.bool m.wr) := (HBm.out.cell 4).trans rfl;go_upto_region 10 with fail
       obtain ⟨n, hn⟩ : ∃ n, m.from_ + pg - m.at_ = n := ⟨_, rfl⟩;have hn0 : 0 <= n := by omega
       have hn1 : n < 16 := by omega
       rw [hn] at HGo ⊢;have Hn := Lib.hid hn;clear hn f1 f2 f3 f4 f5 f6 ha1 ha2
       cases hc : K.obj m.seg with
       | none =>
        rw [obP_none hc];rw [hc] at HGo;have HR : Hid (K.whereTo o va = none) := Lib.hid HGo.out;clear hc;go_quiet (fail)
        go_wp2_with fail
        refine bodyPost_ret (v := .tuple #[.pointer none, .int .i64 0, .bool false]) (by simp [results, Tryz.results252, go_sem]) rfl ⟨by rw [HR.out]; rfl, bel_from HB5.out (below_dr _ _)⟩
       | some c =>
        rw [obP_some hc];rw [hc] at HGo;obtain ⟨ca, cma, cc, cmc, hvc⟩ := (HK.out.below HB5.out).obV hc;have c3 := hvc.kind; have c4 := hvc.ld; have c5 := hvc.lp;have HVc := Lib.hid hvc;have Hcn := Lib.hid (HK.out.objs _ _ hc).1;have hclt : Hid (g.bl m.seg < w5.heap.size) := Lib.hid (((HK.out.below HB5.out).at hc).elim fun _ e => e.elim fun _ e => by have := e.blk.lt; rw [((HK.out.below HB5.out).objs _ _ hc).1] at this; exact this);by_cases hk2 : c.kind = 2
        ·have e4 : (c.kind == 2) = true := by simp [hk2]
         have e5 : (c.kind != 2) = false := by simp [hk2]
         obtain ⟨ss, sT, hseg, hsl1, hsl2⟩ := (HK.out.below HB5.out).seg HI.out hc hk2
         have HPg : Hid (∀ k, Calls Tryz.prog 57 #[.pointer (some ⟨g.bl m.seg, 16, none⟩)] (w5.drewN k) fun e w' => e = .returned (.int .i64 (c.pages : Nat)) /\ w' = w5.drewN k) := fun k =>
          (pages_any _ _ _ _ _ _ _ (hseg.below (below_dr w5 k))).mono fun e w' (q : e = _ /\ _ = w') => ⟨by rw [q.1, hsl1], q.2.symm⟩
         have HPd : Hid (Calls Tryz.prog 57 #[.pointer (some ⟨g.bl m.seg, 16, none⟩)] w5.drew fun e w' => e = .returned (.int .i64 (c.pages : Nat)) /\ w5.drew = w') :=
          (pages_any _ _ _ _ _ _ _ (hseg.below ((Below.refl _ w5).drew))).mono fun e w' (q : e = _ /\ _ = w') => ⟨by rw [q.1, hsl1], q.2⟩
         have Hk2 := Lib.hid hk2;clear hseg hsl1 hc hk2 hvc;by_cases hlt : n < (c.pages : Int)
         ·have q1 : decide ((c.pages : Int) <= n) = false := decide_eq_false (by omega)
          have Hlt := Lib.hid hlt
          have HRd : Hid (Calls Tryz.prog 116 #[.agg #[.int .i64 (o.lab.d : Nat), .slice ola o.lab.ps.length olc], .agg #[.int .i64 (c.lab.d : Nat), .slice ca c.lab.ps.length cc]] w5.drew fun e w' => e = .returned (.bool (readsL o.lab c.lab)) /\ Below w5.heap.size w5 w') := by
           refine (reads_any o.lab c.lab _ _ w5.drew HV.out.ok HVc.out.ok ((HV.out.lab.below HB5.out (Nat.le_refl _)).below ((Below.refl _ w5).drew) (Nat.le_refl _)) (HVc.out.lab.below ((Below.refl _ w5).drew) (Nat.le_refl _))).mono ?_;rintro e w' ⟨rfl, h2⟩;rw [World.size_drew] at h2;exact ⟨rfl, (Below.refl _ w5).drew.trans h2⟩
          have HV5 := Lib.hid (HV.out.below hblt.out HB5.out);have o4 := HV5.out.ld; have o5 := HV5.out.lp;clear hlt
          have HSS : Hid (∀ w', Below w5.heap.size w5 w' -> (w'.cell? ⟨g.bl o.name, 4, none⟩ = some (.int .i64 (o.lab.d : Nat)) /\ w'.cell? ⟨g.bl o.name, 5, none⟩ = some (.slice ola o.lab.ps.length olc)) /\ w'.cell? ⟨g.bl m.seg, 3, none⟩ = some (.int .i64 c.kind) /\ w'.cell? ⟨g.bl m.seg, 4, none⟩ = some (.int .i64 (c.lab.d : Nat)) /\ w'.cell? ⟨g.bl m.seg, 5, none⟩ = some (.slice ca c.lab.ps.length cc)) := Lib.hid (fun w' k => by
           have e1 := HV5.out.below (Nat.lt_of_lt_of_le hblt.out HB5.out.size) k;have e2 := HVc.out.below hclt.out k;exact ⟨⟨e1.ld, e1.lp⟩, e2.kind, e2.ld, e2.lp⟩)
          cases hq : readsL o.lab c.lab with
          | false =>
           have HR : Hid (K.whereTo o va = none) := Lib.hid (by rw [HGo.out]; exact if_neg (by rw [hq]; simp));rw [hq] at HRd;clear hq
           go_region_held3 (fun w' => (w'.cell? ⟨g.bl o.name, 4, none⟩ = some (.int .i64 (o.lab.d : Nat)) /\ w'.cell? ⟨g.bl o.name, 5, none⟩ = some (.slice ola o.lab.ps.length olc)) /\ w'.cell? ⟨g.bl m.seg, 3, none⟩ = some (.int .i64 c.kind) /\ w'.cell? ⟨g.bl m.seg, 4, none⟩ = some (.int .i64 (c.lab.d : Nat)) /\ w'.cell? ⟨g.bl m.seg, 5, none⟩ = some (.slice ca c.lab.ps.length cc)) (first | go_keep | exact HSS.out _ hb6)
            (first | (refine HPd.out.mono ?_; rintro e w' ⟨rfl, rfl⟩) | (refine HRd.out.mono ?_; rintro e w6 ⟨rfl, hb6⟩))
           go_wp2_with fail
           refine bodyPost_ret (v := .tuple #[.pointer none, .int .i64 0, .bool false]) (by simp [results, Tryz.results252, go_sem]) rfl ⟨by rw [HR.out]; rfl, bel_from HB5.out hb6⟩
          | true =>
           have HR : Hid (K.whereTo o va = some (m.seg, n * 64 + va % 64, m.wr && changesL o.lab c.lab)) := Lib.hid (by
            rw [HGo.out, <- Hcn.out]; exact if_pos (by rw [hq]; simp [Hk2.out, Hlt.out]))
           rw [hq] at HRd;clear hq
           go_region_held3 (fun w' => (w'.cell? ⟨g.bl o.name, 4, none⟩ = some (.int .i64 (o.lab.d : Nat)) /\ w'.cell? ⟨g.bl o.name, 5, none⟩ = some (.slice ola o.lab.ps.length olc)) /\ w'.cell? ⟨g.bl m.seg, 3, none⟩ = some (.int .i64 c.kind) /\ w'.cell? ⟨g.bl m.seg, 4, none⟩ = some (.int .i64 (c.lab.d : Nat)) /\ w'.cell? ⟨g.bl m.seg, 5, none⟩ = some (.slice ca c.lab.ps.length cc)) (first | go_keep | exact HSS.out _ hb6)
            (first | (refine HPd.out.mono ?_; rintro e w' ⟨rfl, rfl⟩) | (refine HRd.out.mono ?_; rintro e w6 ⟨rfl, hb6⟩))
           obtain ⟨⟨p4, p5⟩, p3, r4, r5⟩ := HSS.out _ hb6;have HB6 := Lib.hid (bel_from HB5.out hb6);have HBm6 := HBm.out.below hb6 HBm.out.lt;have n4 : w6.cell? ⟨mb, 4, none⟩ = some (.bool m.wr) := (HBm6.cell 4).trans rfl
           have HSS6 : Hid (∀ w', Below w6.heap.size w6 w' -> (w'.cell? ⟨g.bl o.name, 4, none⟩ = some (.int .i64 (o.lab.d : Nat)) /\ w'.cell? ⟨g.bl o.name, 5, none⟩ = some (.slice ola o.lab.ps.length olc)) /\ w'.cell? ⟨g.bl m.seg, 4, none⟩ = some (.int .i64 (c.lab.d : Nat)) /\ w'.cell? ⟨g.bl m.seg, 5, none⟩ = some (.slice ca c.lab.ps.length cc) /\ w'.cell? ⟨mb, 4, none⟩ = some (.bool m.wr)) := Lib.hid (fun w' k => by
            obtain ⟨e1, -, e2⟩ := HSS.out w' (bel_from hb6 k);exact ⟨e1, e2.1, e2.2, ((HBm6.below k HBm6.lt).cell 4).trans rfl⟩)
           have HOf : Hid (∀ k, Calls Tryz.prog 279 #[.int .i64 va] (w6.drewN k) fun e w' => e = .returned (.int .i64 (va % 64)) /\ w' = w6.drewN k) := Lib.hid (fun k =>
            (offset_any va _ HVa.out.1 HVa.out.2).mono fun e w' (q : e = _ /\ _ = w') => ⟨q.1, q.2.symm⟩)
           have HOd : Hid (Calls Tryz.prog 279 #[.int .i64 va] w6.drew fun e w' => e = .returned (.int .i64 (va % 64)) /\ w6.drew = w') := Lib.hid (offset_any va _ HVa.out.1 HVa.out.2)
           have HCh : Hid (Calls Tryz.prog 112 #[.agg #[.int .i64 (o.lab.d : Nat), .slice ola o.lab.ps.length olc], .agg #[.int .i64 (c.lab.d : Nat), .slice ca c.lab.ps.length cc]] w6.drew fun e w' => e = .returned (.bool (changesL o.lab c.lab)) /\ Below w6.heap.size w6 w') := by
            refine (changes_any o.lab c.lab _ _ w6.drew HV.out.ok HVc.out.ok ((HV.out.lab.below HB6.out (Nat.le_refl _)).below ((Below.refl _ w6).drew) (Nat.le_refl _)) ((HVc.out.lab.below hb6 (Nat.le_refl _)).below ((Below.refl _ w6).drew) (Nat.le_refl _))).mono ?_;rintro e w' ⟨rfl, h2⟩;rw [World.size_drew] at h2;exact ⟨rfl, (Below.refl _ w6).drew.trans h2⟩
           obtain ⟨ofs, hofs⟩ : ∃ ofs, va % 64 = ofs := ⟨_, rfl⟩;have z0 : 0 <= ofs := by omega
           have z1 : ofs < 64 := by omega
           have y1 : IntKind.i64.wrap (n * 64) = n * 64 := IntWalk.i64_in _ (by omega);have y2 : IntKind.i64.wrap (n * 64 + ofs) = n * 64 + ofs := IntWalk.i64_in _ (by omega);rw [hofs] at HR HOf HOd;clear hofs h0 h1 o4 o5 c3 c4 c5 m0 m2 m4 HBm6 hb6 p3
           cases hw : m.wr with
           | false =>
            rw [hw] at n4 HR;clear hw;go_wp2_with fail
            go_quiet ((go_at_call 279; exact Calls.quiet_of_same (HOf.out _)))
            go_wp2_with fail
            refine bodyPost_ret (v := .tuple #[.pointer (some ⟨g.bl m.seg, 0, none⟩), .int .i64 (n * 64 + ofs), .bool false]) (by simp [results, Tryz.results252, go_sem]) rfl ⟨by rw [HR.out]; rfl, bel_from HB6.out (below_dr _ _)⟩
           | true =>
            rw [hw] at n4 HR HSS6;clear hw;generalize changesL o.lab c.lab = ch at HR HCh;go_wp2_with fail
            go_region_held3 (fun w' => (w'.cell? ⟨g.bl o.name, 4, none⟩ = some (.int .i64 (o.lab.d : Nat)) /\ w'.cell? ⟨g.bl o.name, 5, none⟩ = some (.slice ola o.lab.ps.length olc)) /\ w'.cell? ⟨g.bl m.seg, 4, none⟩ = some (.int .i64 (c.lab.d : Nat)) /\ w'.cell? ⟨g.bl m.seg, 5, none⟩ = some (.slice ca c.lab.ps.length cc) /\ w'.cell? ⟨mb, 4, none⟩ = some (.bool true)) (first | go_keep | exact HSS6.out _ hb7)
             (first | (refine HOd.out.mono ?_; rintro e w' ⟨rfl, rfl⟩) | (refine HCh.out.mono ?_; rintro e w7 ⟨rfl, hb7⟩))
            all_goals
             go_wp2_with fail
             refine bodyPost_ret (v := .tuple #[.pointer (some ⟨g.bl m.seg, 0, none⟩), .int .i64 (n * 64 + ofs), .bool ch]) (by simp [results, Tryz.results252, go_sem]) rfl ⟨by rw [HR.out]; rfl, bel_from HB6.out hb7⟩
         ·have q1 : decide ((c.pages : Int) <= n) = true := decide_eq_true (by omega)
          have q2 : (c.pages : Int) <= n := by omega
          have HR : Hid (K.whereTo o va = none) := Lib.hid (by rw [HGo.out]; exact if_neg (by simp [hlt]));clear hlt;go_quiet ((go_at_call 57; exact Calls.quiet_of_same (HPg.out _)))
          go_wp2_with fail
          refine bodyPost_ret (v := .tuple #[.pointer none, .int .i64 0, .bool false]) (by simp [results, Tryz.results252, go_sem]) rfl ⟨by rw [HR.out]; rfl, bel_from HB5.out (below_dr _ _)⟩
        ·have e4 : (c.kind == 2) = false := by simp [hk2]
         have e5 : (c.kind != 2) = true := by simp [hk2]
         have HR : Hid (K.whereTo o va = none) := Lib.hid (by rw [HGo.out]; exact if_neg (by simp [hk2]));clear hk2 hc hvc;go_quiet (fail)
         go_wp2_with fail
         refine bodyPost_ret (v := .tuple #[.pointer none, .int .i64 0, .bool false]) (by simp [results, Tryz.results252, go_sem]) rfl ⟨by rw [HR.out]; rfl, bel_from HB5.out (below_dr _ _)⟩
   ·have e4 : (s.kind == 4) = false := by simp [hk4]
    have e5 : (s.kind != 4) = true := by simp [hk4]
    have HR := Lib.hid (where_no2 (va := va) HS.out (by simp [hk4]));clear hk4;go_wp2_with fail
    go_quiet (fail)
    go_wp2_with fail
    refine bodyPost_ret (v := .tuple #[.pointer none, .int .i64 0, .bool false]) (by simp [results, Tryz.results252, go_sem]) rfl ⟨by rw [HR.out]; rfl, bel_from HB1.out (below_dr _ _)⟩
end Go.Proofs.YtiadbhiadhgjkaaGreatDoor
