/- Of the proof of this claim: a joined text. -/
import Derived.Test.YtiadbhiadhgjkaaGreatDoorZzMg
import Derived.Test.YtiadbhiadhgjkaaGreatDoorZzMc
import Derived.Test.YtiadbhiadhgjkaaGreatDoorZzMw
set_option maxRecDepth 100000
set_option maxHeartbeats 4000000
namespace Go.Proofs.YtiadbhiadhgjkaaGreatDoor
open Go.RowKit
attribute [local irreducible] World.setCell World.alloc World.drew World.setRow Calls Code.wp
structure MemAt (w : World) (g : Gh) (o : Ob) (i mb : Nat) : Prop where
 blk : Blk w mb #[.pointer (some ⟨g.kb, 0, none⟩), .pointer (some ⟨g.bl o.name, 0, none⟩), .pointer (some ⟨g.cb, i * 27, none⟩)] 231
 free : g.A mb = none
theorem MemAt.ext {w w' : World} {g g' : Gh} {o : Ob} {i mb : Nat} (h : MemAt w g o i mb) (e : Ext g g' w w') (hs : Same g g') : MemAt w' g' o i mb :=
 ⟨by rw [e.al.kb, e.al.cb, hs.bl]; exact e.kept.blk h.blk (fun q => q h.free), e.tag _ h.blk.lt h.free⟩
theorem MemAt.below {w w' : World} {g : Gh} {o : Ob} {i mb : Nat} (h : MemAt w g o i mb) (k : Below w.heap.size w w') : MemAt w' g o i mb := ⟨h.blk.below k h.blk.lt, h.free⟩
theorem MemAt.cells {w : World} {g : Gh} {o : Ob} {i mb : Nat} (h : MemAt w g o i mb) : w.cell? ⟨mb, 0, none⟩ = some (.pointer (some ⟨g.kb, 0, none⟩)) /\ w.cell? ⟨mb, 1, none⟩ = some (.pointer (some ⟨g.bl o.name, 0, none⟩)) /\ w.cell? ⟨mb, 2, none⟩ = some (.pointer (some ⟨g.cb, i * 27, none⟩)) :=
 ⟨(h.blk.cell 0).trans rfl, (h.blk.cell 1).trans rfl, (h.blk.cell 2).trans rfl⟩
theorem EnSt.step {w0 w w' : World} {g0 g g' : Gh} {K : Km} {o : Ob} (h : EnSt w0 g0 K o w g) (h1 : KIn w' g' K) (h2 : Inv g' K) (h3 : Ext g g' w w') (h4 : Same g g') : EnSt w0 g0 K o w' g' := ⟨h1, h2, h.ext.trans h3, h.same.trans h4⟩
theorem EnSt.below {w0 w w' : World} {g0 g : Gh} {K : Km} {o : Ob} (h : EnSt w0 g0 K o w g) (k : Below w.heap.size w w') : EnSt w0 g0 K o w' g := h.step (h.kin.below k) h.inv (Ext.below k) (Same.refl g)
theorem frameV_same {g g' : Gh} {K : Km} {o : Ob} {va : Int} {wr : Bool} (h : g'.fr = g.fr) : frameV g' K o va wr = frameV g K o va wr := by unfold frameV; rw [h]
theorem Leads.same {g g' : Gh} {K : Km} {o : Ob} {p f : Int} {y : Bool} (h : Leads g K o p f y) (e : g'.fr = g.fr) : Leads g' K o p f y := by
 obtain ⟨s, a, m, h1, h2, h3⟩ := h;exact ⟨s, a, m, h1, by rw [e]; exact h2, h3⟩
theorem tlb_right {g : Gh} {K : Km} {o : Ob} {i : Nat} {va : Int} {wr : Bool} (hI : Inv g K) (hi : i < K.nc) (hfl : g.flush i = false) (hla : g.last i = o.name) (ho : K.obj o.name = some o) (h : (g.tlb i).find (va / 64) wr ≠ 0) : frameV g K o va wr = (g.tlb i).find (va / 64) wr := by
 obtain ⟨k, hk, e1, e2, e3, e4⟩ := find_spec h;obtain ⟨o', h1, -, h2⟩ := hI.tlb i hi hfl k hk e2;rw [hla, ho] at h1
 cases h1;rw [e3, e1] at h2;exact frame_leads hI.name h2 e4
theorem frame_any (w : World) (g : Gh) (K : Km) (o : Ob) (i mb : Nat) (va : Int) (wr : Bool) (h : KIn w g K) (hI : Inv g K) (hM : MapsOk K) (ho : K.obj o.name = some o) (hk : o.kind = 3) (hl : ∀ n s, K.obj n = some s -> s.maps.length <= 1000000)
  (hi : i < K.nc) (hfl : g.flush i = false) (hla : g.last i = o.name) (hm : MemAt w g o i mb) (h0 : 0 <= va) (h1 : va <= 262143) :
  Calls Tryz.prog 317 #[.pointer (some ⟨mb, 0, none⟩), .int .i64 va, .bool wr] w fun e w' => e = .returned (.int .i64 (frameV g K o va wr)) /\ ∃ g', EnSt w g K o w' g' := by
 have HE := Lib.hid (show EnSt w g K o w g from ⟨h, hI, Ext.refl g w, Same.refl g⟩);have HMp := Lib.hid hM; have HO := Lib.hid ho; have HL := Lib.hid hl; have HMa := Lib.hid hm;have Hi := Lib.hid hi; have Hfl := Lib.hid hfl; have Hla := Lib.hid hla; have Hva := Lib.hid (And.intro h0 h1);obtain ⟨p, hp⟩ : ∃ p : Nat, va / 64 = (p : Int) := ⟨(va / 64).toNat, by omega⟩;have hp4 : p < 4096 := by omega
 have Hp := Lib.hid hp;obtain ⟨m0, m1, m2⟩ := hm.cells;obtain ⟨cs, hB, hIn⟩ := h.pl hi;have Hfd := Lib.hid (tfind_any g.cb (i * 27 + 11) (g.tlb i) (p : Int) wr w (PlAt.of hIn hB))
 have Hpg : Hid (Calls Tryz.prog 277 #[.int .i64 va] w fun e w' => e = .returned (.int .i64 (p : Int)) /\ w = w') := by
  have := page_any va w h0 h1;rw [hp] at this; exact Lib.hid this
 clear h hI hM ho hl hm hi hfl hla h0 h1 hp hB hIn;go_enter Tryz.func317, Tryz.ntmps317
 go_wp2_with fail
 refine Hpg.out.mono ?_;rintro e w' ⟨rfl, rfl⟩;go_wp2_with fail
 refine Hfd.out.mono ?_;rintro e w1 ⟨rfl, hb1⟩;by_cases hf : (g.tlb i).find (p : Int) wr = 0
 ·rw [hf]
  have HE1 := Lib.hid (HE.out.below hb1);have HM1 := Lib.hid (HMa.out.below hb1);clear hf hb1 Hfd m0 m1 m2
  have HSS : Hid (∀ w', Below w1.heap.size w1 w' -> (w'.cell? ⟨mb, 0, none⟩ = some (.pointer (some ⟨g.kb, 0, none⟩)) /\ w'.cell? ⟨mb, 1, none⟩ = some (.pointer (some ⟨g.bl o.name, 0, none⟩))) /\ w'.cell? ⟨g.kb, 1, none⟩ = some (.pointer (some ⟨g.pb, 0, none⟩)) /\ w'.cell? ⟨g.bl o.name, 19, none⟩ = some (.pointer (some ⟨g.tl o.name, 0, none⟩)) /\ w'.cell? ⟨g.tl o.name, 22, none⟩ = some (.int .i64 (g.root o.name))) := Lib.hid (fun w' k => by
   have e1 := (HM1.out.below k).cells;have e2 := (HE1.out.kin.below k);have e3 := e2.four HO.out hk w' (Kept.refl _ _);exact ⟨⟨e1.1, e1.2.1⟩, e3.1.1, e2.tcell HO.out hk, e3.2.1⟩)
  obtain ⟨⟨m0, m1⟩, k1, b19, t22⟩ := HSS.out w1 (Below.refl _ _)
  obtain ⟨WF, WY, HW, HLW⟩ : ∃ (WF : Int) (WY : Bool), Hid (Calls Tryz.prog 319 #[.pointer (some ⟨g.pb, 0, none⟩), .int .i64 (g.root o.name), .int .i64 p] w1.drew fun e w' => e = .returned (.tuple #[.int .i64 WF, .bool (decide (WF ≠ 0) && WY), .bool (decide (WF ≠ 0))]) /\ Below w1.heap.size w1 w') /\ Hid (WF ≠ 0 -> Leads g K o p WF WY) := by
   rcases HE.out.inv.thr _ _ HO.out hk with e | ⟨e1, e2, e3, e4⟩
   ·refine ⟨0, false, ?_, fun q => absurd rfl q⟩
    rw [e.1];refine Lib.hid ((walk_none g.pb g.db g.ob g.P 0 p w1.drew HE1.out.kin.pool.drew (by simp [Pool.owner, Pool.there]) hp4).mono ?_);rintro e w' ⟨rfl, hb⟩;rw [World.size_drew] at hb;exact ⟨rfl, (Below.refl _ w1).drew.trans hb⟩
   ·refine ⟨g.F o.name p, g.Y o.name p, ?_, fun q => e4 p hp4 q⟩
    refine Lib.hid ((walk_any g.pb g.db g.ob g.P (g.root o.name) o.name (g.N o.name) (g.F o.name) (g.Y o.name) p w1.drew HE1.out.kin.pool.drew e1 hp4).mono ?_);rintro e w' ⟨rfl, hb⟩;rw [World.size_drew] at hb;exact ⟨rfl, (Below.refl _ w1).drew.trans hb⟩
  have HpF : Hid (WF ≠ 0 -> 1 <= WF) := Lib.hid (fun q => by
   obtain ⟨s, a, may, z1, z2, -⟩ := HLW.out q;have := (frame_pos HE.out.inv HMp.out z1).1;omega)
  go_wp2_with fail
  go_region_held3 (fun w' => (w'.cell? ⟨mb, 0, none⟩ = some (.pointer (some ⟨g.kb, 0, none⟩)) /\ w'.cell? ⟨mb, 1, none⟩ = some (.pointer (some ⟨g.bl o.name, 0, none⟩))) /\ w'.cell? ⟨g.kb, 1, none⟩ = some (.pointer (some ⟨g.pb, 0, none⟩)) /\ w'.cell? ⟨g.bl o.name, 19, none⟩ = some (.pointer (some ⟨g.tl o.name, 0, none⟩)) /\ w'.cell? ⟨g.tl o.name, 22, none⟩ = some (.int .i64 (g.root o.name)))
   (first | go_keep | exact HSS.out _ hb2)
   ((refine HW.out.mono ?_; rintro e w2 ⟨rfl, hb2⟩))
  all_goals
   have HE2 := Lib.hid (HE1.out.below hb2);have HM2 := Lib.hid (HM1.out.below hb2);clear m0 m1 k1 b19 t22 HSS HW hb2 HE1 HM1
   have HPut : Hid (WF ≠ 0 -> Calls Tryz.prog 320 #[.pointer (some ⟨g.cb, i * 27 + 11, none⟩), .int .i64 p, .int .i64 WF, .bool WY] w2 fun e w' => e = .returned (.tuple #[]) /\ ∃ g', EnSt w g K o w' g') := Lib.hid (fun q => by
    refine (kput_any w2 g K HE2.out.kin HE2.out.inv i Hi.out o p WF WY (HpF.out q) Hla.out HO.out ⟨by omega, by omega⟩ (HLW.out q)).mono ?_;rintro e w' ⟨h1, g', z1, z2, z3, z4⟩;exact ⟨h1, g', HE2.out.step z1 z2 z3 z4⟩)
   have HFr : Hid (WF ≠ 0 -> (WY = true \/ wr = false) -> frameV g K o va wr = WF) := Lib.hid (fun q y => frame_leads HE.out.inv.name (by rw [Hp.out]; exact HLW.out q) y);have m2 := HM2.out.cells.2.2;have HIL := Lib.hid (HE2.out.kin.pl Hi.out)
   have HQ : Hid ((!decide (WF = 0) && (WY || !wr)) = true -> WF ≠ 0 /\ (WY = true \/ wr = false)) := Lib.hid (fun q => by
    simp only [Bool.and_eq_true, Bool.not_eq_true', decide_eq_false_iff_not, Bool.or_eq_true] at q;exact q)
   go_upto_region 6 with fail
   go_cut [10, 11, 60] (fun a b t wx => a = .bool (!decide (WF = 0) && WY) /\ b = .bool (!decide (WF = 0)) /\ t = .bool (!decide (WF = 0) && (WY || !wr)) /\ w2 = wx)
   case first =>
    cases hz : decide (WF = 0) <;> cases WY <;> cases wr
    all_goals
     go_wp2_with fail
     go_meet;exact ⟨by rw [hz]; rfl, by rw [hz]; rfl, by rw [hz]; rfl, rfl⟩
   case rest =>
    obtain ⟨rfl, rfl, rfl, rfl⟩ := hcut;generalize (!decide (WF = 0) && (WY || !wr)) = qq at HQ ⊢
    cases qq
    ·clear HPut HFr HLW HpF HQ
     go_upto_region 9 with fail
     have HSS9 : Hid (∀ w', Below w2.heap.size w2 w' -> w'.cell? ⟨mb, 0, none⟩ = some (.pointer (some ⟨g.kb, 0, none⟩)) /\ w'.cell? ⟨mb, 1, none⟩ = some (.pointer (some ⟨g.bl o.name, 0, none⟩))) := Lib.hid (fun w' k => by
      have e1 := (HM2.out.below k).cells;exact ⟨e1.1, e1.2.1⟩)
     obtain ⟨m0, m1⟩ := HSS9.out w2 (Below.refl _ _)
     have HWh : Hid (Calls Tryz.prog 252 #[.pointer (some ⟨g.kb, 0, none⟩), .pointer (some ⟨g.bl o.name, 0, none⟩), .int .i64 va] w2.drew fun e w' => e = .returned (whereV g (K.whereTo o va)) /\ Below w2.heap.size w2 w') := by
      refine Lib.hid ((where_any w2.drew g K o va HE2.out.kin.drew HE2.out.inv HMp.out HO.out hk HL.out Hva.out.1 Hva.out.2).mono ?_);rintro e w' ⟨h1, h2⟩;rw [World.size_drew] at h2;exact ⟨h1, (Below.refl _ w2).drew.trans h2⟩
     cases hwh : K.whereTo o va with
     | none =>
      rw [hwh] at HWh;have HF : Hid (frameV g K o va wr = 0) := Lib.hid (by unfold frameV; rw [hwh]);unfold whereV at HWh;clear hwh
      go_region_held3 (fun w' => w'.cell? ⟨mb, 0, none⟩ = some (.pointer (some ⟨g.kb, 0, none⟩)) /\ w'.cell? ⟨mb, 1, none⟩ = some (.pointer (some ⟨g.bl o.name, 0, none⟩)))
       (first | go_keep | exact HSS9.out _ hb3)
       ((refine HWh.out.mono ?_; rintro e w3 ⟨rfl, hb3⟩))
      all_goals
       go_wp2_with fail
       go_ret;exact ⟨by rw [HF.out]; rfl, g, HE2.out.below hb3⟩
     | some r =>
      obtain ⟨s, a, may⟩ := r;rw [hwh] at HWh;unfold whereV at HWh;have HF : Hid (frameV g K o va wr = if (wr && !may) = true then 0 else (g.fr s).getD (a / 64).toNat 0) := Lib.hid (by unfold frameV; rw [hwh]);have ha0 := where_nonneg HMp.out hwh;obtain ⟨an, rfl⟩ : ∃ an : Nat, a = (an : Int) := ⟨a.toNat, by omega⟩;have e64 : ((an : Int) / 64).toNat = an / 64 := by omega
      rw [e64] at HF;obtain ⟨f1, f2, f3⟩ := frame_pos HE.out.inv HMp.out hwh;rw [e64] at f1 f2 f3
      have Hlead : Hid (Leads g K o p ((g.fr s).getD (an / 64) 0) may) := Lib.hid (by
       have := leads_frame (g := g) HE.out.inv.name hwh;rw [Hp.out, e64] at this; exact this)
      obtain ⟨c, hc, hck, hcl, -⟩ := where_some HE.out.inv.name hwh;have hpn := HE.out.kin.pool.hi;have Hc := Lib.hid (And.intro hc hck);have hal : (an : Int) <= 1000000 := by have := (HE.out.inv.seg s c hc hck).p16; omega
      clear hwh e64 hc hck hcl ha0
      go_region_held3 (fun w' => w'.cell? ⟨mb, 0, none⟩ = some (.pointer (some ⟨g.kb, 0, none⟩)) /\ w'.cell? ⟨mb, 1, none⟩ = some (.pointer (some ⟨g.bl o.name, 0, none⟩)))
       (first | go_keep | exact HSS9.out _ hb3)
       ((refine HWh.out.mono ?_; rintro e w3 ⟨rfl, hb3⟩))
      all_goals
       have HE3 := Lib.hid (HE2.out.below hb3);have HM3 := Lib.hid (HM2.out.below hb3);clear m0 m1 HSS9 HWh hb3;go_upto_region 10 with fail
       go_cut [94] (fun t wx => t = .bool (wr && !may) /\ w3 = wx)
       case first =>
        cases wr <;> cases may
        all_goals
         go_wp2_with fail
         go_meet;exact ⟨rfl, rfl⟩
       case rest =>
        obtain ⟨rfl, rfl⟩ := hcut;generalize (wr && !may) = qq at HF ⊢
        cases qq
        ·have HF2 : Hid (frameV g K o va wr = (g.fr s).getD (an / 64) 0) := Lib.hid (by rw [HF.out]; exact if_neg (by simp))
         obtain ⟨ss, sT, hseg, hsl, -⟩ := HE3.out.kin.seg HE.out.inv Hc.out.1 Hc.out.2;obtain ⟨fv, hfv⟩ : ∃ fv, (g.fr s).getD (an / 64) 0 = fv := ⟨_, rfl⟩;have hi3 : ((an / 64 : Nat) : Int) = (an : Int) / 64 := by omega
         have Hfrm := Lib.hid (frame_yes _ _ _ _ _ _ (an / 64) _ hseg f3);rw [hfv] at Hfrm HF2 Hlead f1 f2;rw [hi3] at Hfrm;clear hseg hsl hfv hi3 f3;go_wp2_with fail
         refine Hfrm.out.mono ?_;rintro e w' ⟨rfl, rfl⟩
         have HSS : Hid (∀ w' g', EnSt w g K o w' g' -> Ext g g' w3 w' -> w'.cell? ⟨mb, 0, none⟩ = some (.pointer (some ⟨g.kb, 0, none⟩)) /\ w'.cell? ⟨mb, 1, none⟩ = some (.pointer (some ⟨g.bl o.name, 0, none⟩))) := Lib.hid (fun w' g' q q2 => by
          have e1 := (HM3.out.ext q2 q.same).cells;rw [q.ext.al.kb, q.same.bl] at e1;exact ⟨e1.1, e1.2.1⟩)
         obtain ⟨m0, m1⟩ := HSS.out w3 g HE3.out (Ext.refl _ _)
         have Hen : Hid (Calls Tryz.prog 321 #[.pointer (some ⟨g.kb, 0, none⟩), .pointer (some ⟨g.bl o.name, 0, none⟩), .int .i64 p, .int .i64 fv, .bool may] w3.drew fun e w' => e = .returned (.tuple #[]) /\ ∃ g', EnSt w g K o w' g' /\ Ext g g' w3 w') := by
          refine Lib.hid ((enter_any w3.drew g K o p fv may HE3.out.kin.drew HE3.out.inv HO.out hk hp4 ⟨f1, by omega⟩ Hlead.out).mono ?_);rintro e w' ⟨h1, g', z1, z2, z3, z4⟩;have hx : Ext g g' w3 w' := (Ext.below (Below.refl _ w3).drew).trans z3;exact ⟨h1, g', ⟨z1, z2, HE3.out.ext.trans hx, z4⟩, hx⟩
         have Hf1 := Lib.hid f1;clear f1 f2 hpn hal Hfrm;go_wp2_with fail
         go_region_held3 (fun w' => w'.cell? ⟨mb, 0, none⟩ = some (.pointer (some ⟨g.kb, 0, none⟩)) /\ w'.cell? ⟨mb, 1, none⟩ = some (.pointer (some ⟨g.bl o.name, 0, none⟩)))
          (first | go_keep | exact HSS.out _ g5 hE5 hX5)
          ((refine Hen.out.mono ?_; rintro e w5 ⟨rfl, g5, hE5, hX5⟩))
         all_goals
          have HE5 := Lib.hid hE5
          have m2 : w5.cell? ⟨mb, 2, none⟩ = some (.pointer (some ⟨g.cb, i * 27, none⟩)) := by
           have e1 := (HM3.out.ext hX5 hE5.same).cells.2.2;rw [hE5.ext.al.cb] at e1; exact e1
          have HPut : Hid (Calls Tryz.prog 320 #[.pointer (some ⟨g.cb, i * 27 + 11, none⟩), .int .i64 p, .int .i64 fv, .bool may] w5 fun e w' => e = .returned (.tuple #[]) /\ ∃ g', EnSt w g K o w' g') := by
           have := kput_any w5 g5 K hE5.kin hE5.inv i Hi.out o p fv may Hf1.out (by rw [hE5.same.last]; exact Hla.out) HO.out ⟨by omega, by omega⟩ (Hlead.out.same hE5.same.fr);rw [hE5.ext.al.cb] at this;refine Lib.hid (this.mono ?_);rintro e w' ⟨h1, g', z1, z2, z3, z4⟩;exact ⟨h1, g', hE5.step z1 z2 z3 z4⟩
          clear m0 m1 hE5 hX5 Hen HSS;go_wp2_with fail
          refine HPut.out.mono ?_;rintro e w6 ⟨rfl, g6, hE6⟩;have HE6 := Lib.hid hE6;clear hE6;go_wp2_with fail
          go_ret;exact ⟨by rw [HF2.out]; rfl, g6, HE6.out⟩
        ·have HF2 : Hid (frameV g K o va wr = 0) := Lib.hid (by rw [HF.out]; exact if_pos rfl)
         go_wp2_with fail
         go_ret;exact ⟨by rw [HF2.out]; rfl, g, HE3.out⟩
    ·obtain ⟨hq1, hq2⟩ := HQ.out rfl
     have hd : decide (WF = 0) = false := decide_eq_false hq1;rw [hd];have HP2 := Lib.hid (HPut.out hq1);have HF3 := Lib.hid (HFr.out hq1 hq2);clear hq1 hq2 HPut HFr HLW HpF HQ;go_wp2_with fail
     refine HP2.out.mono ?_;rintro e w3 ⟨rfl, g', hE⟩;have HE3 := Lib.hid hE;clear hE;go_wp2_with fail
     go_ret;exact ⟨by rw [HF3.out]; rfl, g', HE3.out⟩
 ·have HR := Lib.hid (tlb_right (wr := wr) HE.out.inv Hi.out Hfl.out Hla.out HO.out (by rw [Hp.out]; exact hf))
  have HR2 : Hid (frameV g K o va wr = (g.tlb i).find (p : Int) wr) := Lib.hid (by rw [HR.out, Hp.out]);have hfb : ((g.tlb i).find (p : Int) wr != 0) = true := by simpa using hf
  have hfb2 : ((g.tlb i).find (p : Int) wr == 0) = false := by simpa using hf
  have Hb1 := Lib.hid hb1;clear hf hb1;go_wp2_with fail
  go_ret;exact ⟨by rw [HR2.out]; rfl, g, HE.out.below Hb1.out⟩
end Go.Proofs.YtiadbhiadhgjkaaGreatDoor
