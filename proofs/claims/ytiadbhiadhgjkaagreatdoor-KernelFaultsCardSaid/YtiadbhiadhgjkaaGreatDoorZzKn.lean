/- Of the proof of this claim: a joined text. -/
import Derived.Test.YtiadbhiadhgjkaaGreatDoorZzKc
set_option maxRecDepth 100000
set_option maxHeartbeats 1000000
namespace Go.Proofs.YtiadbhiadhgjkaaGreatDoor
open Go.RowKit
attribute [local irreducible] World.setCell World.alloc World.drew World.setRow Calls Code.wp
theorem place_cont (w : World) (g : Gh) (K K' : Km) (hm x : Ob) (l : Lab) (lv : Value) (n count : Int) (h : KIn w g K) (hI : Inv g K) (hh : K.obj hm.name = some hm) (hk : hm.kind = 1) (hl : LabIn w lv l) (hok : LabOk l)
  (hn : 0 <= n) (hc : 0 <= count) (e : K.place hm 1 l n count = .ok K' x) :
  Calls Tryz.prog 63 #[.pointer (some ⟨g.kb, 0, none⟩), .pointer (some ⟨g.bl hm.name, 0, none⟩), .int .i64 1, lv, .int .i64 n, .int .i64 count] w fun e w' =>
   PlaceOk w g K' x e w' := by
 obtain ⟨a1, a2, a3, a4, a5, rfl, rfl⟩ := place_spec e;rw [if_pos rfl] at a1 a2;have hc1 : costOf 1 n = 1 := rfl;have hc0 : costOf 1 ((0 : Nat) : Int) = 1 := rfl;rw [hc1] at a2 a3;obtain ⟨ls, rfl, hls⟩ := hl;obtain ⟨la, lc, rfl, -, -⟩ := RowAt.form hls;have hco := hI.cont _ _ hh hk;have hno := hI.own;obtain ⟨s, T, hO⟩ := h.at hh;have c2 := hO.name;have hblt := hO.blk.lt;have H := Lib.hid h; have HI := Lib.hid hI; have HL := Lib.hid hls; have HH := Lib.hid hh; have HO := Lib.hid hO;have HC := Lib.hid hco;have hcb : count <= 4194304 := by have := hco.names.hi; have := hco.names.next; unfold Rng.left at a1; omega
 have hnb : n <= 1099511627776 := by have := hco.lim; have := hco.used; have := hco.given; unfold Purse.left at a2; omega
 clear h hI hls e hco hO hno;go_enter Tryz.func63, Tryz.ntmps63
 go_wp2_with fail
 go_region
 go_wp2_with fail
 refine calls_gen fun w2 hw2 => ?_
 generalize hxb : w.heap.size + 1 = xb;have hb2 : Below w.heap.size w w2 := by rw [hw2]; exact (((Below.refl _ w).alloc (Nat.le_refl _) _).alloc (by simp) _).drew
 have HM : Hid (Mk w w2 g g K xb (ob0 0 1 l hm.name) ⟨.slice none 0 0, .slice none 0 0, .slice none 0 0, .slice none 0 0, .slice la l.ps.length lc, .slice none 0 0, .slice none 0 0, fun _ => .slice none 0 0, 0⟩ 0 (.pointer none) 0) :=
  ⟨H.out.below hb2, Ext.below hb2, by
   rw [hw2, <- hxb, <- World.size_alloc w (.cells #[.int .i64 (l.d : Nat), .slice la l.ps.length lc] 43)];exact ((Blk.new _ _ _).drew).cells rfl, RowAt.below HL.out hb2 (Nat.le_refl _), H.out.nrm _ (by omega), fun q => absurd rfl q⟩
 have HO2 := Lib.hid (HO.out.below hb2);clear hw2 hb2 c2 hblt;have hcost := cost_any _ _ _ _ _ _ [] HM.out.blk (.inl ⟨rfl, rfl⟩) (by simp);rw [show costOf (ob0 0 1 l hm.name).kind (([] : List Int).length : Nat) = 1 from hc0] at hcost;refine hcost.mono ?_;rintro e w' ⟨rfl, rfl⟩;clear hcost;obtain ⟨c12, c13, c14⟩ := HO2.out.names;go_wp2_with fail
 refine (rleft_any hm.names _ HC.out.names).mono ?_;rintro e w3 ⟨rfl, hb3⟩;have HM3 := Lib.hid (HM.out.below hb3); have HO3 := Lib.hid (HO2.out.below hb3);have q1 : ¬ hm.names.left < 1 + count := by omega
 clear hb3 c12 c13 c14 HM HO2;obtain ⟨c9, c10, c11⟩ := HO3.out.purse;go_wp2_with fail
 refine (pleft_any hm.purse _ HC.out.sm).mono ?_;rintro e w4 ⟨rfl, hb4⟩;have HM4 := Lib.hid (HM3.out.below hb4); have HO4 := Lib.hid (HO3.out.below hb4);have q2 : ¬ hm.purse.left < 1 + n := by omega
 clear hb4 c9 c10 c11 HM3 HO3;go_wp2_with fail
 refine (rtake_any hm.names _ 12 _ _ _ HO4.out.blk (obC_names _ _ _ _) HC.out.names (by omega)).mono ?_;rintro e w5 ⟨rfl, hP⟩;have hn1 : (K.set (hm.wNames ⟨hm.names.lo, hm.names.next + 1, hm.names.hi⟩)).obj hm.name = some (hm.wNames ⟨hm.names.lo, hm.names.next + 1, hm.names.hi⟩) := if_pos rfl;have HM5 := Lib.hid (HM4.out.names hh HO4.out hP);clear hP;have x2 : w5.cell? ⟨xb, 2, none⟩ = some (.int .u64 0) := (HM5.out.blk.cell 2).trans rfl;have f2 : w5.frozen? ⟨xb, 2, none⟩ = false := HM5.out.blk.free 2;have HM6 := Lib.hid (HM5.out.setX (x' := (ob0 0 1 l hm.name).wName hm.names.next) 2 (.int .u64 hm.names.next) rfl ⟨rfl, rfl⟩ (by omega));obtain ⟨s6, T6, hO6⟩ := HM6.out.kin.at hn1;have HO6 := Lib.hid hO6; clear hO6;go_wp2_with fail
 refine (ptake_any hm.purse _ _ 9 _ _ _ HO6.out.blk (obC_purse _ _ _ _) HC.out.sm ⟨by omega, by omega⟩).mono ?_;rintro e w7 ⟨rfl, hP⟩;have HM7 := Lib.hid (HM6.out.purse hn1 HO6.out hP);clear hP x2 f2 HM4 HO4 HM5
 have HM8 : Hid (Mk w w7 g g (K.set ((hm.wNames ⟨hm.names.lo, hm.names.next + 1, hm.names.hi⟩).wPurse ⟨hm.purse.lim, hm.purse.used + 1, hm.purse.given⟩)) xb ((ob0 0 1 l hm.name).wName hm.names.next) (freshS nilV (.slice la l.ps.length lc)) 0 (.pointer none) 0) := by
  rw [<- Km.set_set K (hm.wNames ⟨hm.names.lo, hm.names.next + 1, hm.names.hi⟩) ((hm.wNames ⟨hm.names.lo, hm.names.next + 1, hm.names.hi⟩).wPurse ⟨hm.purse.lim, hm.purse.used + 1, hm.purse.given⟩) rfl];exact HM7.out
 clear HM7 HM6 HO6;obtain ⟨kc0, kc1⟩ := HM8.out.kin.kcell;have x2 : w7.cell? ⟨xb, 2, none⟩ = some (.int .u64 hm.names.next) := (HM8.out.blk.cell 2).trans rfl;have HM9 := Lib.hid (HM8.out.below ((Below.refl _ w7).drew))
 have Hcall : Hid (∀ wz, wz = w7.drew -> Calls Tryz.prog 38 #[.pointer (some ⟨g.pb, 0, none⟩), .int .u64 hm.names.next] wz fun e w' => ∃ v, e = .returned v /\ (v = .int .i64 (g.P.allocRet hm.names.next) /\ Mk w w' g { g with P := g.P.alloc hm.names.next } (K.set ((hm.wNames ⟨hm.names.lo, hm.names.next + 1, hm.names.hi⟩).wPurse ⟨hm.purse.lim, hm.purse.used + 1, hm.purse.given⟩)) xb ((ob0 0 1 l hm.name).wName hm.names.next) (freshS nilV (.slice la l.ps.length lc)) 0 (.pointer none) 0)) := fun wz ez => by
  rw [ez];refine (alloc_any g.pb g.db g.ob g.P hm.names.next _ HM9.out.kin.pool).mono ?_;rintro e w' ⟨rfl, h1, h2⟩;exact ⟨_, rfl, rfl, HM9.out.pool h1 h2⟩
 go_wp2_with fail
 go_region_law (refine step_call (by rfl) (ex_call (vs := #[.pointer (some ⟨g.pb, 0, none⟩), .int .u64 hm.names.next]) (by simp [Act.eval]) (enters_fn Tryz.func38 (by kernel_rfl) rfl)) (Hcall.out _ (by first | rfl | exact drew_eq w7)) ?_; rintro v w9 ⟨rfl, hm9⟩; have x8 : w9.cell? ⟨xb, 8, none⟩ = some (.int .i64 0) := (hm9.blk.cell 8).trans rfl; have f8 : w9.frozen? ⟨xb, 8, none⟩ = false := hm9.blk.free 8)
 all_goals
  have HM11 := Lib.hid (hm9.setX (x' := (ob0 0 1 l hm.name).wName hm.names.next) (mt' := g.P.allocRet hm.names.next) 8 (.int .i64 (g.P.allocRet hm.names.next)) rfl ⟨rfl, rfl⟩ (by omega));clear x8 f8 kc0 kc1;go_wp2_with fail
  obtain ⟨wz, hwz⟩ : ∃ wz, wz = w9.setCell ⟨xb, 8, none⟩ (.int .i64 (g.P.allocRet hm.names.next)) := ⟨_, rfl⟩;rw [<- hwz] at HM11 ⊢;clear hm9 hwz x2;obtain ⟨h2, hh2⟩ : ∃ h2, h2 = (hm.wNames ⟨hm.names.lo, hm.names.next + 1, hm.names.hi⟩).wPurse ⟨hm.purse.lim, hm.purse.used + 1, hm.purse.given⟩ := ⟨_, rfl⟩;have hh2n : h2.name = hm.name := by rw [hh2]; rfl
  have hh2p : h2.purse = ⟨hm.purse.lim, hm.purse.used + 1, hm.purse.given⟩ := by rw [hh2]; rfl
  have hh2r : h2.names = ⟨hm.names.lo, hm.names.next + 1, hm.names.hi⟩ := by rw [hh2]; rfl
  have HM12 := HM11.out;rw [<- hh2] at HM12;obtain ⟨s12, T12, hO12⟩ := HM12.kin.at (Km.set_same K h2);have HN := Lib.hid (And.intro hh2n (And.intro hh2p (And.intro hh2r hh2)));have hp12 : hm.purse.lim - (hm.purse.used + 1) - hm.purse.given = hm.purse.left - 1 := by unfold Purse.left; omega
  have hgive := pgive_any h2.purse n _ 9 _ _ _ hO12.blk (obC_purse _ _ _ _) (by rw [hh2p]; have := HC.out.used; have := HC.out.given; have := HC.out.sum; have := HC.out.lim; exact ⟨⟨by show _ <= hm.purse.lim; omega, by show hm.purse.lim <= _; omega⟩, ⟨by show _ <= hm.purse.used + 1; omega, by show hm.purse.used + 1 <= _; unfold Purse.left at a2; omega⟩, by show _ <= hm.purse.given; omega, by show hm.purse.given <= _; omega⟩) ⟨hn, by rw [hh2p]; show n <= hm.purse.lim - (hm.purse.used + 1) - hm.purse.given; omega⟩;rw [hh2n] at hgive;have HG := Lib.hid hgive; have HO12 := Lib.hid hO12; have HM12h := Lib.hid HM12;clear hgive hO12 HM12 hh2 hh2n hh2p hh2r hp12;refine HG.out.mono ?_;rintro e w13 ⟨rfl, hP⟩;rw [<- HN.out.1] at hP;have HM13 := HM12h.out.purse (Km.set_same K h2) HO12.out hP;rw [Km.set_set K h2 (h2.wPurse ⟨h2.purse.lim, h2.purse.used, h2.purse.given + n⟩) rfl] at HM13;clear hP;have y9 : w13.cell? ⟨xb, 9, none⟩ = some (.int .i64 0) := (HM13.blk.cell 9).trans rfl;have y10 : w13.cell? ⟨xb, 10, none⟩ = some (.int .i64 0) := (HM13.blk.cell 10).trans rfl;have y11 : w13.cell? ⟨xb, 11, none⟩ = some (.int .i64 0) := (HM13.blk.cell 11).trans rfl;have yf := HM13.blk.free
  have HM14 := ((HM13.setX (x' := ((ob0 0 1 l hm.name).wName hm.names.next).wPurse ⟨n, 0, 0⟩) 9 (.int .i64 n) rfl ⟨rfl, rfl⟩ (by omega)).setX (x' := ((ob0 0 1 l hm.name).wName hm.names.next).wPurse ⟨n, 0, 0⟩) 10 (.int .i64 0) rfl ⟨rfl, rfl⟩ (by omega)).setX (x' := ((ob0 0 1 l hm.name).wName hm.names.next).wPurse ⟨n, 0, 0⟩) 11 (.int .i64 0) rfl ⟨rfl, rfl⟩ (by omega);have HM14h := Lib.hid HM14; clear HM14 HM13;unfold Purse.v;go_wp2_with fail
  refine calls_gen fun w14 hw14 => ?_
  have HM15 : Hid (Mk w w14 g { g with P := g.P.alloc hm.names.next } (K.set (h2.wPurse ⟨h2.purse.lim, h2.purse.used, h2.purse.given + n⟩)) xb (((ob0 0 1 l hm.name).wName hm.names.next).wPurse ⟨n, 0, 0⟩) (freshS nilV (.slice la l.ps.length lc)) (g.P.allocRet hm.names.next) (.pointer none) 0) := by rw [hw14]; exact HM14h.out
  clear hw14 HM14h y9 y10 y11 yf;obtain ⟨h3, hh3⟩ : ∃ h3, h3 = h2.wPurse ⟨h2.purse.lim, h2.purse.used, h2.purse.given + n⟩ := ⟨_, rfl⟩;have hh3n : h3.name = hm.name := by rw [hh3]; exact HN.out.1
  have hh3r : h3.names = ⟨hm.names.lo, hm.names.next + 1, hm.names.hi⟩ := by rw [hh3]; exact HN.out.2.2.1
  have HM16 := HM15.out;rw [<- hh3] at HM16;obtain ⟨s16, T16, hO16⟩ := HM16.kin.at (Km.set_same K h3);have hspl := split_any h3.names count _ 12 _ _ _ hO16.blk (obC_names _ _ _ _) (by rw [hh3r]; have := HC.out.names.next; have := HC.out.names.hi; unfold Rng.left at a1; exact ⟨⟨by show 0 <= hm.names.next + 1; omega, by show hm.names.next + 1 <= hm.names.hi; omega⟩, by show hm.names.hi <= _; omega⟩) ⟨hc, by rw [hh3r]; unfold Rng.left at a1 ⊢; show count <= hm.names.hi - (hm.names.next + 1); omega⟩;rw [hh3n] at hspl;have HS := Lib.hid hspl; have HO16 := Lib.hid hO16; have HM16h := Lib.hid HM16; have HN3 := Lib.hid (And.intro hh3n (And.intro hh3r hh3));clear hspl hO16 HM16 hh3 hh3n hh3r HM15;refine HS.out.mono ?_;rintro e w17 ⟨rfl, hP⟩;rw [<- HN3.out.1] at hP;have HM17 := HM16h.out.names (Km.set_same K h3) HO16.out hP;rw [Km.set_set K h3 (h3.wNames ⟨h3.names.lo, h3.names.next, h3.names.hi - count⟩) rfl] at HM17;clear hP;have y12 : w17.cell? ⟨xb, 12, none⟩ = some (.int .u64 0) := (HM17.blk.cell 12).trans rfl;have y13 : w17.cell? ⟨xb, 13, none⟩ = some (.int .u64 0) := (HM17.blk.cell 13).trans rfl;have y14 : w17.cell? ⟨xb, 14, none⟩ = some (.int .u64 0) := (HM17.blk.cell 14).trans rfl;have yf := HM17.blk.free;have kc9 := HM17.kin.kcell.1
  have hkx : g.kb ≠ xb := fun e => by
   have h1 := HM17.kin.tags.kb;have h2 := HM17.no;have h3 : g.A g.kb = some (0, 0) := h1;have h4 : g.A xb = none := h2;rw [e, h4] at h3; cases h3
  have HM18 := ((HM17.setX (x' := ((((ob0 0 1 l hm.name).wName hm.names.next).wPurse ⟨n, 0, 0⟩).wNames ⟨h3.names.hi - count, 0, 0⟩)) 12 (.int .u64 (h3.names.hi - count)) rfl ⟨rfl, rfl⟩ (by omega)).setX (x' := ((((ob0 0 1 l hm.name).wName hm.names.next).wPurse ⟨n, 0, 0⟩).wNames ⟨h3.names.hi - count, h3.names.hi - count, 0⟩)) 13 (.int .u64 (h3.names.hi - count)) rfl ⟨rfl, rfl⟩ (by omega)).setX (x' := ((((ob0 0 1 l hm.name).wName hm.names.next).wPurse ⟨n, 0, 0⟩).wNames ⟨h3.names.hi - count, h3.names.hi - count, h3.names.hi⟩)) 14 (.int .u64 h3.names.hi) rfl ⟨rfl, rfl⟩ (by omega);have HM18h := Lib.hid HM18; clear HM18 HM17;unfold Rng.v;go_wp2_with fail
  refine calls_gen fun w18 hw18 => ?_
  have HM19 := HM18h.out;rw [<- hw18] at HM19;have HM19h := Lib.hid HM19;clear hw18 HM18h HM19 y12 y13 y14 yf kc9 hkx
  have hKn : (K.set (h3.wNames ⟨h3.names.lo, h3.names.next, h3.names.hi - count⟩)).obj hm.names.next = none := by
   rw [Km.set_other _ _ (fun e => by
    have e2 : hm.names.next = hm.name := e.trans HN3.out.1;rw [e2, hh] at a5; cases a5)]
   exact a5
  obtain ⟨k1, k2, k3⟩ := HM19h.out.enter (tb := 0) ⟨rfl, rfl, rfl, rfl, rfl, rfl⟩ (by show 0 < hm.names.next; have := HC.out.next; omega) hok hKn (fun b i e => by
   rcases HI.out.own b _ i e with e1 | ⟨o, e1⟩
   ·have := HC.out.next
    have e2 : hm.names.next = 0 := e1;omega
   ·have e2 : K.obj hm.names.next = some o := e1
    rw [a5] at e2; cases e2) (.inl ⟨rfl, rfl⟩) (fun c hc => by cases hc) (fun e3 => absurd (show (1 : Int) = 3 from e3) (by decide)) (fun _ => rfl) ⟨by have := H.out.pool.hp.lt; show g.pb < xb; omega, by have := H.out.pool.hd.lt; show g.db < xb; omega, by have := H.out.pool.ho.lt; show g.ob < xb; omega⟩ (by omega)
  have hhk : (h3.wNames ⟨h3.names.lo, h3.names.next, h3.names.hi - count⟩).kind = 1 := by rw [HN3.out.2.2, HN.out.2.2.2]; exact hk
  have hhkids : (h3.wNames ⟨h3.names.lo, h3.names.next, h3.names.hi - count⟩).kids = hm.kids := by rw [HN3.out.2.2, HN.out.2.2.2]; rfl
  have hadd := add_kid _ _ _ k1 _ (h3.wNames ⟨h3.names.lo, h3.names.next, h3.names.hi - count⟩) k2 hKn (by
   show (K.set (h3.wNames ⟨h3.names.lo, h3.names.next, h3.names.hi - count⟩)).obj hm.name = _
   rw [<- HN3.out.1]; exact Km.set_same K (h3.wNames ⟨h3.names.lo, h3.names.next, h3.names.hi - count⟩)) hhk (by rw [hhkids]; exact a4)
  rw [show (Gh.add _ _ _ _ _ _ _ _).bl _ = xb from if_pos rfl] at hadd;refine hadd.mono ?_;clear hadd;rintro e w20 ⟨rfl, b, f1, f2⟩;go_wp2_with fail
  go_ret2
  have hx0 : ((((ob0 0 1 l hm.name).wName hm.names.next).wPurse ⟨n, 0, 0⟩).wNames ⟨h3.names.hi - count, h3.names.hi - count, h3.names.hi⟩) = newOb hm 1 l n count := by rw [HN3.out.2.1]; rfl
  have hh0 : ({ (h3.wNames ⟨h3.names.lo, h3.names.next, h3.names.hi - count⟩) with kids := (h3.wNames ⟨h3.names.lo, h3.names.next, h3.names.hi - count⟩).kids ++ [((((ob0 0 1 l hm.name).wName hm.names.next).wPurse ⟨n, 0, 0⟩).wNames ⟨h3.names.hi - count, h3.names.hi - count, h3.names.hi⟩).name] } : Ob) = homeOb hm 1 n count := by
   rw [HN3.out.2.2, HN.out.2.2.2]; rfl
  rw [hh0, hx0] at f1;obtain ⟨m1, m2, m3⟩ := alloc_facts g.P hm.names.next (by have := HC.out.next; omega) (by have := HI.out.room; have := slack_pos HI.out; omega)
  obtain ⟨r1, r2⟩ := place_done (kind := 1) (h2 := h3.wNames ⟨h3.names.lo, h3.names.next, h3.names.hi - count⟩) HI.out hh hk (fun _ => hn) (fun _ => ⟨hc, by have := HC.out.names.next; have := HC.out.names.hi; have := HC.out.next; unfold Rng.left at a1; omega⟩) (by rw [if_pos rfl]; exact a1) (by rw [if_pos rfl]; exact a2) a3 a5 HN3.out.1 f1 m1 (fun m hm' => ⟨if_neg hm', if_neg hm', if_neg hm', if_neg hm', if_neg hm', if_neg hm'⟩) ⟨rfl, rfl, rfl⟩ ⟨rfl, rfl, rfl⟩ (fun c m i e => by
    rw [Gh.own_A] at e;split at e
    ·cases e; exact .inr (.inr HN3.out.1)
    ·have e' : (if c = xb then some (hm.names.next, 0) else if nilV.ownBlock = some c then some (hm.names.next, 3) else if _ /\ c = 0 then some (hm.names.next, 10) else g.A c) = some (m, i) := e
     split at e'
     ·cases e'; exact .inr (.inl rfl)
     split at e'
     ·cases e'; exact .inr (.inl rfl)
     split at e'
     ·cases e'; exact .inr (.inl rfl)
     ·exact .inl e') (fun q => absurd q (by decide)) (fun _ => if_pos rfl) (fun q => absurd q (by decide)) rfl (by rw [if_neg (by decide)]; show ((g.P.alloc hm.names.next).left : Int) + 1 = _; omega)
  refine ⟨_, ?_, r1, r2, k3.trans f2, fun m hm' => ⟨if_neg hm', if_neg hm', if_neg hm', if_neg hm', if_neg hm', if_neg hm'⟩, fun q => absurd (show (1 : Int) = 3 from q) (by decide)⟩;show Ending.returned (.tuple #[.pointer (some ⟨xb, 0, none⟩), .int .i64 0]) = Ending.returned (.tuple #[.pointer (some ⟨if hm.names.next = hm.names.next then xb else _, 0, none⟩), .int .i64 0])
  rw [if_pos rfl]
end Go.Proofs.YtiadbhiadhgjkaaGreatDoor
