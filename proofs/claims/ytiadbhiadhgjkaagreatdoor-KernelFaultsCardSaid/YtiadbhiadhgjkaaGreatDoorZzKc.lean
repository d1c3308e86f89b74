/- Of the proof of this claim: a joined text. -/
import Derived.Test.YtiadbhiadhgjkaaGreatDoorZzKe
import Derived.StillTailTactics
set_option maxRecDepth 100000
set_option maxHeartbeats 1000000
namespace Go.Proofs.YtiadbhiadhgjkaaGreatDoor
open Go.RowKit
attribute [local irreducible] World.setCell World.alloc World.drew World.setRow Calls Code.wp
theorem cost_any (w : World) (b : Nat) (o : Ob) (s : Os) (mt : Int) (T : Value) (L : List Int) (hB : Blk w b (obC o s mt T) 68) (hF : FrIn w (b + 1) s.fr L) (h16 : L.length <= 16) :
  Calls Tryz.prog 84 #[.pointer (some ⟨b, 0, none⟩)] w fun e w' => e = .returned (.int .i64 (costOf o.kind (L.length : Nat))) /\ w = w' := by
 have hS := Lib.hid (show SegAt w b 16 (obC o s mt T) (b + 1) s.fr L from ⟨hB, rfl, hF, by omega, h16⟩);have c3 : w.cell? ⟨b, 3, none⟩ = some (.int .i64 o.kind) := (hB.cell 3).trans rfl;clear hB hF;by_cases h2 : o.kind = 2
 ·rw [h2] at c3 ⊢
  go_enter Tryz.func84, Tryz.ntmps84
  go_wp2_with fail
  refine (pages_any b 16 _ _ _ L _ hS.out).mono ?_;rintro e w' ⟨rfl, rfl⟩;go_wp2_with fail
  go_ret;exact ⟨rfl, rfl⟩
 ·have h2b : (o.kind == 2) = false := by simpa using h2
  by_cases h3 : o.kind = 3
  ·rw [h3] at c3 ⊢
   go_enter Tryz.func84, Tryz.ntmps84
   go_wp2_with fail
   go_ret;exact ⟨rfl, rfl⟩
  ·have h3b : (o.kind == 3) = false := by simpa using h3
   have hc : costOf o.kind (L.length : Nat) = 1 := by unfold costOf; rw [if_neg h2, if_neg h3]
   rw [hc];go_enter Tryz.func84, Tryz.ntmps84
   go_wp2_with fail
   go_ret;exact ⟨rfl, rfl⟩
theorem place_spec {K K' : Km} {h x : Ob} {kind : Int} {l : Lab} {n count : Int} (e : K.place h kind l n count = .ok K' x) :
  (if kind = 1 then 1 + count else 1) <= h.names.left /\ costOf kind n + (if kind = 1 then n else 0) <= h.purse.left /\ costOf kind n <= K.room /\ h.kids.length <= 1000000 /\ K.obj h.names.next = none /\
  K' = { (K.set (newOb h kind l n count)).set (homeOb h kind n count) with room := K.room - costOf kind n } /\ x = newOb h kind l n count := by
 unfold Km.place at e;by_cases q1 : h.names.left < (if kind = 1 then 1 + count else 1)
 ·rw [if_pos q1] at e; cases e
 rw [if_neg q1] at e;by_cases q2 : h.purse.left < costOf kind n + (if kind = 1 then n else 0)
 ·rw [if_pos q2] at e; cases e
 rw [if_neg q2] at e;by_cases q3 : K.room < costOf kind n \/ 1000000 < h.kids.length \/ (K.obj h.names.next).isSome
 ·rw [if_pos q3] at e; cases e
 rw [if_neg q3] at e;simp only [not_or] at q3;simp only [PRes.ok.injEq] at e;exact ⟨by omega, by omega, by omega, by omega, by simpa using q3.2.2, e.1.symm, e.2.symm⟩
def PlaceOk (w : World) (g : Gh) (K' : Km) (x : Ob) (e : Ending) (w' : World) : Prop := ∃ g', e = .returned (.tuple #[.pointer (some ⟨g'.bl x.name, 0, none⟩), .int .i64 0]) /\ KIn w' g' K' /\ Inv g' K' /\ Ext g g' w w' /\ (∀ n, n ≠ x.name -> Alike1 g g' n) /\ (x.kind = 3 -> g'.root x.name = 0 /\ g'.tabs x.name = 0)
theorem place_plain (w : World) (g : Gh) (K K' : Km) (hm x : Ob) (kind : Int) (l : Lab) (lv : Value) (n count : Int) (h : KIn w g K) (hI : Inv g K) (hh : K.obj hm.name = some hm) (hk : hm.kind = 1) (hl : LabIn w lv l) (hok : LabOk l)
  (h1 : kind ≠ 1) (h2 : kind ≠ 2) (h3 : kind ≠ 3) (e : K.place hm kind l n count = .ok K' x) :
  Calls Tryz.prog 63 #[.pointer (some ⟨g.kb, 0, none⟩), .pointer (some ⟨g.bl hm.name, 0, none⟩), .int .i64 kind, lv, .int .i64 n, .int .i64 count] w fun e w' =>
   PlaceOk w g K' x e w' := by
 obtain ⟨a1, a2, a3, a4, a5, rfl, rfl⟩ := place_spec e;have HA := Lib.hid (And.intro a1 (And.intro a2 a3));rw [if_neg h1] at a1 a2;have hc1 : costOf kind n = 1 := by unfold costOf; rw [if_neg h2, if_neg h3]
 have hc0 : costOf kind ((0 : Nat) : Int) = 1 := by unfold costOf; rw [if_neg h2, if_neg h3]
 rw [hc1] at a2 a3;have b1 : (kind == 1) = false := by simpa using h1
 have b2 : (kind == 2) = false := by simpa using h2
 have b3 : (kind == 3) = false := by simpa using h3
 obtain ⟨ls, rfl, hls⟩ := hl;obtain ⟨la, lc, rfl, -, -⟩ := RowAt.form hls;have hco := hI.cont _ _ hh hk;have hno := hI.own;obtain ⟨s, T, hO⟩ := h.at hh;have c2 := hO.name;have hblt := hO.blk.lt;have H := Lib.hid h; have HI := Lib.hid hI; have HL := Lib.hid hls; have HH := Lib.hid hh; have HO := Lib.hid hO;have HC := Lib.hid hco;have H1 := Lib.hid h1; have H2 := Lib.hid h2; have H3 := Lib.hid h3;clear h hI hls e h1 h2 h3 hco hO hno;go_enter Tryz.func63, Tryz.ntmps63
 go_wp2_with fail
 go_region
 go_wp2_with fail
 refine calls_gen fun w2 hw2 => ?_
 generalize hxb : w.heap.size + 1 = xb;have hb2 : Below w.heap.size w w2 := by rw [hw2]; exact (((Below.refl _ w).alloc (Nat.le_refl _) _).alloc (by simp) _).drew
 have HM : Hid (Mk w w2 g g K xb (ob0 0 kind l hm.name) ⟨.slice none 0 0, .slice none 0 0, .slice none 0 0, .slice none 0 0, .slice la l.ps.length lc, .slice none 0 0, .slice none 0 0, fun _ => .slice none 0 0, 0⟩ 0 (.pointer none) 0) :=
  ⟨H.out.below hb2, Ext.below hb2, by
   rw [hw2, <- hxb, <- World.size_alloc w (.cells #[.int .i64 (l.d : Nat), .slice la l.ps.length lc] 43)];exact ((Blk.new _ _ _).drew).cells rfl, RowAt.below HL.out hb2 (Nat.le_refl _), H.out.nrm _ (by omega), fun q => absurd rfl q⟩
 have HO2 := Lib.hid (HO.out.below hb2);clear hw2 hb2 c2 hblt;have hcost := cost_any _ _ _ _ _ _ [] HM.out.blk (.inl ⟨rfl, rfl⟩) (by simp);rw [show costOf (ob0 0 kind l hm.name).kind (([] : List Int).length : Nat) = 1 from hc0] at hcost;refine hcost.mono ?_;rintro e w' ⟨rfl, rfl⟩;clear hcost;obtain ⟨c12, c13, c14⟩ := HO2.out.names;go_wp2_with fail
 refine (rleft_any hm.names _ HC.out.names).mono ?_;rintro e w3 ⟨rfl, hb3⟩;have HM3 := Lib.hid (HM.out.below hb3); have HO3 := Lib.hid (HO2.out.below hb3);have q1 : ¬ hm.names.left < 1 := by omega
 clear hb3 c12 c13 c14 HM HO2;obtain ⟨c9, c10, c11⟩ := HO3.out.purse;go_wp2_with fail
 refine (pleft_any hm.purse _ HC.out.sm).mono ?_;rintro e w4 ⟨rfl, hb4⟩;have HM4 := Lib.hid (HM3.out.below hb4); have HO4 := Lib.hid (HO3.out.below hb4);have q2 : ¬ hm.purse.left < 1 := by omega
 clear hb4 c9 c10 c11 HM3 HO3;go_wp2_with fail
 refine (rtake_any hm.names _ 12 _ _ _ HO4.out.blk (obC_names _ _ _ _) HC.out.names a1).mono ?_;rintro e w5 ⟨rfl, hP⟩;have hn1 : (K.set (hm.wNames ⟨hm.names.lo, hm.names.next + 1, hm.names.hi⟩)).obj hm.name = some (hm.wNames ⟨hm.names.lo, hm.names.next + 1, hm.names.hi⟩) := if_pos rfl;have HM5 := Lib.hid (HM4.out.names hh HO4.out hP);clear hP;have x2 : w5.cell? ⟨xb, 2, none⟩ = some (.int .u64 0) := (HM5.out.blk.cell 2).trans rfl;have f2 : w5.frozen? ⟨xb, 2, none⟩ = false := HM5.out.blk.free 2;have HM6 := Lib.hid (HM5.out.setX (x' := (ob0 0 kind l hm.name).wName hm.names.next) 2 (.int .u64 hm.names.next) rfl ⟨rfl, rfl⟩ (by omega));obtain ⟨s6, T6, hO6⟩ := HM6.out.kin.at hn1;have HO6 := Lib.hid hO6; clear hO6;go_wp2_with fail
 refine (ptake_any hm.purse _ _ 9 _ _ _ HO6.out.blk (obC_purse _ _ _ _) HC.out.sm ⟨by omega, by omega⟩).mono ?_;rintro e w7 ⟨rfl, hP⟩;have HM7 := Lib.hid (HM6.out.purse hn1 HO6.out hP);clear hP x2 f2 HM4 HO4 HM5
 have HM8 : Hid (Mk w w7 g g (K.set ((hm.wNames ⟨hm.names.lo, hm.names.next + 1, hm.names.hi⟩).wPurse ⟨hm.purse.lim, hm.purse.used + 1, hm.purse.given⟩)) xb ((ob0 0 kind l hm.name).wName hm.names.next) (freshS nilV (.slice la l.ps.length lc)) 0 (.pointer none) 0) := by
  rw [<- Km.set_set K (hm.wNames ⟨hm.names.lo, hm.names.next + 1, hm.names.hi⟩) ((hm.wNames ⟨hm.names.lo, hm.names.next + 1, hm.names.hi⟩).wPurse ⟨hm.purse.lim, hm.purse.used + 1, hm.purse.given⟩) rfl];exact HM7.out
 clear HM7 HM6 HO6;obtain ⟨kc0, kc1⟩ := HM8.out.kin.kcell;have x2 : w7.cell? ⟨xb, 2, none⟩ = some (.int .u64 hm.names.next) := (HM8.out.blk.cell 2).trans rfl;have HM9 := Lib.hid (HM8.out.below ((Below.refl _ w7).drew))
 have Hcall : Hid (∀ wz, wz = w7.drew -> Calls Tryz.prog 38 #[.pointer (some ⟨g.pb, 0, none⟩), .int .u64 hm.names.next] wz fun e w' => ∃ v, e = .returned v /\ (v = .int .i64 (g.P.allocRet hm.names.next) /\ Mk w w' g { g with P := g.P.alloc hm.names.next } (K.set ((hm.wNames ⟨hm.names.lo, hm.names.next + 1, hm.names.hi⟩).wPurse ⟨hm.purse.lim, hm.purse.used + 1, hm.purse.given⟩)) xb ((ob0 0 kind l hm.name).wName hm.names.next) (freshS nilV (.slice la l.ps.length lc)) 0 (.pointer none) 0)) := fun wz ez => by
  rw [ez];refine (alloc_any g.pb g.db g.ob g.P hm.names.next _ HM9.out.kin.pool).mono ?_;rintro e w' ⟨rfl, h1, h2⟩;exact ⟨_, rfl, rfl, HM9.out.pool h1 h2⟩
 go_wp2_with fail
 go_region_law (refine step_call (by rfl) (ex_call (vs := #[.pointer (some ⟨g.pb, 0, none⟩), .int .u64 hm.names.next]) (by simp [Act.eval]) (enters_fn Tryz.func38 (by kernel_rfl) rfl)) (Hcall.out _ (by first | rfl | exact drew_eq w7)) ?_; rintro v w9 ⟨rfl, hm9⟩; have x8 : w9.cell? ⟨xb, 8, none⟩ = some (.int .i64 0) := (hm9.blk.cell 8).trans rfl; have f8 : w9.frozen? ⟨xb, 8, none⟩ = false := hm9.blk.free 8)
 all_goals
  have HM11 := Lib.hid (hm9.setX (x' := (ob0 0 kind l hm.name).wName hm.names.next) (mt' := g.P.allocRet hm.names.next) 8 (.int .i64 (g.P.allocRet hm.names.next)) rfl ⟨rfl, rfl⟩ (by omega));obtain ⟨kc2, -⟩ := HM11.out.kin.kcell;clear hm9 x8 f8 kc0 kc1 x2;go_wp2_with fail
  have hpb := HM11.out.kin.pool.hp.lt; have hdb := HM11.out.kin.pool.hd.lt; have hob := HM11.out.kin.pool.ho.lt
  have hKn : (K.set ((hm.wNames ⟨hm.names.lo, hm.names.next + 1, hm.names.hi⟩).wPurse ⟨hm.purse.lim, hm.purse.used + 1, hm.purse.given⟩)).obj hm.names.next = none := by
   rw [Km.set_other _ _ (fun e => by rw [e] at a5; rw [show K.obj ((hm.wNames ⟨hm.names.lo, hm.names.next + 1, hm.names.hi⟩).wPurse ⟨hm.purse.lim, hm.purse.used + 1, hm.purse.given⟩).name = some hm from hh] at a5; cases a5)];exact a5
  obtain ⟨k1, k2, k3⟩ := HM11.out.enter (tb := 0) ⟨rfl, rfl, rfl, rfl, rfl, rfl⟩ (by show 0 < hm.names.next; have := HC.out.next; omega) hok hKn (fun b i e => by
   rcases HI.out.own b _ i e with e1 | ⟨o, e1⟩
   ·have := HC.out.next
    have e2 : hm.names.next = 0 := e1;omega
   ·rw [show K.obj ((ob0 0 kind l hm.name).wName hm.names.next).name = none from a5] at e1; cases e1) (.inl ⟨rfl, rfl⟩) (fun c hc => by cases hc) (fun e3 => absurd e3 H3.out) (fun _ => rfl) ⟨by have := H.out.pool.hp.lt; show g.pb < xb; omega, by have := H.out.pool.hd.lt; show g.db < xb; omega, by have := H.out.pool.ho.lt; show g.ob < xb; omega⟩ (by omega)
  have hadd := add_kid _ _ _ k1 _ ((hm.wNames ⟨hm.names.lo, hm.names.next + 1, hm.names.hi⟩).wPurse ⟨hm.purse.lim, hm.purse.used + 1, hm.purse.given⟩) k2 hKn (Km.set_same K _) hk a4;rw [show (Gh.add _ _ _ _ _ _ _ _).bl _ = xb from if_pos rfl] at hadd;refine hadd.mono ?_;clear hadd;rintro e w12 ⟨rfl, b, f1, f2⟩;go_wp2_with fail
  go_ret2
  have hx0 : (ob0 0 kind l hm.name).wName hm.names.next = newOb hm kind l n count := by unfold newOb; rw [if_neg H1.out, if_neg H2.out, if_neg H1.out]; rfl
  have hh0 : ({ ((hm.wNames ⟨hm.names.lo, hm.names.next + 1, hm.names.hi⟩).wPurse ⟨hm.purse.lim, hm.purse.used + 1, hm.purse.given⟩) with kids := ((hm.wNames ⟨hm.names.lo, hm.names.next + 1, hm.names.hi⟩).wPurse ⟨hm.purse.lim, hm.purse.used + 1, hm.purse.given⟩).kids ++ [((ob0 0 kind l hm.name).wName hm.names.next).name] } : Ob) = homeOb hm kind n count := by unfold homeOb; rw [if_neg H1.out, if_neg H1.out, hc1]; rfl
  rw [hh0, hx0] at f1;obtain ⟨m1, m2, m3⟩ := alloc_facts g.P hm.names.next (by have := HC.out.next; omega) (by have := HI.out.room; have := slack_pos HI.out; omega)
  obtain ⟨r1, r2⟩ := place_done (h2 := (hm.wNames ⟨hm.names.lo, hm.names.next + 1, hm.names.hi⟩).wPurse ⟨hm.purse.lim, hm.purse.used + 1, hm.purse.given⟩) HI.out hh hk (fun q => absurd q (not_or.2 ⟨H1.out, H2.out⟩)) (fun q => absurd q H1.out) HA.out.1 HA.out.2.1 HA.out.2.2 a5 rfl f1 m1 (fun m hm' => ⟨if_neg hm', if_neg hm', if_neg hm', if_neg hm', if_neg hm', if_neg hm'⟩) ⟨rfl, rfl, rfl⟩ ⟨rfl, rfl, rfl⟩ (fun c m i e => by
    rw [Gh.own_A] at e;split at e
    ·cases e; exact .inr (.inr rfl)
    ·have e' : (if c = xb then some (hm.names.next, 0) else if nilV.ownBlock = some c then some (hm.names.next, 3) else if _ /\ c = 0 then some (hm.names.next, 10) else g.A c) = some (m, i) := e
     split at e'
     ·cases e'; exact .inr (.inl rfl)
     split at e'
     ·cases e'; exact .inr (.inl rfl)
     split at e'
     ·cases e'; exact .inr (.inl rfl)
     ·exact .inl e') (fun q => absurd q H2.out) (fun _ => if_pos rfl) (fun q => absurd q H3.out) (by
    show (if decide (kind = 3) = true then _ else _) = _
    rw [if_neg (by simpa using H3.out), if_neg H3.out]) (by rw [if_neg H2.out]; show ((g.P.alloc hm.names.next).left : Int) + 1 = _; omega)
  refine ⟨_, ?_, r1, r2, k3.trans f2, fun m hm' => ⟨if_neg hm', if_neg hm', if_neg hm', if_neg hm', if_neg hm', if_neg hm'⟩, fun q => absurd q H3.out⟩;show Ending.returned (.tuple #[.pointer (some ⟨xb, 0, none⟩), .int .i64 0]) = Ending.returned (.tuple #[.pointer (some ⟨if hm.names.next = hm.names.next then xb else _, 0, none⟩), .int .i64 0])
  rw [if_pos rfl]
end Go.Proofs.YtiadbhiadhgjkaaGreatDoor
