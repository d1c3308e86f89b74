/- Of the proof of this claim: a joined text. -/
import Derived.Test.YtiadbhiadhgjkaaGreatDoorZzMn
import Derived.Defers
set_option maxRecDepth 100000
set_option maxHeartbeats 4000000
namespace Go.Proofs.YtiadbhiadhgjkaaGreatDoor
open Go.RowKit
theorem EnSt.thr {w0 w w' : World} {g0 g : Gh} {K : Km} {o : Ob} (h : EnSt w0 g0 K o w g) (ho : K.obj o.name = some o) (hk : o.kind = 3) {x' : Ts} {t : Th} (k : Kept (· = g.tl o.name) w w') (hB : Blk w' (g.tl o.name) (thC t x' (g.root o.name) (g.tabs o.name)) 52)
  (hR : ThRows w' g.A o.name t x') (hs : t.space = o.th.space) : EnSt w0 g0 (K.set (o.wTh t)) (o.wTh t) w' g := by
 obtain ⟨x, hT⟩ := h.kin.thAt ho hk;obtain ⟨k1, k2⟩ := h.kin.thr (g' := g) ho hk k (Mild.of hT.blk (by decide)) (fun b q _ => ⟨10, Nat.le_refl _, by rw [q]; exact hT.tag⟩) (Alike0.refl g) (fun n _ => Alike1.refl g n) ⟨rfl, rfl, rfl, rfl⟩ ⟨rfl, rfl, rfl⟩ rfl (fun _ _ e => e) (fun b hb => h.kin.nrm b (Nat.le_trans k.size hb)) hB hR;exact ⟨k1, h.inv.setTh ho hk hs, h.ext.trans k2, h.same⟩
def contW (w : World) (b : Nat) (p : Int) : World := ((((((w.setCell ⟨b, 32, none⟩ (.int .i64 p)).setCell ⟨b, 33, none⟩ (.slice none 0 0)).setCell ⟨b, 34, none⟩ (.int .i64 0)).setCell ⟨b, 35, none⟩ (.slice none 0 0)).setCell ⟨b, 36, none⟩ (.slice none 0 0)).setCell ⟨b, 37, none⟩ (.int .i64 0)).setCell ⟨b, 38, none⟩ (.slice none 0 0)
theorem thC_cont (t : Th) (x : Ts) (a b p : Int) : (((((((thC t x a b).setIfInBounds 32 (.int .i64 p)).setIfInBounds 33 (.slice none 0 0)).setIfInBounds 34 (.int .i64 0)).setIfInBounds 35 (.slice none 0 0)).setIfInBounds 36 (.slice none 0 0)).setIfInBounds 37 (.int .i64 0)).setIfInBounds 38 (.slice none 0 0) = thC { t with cont := { cont0 with phase := p } } { x with locks := .slice none 0 0, reads := .slice none 0 0, seen := .slice none 0 0, picks := .slice none 0 0 } a b := by
 unfold thC; simp only [List.setIfInBounds_toArray, List.set_cons_zero, List.set_cons_succ]; rfl
theorem EnSt.cont {w0 w : World} {g0 g : Gh} {K : Km} {o : Ob} (h : EnSt w0 g0 K o w g) (ho : K.obj o.name = some o) (hk : o.kind = 3) (p : Int) :
  EnSt w0 g0 (K.set (o.wTh { o.th with cont := { cont0 with phase := p } })) (o.wTh { o.th with cont := { cont0 with phase := p } }) (contW w (g.tl o.name) p) g := by
 obtain ⟨x, hT⟩ := h.kin.thAt ho hk;have k : Kept (· = g.tl o.name) w (contW w (g.tl o.name) p) := (((((((Kept.refl (· = g.tl o.name) w).setIn _ _ _ rfl).setIn _ _ _ rfl).setIn _ _ _ rfl).setIn _ _ _ rfl).setIn _ _ _ rfl).setIn _ _ _ rfl).setIn _ _ _ rfl;have hr := hT.rows.kept k (Mild.of hT.blk (by decide)) (A' := g.A) (fun c q _ i hi e => by rw [q, hT.tag] at e; cases e; omega) (fun _ _ e => e)
 refine h.thr ho hk (x' := { x with locks := .slice Option.none 0 0, reads := .slice Option.none 0 0, seen := .slice Option.none 0 0, picks := .slice Option.none 0 0 }) k (((((((((hT.blk.set 32 _).set 33 _).set 34 _).set 35 _).set 36 _).set 37 _).set 38 _).cells (thC_cont _ _ _ _ p)))
  ⟨hr.clr, hr.al, Own.nil _ _ _ _ _, Own.nil _ _ _ _ _, Own.nil _ _ _ _ _, Own.nil _ _ _ _ _, hr.regs, hr.pc, hr.cok⟩ rfl
theorem thC_state (t : Th) (x : Ts) (a b v : Int) : (thC t x a b).setIfInBounds 20 (.int .i64 v) = thC { t with state := v } x a b := by
 unfold thC; simp only [List.setIfInBounds_toArray, List.set_cons_zero, List.set_cons_succ]
theorem thC_fault (t : Th) (x : Ts) (a b v : Int) : (thC t x a b).setIfInBounds 25 (.int .i64 v) = thC { t with fault := v } x a b := by
 unfold thC; simp only [List.setIfInBounds_toArray, List.set_cons_zero, List.set_cons_succ]
theorem EnSt.state {w0 w : World} {g0 g : Gh} {K : Km} {o : Ob} (h : EnSt w0 g0 K o w g) (ho : K.obj o.name = some o) (hk : o.kind = 3) (v : Int) :
  EnSt w0 g0 (K.set (o.wTh { o.th with state := v })) (o.wTh { o.th with state := v }) (w.setCell ⟨g.tl o.name, 20, Option.none⟩ (.int .i64 v)) g := by
 obtain ⟨x, hT⟩ := h.kin.thAt ho hk;exact h.nums ho hk hT ((Kept.refl (· = g.tl o.name) w).setIn _ _ _ rfl) ((hT.blk.set 20 _).cells (thC_state _ _ _ _ _)) ⟨rfl, rfl, rfl, rfl, rfl, rfl, rfl⟩ hT.rows.regs hT.rows.pc
theorem EnSt.fault {w0 w : World} {g0 g : Gh} {K : Km} {o : Ob} (h : EnSt w0 g0 K o w g) (ho : K.obj o.name = some o) (hk : o.kind = 3) (v : Int) :
  EnSt w0 g0 (K.set (o.wTh { o.th with fault := v })) (o.wTh { o.th with fault := v }) (w.setCell ⟨g.tl o.name, 25, Option.none⟩ (.int .i64 v)) g := by
 obtain ⟨x, hT⟩ := h.kin.thAt ho hk;exact h.nums ho hk hT ((Kept.refl (· = g.tl o.name) w).setIn _ _ _ rfl) ((hT.blk.set 25 _).cells (thC_fault _ _ _ _ _)) ⟨rfl, rfl, rfl, rfl, rfl, rfl, rfl⟩ hT.rows.regs hT.rows.pc
attribute [local irreducible] World.setCell World.alloc World.drew World.setRow Calls Code.wp
theorem user_any {w0 w : World} {g0 g : Gh} {K : Km} {o : Ob} {i : Nat} (h : EnSt w0 g0 K o w g) (hM : MapsOk K) (ho : K.obj o.name = some o) (hk : o.kind = 3) (hl : ∀ n s, K.obj n = some s -> s.maps.length <= 1000000) (hi : i < K.nc) (hfl : g.flush i = false) (hla : g.last i = o.name)
  {K' : Km} {what : Int} (hres : K.userT o = some (K', what)) :
  Calls Tryz.prog 71 #[.pointer (some ⟨g.kb, 0, none⟩), .pointer (some ⟨g.bl o.name, 0, none⟩), .pointer (some ⟨g.cb, i * 27, none⟩)] w fun e w' => e = .returned (.int .i64 what) /\ ∃ g', EnSt w0 g0 K' o w' g' := by
 have t0 := h.kin.tcell ho hk;obtain ⟨mb, hmb⟩ : ∃ mb, w.heap.size = mb := ⟨_, rfl⟩
 have hU : UsAt w0 g0 K o i mb (w.alloc (.cells #[.pointer (some ⟨g.kb, 0, none⟩), .pointer (some ⟨g.bl o.name, 0, none⟩), .pointer (some ⟨g.cb, i * 27, none⟩)] 231)) g :=
  ⟨h.below ((Below.refl _ w).alloc (Nat.le_refl _) _), hM, ho, hk, hl, hi, hfl, hla, ⟨by rw [<- hmb]; exact Blk.new _ _ _, h.kin.nrm _ (by omega)⟩⟩
 unfold Km.userT at hres
 cases hn : insNext K o with
 | none => rw [hn] at hres; cases hres
 | some p =>
  obtain ⟨t', en⟩ := p;rw [hn] at hres;simp only [Option.map_some, Option.some.injEq] at hres;have Hst := Lib.hid (cstep_any hU hn);have HR := Lib.hid hres;have Htl0 := Lib.hid h.same.tl;have HK := Lib.hid hk;clear h hM ho hk hl hi hfl hla hU hn hres;go_enter Tryz.func71, Tryz.ntmps71
  go_wp2_with fail
  refine Hst.out.mono ?_;rintro e w1 ⟨rfl, g1, hE1⟩;have HE1 := Lib.hid hE1;have htl : g1.tl = g.tl := hE1.same.tl.trans Htl0.out.symm;obtain ⟨x1, hT1⟩ := hE1.kin.thAt (o := o.wTh t') (n := o.name) (Km.set_same K (o.wTh t')) HK.out;have hT2 : ThAt w1 g1 o.name t' x1 := hT1;have hc : ∀ j, w1.cell? ⟨g.tl o.name, j, none⟩ = (thC t' x1 (g1.root o.name) (g1.tabs o.name))[j]? := fun j => by rw [<- htl]; exact hT2.blk.cell j
  have hfr := hT2.blk.free;have hlt := hT2.blk.lt;rw [htl] at hfr hlt;have c20 : w1.cell? ⟨g.tl o.name, 20, none⟩ = some (.int .i64 t'.state) := (hc 20).trans rfl;have c25 : w1.cell? ⟨g.tl o.name, 25, none⟩ = some (.int .i64 t'.fault) := (hc 25).trans rfl;have c32 : w1.cell? ⟨g.tl o.name, 32, none⟩ = some (.int .i64 t'.cont.phase) := (hc 32).trans rfl;have c33 : w1.cell? ⟨g.tl o.name, 33, none⟩ = some (x1.locks) := (hc 33).trans rfl;have c34 : w1.cell? ⟨g.tl o.name, 34, none⟩ = some (.int .i64 t'.cont.next) := (hc 34).trans rfl;have c35 : w1.cell? ⟨g.tl o.name, 35, none⟩ = some (x1.reads) := (hc 35).trans rfl;have c36 : w1.cell? ⟨g.tl o.name, 36, none⟩ = some (x1.seen) := (hc 36).trans rfl;have c37 : w1.cell? ⟨g.tl o.name, 37, none⟩ = some (.int .i64 t'.cont.tries) := (hc 37).trans rfl;have c38 : w1.cell? ⟨g.tl o.name, 38, none⟩ = some (x1.picks) := (hc 38).trans rfl;have Htl := Lib.hid htl;clear hE1 hT1 hT2 hc htl Hst;have Hset : Hid (∀ t2 : Th, (K.set (o.wTh t')).set ((o.wTh t').wTh t2) = K.set (o.wTh t2)) := Lib.hid (fun t2 => Km.set_set K _ _ rfl);have Hob := Lib.hid (Km.set_same K (o.wTh t'));by_cases e0 : en = 0
  ·subst e0
   have HR2 := Lib.hid (show (K.set (o.wTh t'), (1 : Int)) = (K', what) from by have := HR.out; rw [if_pos rfl] at this; exact this);go_wp2_with fail
   go_ret;have e3 := HR2.out
   cases e3;refine ⟨rfl, g1, ?_⟩;exact HE1.out.same_o _
  by_cases e1 : en = 1
  ·subst e1
   have HR2 := Lib.hid (show (K.set (o.wTh { t' with cont := { cont0 with phase := 1 } }), (1 : Int)) = (K', what) from by have := HR.out; rw [if_neg e0, if_pos rfl] at this; exact this);go_wp2_with fail
   go_ret;have e3 := HR2.out
   cases e3;refine ⟨rfl, g1, ?_⟩;have hF := HE1.out.cont Hob.out HK.out 1;rw [Hset.out] at hF;have e4 : g1.tl (o.wTh t').name = g.tl o.name := congrFun Htl.out o.name;rw [e4] at hF;exact hF.same_o _
  by_cases e2 : en = 2
  ·subst e2
   have HR2 := Lib.hid (show (K.set (o.wTh { t' with state := 0 }), (1 : Int)) = (K', what) from by have := HR.out; rw [if_neg e0, if_neg e1, if_pos rfl] at this; exact this);go_wp2_with fail
   go_ret;have e3 := HR2.out
   cases e3;refine ⟨rfl, g1, ?_⟩;have hF := HE1.out.state Hob.out HK.out 0;rw [Hset.out] at hF;have e4 : g1.tl (o.wTh t').name = g.tl o.name := congrFun Htl.out o.name;rw [e4] at hF;exact hF.same_o _
  ·have b0 : (en == 0) = false := by simpa using e0
   have b1 : (en == 1) = false := by simpa using e1
   have b2 : (en == 2) = false := by simpa using e2
   have HR2 := Lib.hid (show (K.set (o.wTh { t' with state := 0, fault := en }), (5 : Int)) = (K', what) from by have := HR.out; rw [if_neg e0, if_neg e1, if_neg e2] at this; exact this);go_wp2_with fail
   go_ret;have e3 := HR2.out
   cases e3;refine ⟨rfl, g1, ?_⟩;have hF := HE1.out.state Hob.out HK.out 0;rw [Hset.out] at hF;have hG := hF.fault (Km.set_same K _) HK.out en;have e5 : ∀ t2 t3 : Th, (K.set (o.wTh t3)).set ((o.wTh t3).wTh t2) = K.set (o.wTh t2) := fun t2 t3 => Km.set_set K _ _ rfl
   have e4 : g1.tl o.name = g.tl o.name := congrFun Htl.out o.name;have hH : EnSt w0 g0 ((K.set (o.wTh { t' with state := 0 })).set ((o.wTh { t' with state := 0 }).wTh { t' with state := 0, fault := en })) o ((w1.setCell ⟨g1.tl o.name, 20, none⟩ (.int .i64 0)).setCell ⟨g1.tl o.name, 25, none⟩ (.int .i64 en)) g1 := hG.same_o _;rw [e5 { t' with state := 0, fault := en } { t' with state := 0 }] at hH;rw [e4] at hH;exact hH
end Go.Proofs.YtiadbhiadhgjkaaGreatDoor
namespace Go.Proofs.YtiadbhiadhgjkaaGreatDoor
open Go.RowKit
def onCore (on : Int) (o : Ob) : Bool := decide (o.kind = 3) && decide (o.th.on = on)
def Km.kidsT (K : Km) : List Int -> Option (List Ob)
 | [] => some []
 | n :: r => match K.obj n with
  | none => none
  | some o => (K.kidsT r).map (o :: ·)
def Km.threadsT (K : Km) (cont on : Int) : Option (List Ob) := match K.obj cont with
 | none => some []
 | some c => if c.kind = 1 then (if c.kids.length <= 100000 then (K.kidsT c.kids).map (List.filter (onCore on)) else none) else some []
def Km.whoseT (K : Km) (i : Nat) : Option (Option Ob) :=
 match K.threadsT (K.slots.getD (K.cores i).slot.toNat (0, 0)).1 i with
 | none => none
 | some [] => some none
 | some (x :: l) => some (x :: l)[((K.cores i).turns (K.cores i).slot.toNat % ((x :: l).length : Int)).toNat]?
theorem kidsT_at {K : Km} : ∀ {l : List Int} {os : List Ob}, K.kidsT l = some os -> os.length = l.length /\ ∀ (k : Nat) (n : Int), l[k]? = some n -> ∃ o, os[k]? = some o /\ K.obj n = some o
 | [], os, h => by cases h; exact ⟨rfl, fun k n e => by simp at e⟩
 | n :: r, os, h => by
  unfold Km.kidsT at h
  cases e : K.obj n with
  | none => rw [e] at h; cases h
  | some o =>
   rw [e] at h
   cases e2 : K.kidsT r with
   | none => rw [e2] at h; cases h
   | some q =>
    rw [e2] at h;simp only [Option.map_some, Option.some.injEq] at h;subst h;obtain ⟨h1, h2⟩ := kidsT_at e2;refine ⟨by simp [h1], fun k m hm => ?_⟩
    cases k with
    | zero => simp only [List.getElem?_cons_zero, Option.some.injEq] at hm; subst hm; exact ⟨o, rfl, e⟩
    | succ k => exact h2 k m (by simpa using hm)
def obPs (g : Gh) (l : List Ob) : List Value := l.map fun o => .pointer (some ⟨g.bl o.name, 0, none⟩)
theorem info_ob : (Tryz.prog.info? 31).map (fun i => (i.zero, i.size, i.bytes)) = some (some (.pointer none), 1, 8) := by kernel_rfl
attribute [local irreducible] World.setCell World.alloc World.drew World.setRow Calls Code.wp
theorem threads_any (w : World) (g : Gh) (K : Km) (cont on : Int) (l : List Ob) (h : KIn w g K) (hres : K.threadsT cont on = some l) :
  Calls Tryz.prog 91 #[.pointer (some ⟨g.tb, 0, none⟩), .int .u64 cont, .int .i64 on] w fun e w' => ∃ v, e = .returned v /\ w'.ownsRow w.heap.size 31 1 v l.length (obPs g l) /\ Below w.heap.size w w' := by
 have HK := Lib.hid h;have hlk := h.tab.lookup cont;have tc : w.cell? ⟨g.tb, 0, none⟩ = some (.map (some g.mb)) := (h.tab.tab.cell 0).trans rfl;have HR := Lib.hid hres;unfold Km.threadsT at hres
 cases hc : K.obj cont with
 | none =>
  rw [hc] at hres;rw [obP_none hc] at hlk
  cases hres;clear h hc HR;go_enter Tryz.func91, Tryz.ntmps91
  go_wp2_with fail
  go_ret;exact ⟨_, rfl, World.ownsRow_nil _ _ _ _, Below.refl _ _⟩
 | some c =>
  rw [hc] at hres;rw [obP_some hc] at hlk;simp only at hres;obtain ⟨s, T, hO⟩ := h.at hc;have hn := (h.objs _ _ hc).1;have hB := hO.blk;have hR := hO.rows.kids;rw [hn] at hB;have c3 : w.cell? ⟨g.bl cont, 3, none⟩ = some (.int .i64 c.kind) := (hB.cell 3).trans rfl;by_cases hk : c.kind = 1
  ·rw [if_pos hk] at hres
   by_cases hl5 : c.kids.length <= 100000
   ·rw [if_pos hl5] at hres
    have hkr : RowAt w 37 s.kids c.kids.length (c.kids.map (.int .u64)) := RowAt.own hR.row;obtain ⟨sq, sk, sf, sm, sl, sc, so, si, sr⟩ := s;obtain ⟨ka, kc, hks, hk1, hk2⟩ := RowAt.form hkr;simp only at hks;subst hks;have c15 : w.cell? ⟨g.bl cont, 15, none⟩ = some (.slice ka c.kids.length kc) := (hB.cell 15).trans rfl
    cases hos : K.kidsT c.kids with
    | none => rw [hos] at hres; cases hres
    | some os =>
     rw [hos] at hres;simp only [Option.map_some, Option.some.injEq] at hres;have Hres := Lib.hid hres;obtain ⟨hlen, hat⟩ := kidsT_at hos;have Hat := Lib.hid hat; have Hlen := Lib.hid hlen;have Hkr := Lib.hid hkr;have kb1 : (c.kind == 1) = true := by simp [hk]
     have kb2 : (c.kind != 1) = false := by simp [hk]
     obtain ⟨i0, hi, hz0, hz1, hz2⟩ := info_parts info_ob;have Hi := Lib.hid hi; have Hz0 := Lib.hid hz0; have Hz1 := Lib.hid hz1; have Hz2 := Lib.hid hz2;clear h hc HR hos hres hlen hat hkr hO hB hR hi hz0 hz1 hz2 hk1 hk2 hk hn;go_enter Tryz.func91, Tryz.ntmps91
     go_wp2_with fail
     go_loopg [8, 10, 11, 32] c.kids.length (fun gg vo _ _ vi wx => ∃ k : Nat, k + gg = c.kids.length /\ vi = .int .i64 k /\ Hid (wx.ownsRow w.heap.size 31 1 vo ((os.take k).filter (onCore on)).length (obPs g ((os.take k).filter (onCore on)))) /\ Hid (Below w.heap.size w wx))
     case atStart => exact ⟨0, by omega, rfl, Lib.hid (World.ownsRow_nil _ _ _ _), Lib.hid (Below.refl _ _)⟩
     case round =>
      obtain ⟨k, hkg, rfl, HO, HB⟩ := hrel;by_cases hlt : k < c.kids.length
      ·have hlt' : (k : Int) < c.kids.length := by omega
       obtain ⟨n, hq⟩ : ∃ n, c.kids[k]? = some n := ⟨_, List.getElem?_eq_getElem hlt⟩;obtain ⟨o, ho1, ho2⟩ := Hat.out k n hq;obtain ⟨kb, hkb, hkbl, hcells⟩ := RowAt.cells Hkr.out (by omega);subst hkb;have hce : w.cell? ⟨kb, k, none⟩ = some (.int .u64 n) := hcells k (.int .u64 n) (by rw [List.getElem?_map, hq]; rfl);have hcr := (HB.out.cell (p := ⟨kb, k, none⟩) hkbl).trans hce;have HKr := Lib.hid (HK.out.below HB.out);have hlk2 := HKr.out.tab.lookup n;rw [obP_some ho2] at hlk2;have tc2 : wr.cell? ⟨g.tb, 0, none⟩ = some (.map (some g.mb)) := (HKr.out.tab.tab.cell 0).trans rfl;obtain ⟨la, ma, lc, mc, hv⟩ := HKr.out.obV ho2;have o3 := hv.kind;have hsz := HB.out.size;have hon : o.name = n := (HKr.out.objs _ _ ho2).1
       have hnl : ((os.take k).filter (onCore on)).length <= 100000 := by
        have h1 := List.length_filter_le (onCore on) (os.take k);rw [List.length_take] at h1;omega
       have hnx : (os.take (k + 1)).filter (onCore on) = (os.take k).filter (onCore on) ++ (if onCore on o then [o] else []) := by
        rw [List.take_add_one, ho1, List.filter_append];by_cases e : onCore on o = true <;> simp [e]
       have Hnx := Lib.hid hnx;have Hon := Lib.hid hon;have HO2 := Lib.hid ho2;clear hq ho1 ho2 hcells hce hnx hv hon;by_cases e3 : o.kind = 3
       ·have x19 := HKr.out.tcell HO2.out e3
        obtain ⟨x, hT⟩ := HKr.out.thAt HO2.out e3;have x21 : wr.cell? ⟨g.tl n, 21, none⟩ = some (.int .i64 o.th.on) := by rw [<- Hon.out]; exact (hT.blk.cell 21).trans rfl
        have q1 : (o.kind == 3) = true := by simp [e3]
        clear hT;by_cases e4 : o.th.on = on
        ·have hyes : onCore on o = true := by unfold onCore; simp [e3, e4]
         have q2 : (o.th.on == on) = true := by simp [e4]
         have Hnx2 : Hid ((os.take (k + 1)).filter (onCore on) = (os.take k).filter (onCore on) ++ [o]) := Lib.hid (by rw [Hnx.out, if_pos hyes]);have Hone := Lib.hid (one_new wr (.pointer (some ⟨g.bl n, 0, none⟩)) 31);clear hyes e3 e4 Hnx;go_wp2_with (at_builtin; refine wpList_append_own _ rfl _ _ 217 rfl w.heap.size 31 i0 (.pointer none) 1 8 Tryz.underlying217 Hi.out Hz0.out Hz1.out Hz2.out rfl (by decide) _ _ _ rfl (HO.out.alloc _) ⟨wr.heap.size, 0, none⟩ 1 1 [.pointer (some ⟨g.bl n, 0, none⟩)] rfl rfl Hone.out (fun u hu => by simp at hu; subst hu; rfl) (by unfold maxLen; omega) (by omega) (by rw [World.size_alloc]; omega) ?_; intro v' w6 hown6 hgrow6 _)
         have HO6 : Hid (w6.ownsRow w.heap.size 31 1 v' ((os.take (k + 1)).filter (onCore on)).length (obPs g ((os.take (k + 1)).filter (onCore on)))) := Lib.hid (by
          rw [Hnx2.out];unfold obPs;rw [List.map_append, List.length_append];have := hown6;rw [<- Hon.out] at this;exact this)
         have HB6 : Hid (Below w.heap.size w w6) := Lib.hid ((HB.out.alloc hsz _).grown hgrow6 (by rw [World.size_alloc]; omega) (fun k hk => (HO.out.lt k hk).1));clear hown6 hgrow6;go_wp2_with fail
         go_roundg (c.kids.length - (k + 1))
         case measure => omega
         case rel => exact ⟨k + 1, by omega, by go_num, HO6, HB6⟩
        ·have hno : onCore on o = false := by unfold onCore; simp [e4]
         have q2 : (o.th.on == on) = false := by simpa using e4
         have HO6 : Hid (wr.ownsRow w.heap.size 31 1 u8 ((os.take (k + 1)).filter (onCore on)).length (obPs g ((os.take (k + 1)).filter (onCore on)))) := Lib.hid (by
          rw [Hnx.out, hno]; simpa using HO.out)
         clear hno e3 e4 Hnx;go_wp2_with fail
         go_roundg (c.kids.length - (k + 1))
         case measure => omega
         case rel => exact ⟨k + 1, by omega, by go_num, HO6, HB⟩
       ·have hno : onCore on o = false := by unfold onCore; simp [e3]
        have q1 : (o.kind == 3) = false := by simpa using e3
        have HO6 : Hid (wr.ownsRow w.heap.size 31 1 u8 ((os.take (k + 1)).filter (onCore on)).length (obPs g ((os.take (k + 1)).filter (onCore on)))) := Lib.hid (by
         rw [Hnx.out, hno]; simpa using HO.out)
        clear hno e3 Hnx;go_wp2_with fail
        go_roundg (c.kids.length - (k + 1))
        case measure => omega
        case rel => exact ⟨k + 1, by omega, by go_num, HO6, HB⟩
      ·obtain rfl : k = c.kids.length := by omega
       rw [List.take_of_length_le (by rw [Hlen.out]; exact Nat.le_refl _), Hres.out] at HO;go_wp2_with fail
       go_ret;exact ⟨_, rfl, HO.out, HB.out⟩
   ·rw [if_neg hl5] at hres; cases hres
  ·rw [if_neg hk] at hres
   cases hres;have kb1 : (c.kind == 1) = false := by simpa using hk
   have kb2 : (c.kind != 1) = true := by simpa using hk
   clear h hc HR hO hB hR hk hn;go_enter Tryz.func91, Tryz.ntmps91
   go_wp2_with fail
   go_ret;exact ⟨_, rfl, World.ownsRow_nil _ _ _ _, Below.refl _ _⟩
end Go.Proofs.YtiadbhiadhgjkaaGreatDoor
namespace Go.Proofs.YtiadbhiadhgjkaaGreatDoor
open Go.RowKit
structure KerV (w : World) (g : Gh) (K : Km) (sb sc cc : Nat) : Prop where
 tb : w.cell? ⟨g.kb, 0, none⟩ = some (.pointer (some ⟨g.tb, 0, none⟩))
 pb : w.cell? ⟨g.kb, 1, none⟩ = some (.pointer (some ⟨g.pb, 0, none⟩))
 cores : w.cell? ⟨g.kb, 2, none⟩ = some (.slice (some ⟨g.cb, 0, none⟩) K.nc cc)
 slots : w.cell? ⟨g.kb, 3, none⟩ = some (.slice (some ⟨sb, 0, none⟩) K.slots.length sc)
 own : Own w g.A (0, 7) 127 2 (.slice (some ⟨sb, 0, none⟩) K.slots.length sc) K.slots.length (K.slots.flatMap slotV)
 slot : ∀ j, j < K.slots.length -> w.cell? ⟨sb, j * 2, none⟩ = some (.int .u64 (K.slots.getD j (0, 0)).1)
 cap : K.nc <= cc
 slot_lt : sb < w.heap.size
theorem KIn.kerV {w : World} {g : Gh} {K : Km} (h : KIn w g K) {i : Nat} (hi : i < K.nc) : ∃ sb sc cc, KerV w g K sb sc cc := by
 obtain ⟨cv, sv, dv, h1, hB, h2, -⟩ := h.kern.ex;have hsl := (h.cores.ok i hi).slot;obtain ⟨sb, sc, e, hA, hc⟩ := h2.slotCells (by omega);rcases h1 with ⟨e0, -⟩ | ⟨cc, e1, e2, -, -⟩
 ·omega
 ·subst e1; subst e
  exact ⟨sb, sc, cc, (hB.cell 0).trans rfl, (hB.cell 1).trans rfl, (hB.cell 2).trans rfl, (hB.cell 3).trans rfl, h2, fun j hj => (hc j hj).1, e2, own_lt h2.row rfl⟩
theorem threadsT_len {K : Km} {cont on : Int} {l : List Ob} (h : K.threadsT cont on = some l) : l.length <= 100000 := by
 unfold Km.threadsT at h
 cases hc : K.obj cont with
 | none => rw [hc] at h; cases h; exact Nat.zero_le _
 | some c =>
  rw [hc] at h;simp only at h;by_cases hk : c.kind = 1
  ·rw [if_pos hk] at h
   by_cases hl : c.kids.length <= 100000
   ·rw [if_pos hl] at h
    cases hos : K.kidsT c.kids with
    | none => rw [hos] at h; cases h
    | some os =>
     rw [hos] at h;simp only [Option.map_some, Option.some.injEq] at h;subst h;have := (kidsT_at hos).1;have h2 := List.length_filter_le (onCore on) os;omega
   ·rw [if_neg hl] at h; cases h
  ·rw [if_neg hk] at h; cases h; exact Nat.zero_le _
def turnV (g : Gh) : Option Ob -> Value
 | none => .pointer none
 | some o => .pointer (some ⟨g.bl o.name, 0, none⟩)
attribute [local irreducible] World.setCell World.alloc World.drew World.setRow Calls Code.wp
theorem whose_any (w : World) (g : Gh) (K : Km) (i : Nat) (r : Option Ob) (h : KIn w g K) (hi : i < K.nc) (hres : K.whoseT i = some r) :
  Calls Tryz.prog 67 #[.pointer (some ⟨g.kb, 0, none⟩), .int .i64 i] w fun e w' => e = .returned (turnV g r) /\ Below w.heap.size w w' := by
 have HK := Lib.hid h; have Hi := Lib.hid hi;obtain ⟨sb, sc, cc, hV⟩ := h.kerV hi;have hok := h.cores.ok i hi;obtain ⟨s, hs⟩ : ∃ s : Nat, (K.cores i).slot = (s : Int) := ⟨(K.cores i).slot.toNat, by have := hok.slot; omega⟩;have hsn : s < K.slots.length := by have := hok.slot; omega
 have HSS : Hid (∀ w', Below w.heap.size w w' -> w'.cell? ⟨g.kb, 0, none⟩ = some (.pointer (some ⟨g.tb, 0, none⟩)) /\ w'.cell? ⟨g.kb, 3, none⟩ = some (.slice (some ⟨sb, 0, none⟩) K.slots.length sc) /\ w'.cell? ⟨sb, s * 2, none⟩ = some (.int .u64 (K.slots.getD s (0, 0)).1)) := Lib.hid (fun w' k => by
  have hkl : g.kb < w.heap.size := h.kern.ex.elim fun _ e => e.elim fun _ e => e.elim fun _ e => e.2.1.lt
  exact ⟨(k.cell (p := ⟨g.kb, 0, none⟩) hkl).trans hV.tb, (k.cell (p := ⟨g.kb, 3, none⟩) hkl).trans hV.slots, (k.cell (p := ⟨sb, s * 2, none⟩) hV.slot_lt).trans (hV.slot s hsn)⟩)
 obtain ⟨k0, k3, z1⟩ := HSS.out w (Below.refl _ _);have k2 := hV.cores;have hin : (i : Int) < K.nc := by omega
 have hsi : (s : Int) < K.slots.length := by omega
 have Hsl : Hid (Calls Tryz.prog 92 #[.pointer (some ⟨g.cb, i * 27, none⟩)] w.drew fun e w' => e = .returned (.int .i64 (s : Int)) /\ w.drew = w') := Lib.hid (by
  have := kslot_any w.drew g K h.drew i hi;rw [hs] at this; exact this)
 have Htn : Hid ((K.cores i).slot.toNat = s) := Lib.hid (by omega);unfold Km.whoseT at hres;rw [Htn.out] at hres
 cases hl : K.threadsT (K.slots.getD s (0, 0)).1 i with
 | none => rw [hl] at hres; cases hres
 | some l =>
  rw [hl] at hres;have HR := Lib.hid hres;have Hlen := Lib.hid (threadsT_len hl)
  have Hth : Hid (Calls Tryz.prog 91 #[.pointer (some ⟨g.tb, 0, none⟩), .int .u64 (K.slots.getD s (0, 0)).1, .int .i64 i] w.drew fun e w' => ∃ v, e = .returned v /\ w'.ownsRow w.heap.size 31 1 v l.length (obPs g l) /\ Below w.heap.size w w') := Lib.hid (by
   refine (threads_any w.drew g K _ i l h.drew hl).mono ?_;rintro e w' ⟨v, h1, h2, h3⟩;rw [World.size_drew] at h2 h3;exact ⟨v, h1, h2, (Below.refl _ w).drew.trans h3⟩)
  clear h hi hV hok hs hsn hres hl;go_enter Tryz.func67, Tryz.ntmps67
  go_wp2_with fail
  go_region_held3 (fun w' => w'.cell? ⟨g.kb, 0, none⟩ = some (.pointer (some ⟨g.tb, 0, none⟩)) /\ w'.cell? ⟨g.kb, 3, none⟩ = some (.slice (some ⟨sb, 0, none⟩) K.slots.length sc) /\ w'.cell? ⟨sb, s * 2, none⟩ = some (.int .u64 (K.slots.getD s (0, 0)).1))
   (first | go_keep | exact hS2)
   (first | (refine Hsl.out.mono ?_; rintro e w' ⟨rfl, rfl⟩) | (refine Hth.out.mono ?_; rintro e w2 ⟨v, rfl, hown, hb2⟩; have hS2 := HSS.out w2 hb2))
  all_goals
   have HB2 := Lib.hid hb2;have HO := Lib.hid hown
   cases l with
   | nil =>
    have hr : r = none := by have := HR.out; cases this; rfl
    subst hr;obtain ⟨a, c, rfl, -, -⟩ := RowAt.form (RowAt.own hown);clear hown hb2 hS2 k0 k2 k3 z1;go_wp2_with fail
    go_ret;exact ⟨rfl, HB2.out⟩
   | cons x q =>
    have hr : r = (x :: q)[((K.cores i).turns s % ((x :: q).length : Int)).toNat]? := by have := HR.out; simpa using this.symm
    obtain ⟨vb, vc, cur, rfl, -⟩ := hown.2.resolve_left (by rintro ⟨-, h0⟩; cases h0);obtain ⟨n, hn⟩ : ∃ n, (x :: q).length = n := ⟨_, rfl⟩;have hn1 : 1 <= n := by rw [<- hn]; simp
    have hnm : n <= 100000 := by rw [<- hn]; exact Hlen.out
    rw [hn] at hr hown;have b1 := Int.emod_nonneg ((K.cores i).turns s) (show (n : Int) ≠ 0 by omega);have b2 := Int.emod_lt_of_pos ((K.cores i).turns s) (show 0 < (n : Int) by omega);obtain ⟨t, ht⟩ : ∃ t : Nat, (K.cores i).turns s % (n : Int) = (t : Int) := ⟨((K.cores i).turns s % (n : Int)).toNat, by omega⟩;rw [ht] at hr b1 b2;rw [Int.toNat_natCast] at hr;have htl : t < (x :: q).length := by omega
    rw [List.getElem?_eq_getElem htl] at hr;subst hr
    have hcell : w2.cell? ⟨vb, t, none⟩ = some (.pointer (some ⟨g.bl ((x :: q)[t]).name, 0, none⟩)) := by
     have h1 := hown.cellAt t (by omega);rw [h1];unfold obPs;rw [List.getElem?_map, List.getElem?_eq_getElem htl]; rfl
    have Htu : Hid (Calls Tryz.prog 93 #[.pointer (some ⟨g.cb, i * 27, none⟩), .int .i64 n] w2 fun e w' => e = .returned (.int .i64 (t : Int)) /\ Below w2.heap.size w2 w') := Lib.hid (by
     have := kturn_any w2 g K (HK.out.below hb2) i Hi.out (n : Int) ⟨by omega, by omega⟩;rw [Htn.out, ht] at this; exact this)
    have hn0 : ((n : Int) == 0) = false := by simp; omega
    have hvl : vb < w2.heap.size := own_lt hown rfl;rw [hn];have hcw : ∀ w3, Below w2.heap.size w2 w3 -> w3.cell? ⟨vb, t, none⟩ = some (.pointer (some ⟨g.bl ((x :: q)[t]).name, 0, none⟩)) := fun w3 k => (k.cell (p := ⟨vb, t, none⟩) hvl).trans hcell
    have Hcw := Lib.hid hcw;have htn : (t : Int) < n := b2;clear hown hb2 hS2 k0 k2 k3 z1 ht hcell hcw hn b1 b2;go_wp2_with fail
    refine Htu.out.mono ?_;rintro e w3 ⟨rfl, hb3⟩;have hcell := Hcw.out w3 hb3;have HB3 := Lib.hid (bel_from HB2.out hb3);clear hb3;go_wp2_with fail
    go_ret;exact ⟨rfl, HB3.out⟩
end Go.Proofs.YtiadbhiadhgjkaaGreatDoor
namespace Go.Proofs.YtiadbhiadhgjkaaGreatDoor
open Go.RowKit
structure MSt (w0 : World) (g0 : Gh) (K : Km) (w : World) (g : Gh) : Prop where
 kin : KIn w g K
 inv : Inv g K
 ext : Ext g0 g w0 w
theorem MSt.step {w0 w w' : World} {g0 g g' : Gh} {K K' : Km} (h : MSt w0 g0 K w g) (h1 : KIn w' g' K') (h2 : Inv g' K') (h3 : Ext g g' w w') : MSt w0 g0 K' w' g' := ⟨h1, h2, h.ext.trans h3⟩
theorem MSt.below {w0 w w' : World} {g0 g : Gh} {K : Km} (h : MSt w0 g0 K w g) (k : Below w.heap.size w w') : MSt w0 g0 K w' g := h.step (h.kin.below k) h.inv (Ext.below k)
theorem MSt.refl {w : World} {g : Gh} {K : Km} (h : KIn w g K) (hI : Inv g K) : MSt w g K w g := ⟨h, hI, Ext.refl g w⟩
theorem EnSt.ms {w0 w : World} {g0 g : Gh} {K : Km} {o : Ob} (h : EnSt w0 g0 K o w g) : MSt w0 g0 K w g := ⟨h.kin, h.inv, h.ext⟩
theorem MSt.from {w0 w w' : World} {g0 g g' : Gh} {K K' : Km} (h : MSt w0 g0 K w g) (k : MSt w g K' w' g') : MSt w0 g0 K' w' g' := ⟨k.kin, k.inv, h.ext.trans k.ext⟩
theorem KIn.coreCell {w : World} {g : Gh} {K : Km} (h : KIn w g K) {i : Nat} (hi : i < K.nc) (p : Nat) (hp : p < 27) (v : Value) {c : KCore} {t : Pl} {fl : Bool} {la : Int} (hok : CoreOk c K.slots.length)
  (he : coreC c t fl la = (coreC (K.cores i) (g.tlb i) (g.flush i) (g.last i)).set p v) : KIn (w.setCell ⟨g.cb, i * 27 + p, none⟩ v) (g.core i t fl la) (K.core i c) /\ Ext g (g.core i t fl la) w (w.setCell ⟨g.cb, i * 27 + p, none⟩ v) := by
 obtain ⟨htag, cs, hB, hin⟩ := h.cores.ex (by omega)
 have hI : In cs (i * 27 + p) [(coreC (K.cores i) (g.tlb i) (g.flush i) (g.last i)).getD p v] := (hin i hi).sub p _ (fun k hk => by
  have : k = 0 := by simpa using hk
  subst this;rw [Nat.add_zero];have : p < (coreC (K.cores i) (g.tlb i) (g.flush i) (g.last i)).length := by rw [coreC_len]; exact hp
  simp [List.getD, this])
 have hP : Piece w (w.setCell ⟨g.cb, i * 27 + p, none⟩ v) g.cb 162 (i * 27 + p) cs 1 [v] := (show Piece w w g.cb _ (i * 27 + p) cs 1 _ from Piece.refl hB hI).set0 v (by omega);refine h.corePiece hi hB hin hP (by omega) hok (fun k hk => ?_);rw [he, List.getElem?_set];by_cases e : p = k
 ·subst e
  rw [if_pos rfl, if_pos (by rw [coreC_len]; exact hp), if_pos ⟨Nat.le_refl _, by omega⟩, Nat.sub_self]; rfl
 ·rw [if_neg e, if_neg (by omega)]
section
variable {w0 w : World} {g0 g : Gh} {K : Km} {i : Nat}
theorem coreInv (hI : Inv g K) {c : KCore} {t : Pl} {fl : Bool} {la : Int} (h1 : fl = false -> ∀ k, k < 4 -> t.f k ≠ 0 -> ∃ o, K.obj la = some o /\ (0 <= t.p k /\ t.p k < 4096) /\ Leads g K o (t.p k) (t.f k) (t.w k)) (h2 : 0 <= t.n /\ t.n < 4) : Inv (g.core i t fl la) (K.core i c) := by
 refine hI.cores (f := fun j => if j = i then c else K.cores j) (tlb := fun j => if j = i then t else g.tlb j) (flush := fun j => if j = i then fl else g.flush j) (last := fun j => if j = i then la else g.last j) (fun j hj hfl k hk hk2 => ?_) (fun j hj => ?_)
 ·show ∃ o, K.obj (if j = i then la else g.last j) = some o /\ (0 <= (if j = i then t else g.tlb j).p k /\ (if j = i then t else g.tlb j).p k < 4096) /\ Leads g K o ((if j = i then t else g.tlb j).p k) ((if j = i then t else g.tlb j).f k) ((if j = i then t else g.tlb j).w k)
  replace hfl : (if j = i then fl else g.flush j) = false := hfl;replace hk2 : (if j = i then t else g.tlb j).f k ≠ 0 := hk2;by_cases e : j = i
  ·rw [if_pos e] at hfl hk2 ⊢
   rw [if_pos e]; exact h1 hfl k hk hk2
  ·rw [if_neg e] at hfl hk2 ⊢
   rw [if_neg e]; exact hI.tlb j hj hfl k hk hk2
 ·show 0 <= (if j = i then t else g.tlb j).n /\ (if j = i then t else g.tlb j).n < 4
  by_cases e : j = i
  ·rw [if_pos e]; exact h2
  ·rw [if_neg e]; exact hI.tn j hj
theorem zero_ok {P : Nat -> Prop} : ∀ k, k < 4 -> Pl.zero.f k ≠ 0 -> P k := fun _ _ h => absurd rfl h
theorem MSt.picked (h : MSt w0 g0 K w g) (hi : i < K.nc) : MSt w0 g0 (K.picked i) (w.setCell ⟨g.cb, i * 27 + 26, none⟩ (.int .u64 (wu ((K.cores i).picks + 1)))) g := by
 have hok := h.kin.cores.ok i hi;obtain ⟨k1, k2⟩ := h.kin.coreCell hi 26 (by omega) (.int .u64 (wu ((K.cores i).picks + 1))) (c := { K.cores i with picks := wu ((K.cores i).picks + 1) }) (t := g.tlb i) (fl := g.flush i) (la := g.last i) ⟨hok.slot, hok.left, hok.ticks, hok.turns, wu_in _⟩ rfl;have hI := coreInv (i := i) (c := { K.cores i with picks := wu ((K.cores i).picks + 1) }) (t := g.tlb i) (fl := g.flush i) (la := g.last i) h.inv (fun hf k hk hk2 => h.inv.tlb i hi hf k hk hk2) (h.inv.tn i hi);rw [Gh.core_same] at k1 k2 hI;exact h.step k1 hI k2
theorem MSt.flushed {w' : World} (h : MSt w0 g0 K w g) (k1 : KIn w' (g.core i Pl.zero (g.flush i) (g.last i)) K) (k2 : Ext g (g.core i Pl.zero (g.flush i) (g.last i)) w w') : MSt w0 g0 K w' (g.core i Pl.zero (g.flush i) (g.last i)) := by
 have hI := coreInv (i := i) (c := K.cores i) (t := Pl.zero) (fl := g.flush i) (la := g.last i) h.inv (fun _ => zero_ok) ⟨by decide, by decide⟩;rw [Km.core_same] at hI;exact h.step k1 hI k2
theorem MSt.flushOff (h : MSt w0 g0 K w g) (hi : i < K.nc) (hz : g.tlb i = Pl.zero) : MSt w0 g0 K (w.setCell ⟨g.cb, i * 27 + 24, none⟩ (.bool false)) (g.core i Pl.zero false (g.last i)) := by
 obtain ⟨k1, k2⟩ := h.kin.coreCell hi 24 (by omega) (.bool false) (c := K.cores i) (t := Pl.zero) (fl := false) (la := g.last i) (h.kin.cores.ok i hi) (by rw [hz]; rfl);have hI := coreInv (i := i) (c := K.cores i) (t := Pl.zero) (fl := false) (la := g.last i) h.inv (fun _ => zero_ok) ⟨by decide, by decide⟩;rw [Km.core_same] at k1 hI;exact h.step k1 hI k2
theorem MSt.lastSet (h : MSt w0 g0 K w g) (hi : i < K.nc) (hz : g.tlb i = Pl.zero) (la : Int) : MSt w0 g0 K (w.setCell ⟨g.cb, i * 27 + 25, none⟩ (.int .u64 la)) (g.core i Pl.zero (g.flush i) la) := by
 obtain ⟨k1, k2⟩ := h.kin.coreCell hi 25 (by omega) (.int .u64 la) (c := K.cores i) (t := Pl.zero) (fl := g.flush i) (la := la) (h.kin.cores.ok i hi) (by rw [hz]; rfl);have hI := coreInv (i := i) (c := K.cores i) (t := Pl.zero) (fl := g.flush i) (la := la) h.inv (fun _ => zero_ok) ⟨by decide, by decide⟩;rw [Km.core_same] at k1 hI;exact h.step k1 hI k2
theorem KIn.coreV (h : KIn w g K) (hi : i < K.nc) : (w.cell? ⟨g.cb, i * 27 + 24, none⟩ = some (.bool (g.flush i)) /\ w.cell? ⟨g.cb, i * 27 + 25, none⟩ = some (.int .u64 (g.last i)) /\ w.cell? ⟨g.cb, i * 27 + 26, none⟩ = some (.int .u64 (K.cores i).picks)) /\ (∀ j, w.frozen? ⟨g.cb, j, none⟩ = false) /\ g.cb < w.heap.size := by
 obtain ⟨htag, cs, hB, hin⟩ := h.cores.ex (by omega);exact ⟨⟨(hin i hi).cell hB 24 rfl, (hin i hi).cell hB 25 rfl, (hin i hi).cell hB 26 rfl⟩, hB.free, hB.lt⟩
theorem Gh.core_tlb (g : Gh) (i : Nat) (t : Pl) (fl : Bool) (la : Int) : (g.core i t fl la).tlb i = t /\ (g.core i t fl la).flush i = fl /\ (g.core i t fl la).last i = la := ⟨if_pos rfl, if_pos rfl, if_pos rfl⟩
end
end Go.Proofs.YtiadbhiadhgjkaaGreatDoor
namespace Go.Proofs.YtiadbhiadhgjkaaGreatDoor
open Go.RowKit
attribute [local irreducible] World.setCell World.alloc World.drew World.setRow Calls Code.wp
theorem cnext_d (b o ty : Nat) (cs : Array Value) (slot : Nat) (t : Int) (u : FrameMode) (w : World) (hB : Blk w b cs ty) (hs : slot < 8) (h0 : w.cell? ⟨b, o, none⟩ = some (.int .i64 slot)) (hI : In cs (o + 3 + slot) [.int .u64 t]) :
  CallsD Tryz.prog 68 #[.pointer (some ⟨b, o, none⟩)] u w fun e u' w' => u' = u /\ e = .returned (.tuple #[]) /\ Piece w w' b ty (o + 3 + slot) cs 1 [.int .u64 (IntKind.u64.wrap (t + 1))] := by
 have h1 : w.cell? ⟨b, o + 3 + slot, none⟩ = some (.int .u64 t) := hI.cell hB 0 rfl;have hf : w.frozen? ⟨b, o + 3 + slot, none⟩ = false := hB.free _;have k0 : w.drew.cell? ⟨b, o, none⟩ = some (.int .i64 slot) := cell_drew h0;have k1 : w.drew.cell? ⟨b, o + 3 + slot, none⟩ = some (.int .u64 t) := cell_drew h1;have kf : w.drew.frozen? ⟨b, o + 3 + slot, none⟩ = false := hB.drew.free _;have hs2 : (slot : Int) < 8 := by omega
 have HP := Lib.hid (((show Piece w w b ty (o + 3 + slot) cs 1 [.int .u64 t] from Piece.refl hB hI).set0 (.int .u64 (IntKind.u64.wrap (t + 1))) (by omega)).drew);clear hB hI;go_enter_d Tryz.func68, Tryz.ntmps68
 go_wp2_with fail
 go_region
 all_goals
  go_wp2_with fail
  go_end0
  exact ⟨rfl, HP.out⟩
theorem knext_d (u : FrameMode) (w : World) (g : Gh) (K : Km) (h : KIn w g K) (i : Nat) (hi : i < K.nc) :
  CallsD Tryz.prog 68 #[.pointer (some ⟨g.cb, i * 27, none⟩)] u w fun e u' w' => u' = u /\ e = .returned (.tuple #[]) /\ KIn w' g (K.nextTurn i) /\ Ext g g w w' := by
 obtain ⟨htag, cs, hB, hin⟩ := h.cores.ex (by omega);have hok := h.cores.ok i hi;have hn8 := h.cores.ns;have hsl := hok.slot;obtain ⟨s, hs⟩ : ∃ s : Nat, (K.cores i).slot = (s : Int) := ⟨(K.cores i).slot.toNat, by omega⟩;have hs8 : s < 8 := by omega
 have hI0 : w.cell? ⟨g.cb, i * 27, none⟩ = some (.int .i64 s) := by rw [<- hs]; exact (hin i hi).cell hB 0 rfl
 have hI : In cs (i * 27 + 3 + s) [.int .u64 ((K.cores i).turns s)] := by
  rw [Nat.add_assoc];refine (hin i hi).sub (3 + s) _ (fun k hk => ?_);have : k = 0 := by simpa using hk
  subst this;match s, hs8 with
  | 0, _ => rfl
  | 1, _ => rfl
  | 2, _ => rfl
  | 3, _ => rfl
  | 4, _ => rfl
  | 5, _ => rfl
  | 6, _ => rfl
  | 7, _ => rfl
 refine (cnext_d g.cb (i * 27) _ cs s _ u w hB hs8 hI0 hI).mono ?_;rintro e u' w' ⟨rfl, rfl, hP⟩
 have ht : K.nextTurn i = K.core i { K.cores i with turns := upd (K.cores i).turns s (wu ((K.cores i).turns s + 1)) } := by
  show K.core i { K.cores i with turns := upd (K.cores i).turns (K.cores i).slot.toNat (wu ((K.cores i).turns (K.cores i).slot.toNat + 1)) } = _
  rw [hs, Int.toNat_natCast]
 rw [Nat.add_assoc] at hP
 obtain ⟨k1, k2⟩ := h.corePiece hi hB hin (p := 3 + s) hP (by omega) (c := { K.cores i with turns := upd (K.cores i).turns s (wu ((K.cores i).turns s + 1)) }) (t := g.tlb i) (fl := g.flush i) (la := g.last i) ⟨hok.slot, hok.left, hok.ticks, fun j => by
   show 0 <= upd _ s _ j /\ upd _ s _ j <= _
   by_cases e : j = s
   ·rw [e, upd_same']; exact wu_in _
   ·rw [upd_ne' _ _ _ _ e]; exact hok.turns j, hok.picks⟩ (fun k hk => by
  by_cases e : k = 3 + s
  ·subst e
   rw [if_pos ⟨Nat.le_refl _, Nat.lt_succ_self _⟩, Nat.sub_self];match s, hs8 with
   | 0, _ => rfl
   | 1, _ => rfl
   | 2, _ => rfl
   | 3, _ => rfl
   | 4, _ => rfl
   | 5, _ => rfl
   | 6, _ => rfl
   | 7, _ => rfl
  ·rw [if_neg (by omega)]
   have hu : ∀ j, k = 3 + j -> upd (K.cores i).turns s (wu ((K.cores i).turns s + 1)) j = (K.cores i).turns j := fun j ej => upd_ne' _ _ _ _ (by omega)
   generalize hT : upd (K.cores i).turns s (wu ((K.cores i).turns s + 1)) = T at hu ⊢;rcases k with _ | _ | _ | _ | _ | _ | _ | _ | _ | _ | _ | k
   ·rfl
   ·rfl
   ·rfl
   ·exact congrArg (fun x => some (Value.int .u64 x)) (hu 0 rfl)
   ·exact congrArg (fun x => some (Value.int .u64 x)) (hu 1 rfl)
   ·exact congrArg (fun x => some (Value.int .u64 x)) (hu 2 rfl)
   ·exact congrArg (fun x => some (Value.int .u64 x)) (hu 3 rfl)
   ·exact congrArg (fun x => some (Value.int .u64 x)) (hu 4 rfl)
   ·exact congrArg (fun x => some (Value.int .u64 x)) (hu 5 rfl)
   ·exact congrArg (fun x => some (Value.int .u64 x)) (hu 6 rfl)
   ·exact congrArg (fun x => some (Value.int .u64 x)) (hu 7 rfl)
   ·rfl)
 rw [Gh.core_same] at k1 k2;rw [ht];exact ⟨rfl, rfl, k1, k2⟩
structure Ev where
 (core thread what : Int)
def evV (e : Ev) : Value := .agg #[.int .i64 e.core, .int .u64 e.thread, .int .i64 e.what]
def doT (mic : Km -> Ob -> Option (Km × Int)) (wt : Km -> Ob -> Nat -> Option (Km × Int)) (K : Km) (o : Ob) (i : Nat) : Option (Km × Int) :=
 if 0 < o.th.cont.phase then mic K o else if o.th.state = 2 then wt K o i else if o.th.state = 1 then K.userT o else some (K, 0)
def Km.pickT (mic : Km -> Ob -> Option (Km × Int)) (wt : Km -> Ob -> Nat -> Option (Km × Int)) (K : Km) (i : Nat) : Option (Km × Ev) :=
 match (K.picked i).whoseT i with
 | none => none
 | some none => some ((K.picked i).nextTurn i, ⟨i, 0, 0⟩)
 | some (some o) => match doT mic wt (K.picked i) o i with
  | none => none
  | some p => if i < p.1.nc then some (p.1.nextTurn i, ⟨i, o.name, p.2⟩) else none
structure KOk (K : Km) : Prop where
 maps : MapsOk K
 lens : ∀ n s, K.obj n = some s -> s.maps.length <= 1000000
def MicOk (Q : World -> Gh -> Prop) (mic : Km -> Ob -> Option (Km × Int)) : Prop := ∀ (w : World) (g : Gh) (K K' : Km) (o : Ob) (what : Int), KIn w g K -> Inv g K -> KOk K -> Q w g -> K.obj o.name = some o -> o.kind = 3 -> 0 < o.th.cont.phase -> mic K o = some (K', what) ->
 Calls Tryz.prog 69 #[.pointer (some ⟨g.kb, 0, none⟩), .pointer (some ⟨g.bl o.name, 0, none⟩)] w fun e w' => e = .returned (.int .i64 what) /\ ∃ g', MSt w g K' w' g'
def WtOk (Q : World -> Gh -> Prop) (wt : Km -> Ob -> Nat -> Option (Km × Int)) : Prop := ∀ (w : World) (g : Gh) (K K' : Km) (o : Ob) (i : Nat) (what : Int), KIn w g K -> Inv g K -> KOk K -> Q w g -> K.obj o.name = some o -> o.kind = 3 -> i < K.nc -> wt K o i = some (K', what) ->
 Calls Tryz.prog 70 #[.pointer (some ⟨g.kb, 0, none⟩), .pointer (some ⟨g.bl o.name, 0, none⟩), .pointer (some ⟨g.cb, i * 27, none⟩)] w fun e w' => e = .returned (.int .i64 what) /\ ∃ g', MSt w g K' w' g'
theorem MSt.next {w0 w w' : World} {g0 g : Gh} {K : Km} {i : Nat} (h : MSt w0 g0 K w g) (hi : i < K.nc) (k1 : KIn w' g (K.nextTurn i)) (k2 : Ext g g w w') : MSt w0 g0 (K.nextTurn i) w' g := by
 have hI := coreInv (i := i) (c := { K.cores i with turns := upd (K.cores i).turns (K.cores i).slot.toNat (wu ((K.cores i).turns (K.cores i).slot.toNat + 1)) }) (t := g.tlb i) (fl := g.flush i) (la := g.last i) h.inv (fun hf k hk hk2 => h.inv.tlb i hi hf k hk hk2) (h.inv.tn i hi);rw [Gh.core_same] at hI;exact h.step k1 hI k2
theorem whoseT_ob {w : World} {g : Gh} {K : Km} {i : Nat} {o : Ob} (h : KIn w g K) (hr : K.whoseT i = some (some o)) : K.obj o.name = some o /\ o.kind = 3 := by
 unfold Km.whoseT at hr
 cases hl : K.threadsT (K.slots.getD (K.cores i).slot.toNat (0, 0)).1 i with
 | none => rw [hl] at hr; cases hr
 | some l =>
  rw [hl] at hr
  have hm : ∀ x ∈ l, K.obj x.name = some x /\ x.kind = 3 := fun x hx => by
   unfold Km.threadsT at hl
   cases hc : K.obj (K.slots.getD (K.cores i).slot.toNat (0, 0)).1 with
   | none => rw [hc] at hl; cases hl; cases hx
   | some c =>
    rw [hc] at hl;simp only at hl;by_cases hk : c.kind = 1
    ·rw [if_pos hk] at hl
     by_cases hl5 : c.kids.length <= 100000
     ·rw [if_pos hl5] at hl
      cases hos : K.kidsT c.kids with
      | none => rw [hos] at hl; cases hl
      | some os =>
       rw [hos] at hl;simp only [Option.map_some, Option.some.injEq] at hl;subst hl;obtain ⟨h1, h2⟩ := List.mem_filter.1 hx;obtain ⟨k, hk2, e⟩ := List.mem_iff_getElem.1 h1;obtain ⟨e1, e2⟩ := kidsT_at hos;obtain ⟨n, hn⟩ : ∃ n, c.kids[k]? = some n := ⟨_, List.getElem?_eq_getElem (by omega)⟩;obtain ⟨o', q1, q2⟩ := e2 k n hn;rw [List.getElem?_eq_getElem hk2, e] at q1
       cases q1;have := (h.objs _ _ q2).1;unfold onCore at h2;simp only [Bool.and_eq_true, decide_eq_true_eq] at h2;exact ⟨by rw [this]; exact q2, h2.1⟩
     ·rw [if_neg hl5] at hl; cases hl
    ·rw [if_neg hk] at hl; cases hl; cases hx
  cases l with
  | nil => cases hr
  | cons x q =>
   simp only [Option.some.injEq] at hr;exact hm o (List.mem_of_getElem? hr)
structure PkSt (w0 : World) (g0 : Gh) (K : Km) (i eb : Nat) (w : World) (g : Gh) : Prop where
 ms : MSt w0 g0 K w g
 flush : g.flush i = false
 blk : Blk w eb #[.int .i64 0, .int .u64 0, .int .i64 0] 105
 free : g.A eb = none
theorem PkSt.below {w0 w w' : World} {g0 g : Gh} {K : Km} {i eb : Nat} (h : PkSt w0 g0 K i eb w g) (k : Below w.heap.size w w') : PkSt w0 g0 K i eb w' g := ⟨h.ms.below k, h.flush, h.blk.below k h.blk.lt, h.free⟩
end Go.Proofs.YtiadbhiadhgjkaaGreatDoor
