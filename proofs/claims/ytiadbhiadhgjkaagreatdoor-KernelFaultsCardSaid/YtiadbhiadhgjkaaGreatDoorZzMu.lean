/- Of the proof of this claim: a joined text. -/
import Derived.Test.YtiadbhiadhgjkaaGreatDoorZzMp
set_option maxRecDepth 100000
set_option maxHeartbeats 4000000
namespace Go.Proofs.YtiadbhiadhgjkaaGreatDoor
open Go.RowKit
attribute [local irreducible] World.setCell World.alloc World.drew World.setRow Calls Code.wp
theorem KIn.cbV {w : World} {g : Gh} {K : Km} (h : KIn w g K) {i : Nat} (hi : i < K.nc) : ∃ cc, w.cell? ⟨g.kb, 2, none⟩ = some (.slice (some ⟨g.cb, 0, none⟩) K.nc cc) := by
 obtain ⟨sb, sc, cc, hV⟩ := h.kerV hi;exact ⟨cc, hV.cores⟩
theorem MSt.free {w0 w w' : World} {g0 g : Gh} {K : Km} {eb ty : Nat} {cs : Array Value} (h : MSt w0 g0 K w g) (k : Kept (· = eb) w w') (hB : Blk w eb cs ty) (hA : g.A eb = none) (hn : w0.heap.size <= eb) (hty : ty ≠ 111 /\ ty ≠ 5) : MSt w0 g0 K w' g :=
 ⟨h.kin.kept k (Mild.of hB hty) (fun b q _ => .inl (by rw [q]; exact hA)), h.inv, ⟨h.ext.al, h.ext.kept.then k (fun j hj e => by omega), h.ext.tag, h.ext.bl⟩⟩
theorem pick_end {w w5 : World} {g g5 : Gh} {K5 : Km} {i eb : Nat} {ev : Ev} (h : MSt w g K5 w5 g5) (hi : i < K5.nc) (hB : Blk w5 eb #[.int .i64 ev.core, .int .u64 ev.thread, .int .i64 ev.what] 105) (hA : g5.A eb = none) (hcb : g5.cb = g.cb) (tmps : Array Value) (ht : tmps.getD 4 undef = .pointer (some ⟨eb, 0, none⟩)) :
  bodyPostD Tryz.prog Tryz.f44 (fun e w' => e = .returned (evV ev) /\ ∃ g', MSt w g (K5.nextTurn i) w' g') .ret ⟨tmps, [{ target := Target.fn (Fn.func 68) #[], args := #[.pointer (some ⟨g.cb, i * 27, none⟩)] }]⟩ w5 := by
 show Leaves _ _ _ _ _ _ _
 refine leaves_cons (f := 68) (args := #[.pointer (some ⟨g.cb, i * 27, none⟩)]) (by simp) (by simp [go_sem]) ?_;have hd := knext_d .returning w5 g5 K5 h.kin i hi;rw [hcb] at hd;refine hd.mono ?_;rintro e u' w' ⟨rfl, rfl, q1, q2⟩;have hB2 := q2.kept.blk hB (fun q => q hA);exact ⟨_, results_cell_row rfl _ _ eb _ _ (0, 0) _ ht hB2 Tryz.underlying105 rfl (by kernel_rfl), rfl, g5, h.next hi q1 q2⟩
theorem pick_any {Q : World -> Gh -> Prop} (hQ : ∀ w w' g g', Q w g -> Ext g g' w w' -> Q w' g') {mic : Km -> Ob -> Option (Km × Int)} {wt : Km -> Ob -> Nat -> Option (Km × Int)} (hmic : MicOk Q mic) (hwt : WtOk Q wt)
  (w : World) (g : Gh) (K K' : Km) (i : Nat) (ev : Ev) (h : KIn w g K) (hI : Inv g K) (hO : KOk K) (hq : Q w g) (hi : i < K.nc) (hres : K.pickT mic wt i = some (K', ev)) :
  Calls Tryz.prog 44 #[.pointer (some ⟨g.kb, 0, none⟩), .int .i64 i] w fun e w' => e = .returned (evV ev) /\ ∃ g', MSt w g K' w' g' := by
 have HQ := Lib.hid hQ; have Hmic := Lib.hid hmic; have Hwt := Lib.hid hwt; have HOk := Lib.hid hO; have Hq := Lib.hid hq; have Hi := Lib.hid hi; have HR := Lib.hid hres;obtain ⟨eb, heb⟩ : ∃ eb, w.heap.size = eb := ⟨_, rfl⟩;have h1 := h.alloc (.cells #[.int .i64 0, .int .u64 0, .int .i64 0] 105);have hms : MSt w g K (w.alloc (.cells #[.int .i64 0, .int .u64 0, .int .i64 0] 105)) g := (MSt.refl h hI).below ((Below.refl _ w).alloc (Nat.le_refl _) _);obtain ⟨cc, k2⟩ := h1.cbV hi;obtain ⟨⟨c24, c25, c26⟩, hfr, hlt⟩ := h1.coreV hi;have hp := hms.picked hi
 have hcbe : g.cb ≠ eb := by
  have := (h.coreV hi).2.2;omega
 have hPk : g.A eb = none := h.nrm _ (by omega);have HP : Hid (MSt w g (K.picked i) ((w.alloc (.cells #[.int .i64 0, .int .u64 0, .int .i64 0] 105)).setCell ⟨g.cb, i * 27 + 26, none⟩ (.int .u64 (wu ((K.cores i).picks + 1)))) g) := Lib.hid hp;have HPe : Hid (Blk ((w.alloc (.cells #[.int .i64 0, .int .u64 0, .int .i64 0] 105)).setCell ⟨g.cb, i * 27 + 26, none⟩ (.int .u64 (wu ((K.cores i).picks + 1)))) eb #[.int .i64 0, .int .u64 0, .int .i64 0] 105) := Lib.hid ((by rw [<- heb]; exact Blk.new _ _ _ : Blk (w.alloc (.cells #[.int .i64 0, .int .u64 0, .int .i64 0] 105)) eb _ _).set_other hcbe _);have HPk := Lib.hid hPk;have hin : (i : Int) < K.nc := by omega
 clear h hI hO hq hi hres h1 hms hp hPk hmic hwt hQ;go_enter_defers Tryz.func44, Tryz.ntmps44
 go_upto_region 3 with fail
 go_upto_if 24 with fail
 go_cut [] from 8 to 31 (fun wx => ∃ g1, Hid (PkSt w g (K.picked i) i eb wx g1))
 case first =>
  cases hfl : g.flush i with
  | false =>
   have HF := Lib.hid hfl;rw [hfl] at c24;have hfw : ((g.flush i) = true) = False := by rw [hfl]; simp
   clear hfl;go_wp2_with fail
   go_meet;exact ⟨g, HP.out, HF.out, HPe.out, HPk.out⟩
  | true =>
   rw [hfl] at c24;have hfw : ((g.flush i) = true) = True := by rw [hfl]; simp
   have HFl := Lib.hid (kflush_any _ g (K.picked i) HP.out.kin i Hi.out);clear hfl;go_wp2_with fail
   refine HFl.out.mono ?_;rintro e w2 ⟨rfl, q1, q2⟩;have hm2 := HP.out.flushed q1 q2;have hB2 := q2.kept.blk HPe.out (fun q => q HPk.out);have hA2 := q2.tag _ HPe.out.lt HPk.out;obtain ⟨⟨c24', -, -⟩, hfr2, hlt2⟩ := hm2.kin.coreV Hi.out;have e1 : (g.core i Pl.zero (g.flush i) (g.last i)).cb = g.cb := rfl;rw [e1] at c24' hfr2 hlt2;have hm3 := hm2.flushOff Hi.out (Gh.core_tlb g i Pl.zero (g.flush i) (g.last i)).1;have HM3 := Lib.hid hm3;have hne : (⟨g.cb, i * 27 + 24, none⟩ : Addr).block ≠ eb := hcbe;have HB3 := Lib.hid (hB2.set_other (a := ⟨g.cb, i * 27 + 24, none⟩) hcbe (.bool false));have HA3 := Lib.hid hA2;clear q1 q2 hm2 hB2 hA2 hm3 hne e1;go_wp2_with fail
   go_meet;exact ⟨_, HM3.out, (Gh.core_tlb _ i Pl.zero false _).2.1, HB3.out, HA3.out⟩
 case rest =>
  rename World => w3
  obtain ⟨g3, HS⟩ := hcut;clear k2 c24 c25 c26 hfr hlt HP HPe HPk;have hkb : g3.kb = g.kb := HS.out.ms.ext.al.kb;have hcb : g3.cb = g.cb := HS.out.ms.ext.al.cb;have Hkb := Lib.hid hkb; have Hcb := Lib.hid hcb
  cases hwh : (K.picked i).whoseT i with
  | none => have := HR.out; unfold Km.pickT at this; rw [hwh] at this; cases this
  | some r =>
   have Hwh := Lib.hid hwh;have Hw := Lib.hid (whose_any w3 g3 (K.picked i) i r HS.out.ms.kin Hi.out hwh);rw [hkb] at Hw
   cases r with
   | none =>
    have HR2 : Hid (((K.picked i).nextTurn i, (⟨i, 0, 0⟩ : Ev)) = (K', ev)) := Lib.hid (by
     have := HR.out;unfold Km.pickT at this;rw [hwh] at this;simpa using this)
    clear hwh hkb hcb;unfold turnV at Hw;go_wp2_with fail
    refine Hw.out.mono ?_;rintro e w4 ⟨rfl, hb4⟩;have HS4 := Lib.hid (HS.out.below hb4);have hBe := HS4.out.blk;have e0 : w4.cell? ⟨eb, 0, none⟩ = some (.int .i64 0) := (hBe.cell 0).trans rfl;have e1 : w4.cell? ⟨eb, 1, none⟩ = some (.int .u64 0) := (hBe.cell 1).trans rfl;have e2 : w4.cell? ⟨eb, 2, none⟩ = some (.int .i64 0) := (hBe.cell 2).trans rfl;have hfe := hBe.free;have hle := hBe.lt;clear hb4 hBe;go_wp2_with fail
    have hX := (((HS4.out.blk.set 0 (.int .i64 i)).set 1 (.int .u64 0)).set 2 (.int .i64 0)).cells (d := #[.int .i64 i, .int .u64 0, .int .i64 0]) (by simp only [List.setIfInBounds_toArray, List.set_cons_zero, List.set_cons_succ]);have hkp := ((((Kept.refl (· = eb) w4).setIn eb 0 (.int .i64 i) rfl).setIn eb 1 (.int .u64 0) rfl).setIn eb 2 (.int .i64 0) rfl);have e3 := HR2.out
    cases e3;refine pick_end (ev := ⟨i, 0, 0⟩) (HS4.out.ms.free hkp HS4.out.blk HS4.out.free (by omega) (by decide)) Hi.out hX HS4.out.free Hcb.out _ rfl
   | some o =>
    obtain ⟨ho, hk⟩ := whoseT_ob HS.out.ms.kin hwh
    obtain ⟨p, hdo, hpn, hev⟩ : ∃ p, doT mic wt (K.picked i) o i = some p /\ i < p.1.nc /\ (p.1.nextTurn i, (⟨i, o.name, p.2⟩ : Ev)) = (K', ev) := by
     have := HR.out;unfold Km.pickT at this;rw [hwh] at this;simp only at this
     cases hd : doT mic wt (K.picked i) o i with
     | none => rw [hd] at this; cases this
     | some p =>
      rw [hd] at this;simp only at this;by_cases hp : i < p.1.nc
      ·rw [if_pos hp] at this
       exact ⟨p, rfl, hp, by simpa using this⟩
      ·rw [if_neg hp] at this; cases this
    have Hdo := Lib.hid hdo; have Hpn := Lib.hid hpn; have Hev := Lib.hid hev; have HO := Lib.hid ho;clear hwh hkb hcb hdo hpn hev ho;unfold turnV at Hw;go_wp2_with fail
    refine Hw.out.mono ?_;rintro e w4 ⟨rfl, hb4⟩;have HS4 := Lib.hid (HS.out.below hb4);obtain ⟨⟨-, c25, -⟩, hfr, hlt⟩ := HS4.out.ms.kin.coreV Hi.out;obtain ⟨s4, T4, hO4⟩ := HS4.out.ms.kin.at HO.out;have b2 := hO4.name;rw [Hcb.out] at c25 hfr hlt;clear hb4 hO4;go_upto_region 10 with fail
    go_quiet (fail)
    go_upto_if 50 with fail
    go_cut [] from 42 to 61 (fun wx => ∃ g5, Hid (PkSt w g (K.picked i) i eb wx g5) /\ Hid (g5.last i = o.name) /\ Hid (g5.bl o.name = g3.bl o.name))
    case first =>
     have HS5 := Lib.hid (HS4.out.below (below_dr w4 nq));by_cases hla : g3.last i = o.name
     ·have hlb : (g3.last i == o.name) = true := by simp [hla]
      have hlc : (g3.last i != o.name) = false := by simp [hla]
      have Hla := Lib.hid hla;clear hla;go_wp2_with fail
      go_meet;exact ⟨g3, HS5, Hla, rfl⟩
     ·have hlb : (g3.last i == o.name) = false := by simpa using hla
      have hlc : (g3.last i != o.name) = true := by simpa using hla
      have HFl : Hid (Calls Tryz.prog 42 #[.pointer (some ⟨g.cb, i * 27 + 11, none⟩)] (w4.drewN nq) fun e w' => e = .returned (.tuple #[]) /\ KIn w' (g3.core i Pl.zero (g3.flush i) (g3.last i)) (K.picked i) /\ Ext g3 (g3.core i Pl.zero (g3.flush i) (g3.last i)) (w4.drewN nq) w') := Lib.hid (by
       have := kflush_any (w4.drewN nq) g3 (K.picked i) HS5.out.ms.kin i Hi.out;rw [Hcb.out] at this; exact this)
      clear hla;go_wp2_with fail
      refine HFl.out.mono ?_;rintro e w5 ⟨rfl, q1, q2⟩;have hm5 := HS5.out.ms.flushed q1 q2;have hB5 := q2.kept.blk HS5.out.blk (fun q => q HS5.out.free);have hA5 := q2.tag _ HS5.out.blk.lt HS5.out.free;obtain ⟨⟨-, c25', -⟩, hfr5, hlt5⟩ := hm5.kin.coreV Hi.out;have e1 : (g3.core i Pl.zero (g3.flush i) (g3.last i)).cb = g.cb := Hcb.out;rw [e1] at c25' hfr5 hlt5;obtain ⟨s5, T5, hO5⟩ := hm5.kin.at HO.out;have b2' : w5.cell? ⟨g3.bl o.name, 2, none⟩ = some (.int .u64 o.name) := hO5.name;have hm6 := hm5.lastSet Hi.out (Gh.core_tlb g3 i Pl.zero (g3.flush i) (g3.last i)).1 o.name;rw [e1] at hm6;have hcbe2 : g.cb ≠ eb := hcbe;have HM6 := Lib.hid hm6;have HB6 := Lib.hid (hB5.set_other (a := ⟨g.cb, i * 27 + 25, none⟩) hcbe2 (.int .u64 o.name));have HA6 := Lib.hid hA5;clear q1 q2 hm5 hB5 hA5 hO5 hm6 hcbe2 e1 b2 c25 hfr hlt;go_wp2_with fail
      go_meet;refine ⟨_, Lib.hid ⟨HM6.out, ?_, HB6.out, HA6.out⟩, ?_, rfl⟩
      ·exact (Gh.core_tlb _ i _ _ _).2.1.trans ((Gh.core_tlb _ i _ _ _).2.1.trans HS5.out.flush)
      ·exact (Gh.core_tlb _ i _ _ _).2.2
    case rest =>
     rename World => w6
     obtain ⟨g5, HS6, Hla, Hbl⟩ := hcut;clear c25 hfr hlt b2 HS4 Hw;have hkb5 : g5.kb = g.kb := HS6.out.ms.ext.al.kb;have hcb5 : g5.cb = g.cb := HS6.out.ms.ext.al.cb;have Hcb5 := Lib.hid hcb5;rw [<- Hbl.out];obtain ⟨xb, hxb⟩ : ∃ xb, w6.heap.size = xb := ⟨_, rfl⟩;have HS7 := Lib.hid (HS6.out.below ((Below.refl _ w6).alloc (Nat.le_refl _) (.cells #[.int .i64 i, .int .u64 o.name, .int .i64 0] 105)));have HX7 : Hid (Blk (w6.alloc (.cells #[.int .i64 i, .int .u64 o.name, .int .i64 0] 105)) xb #[.int .i64 i, .int .u64 o.name, .int .i64 0] 105) := Lib.hid (by rw [<- hxb]; exact Blk.new _ _ _);have HAx : Hid (g5.A xb = none) := Lib.hid (HS6.out.ms.kin.nrm _ (by omega));have hxe : xb ≠ eb := by have := HS6.out.blk.lt; omega
     have hwx : w.heap.size <= xb := by have := HS6.out.blk.lt; omega
     have Hxe := Lib.hid hxe; have Hwx := Lib.hid hwx;obtain ⟨s6, T6, hO6⟩ := HS6.out.ms.kin.at HO.out;have b2 := hO6.name;have b19 := HS7.out.ms.kin.tcell HO.out hk;obtain ⟨x7, hT7⟩ := HS7.out.ms.kin.thAt HO.out hk;have t32 : (w6.alloc (.cells #[.int .i64 i, .int .u64 o.name, .int .i64 0] 105)).cell? ⟨g5.tl o.name, 32, none⟩ = some (.int .i64 o.th.cont.phase) := (hT7.blk.cell 32).trans rfl;have t20 : (w6.alloc (.cells #[.int .i64 i, .int .u64 o.name, .int .i64 0] 105)).cell? ⟨g5.tl o.name, 20, none⟩ = some (.int .i64 o.th.state) := (hT7.blk.cell 20).trans rfl;have HQ7 : Hid (Q (w6.alloc (.cells #[.int .i64 i, .int .u64 o.name, .int .i64 0] 105)) g5) := Lib.hid (HQ.out _ _ _ _ Hq.out HS7.out.ms.ext);clear hO6 hT7 hxe hwx;go_upto_block 0 with fail
     go_cut [] from 68 to 109 (fun wx => ∃ g8, Hid (MSt w g p.1 wx g8) /\ Hid (Blk wx xb #[.int .i64 i, .int .u64 o.name, .int .i64 p.2] 105) /\ Hid (Blk wx eb #[.int .i64 0, .int .u64 0, .int .i64 0] 105) /\ Hid (g8.A eb = none))
     case first =>
      have HFin : Hid (∀ (w8 : World) (g8 : Gh) (K8 : Km) (what : Int), MSt (w6.alloc (.cells #[.int .i64 i, .int .u64 o.name, .int .i64 0] 105)) g5 K8 w8 g8 -> p = (K8, what) ->
        MSt w g p.1 (w8.setCell ⟨xb, 2, none⟩ (.int .i64 what)) g8 /\ Blk (w8.setCell ⟨xb, 2, none⟩ (.int .i64 what)) xb #[.int .i64 i, .int .u64 o.name, .int .i64 p.2] 105 /\ Blk (w8.setCell ⟨xb, 2, none⟩ (.int .i64 what)) eb #[.int .i64 0, .int .u64 0, .int .i64 0] 105 /\ g8.A eb = none /\
        w8.cell? ⟨xb, 2, none⟩ = some (.int .i64 0) /\ w8.frozen? ⟨xb, 2, none⟩ = false) := Lib.hid (fun w8 g8 K8 what hm e => by
       subst e;have hx8 := hm.ext.kept.blk HX7.out (fun q => q HAx.out);have he8 := hm.ext.kept.blk HS7.out.blk (fun q => q HS7.out.free);have hax := hm.ext.tag _ HX7.out.lt HAx.out;refine ⟨(HS7.out.ms.from hm).free ((Kept.refl (· = xb) w8).setIn _ _ _ rfl) hx8 hax Hwx.out (by decide), (hx8.set 2 _).cells (by simp only [List.setIfInBounds_toArray, List.set_cons_zero, List.set_cons_succ]), he8.set_other (a := ⟨xb, 2, none⟩) Hxe.out _, hm.ext.tag _ HS7.out.blk.lt HS7.out.free, (hx8.cell 2).trans rfl, hx8.free 2⟩)
      have hdo := Hdo.out;unfold doT at hdo;by_cases hph : 0 < o.th.cont.phase
      ·rw [if_pos hph] at hdo
       have Hc : Hid (Calls Tryz.prog 69 #[.pointer (some ⟨g.kb, 0, none⟩), .pointer (some ⟨g5.bl o.name, 0, none⟩)] (w6.alloc (.cells #[.int .i64 i, .int .u64 o.name, .int .i64 0] 105)) fun e w' => e = .returned (.int .i64 p.2) /\ ∃ g', MSt (w6.alloc (.cells #[.int .i64 i, .int .u64 o.name, .int .i64 0] 105)) g5 p.1 w' g') := Lib.hid (by
        have := Hmic.out _ g5 (K.picked i) p.1 o p.2 HS7.out.ms.kin HS7.out.ms.inv ⟨HOk.out.maps, HOk.out.lens⟩ HQ7.out HO.out hk hph hdo;rw [hkb5] at this; exact this)
       have hph2 : decide (0 < o.th.cont.phase) = true := decide_eq_true hph;clear hdo hkb5 hcb5;go_wp2_with fail
       refine Hc.out.mono ?_;rintro e w8 ⟨rfl, g8, hm⟩;obtain ⟨f1, f2, f3, f4, x2, xf⟩ := HFin.out w8 g8 p.1 p.2 hm rfl;have F1 := Lib.hid f1; have F2 := Lib.hid f2; have F3 := Lib.hid f3; have F4 := Lib.hid f4;clear hm f1 f2 f3 f4;go_wp2_with fail
       go_meet;exact ⟨g8, F1, F2, F3, F4⟩
      rw [if_neg hph] at hdo;have hph2 : decide (0 < o.th.cont.phase) = false := decide_eq_false hph;by_cases hs2 : o.th.state = 2
      ·rw [if_pos hs2] at hdo
       have Hc : Hid (Calls Tryz.prog 70 #[.pointer (some ⟨g.kb, 0, none⟩), .pointer (some ⟨g5.bl o.name, 0, none⟩), .pointer (some ⟨g.cb, i * 27, none⟩)] (w6.alloc (.cells #[.int .i64 i, .int .u64 o.name, .int .i64 0] 105)) fun e w' => e = .returned (.int .i64 p.2) /\ ∃ g', MSt (w6.alloc (.cells #[.int .i64 i, .int .u64 o.name, .int .i64 0] 105)) g5 p.1 w' g') := Lib.hid (by
        have := Hwt.out _ g5 (K.picked i) p.1 o i p.2 HS7.out.ms.kin HS7.out.ms.inv ⟨HOk.out.maps, HOk.out.lens⟩ HQ7.out HO.out hk Hi.out hdo;rw [hkb5, hcb5] at this; exact this)
       have hs3 : (o.th.state == 2) = true := by simp [hs2]
       clear hdo hkb5 hcb5 hph hs2;go_wp2_with fail
       refine Hc.out.mono ?_;rintro e w8 ⟨rfl, g8, hm⟩;obtain ⟨f1, f2, f3, f4, x2, xf⟩ := HFin.out w8 g8 p.1 p.2 hm rfl;have F1 := Lib.hid f1; have F2 := Lib.hid f2; have F3 := Lib.hid f3; have F4 := Lib.hid f4;clear hm f1 f2 f3 f4;go_wp2_with fail
       go_meet;exact ⟨g8, F1, F2, F3, F4⟩
      rw [if_neg hs2] at hdo;have hs3 : (o.th.state == 2) = false := by simpa using hs2
      by_cases hs1 : o.th.state = 1
      ·rw [if_pos hs1] at hdo
       have Hc : Hid (Calls Tryz.prog 71 #[.pointer (some ⟨g.kb, 0, none⟩), .pointer (some ⟨g5.bl o.name, 0, none⟩), .pointer (some ⟨g.cb, i * 27, none⟩)] (w6.alloc (.cells #[.int .i64 i, .int .u64 o.name, .int .i64 0] 105)) fun e w' => e = .returned (.int .i64 p.2) /\ ∃ g', MSt (w6.alloc (.cells #[.int .i64 i, .int .u64 o.name, .int .i64 0] 105)) g5 p.1 w' g') := Lib.hid (by
        have := user_any (w0 := w6.alloc (.cells #[.int .i64 i, .int .u64 o.name, .int .i64 0] 105)) (g0 := g5) (K := K.picked i) (o := o) (i := i) ⟨HS7.out.ms.kin, HS7.out.ms.inv, Ext.refl _ _, Same.refl _⟩ HOk.out.maps HO.out hk HOk.out.lens Hi.out HS7.out.flush Hla.out (K' := p.1) (what := p.2) hdo;rw [hkb5, hcb5] at this;exact this.mono fun e w' ⟨q1, g', q2⟩ => ⟨q1, g', q2.ms⟩)
       have hs4 : (o.th.state == 1) = true := by simp [hs1]
       clear hdo hkb5 hcb5 hph hs2 hs1;go_wp2_with fail
       refine Hc.out.mono ?_;rintro e w8 ⟨rfl, g8, hm⟩;obtain ⟨f1, f2, f3, f4, x2, xf⟩ := HFin.out w8 g8 p.1 p.2 hm rfl;have F1 := Lib.hid f1; have F2 := Lib.hid f2; have F3 := Lib.hid f3; have F4 := Lib.hid f4;clear hm f1 f2 f3 f4;go_wp2_with fail
       go_meet;exact ⟨g8, F1, F2, F3, F4⟩
      rw [if_neg hs1] at hdo;have hs4 : (o.th.state == 1) = false := by simpa using hs1
      simp only [Option.some.injEq] at hdo;subst hdo;clear hkb5 hcb5 hph hs2 hs1;go_wp2_with fail
      go_meet;exact ⟨g5, HS7.out.ms, HX7, HS7.out.blk, HS7.out.free⟩
     case rest =>
      rename World => w9
      obtain ⟨g9, HM9, HX9, HB9, HA9⟩ := hcut;clear b2 b19 t32 t20 HS7 HX7 HAx;have x0 : w9.cell? ⟨xb, 0, none⟩ = some (.int .i64 i) := (HX9.out.cell 0).trans rfl;have x1 : w9.cell? ⟨xb, 1, none⟩ = some (.int .u64 o.name) := (HX9.out.cell 1).trans rfl;have x2 : w9.cell? ⟨xb, 2, none⟩ = some (.int .i64 p.2) := (HX9.out.cell 2).trans rfl;have e0 : w9.cell? ⟨eb, 0, none⟩ = some (.int .i64 0) := (HB9.out.cell 0).trans rfl;have e1 : w9.cell? ⟨eb, 1, none⟩ = some (.int .u64 0) := (HB9.out.cell 1).trans rfl;have e2 : w9.cell? ⟨eb, 2, none⟩ = some (.int .i64 0) := (HB9.out.cell 2).trans rfl;have hfe := HB9.out.free;have hle := HB9.out.lt;have hxe := Hxe.out;clear hkb5 hcb5;go_wp2_with fail
      have hX := (((HB9.out.set 0 (.int .i64 i)).set 1 (.int .u64 o.name)).set 2 (.int .i64 p.2)).cells (d := #[.int .i64 i, .int .u64 o.name, .int .i64 p.2]) (by simp only [List.setIfInBounds_toArray, List.set_cons_zero, List.set_cons_succ]);have hkp := ((((Kept.refl (· = eb) w9).setIn eb 0 (.int .i64 i) rfl).setIn eb 1 (.int .u64 o.name) rfl).setIn eb 2 (.int .i64 p.2) rfl);have hev := Hev.out
      cases hev;refine pick_end (ev := ⟨i, o.name, p.2⟩) (HM9.out.free hkp HB9.out HA9.out (by omega) (by decide)) Hpn.out hX HA9.out ?_ _ rfl;exact HM9.out.ext.al.cb
end Go.Proofs.YtiadbhiadhgjkaaGreatDoor
