/- Of the proof of this claim: a joined text. -/
import Derived.Test.YtiadbhiadhgjkaaGreatDoorZzKv
import Derived.Deep.AppendLies
import Derived.Deep.LoopGhost
set_option maxRecDepth 100000
set_option maxHeartbeats 40000000
namespace Go.Proofs.YtiadbhiadhgjkaaGreatDoor
open Go.RowKit
attribute [local irreducible] World.setCell World.alloc World.drew World.setRow Calls Code.wp
attribute [local go_sem] Oper.semAt_some
def Boot1 (w00 : World) (lo : Nat) (bx : Nat × Array Value × TypeId) (g0 : Gh) (os : List WObj) (K1 : Km) (mf : List Int) (k : Nat) (mv : Value) (w : World) : Prop :=
 ∃ g K made, BootSt w00 lo [bx] w g K mv made /\ bootAll K made (os.drop k) = some (K1, mf) /\ K.slots = [] /\ g.kb = g0.kb /\ made.length = k + 1 /\ K.devs.length <= k
def Boot2 (w00 : World) (lo : Nat) (bx : Nat × Array Value × TypeId) (g0 : Gh) (os : List WObj) (cores : Int) (K2 : Km) (mf : List Int) (mv : Value) (k : Nat) (w : World) : Prop :=
 ∃ g K, BootSt w00 lo [bx] w g K mv mf /\ fillAll K mf cores k (os.drop k) = some K2 /\ K.slots = [] /\ g.kb = g0.kb
def Boot3 (w00 : World) (lo : Nat) (bx : Nat × Array Value × TypeId) (g0 : Gh) (ss : List (Int × Int)) (K2 : Km) (mf : List Int) (mv : Value) (k : Nat) (w : World) : Prop :=
 ∃ g, BootSt w00 lo [bx] w g { K2 with slots := (ss.take k).map fun s => (mf.getD s.1.toNat 0, s.2) } mv mf /\ g.kb = g0.kb
def startK (K2 : Km) (c : WCfg) (mf : List Int) : Km := { K2 with nc := c.cores.toNat, cores := fun _ => core0 (c.slots.getD 0 (0, 0)).2, slots := c.slots.map fun s => (mf.getD s.1.toNat 0, s.2) }
structure Boot4 (w00 : World) (lo : Nat) (bx : Nat × Array Value × TypeId) (g0 : Gh) (K : Km) (left : Int) (k : Nat) (w : World) (g : Gh) (cv : Value) : Prop where
 kin : KInM w g K cv
 inv : BInv g K
 own : Own w g.A (0, 6) 162 27 cv k (coresL left k)
 le : lo <= w.heap.size
 bel : Below lo w00 w
 free : ∀ b, b < lo -> g.A b = none
 kb : g.kb = g0.kb
 box : Blk w bx.1 bx.2.1 bx.2.2 /\ g.A bx.1 = none
theorem info_core : (Tryz.prog.info? 162).map (fun i => (i.zero, i.size, i.bytes)) = some (some (.agg (coreL 0).toArray), 27, 216) := by kernel_rfl
theorem bytes_of {w : World} {a : Option Addr} {c : Nat} {d : List UInt8} (h : DataIn w (.slice a d.length c) d) : BytesIn w a d.length (dataF d) := by
 by_cases h0 : d.length = 0
 ·exact .inl h0
 ·obtain ⟨b, rfl, -, hc⟩ := RowAt.cells h (by omega)
  refine .inr ⟨b, 0, rfl, fun j hj => ?_⟩;rw [Nat.zero_add];refine hc j _ ?_;rw [List.getElem?_map];unfold dataF;rw [if_pos hj];simp [List.getD, hj, byteV]
theorem dataF_bd (d : List UInt8) (j : Nat) : 0 <= dataF d j /\ dataF d j <= 255 := by
 unfold dataF;split
 ·have := (d.getD j 0).toNat_lt
  omega
 ·omega
theorem boot_any (w00 w : World) (lo : Nat) (g : Gh) (K0 K1 K2 : Km) (c : WCfg) (cv mv : Value) (mf : List Int) (hst : BootSt w00 lo [] w g K0 mv [1]) (hlo : lo = w00.heap.size) (hc : CfgIn w00 cv c)
  (h1 : bootAll K0 [1] c.objs = some (K1, mf)) (h2 : fillAll K1 mf c.cores 0 c.objs = some K2) (h3 : c.slots.all (fun s => decide (0 <= s.1 /\ s.1 < (mf.length : Int))) = true) (h64 : c.objs.length <= 64) (h8 : 1 <= c.slots.length /\ c.slots.length <= 8) (hcr : 1 <= c.cores /\ c.cores <= 4) (hK0 : K0.slots = [] /\ K0.devs = []) (hsl : ∀ s ∈ c.slots, 1 <= s.2 /\ s.2 <= 16) :
  Calls Tryz.prog 39 #[.pointer (some ⟨g.kb, 0, none⟩), cv, mv] w fun e w' => e = .returned (.tuple #[.pointer (some ⟨g.kb, 0, none⟩), .int .i64 0]) /\ Below lo w00 w' /\ ∃ g', KIn w' g' (startK K2 c mf) /\ Inv g' (startK K2 c mf) /\ g'.kb = g.kb /\ ∀ b, b < lo -> g'.A b = none := by
 obtain ⟨sv, ov, rfl, hs, ho⟩ := hc;obtain ⟨sa, sc, rfl, -, -⟩ := RowAt.form hs;obtain ⟨oa, oc, rfl, ho1, ho2⟩ := ho.form;obtain ⟨ma, mc, rfl, -, -⟩ := RowAt.form (RowAt.own hst.row);have HSl := Lib.hid hs; have HOb := Lib.hid ho;have H2 := Lib.hid h2; have H3 := Lib.hid h3; have HS := Lib.hid hsl; have HLo := Lib.hid hlo;obtain ⟨cb, hcb⟩ : ∃ cb, cb = w.heap.size := ⟨_, rfl⟩
 have HB0 : Hid (Boot1 w00 lo (cb, #[.int .i64 c.cores, .int .i64 c.frames, .int .i64 c.names, .slice sa c.slots.length sc, .slice oa c.objs.length oc], 81) g c.objs K1 mf 0 (.slice ma 1 mc) (w.alloc (.cells #[.int .i64 c.cores, .int .i64 c.frames, .int .i64 c.names, .slice sa c.slots.length sc, .slice oa c.objs.length oc] 81))) := by
  rw [hcb];exact ⟨g, K0, [1], hst.addBox _ _, by rw [List.drop_zero]; exact h1, hK0.1, rfl, rfl, by rw [hK0.2]; exact Nat.le_refl _⟩
 clear hst hs ho h1 h2 h3 hsl hK0 hlo;go_enter Tryz.func39, Tryz.ntmps39
 go_wp2_with fail
 rw [<- hcb];clear hcb;go_loopw [2, 20] (fun m i wx => ∃ k : Nat, k <= c.objs.length /\ i = .int .i64 k /\ Hid (Boot1 w00 lo (cb, #[.int .i64 c.cores, .int .i64 c.frames, .int .i64 c.names, .slice sa c.slots.length sc, .slice oa c.objs.length oc], 81) g c.objs K1 mf k m wx)) (fun _ i _ => c.objs.length - (intOf i).toNat)
 case atStart => exact ⟨0, Nat.zero_le _, rfl, HB0⟩
 case round =>
  obtain ⟨k, hkl, rfl, HI⟩ := hrel;by_cases hlt : k < c.objs.length
  ·obtain ⟨g1, K, made, hS, hB, hsl, hkb, hml, hdv⟩ := HI.out
   have Hdv := Lib.hid hdv; clear hdv;obtain ⟨o, ho⟩ : ∃ o, c.objs[k]? = some o := ⟨c.objs[k], by simp [hlt]⟩
   have hdr : c.objs.drop k = o :: c.objs.drop (k + 1) := by
    obtain ⟨e1, e2⟩ := List.getElem?_eq_some_iff.1 ho;rw [<- e2]; exact List.drop_eq_getElem_cons hlt
   rw [hdr] at hB;obtain ⟨K', made', hone, hrest⟩ := bootAll_cons hB;obtain ⟨hok, hm, Kp, x, hh, hhk, hpl, rfl, rfl⟩ := bootOne_spec hone;obtain ⟨ra, rc, rfl, hr1, hr2⟩ := RowAt.form (RowAt.own hS.row);obtain ⟨b, s, rfl, hbl, hV0, hcell0⟩ := HOb.out.at ho;have hcell := fun j hj => (hS.bel.cell (p := ⟨b, k * 12 + j, none⟩) (by rw [HLo.out]; exact hbl)).trans (hcell0 j hj)
   obtain ⟨la, lc, hls, hl1, hl2⟩ := RowAt.form hV0.lab;obtain ⟨ca, cc, hlc, hc1', hc2'⟩ := RowAt.form hV0.clr;obtain ⟨da, dc, hvd, hd1, hd2⟩ := RowAt.form hV0.data;obtain ⟨mma, mmc, hvm, hm1, hm2⟩ := RowAt.form hV0.maps;have q0 : wr.cell? ⟨b, k * 12, none⟩ = some (.int .i64 o.kind) := by have := hcell 0 (by omega); rw [Nat.add_zero] at this; rw [this]; rfl
   have q1 : wr.cell? ⟨b, k * 12 + 1, none⟩ = some (.int .i64 o.parent) := by rw [hcell 1 (by omega)]; rfl
   have q2 : wr.cell? ⟨b, k * 12 + 2, none⟩ = some (.int .i64 (o.lab.d : Nat)) := by rw [hcell 2 (by omega)]; rfl
   have q3 : wr.cell? ⟨b, k * 12 + 3, none⟩ = some (.slice la o.lab.ps.length lc) := by rw [hcell 3 (by omega), <- hls]; rfl
   have q4 : wr.cell? ⟨b, k * 12 + 4, none⟩ = some (.int .i64 (o.clr.d : Nat)) := by rw [hcell 4 (by omega)]; rfl
   have q5 : wr.cell? ⟨b, k * 12 + 5, none⟩ = some (.slice ca o.clr.ps.length cc) := by rw [hcell 5 (by omega), <- hlc]; rfl
   have q6 : wr.cell? ⟨b, k * 12 + 6, none⟩ = some (.int .i64 o.pages) := by rw [hcell 6 (by omega)]; rfl
   have q7 : wr.cell? ⟨b, k * 12 + 7, none⟩ = some (.int .i64 o.names) := by rw [hcell 7 (by omega)]; rfl
   have q8 : wr.cell? ⟨b, k * 12 + 8, none⟩ = some (.slice da o.data.length dc) := by rw [hcell 8 (by omega), <- hvd]; rfl
   have q9 : wr.cell? ⟨b, k * 12 + 9, none⟩ = some (.slice mma o.maps.length mmc) := by rw [hcell 9 (by omega), <- hvm]; rfl
   have q10 : wr.cell? ⟨b, k * 12 + 10, none⟩ = some (.int .i64 o.space) := by rw [hcell 10 (by omega)]; rfl
   have q11 : wr.cell? ⟨b, k * 12 + 11, none⟩ = some (.int .i64 o.pc) := by rw [hcell 11 (by omega)]; rfl
   rw [hls] at hV0; rw [hlc] at hV0; rw [hvd] at hV0; rw [hvm] at hV0;have hV := hV0.below hS.bel (by rw [HLo.out]; exact Nat.le_refl _);have HV0 := Lib.hid hV0;have HOK := hok;unfold bootOk at HOK;simp only [Bool.and_eq_true, decide_eq_true_eq] at HOK;obtain ⟨pn, hpn⟩ : ∃ pn : Nat, o.parent = (pn : Int) := ⟨o.parent.toNat, by omega⟩;have hpnl : pn < made.length := by omega
   obtain ⟨mg, rfl, hmlt, hmc⟩ := RowAt.cells (RowAt.own hS.row) (by omega);have hgd : made.getD o.parent.toNat 0 = made.getD pn 0 := by rw [hpn]; rfl
   obtain ⟨hn, hhn⟩ : ∃ hn, hn = made.getD pn 0 := ⟨_, rfl⟩;have hmp : wr.cell? ⟨mg, pn, none⟩ = some (.int .u64 hn) := by rw [hhn]; exact hmc pn _ (by rw [List.getElem?_map]; simp [List.getD, hpnl])
   rw [hgd, <- hhn] at hh;have hhnm := hS.inv.inv.name _ _ hh;have hSb := hS.addBox #[.int .i64 o.kind, .int .i64 (pn : Int), .int .i64 (o.lab.d : Nat), .slice la o.lab.ps.length lc, .int .i64 (o.clr.d : Nat), .slice ca o.clr.ps.length cc, .int .i64 o.pages, .int .i64 o.names, .slice da o.data.length dc, .slice mma o.maps.length mmc, .int .i64 o.space, .int .i64 o.pc] 120;have hkc := hSb.kin.kcell.1;rw [hkb] at hkc;have HSb := Lib.hid hSb; have HV := Lib.hid hV; have Hhh := Lib.hid hh; have Hpl := Lib.hid hpl; have Hrest := Lib.hid hrest; have Hkb := Lib.hid hkb; have Hsl := Lib.hid hsl; have Hho := Lib.hid ho; have Hok := Lib.hid hok; have Hhn := Lib.hid hhnm; have Hml := Lib.hid hml;clear hS hSb hV hV0 hcell0 hh hpl hrest hkb hsl ho hok hhnm HOK hcell hmc hgd hhn hls hlc hvd hvm hone hB hdr;rw [hpn] at q1;have hpn2 : (pn : Int) < made.length := by omega
   have Hpn := Lib.hid hpn;clear hml hpn;go_wp2_with fail
   obtain ⟨wb, hwb⟩ : ∃ wb, wb = wr.alloc (.cells #[.int .i64 o.kind, .int .i64 (pn : Int), .int .i64 (o.lab.d : Nat), .slice la o.lab.ps.length lc, .int .i64 (o.clr.d : Nat), .slice ca o.clr.ps.length cc, .int .i64 o.pages, .int .i64 o.names, .slice da o.data.length dc, .slice mma o.maps.length mmc, .int .i64 o.space, .int .i64 o.pc] 120) := ⟨_, rfl⟩;have hbb : Below wr.heap.size wr wb := by rw [hwb]; exact (Below.refl _ _).alloc (Nat.le_refl _) _
   rw [<- hwb] at HSb hkc ⊢;have hmp2 : wb.cell? ⟨mg, pn, none⟩ = some (.int .u64 hn) := by rw [<- hmp]; exact hbb.cell (p := ⟨mg, pn, none⟩) hmlt
   have hxb := (HSb.out.box _ List.mem_cons_self).1;have p0 : wb.cell? ⟨wr.heap.size, 0, none⟩ = some (.int .i64 o.kind) := (hxb.cell 0).trans rfl;have p1 : wb.cell? ⟨wr.heap.size, 1, none⟩ = some (.int .i64 (pn : Int)) := (hxb.cell 1).trans rfl;have p2 : wb.cell? ⟨wr.heap.size, 2, none⟩ = some (.int .i64 (o.lab.d : Nat)) := (hxb.cell 2).trans rfl;have p3 : wb.cell? ⟨wr.heap.size, 3, none⟩ = some (.slice la o.lab.ps.length lc) := (hxb.cell 3).trans rfl;have p6 : wb.cell? ⟨wr.heap.size, 6, none⟩ = some (.int .i64 o.pages) := (hxb.cell 6).trans rfl;have p7 : wb.cell? ⟨wr.heap.size, 7, none⟩ = some (.int .i64 o.names) := (hxb.cell 7).trans rfl;have HVb := Lib.hid (HV.out.below hbb (Nat.le_refl _))
   have Hget : Hid (∀ wz, wz = wb.drew -> Calls Tryz.prog 15 #[.pointer (some ⟨g1.tb, 0, none⟩), .int .u64 hn] wz fun e w' => ∃ v, e = .returned v /\ (v = .pointer (some ⟨g1.bl hn, 0, none⟩) /\ w' = wb.drew)) := fun wz ez => by
    rw [ez];refine (get_any _ g1 _ hn (HSb.out.kin.drew).tab).mono ?_;rintro e w' ⟨rfl, rfl⟩;exact ⟨_, rfl, obP_some Hhh.out, rfl⟩
   clear hxb hwb hbb hmp q0 q1 q2 q3 q4 q5 q6 q7 q8 q9 q10 q11;go_region_law (refine step_call (by rfl) (ex_call (vs := #[.pointer (some ⟨g1.tb, 0, none⟩), .int .u64 hn]) (by simp [Act.eval]) (enters_fn Tryz.func15 (by kernel_rfl) rfl)) (Hget.out _ (by first | rfl | exact drew_eq _)) ?_; rintro v w9 ⟨rfl, rfl⟩)
   all_goals
    clear hkc hmp2;go_wp2_with fail
    have hpc := place_boot wb.drew g1 K Kp hm x o (.agg #[.int .i64 (o.lab.d : Nat), .slice la o.lab.ps.length lc]) (HSb.out.kin.drew) HSb.out.inv.inv (by rw [Hhn.out]; exact Hhh.out) hhk ⟨_, rfl, RowAt.below HVb.out.lab ((Below.refl _ wb).drew) (Nat.le_refl _)⟩ Hok.out Hpl.out;rw [Hhn.out, Hkb.out] at hpc;refine hpc.mono ?_;clear hpc;rintro e w5 ⟨g5, rfl, k5, i5, e5, l5, t5⟩;have hpd := placed (by rw [Hhn.out]; exact Hhh.out) Hpl.out;have hb5 : BInv g5 Kp := HSb.out.inv.more i5 hpd.new (by rw [hpd.nc]; exact HSb.out.inv.nc) l5 t5 hpd.old;have hS5 := (HSb.out.below ((Below.refl _ wb).drew)).step k5 hb5 e5;have hkb5 : g5.kb = g.kb := e5.al.kb.trans Hkb.out;have hxn5 := k5.objs _ _ hpd.there;obtain ⟨s5, T5, hO5⟩ := k5.at hpd.there;have c2 : w5.cell? ⟨g5.bl x.name, 2, none⟩ = some (.int .u64 x.name) := hO5.name;have c2lt : g5.bl x.name < w5.heap.size := hO5.blk.lt;have p05 : w5.cell? ⟨wr.heap.size, 0, none⟩ = some (.int .i64 o.kind) := ((hS5.box _ List.mem_cons_self).1.cell 0).trans rfl;have plt : wr.heap.size < w5.heap.size := (hS5.box _ List.mem_cons_self).1.lt;obtain ⟨i0, hi0, hz0, hz1, hz2⟩ := info_parts info_u64;have Hi0 := Lib.hid hi0; have Hz0 := Lib.hid hz0; have Hz1 := Lib.hid hz1; have Hz2 := Lib.hid hz2;have Hrow : Hid (World.ownsRow (w5.alloc (.cells #[.int .u64 x.name] 37)) lo 37 1 (.slice (some ⟨mg, 0, none⟩) made.length rc) made.length (made.map (.int .u64))) := row_kept (T := fun _ => False) hS5.row ((Kept.refl _ _).alloc _) (fun _ _ q => q)
    have H1c : Hid (∀ u ∈ [Value.int .u64 x.name], u.oneCell' = true) := fun u hu => by simp at hu; subst hu; rfl
    have Hle : Hid (lo <= (w5.alloc (.cells #[.int .u64 x.name] 37)).heap.size) := by rw [World.size_alloc]; exact Nat.le_succ_of_le hS5.le
    have hm100 : made.length <= 100 := by have := Hml.out; omega
    have HS5 := Lib.hid hS5; have Hk5 := Lib.hid hkb5; have Hpd := Lib.hid hpd;clear hS5 hkb5 hpd hxn5 hO5 hb5 k5 i5 e5 l5 t5 hi0 hz0 hz1 hz2 p0 p1 p2 p3 p6 p7
    have Hmore : Hid (∀ g7 cap w7, World.ownsRow w7 lo 37 1 (.slice (some ⟨g7, 0, none⟩) (made.length + 1) cap) (made.length + 1) (made.map (.int .u64) ++ [.int .u64 x.name]) -> World.grownBy (w5.alloc (.cells #[.int .u64 x.name] 37)) w7 (Value.slice (some ⟨mg, 0, none⟩) made.length rc).ownBlock -> ((Value.slice (some ⟨mg, 0, none⟩) made.length rc).ownBlock = some g7 \/ g7 = (w5.alloc (.cells #[.int .u64 x.name] 37)).heap.size) -> BootSt w00 lo [(wr.heap.size, #[.int .i64 o.kind, .int .i64 (pn : Int), .int .i64 (o.lab.d : Nat), .slice la o.lab.ps.length lc, .int .i64 (o.clr.d : Nat), .slice ca o.clr.ps.length cc, .int .i64 o.pages, .int .i64 o.names, .slice da o.data.length dc, .slice mma o.maps.length mmc, .int .i64 o.space, .int .i64 o.pc], 120), (cb, #[.int .i64 c.cores, .int .i64 c.frames, .int .i64 c.names, .slice sa c.slots.length sc, .slice (some ⟨b, 0, none⟩) c.objs.length oc], 81)] w7 g5 Kp (.slice (some ⟨g7, 0, none⟩) (made.length + 1) cap) (made ++ [x.name])) := fun g7 cap w7 a1 a2 a3 =>
     (HS5.out.below ((Below.refl _ w5).alloc (Nat.le_refl _) _)).more a1 (kept_grown a2) (a3.imp id (fun e => Nat.le_of_eq e.symm))
    rcases (show o.kind = 2 \/ o.kind = 6 \/ (o.kind ≠ 2 /\ o.kind ≠ 6) by omega) with h2 | h6 | ⟨h2, h6⟩
    ·rw [h2] at p05
     go_wp2_with (at_builtin; refine wpList_append_lies _ rfl _ _ 46 rfl lo 37 i0 (.int .u64 0) 1 8 Tryz.underlying46 Hi0.out Hz0.out Hz1.out Hz2.out rfl (by decide) _ _ _ rfl Hrow.out ⟨w5.heap.size, 0, none⟩ 1 1 [.int .u64 x.name] rfl rfl (World.news_of_block (Blk.new w5 #[.int .u64 x.name] 37)) H1c.out (by omega) (by unfold maxLen; omega) (by omega) Hle.out _ rfl ?_; intro g7 cap w7 hown7 hgrow7 hg7 hlt7; have HS7 := Lib.hid (Hmore.out g7 cap w7 hown7 hgrow7 hg7); clear hown7 hgrow7 hg7 hlt7; have p07 : w7.cell? ⟨wr.heap.size, 0, none⟩ = some (.int .i64 2) := ((HS7.out.box _ List.mem_cons_self).1.cell 0).trans (by rw [<- h2]; rfl))
     have hkc7 := HS7.out.kin.kcell.2;rw [Hk5.out] at hkc7;have p87 : w7.cell? ⟨wr.heap.size, 8, none⟩ = some (.slice da o.data.length dc) := ((HS7.out.box _ List.mem_cons_self).1.cell 8).trans rfl;have hxk : x.kind = 2 := by rw [Hpd.out.kd, h2]
     obtain ⟨s7, T7, hO7⟩ := HS7.out.kin.at Hpd.out.there;have hsg := HS7.out.inv.inv.seg _ _ Hpd.out.there hxk;have hbyt : Hid (DataIn w7 (.slice da o.data.length dc) o.data) := RowAt.below HV0.out.data HS7.out.bel (by rw [HLo.out]; exact Nat.le_refl _);have hlen := hsg.len;have hseg := Lib.hid (show SegAt w7 (g5.bl x.name) 16 (obC x s7 (g5.mt x.name) T7) (g5.bl x.name + 1) s7.fr (g5.fr x.name) from ⟨hO7.blk, rfl, hO7.rows.frs, by omega, by rw [hlen]; exact hsg.p16⟩);have hlate := (HS7.out.kin.objs _ _ Hpd.out.there).2.late;have hpg : x.pages = o.pages.toNat := (Hpd.out.pages h2).trans (by rw [if_pos (.inr h2)])
     have hsw : segW (g5.fr x.name) ((0 : Nat) : Int) (o.data.length : Nat) = true := (segW_iff _ _ _).2 (by
      have h5 := Hok.out;unfold bootOk at h5;simp only [Bool.and_eq_true, Bool.or_eq_true, decide_eq_true_eq] at h5
      have h6 : 0 <= o.pages /\ o.pages <= 16 /\ (o.data.length : Int) <= o.pages * 64 := by
       rcases h5.2.2 with (((⟨k1, _⟩ | ⟨_, k2⟩) | k1) | k1) | k1
       ·omega
       ·exact k2
       ·omega
       ·omega
       ·omega
      unfold segS; rw [hlen, hpg]; omega)
     have Hwr : Hid (∀ wz, wz = w7.drew -> Calls Tryz.prog 64 #[.pointer (some ⟨g5.bl x.name, 16, none⟩), .pointer (some ⟨g5.pb, 0, none⟩), .int .i64 0, .slice da o.data.length dc] wz fun e w' => ∃ v, e = .returned v /\ (v = .bool true /\ ∃ P', PoolAt w' g5.pb g5.db g5.ob P' /\ SegPut g5.P P' (g5.fr x.name) 0 o.data.length (dataF o.data) /\ Kept (PS g5.pb g5.db g5.ob) w7 w')) := fun wz ez => by
      rw [ez];have hdr := (Below.refl w7.heap.size w7).drew;refine (swrite_yes (g5.bl x.name) 16 g5.pb g5.db g5.ob _ _ _ _ g5.P x.name 0 da o.data.length dc (dataF o.data) _ (hseg.out.below hdr) (HS7.out.kin.pool.below hdr) hsg.inn hsw (fun w' hk => bytes_of (DataIn.mild (RowAt.below hbyt.out hdr (Nat.le_refl _)) hk (ps_mild (HS7.out.kin.pool.below hdr)))) (dataF_bd o.data) (by omega) (by omega) ?_ ?_).mono ?_
      ·rintro (e | e | e) <;> omega
      ·intro c hc q
       have := (hseg.out.hv.lt c hc).1;rcases q with e | e | e <;> omega
      ·rintro e w' ⟨rfl, P', r1, r2, r3⟩
       exact ⟨_, rfl, rfl, P', r1, r2, (Kept.of_below (S := PS g5.pb g5.db g5.ob) hdr).trans r3⟩
     have Hsg := Lib.hid hsg;have Hpg := Lib.hid hpg;clear hO7 hsg hbyt hseg hsw hlen hpg hlate;go_wp2_with fail
     go_region_law (refine step_call (by rfl) (ex_call (vs := #[.pointer (some ⟨g5.bl x.name, 16, none⟩), .pointer (some ⟨g5.pb, 0, none⟩), .int .i64 0, .slice da o.data.length dc]) (by simp [Act.eval]) (enters_fn Tryz.func64 (by kernel_rfl) rfl)) (Hwr.out _ (by first | rfl | exact drew_eq _)) ?_; rintro v w9 ⟨rfl, P', hP9, hD9, hK9⟩)
     all_goals
      have p09 : w9.cell? ⟨wr.heap.size, 0, none⟩ = some (.int .i64 2) := by
       have e := (HS7.out.box _ List.mem_cons_self)
       have hn : ¬ PS g5.pb g5.db g5.ob wr.heap.size := fun q => by
        have h0 : g5.A wr.heap.size = none := e.2.1;rcases q with q | q | q
        ·rw [q, HS7.out.kin.tags.pb] at h0; cases h0
        ·rw [q, HS7.out.kin.tags.db] at h0; cases h0
        ·rw [q, HS7.out.kin.tags.ob] at h0; cases h0
       exact ((hK9.blk e.1 hn).cell 0).trans (by rw [<- h2]; rfl)
      have hkn := HS7.out.kin.setPool hK9 (ps_mild HS7.out.kin.pool) (fun b q _ => .inr q) hP9;obtain ⟨s9, T9, hO9⟩ := hkn.at Hpd.out.there;have hnm : x.name = x.name := rfl;obtain ⟨kk9, -⟩ := hkn.nums (o := x) (o' := { x with data := dataF o.data }) Hpd.out.there hO9 (Kept.refl _ _) hO9.blk ⟨rfl, rfl, rfl, rfl, rfl, rfl, rfl, rfl⟩ rfl rfl
      have hbi : BInv { g5 with P := P' } (Kp.set { x with data := dataF o.data }) := HS7.out.inv.set (o := x) Hpd.out.there rfl rfl (fun q => absurd (hxk.symm.trans q) (by decide)) (fun _ => ⟨hD9.segIn Hsg.out.inn, Hsg.out.len, Hsg.out.p16, fun j hj => by
        have hj' : j < x.pages * 64 := hj;have e1 := hD9.D j (by rw [Hsg.out.len]; exact hj');show dataF o.data j = segD P' (g5.fr x.name) j
        rw [e1];by_cases q : j < o.data.length
        ·rw [if_pos ⟨Nat.zero_le _, by omega⟩, Nat.sub_zero]
        ·rw [if_neg (by omega), <- Hsg.out.data j hj', Hpd.out.data]
         unfold dataF; rw [if_neg q]⟩) (segPut_mv hD9 Hsg.out.inn) hD9.left (fun n => ⟨rfl, rfl, rfl, rfl, rfl, rfl⟩) rfl (fun b n i e => .inl e)
      have hex : Ext g5 { g5 with P := P' } w7 w9 := Ext.wrote ⟨rfl, rfl, rfl, rfl, rfl, rfl, rfl, fun _ _ e => e⟩ hK9 (fun b q _ => by
       rcases q with q | q | q
       ·rw [q]; exact ⟨_, HS7.out.kin.tags.pb⟩
       ·rw [q]; exact ⟨_, HS7.out.kin.tags.db⟩
       ·rw [q]; exact ⟨_, HS7.out.kin.tags.ob⟩) (fun _ _ e => e) (fun _ _ => ⟨rfl, rfl⟩)
      have HS9 := HS7.out.step kk9 hbi hex
      have HF : Hid (Boot1 w00 lo (cb, #[.int .i64 c.cores, .int .i64 c.frames, .int .i64 c.names, .slice sa c.slots.length sc, .slice (some ⟨b, 0, none⟩) c.objs.length oc], 81) g c.objs K1 mf (k + 1) (.slice (some ⟨g7, 0, none⟩) (made.length + 1) cap) w9) := by
       refine ⟨_, _, made ++ [x.name], HS9.drop0, ?_, (show Kp.slots = [] by rw [Hpd.out.slots]; exact Hsl.out), Hk5.out, by rw [List.length_append, Hml.out]; rfl, by show Kp.devs.length <= k + 1; rw [Hpd.out.devs]; have := Hdv.out; omega⟩;have := Hrest.out;rw [if_pos h2] at this;exact this
      clear hkc7 p87 hP9 hD9 hK9 hkn hO9 kk9 hbi hex HS9;go_wp2_with fail
      go_roundw
      case rel => exact ⟨k + 1, by omega, by go_num, HF⟩
      case measure => simp [intOf]; omega
    ·have b2 : (o.kind == 2) = false := by rw [h6]; rfl
     rw [h6] at p05;go_wp2_with (at_builtin; refine wpList_append_lies _ rfl _ _ 46 rfl lo 37 i0 (.int .u64 0) 1 8 Tryz.underlying46 Hi0.out Hz0.out Hz1.out Hz2.out rfl (by decide) _ _ _ rfl Hrow.out ⟨w5.heap.size, 0, none⟩ 1 1 [.int .u64 x.name] rfl rfl (World.news_of_block (Blk.new w5 #[.int .u64 x.name] 37)) H1c.out (by omega) (by unfold maxLen; omega) (by omega) Hle.out _ rfl ?_; intro g7 cap w7 hown7 hgrow7 hg7 hlt7; have HS7 := Lib.hid (Hmore.out g7 cap w7 hown7 hgrow7 hg7); clear hown7 hgrow7 hg7 hlt7; have p07 : w7.cell? ⟨wr.heap.size, 0, none⟩ = some (.int .i64 6) := ((HS7.out.box _ List.mem_cons_self).1.cell 0).trans (by rw [<- h6]; rfl))
     obtain ⟨kcv, ksv, kdv, kv1, kv2, kv3, kv4⟩ := HS7.out.kin.kern.ex;obtain ⟨dva, dvc, rfl, -, -⟩ := Own.form kv4;rw [Hk5.out] at kv2;have hk4 : w7.cell? ⟨g.kb, 4, none⟩ = some (.slice dva Kp.devs.length dvc) := (kv2.cell 4).trans rfl;have hk4a : (w7.alloc (.cells #[.int .u64 x.name] 37)).cell? ⟨g.kb, 4, none⟩ = some (.slice dva Kp.devs.length dvc) := ((kv2.alloc _).cell 4).trans rfl;have hkf : w7.frozen? ⟨g.kb, 4, none⟩ = false := kv2.free 4;have hklt := kv2.lt;obtain ⟨s7, T7, hO7⟩ := HS7.out.kin.at Hpd.out.there;have c27 : w7.cell? ⟨g5.bl x.name, 2, none⟩ = some (.int .u64 x.name) := hO7.name;have c27lt := hO7.blk.lt;have hdl : Kp.devs.length <= 100 := by rw [Hpd.out.devs]; have := Hdv.out; have := Hml.out; omega
     have Hrow2 : Hid (World.ownsRow (w7.alloc (.cells #[.int .u64 x.name] 37)).drew 0 37 1 (.slice dva Kp.devs.length dvc) Kp.devs.length (Kp.devs.map (.int .u64))) := row_kept (T := fun _ => False) kv4.row ((Kept.refl _ _).alloc _).drew (fun _ _ q => q)
     have Hblk2 : Hid (∀ w8, World.grownBy (w7.alloc (.cells #[.int .u64 x.name] 37)).drew w8 (Value.slice dva Kp.devs.length dvc).ownBlock -> Blk w8 g.kb (kernC g5 kcv ksv (.slice dva Kp.devs.length dvc) Kp.done) 88) := fun w8 hg => (kept_grown hg).blk ((kv2.alloc _).drew) (fun e => by
      have e1 := kv4.tag _ e;have e2 := HS7.out.kin.tags.kb;rw [Hk5.out] at e2;rw [e1] at e2; cases e2)
     have HKv := Lib.hid (And.intro kv1 (And.intro kv2 (And.intro kv3 kv4)));clear kv1 kv2 kv3 kv4 hO7;go_wp2_with fail
     go_region_law (first
      | (refine step_append_lies _ (by rfl) (.tmp 78) (.tmp 83) 46 (by rfl) 0 37 i0 _ 1 8 Tryz.underlying46 Hi0.out Hz0.out Hz1.out Hz2.out rfl (by decide) (.slice dva Kp.devs.length dvc) Kp.devs.length (Kp.devs.map (.int .u64)) (by simp [Act.eval]) Hrow2.out ⟨w7.heap.size, 0, none⟩ 1 1 [.int .u64 x.name] (by simp [Act.eval]) rfl (World.news_of_block (Blk.new w7 #[.int .u64 x.name] 37).drew) H1c.out (by omega) (by unfold maxLen; omega) (by omega) (by simp) _ rfl ?_; intro g8 cap8 w8 hown8 hgrow8 hg8 hlt8; have hB8 := Hblk2.out w8 hgrow8; have j4 : w8.cell? ⟨g.kb, 4, none⟩ = some (.slice dva Kp.devs.length dvc) := (hB8.cell 4).trans rfl
         have k4 : w8.frozen? ⟨g.kb, 4, none⟩ = false := hB8.free 4))
     all_goals
      clear j4 k4 hB8
      have hg9 : (Value.slice dva Kp.devs.length dvc).ownBlock = some g8 \/ w7.heap.size <= g8 := by
       rcases hg8 with e | e
       ·exact .inl e
       ·right; rw [e]; simp
      obtain ⟨f1, f2⟩ := HS7.out.kin.putDevs HKv.out.1 (by rw [Hk5.out]; exact HKv.out.2.1) HKv.out.2.2.1 HKv.out.2.2.2 (((Kept.refl _ w7).alloc _).drew.trans (kept_grown hgrow8)) hown8 hg9 hlt8;rw [Hk5.out] at f1 f2;have hbi : BInv (g5.own g8 (0, 8)) { Kp with devs := Kp.devs ++ [x.name] } := HS7.out.inv.own g8 (0, 8) rfl (Kp.devs ++ [x.name]);have HS9 := HS7.out.step f1 hbi f2
      have HF : Hid (Boot1 w00 lo (cb, #[.int .i64 c.cores, .int .i64 c.frames, .int .i64 c.names, .slice sa c.slots.length sc, .slice (some ⟨b, 0, none⟩) c.objs.length oc], 81) g c.objs K1 mf (k + 1) (.slice (some ⟨g7, 0, none⟩) (made.length + 1) cap) (w8.setCell ⟨g.kb, 4, none⟩ (.slice (some ⟨g8, 0, none⟩) (Kp.devs.length + 1) cap8))) := by
       refine ⟨_, _, made ++ [x.name], HS9.drop0, ?_, (show Kp.slots = [] by rw [Hpd.out.slots]; exact Hsl.out), Hk5.out, by rw [List.length_append, Hml.out]; rfl, ?_⟩
       ·have := Hrest.out
        rw [if_neg (by omega), if_pos h6] at this;exact this
       ·show (Kp.devs ++ [x.name]).length <= k + 1
        rw [List.length_append, Hpd.out.devs];have := Hdv.out;show K.devs.length + 1 <= k + 1
        omega
      clear hown8 hgrow8 hg8 hlt8 hg9 f1 f2 hbi HS9;go_wp2_with fail
      go_roundw
      case rel => exact ⟨k + 1, by omega, by go_num, HF⟩
      case measure => simp [intOf]; omega
    ·have b2 : (o.kind == 2) = false := by simpa using h2
     have b6 : (o.kind == 6) = false := by simpa using h6
     go_wp2_with (at_builtin; refine wpList_append_lies _ rfl _ _ 46 rfl lo 37 i0 (.int .u64 0) 1 8 Tryz.underlying46 Hi0.out Hz0.out Hz1.out Hz2.out rfl (by decide) _ _ _ rfl Hrow.out ⟨w5.heap.size, 0, none⟩ 1 1 [.int .u64 x.name] rfl rfl (World.news_of_block (Blk.new w5 #[.int .u64 x.name] 37)) H1c.out (by omega) (by unfold maxLen; omega) (by omega) Hle.out _ rfl ?_; intro g7 cap w7 hown7 hgrow7 hg7 hlt7; have HS7 := Lib.hid (Hmore.out g7 cap w7 hown7 hgrow7 hg7); clear hown7 hgrow7 hg7 hlt7; have p07 : w7.cell? ⟨wr.heap.size, 0, none⟩ = some (.int .i64 o.kind) := ((HS7.out.box _ List.mem_cons_self).1.cell 0).trans (by rfl))
     have HF : Hid (Boot1 w00 lo (cb, #[.int .i64 c.cores, .int .i64 c.frames, .int .i64 c.names, .slice sa c.slots.length sc, .slice (some ⟨b, 0, none⟩) c.objs.length oc], 81) g c.objs K1 mf (k + 1) (.slice (some ⟨g7, 0, none⟩) (made.length + 1) cap) w7) := by
      refine ⟨g5, Kp, made ++ [x.name], HS7.out.drop0, ?_, by rw [Hpd.out.slots]; exact Hsl.out, Hk5.out, by rw [List.length_append, Hml.out]; rfl, by rw [Hpd.out.devs]; have := Hdv.out; omega⟩;have := Hrest.out;rw [if_neg h2, if_neg h6] at this;exact this
     go_roundw
     case rel => exact ⟨k + 1, by omega, by go_num, HF⟩
     case measure => simp [intOf]; omega
  ·obtain rfl : k = c.objs.length := by omega
   obtain ⟨g1, K, made, hS, hB, hsl, hkb, hml, -⟩ := HI.out;rw [List.drop_length] at hB;have hB' : some (K, made) = some (K1, mf) := hB;simp only [Option.some.injEq, Prod.mk.injEq] at hB';obtain ⟨rfl, rfl⟩ := hB';obtain ⟨ra, rc, rfl, hr1, hr2⟩ := RowAt.form (RowAt.own hS.row);obtain ⟨mg, rfl, -, -⟩ := RowAt.cells (RowAt.own hS.row) (by omega);have hcfg := (hS.box _ List.mem_cons_self).1;have d4 : wr.cell? ⟨cb, 4, none⟩ = some (.slice oa c.objs.length oc) := (hcfg.cell 4).trans rfl;have HML := Lib.hid hml;have HB2 : Hid (Boot2 w00 lo (cb, #[.int .i64 c.cores, .int .i64 c.frames, .int .i64 c.names, .slice sa c.slots.length sc, .slice oa c.objs.length oc], 81) g c.objs c.cores K2 made (.slice (some ⟨mg, 0, none⟩) made.length rc) 0 wr) := ⟨g1, K, hS, by rw [List.drop_zero]; exact H2.out, hsl, hkb⟩;clear hS hB hsl hkb hml hcfg;go_wp2_with fail
   clear d4;go_loopw [91] (fun i wx => ∃ k : Nat, k <= c.objs.length /\ i = .int .i64 k /\ Hid (Boot2 w00 lo (cb, #[.int .i64 c.cores, .int .i64 c.frames, .int .i64 c.names, .slice sa c.slots.length sc, .slice oa c.objs.length oc], 81) g c.objs c.cores K2 made (.slice (some ⟨mg, 0, none⟩) made.length rc) k wx)) (fun i _ => c.objs.length - (intOf i).toNat)
   case atStart => exact ⟨0, Nat.zero_le _, rfl, HB2⟩
   case round =>
    obtain ⟨k, hkl, rfl, HI2⟩ := hrel;by_cases hlt2 : k < c.objs.length
    ·obtain ⟨g2, Kk, hS, hB, hsl, hkb⟩ := HI2.out
     obtain ⟨o, ho⟩ : ∃ o, c.objs[k]? = some o := ⟨c.objs[k], by simp [hlt2]⟩
     have hdr : c.objs.drop k = o :: c.objs.drop (k + 1) := by
      obtain ⟨e1, e2⟩ := List.getElem?_eq_some_iff.1 ho;rw [<- e2]; exact List.drop_eq_getElem_cons hlt2
     rw [hdr] at hB;obtain ⟨Kn, hone, hrest⟩ := fillAll_cons hB;obtain ⟨x, hx, hxk, hok, hKn⟩ := fillOne_spec hone;obtain ⟨b, s, rfl, hbl, hV0, hcell0⟩ := HOb.out.at ho;have hcell := fun j hj => (hS.bel.cell (p := ⟨b, k * 12 + j, none⟩) (by rw [HLo.out]; exact hbl)).trans (hcell0 j hj)
     obtain ⟨la, lc, hls, hl1, hl2⟩ := RowAt.form hV0.lab;obtain ⟨ca, cc, hlc, hc1', hc2'⟩ := RowAt.form hV0.clr;obtain ⟨da, dc, hvd, hd1, hd2⟩ := RowAt.form hV0.data;obtain ⟨mma, mmc, hvm, hm1, hm2⟩ := RowAt.form hV0.maps;have q0 : wr.cell? ⟨b, k * 12, none⟩ = some (.int .i64 o.kind) := by have := hcell 0 (by omega); rw [Nat.add_zero] at this; rw [this]; rfl
     have q1 : wr.cell? ⟨b, k * 12 + 1, none⟩ = some (.int .i64 o.parent) := by rw [hcell 1 (by omega)]; rfl
     have q2 : wr.cell? ⟨b, k * 12 + 2, none⟩ = some (.int .i64 (o.lab.d : Nat)) := by rw [hcell 2 (by omega)]; rfl
     have q3 : wr.cell? ⟨b, k * 12 + 3, none⟩ = some (.slice la o.lab.ps.length lc) := by rw [hcell 3 (by omega), <- hls]; rfl
     have q4 : wr.cell? ⟨b, k * 12 + 4, none⟩ = some (.int .i64 (o.clr.d : Nat)) := by rw [hcell 4 (by omega)]; rfl
     have q5 : wr.cell? ⟨b, k * 12 + 5, none⟩ = some (.slice ca o.clr.ps.length cc) := by rw [hcell 5 (by omega), <- hlc]; rfl
     have q6 : wr.cell? ⟨b, k * 12 + 6, none⟩ = some (.int .i64 o.pages) := by rw [hcell 6 (by omega)]; rfl
     have q7 : wr.cell? ⟨b, k * 12 + 7, none⟩ = some (.int .i64 o.names) := by rw [hcell 7 (by omega)]; rfl
     have q8 : wr.cell? ⟨b, k * 12 + 8, none⟩ = some (.slice da o.data.length dc) := by rw [hcell 8 (by omega), <- hvd]; rfl
     have q9 : wr.cell? ⟨b, k * 12 + 9, none⟩ = some (.slice mma o.maps.length mmc) := by rw [hcell 9 (by omega), <- hvm]; rfl
     have q10 : wr.cell? ⟨b, k * 12 + 10, none⟩ = some (.int .i64 o.space) := by rw [hcell 10 (by omega)]; rfl
     have q11 : wr.cell? ⟨b, k * 12 + 11, none⟩ = some (.int .i64 o.pc) := by rw [hcell 11 (by omega)]; rfl
     rw [hls] at hV0; rw [hlc] at hV0; rw [hvd] at hV0; rw [hvm] at hV0;have HV0 := Lib.hid hV0;obtain ⟨mg', he', hmlt, hmc⟩ := RowAt.cells (RowAt.own hS.row) (by have := HML.out; omega)
     cases he';have hkm : k + 1 < made.length := by have := HML.out; omega
     obtain ⟨hn, hhn⟩ : ∃ hn, hn = made.getD (k + 1) 0 := ⟨_, rfl⟩;have hmp : wr.cell? ⟨mg, k + 1, none⟩ = some (.int .u64 hn) := by rw [hhn]; exact hmc (k + 1) _ (by rw [List.getElem?_map]; simp [List.getD, hkm])
     rw [<- hhn] at hx;have hxnm := hS.inv.inv.name _ _ hx;have hSb := hS.addBox #[.int .i64 o.kind, .int .i64 o.parent, .int .i64 (o.lab.d : Nat), .slice la o.lab.ps.length lc, .int .i64 (o.clr.d : Nat), .slice ca o.clr.ps.length cc, .int .i64 o.pages, .int .i64 o.names, .slice da o.data.length dc, .slice mma o.maps.length mmc, .int .i64 o.space, .int .i64 o.pc] 120;have hkc := hSb.kin.kcell.1;rw [hkb] at hkc;have HSb := Lib.hid hSb; have Hhx := Lib.hid hx; have Hrest := Lib.hid hrest; have Hkb := Lib.hid hkb; have Hsl := Lib.hid hsl; have Hok := Lib.hid hok; have Hhn := Lib.hid hxnm; have Hxk := Lib.hid hxk; have HKn := Lib.hid hKn;clear hS hSb hV0 hcell0 hx hrest hkb hsl ho hok hxnm hxk hKn hcell hmc hhn hls hlc hvd hvm hone hB hdr;have hkm2 : ((k : Int) + 1) < made.length := by omega
     go_wp2_with fail
     obtain ⟨wb, hwb⟩ : ∃ wb, wb = wr.alloc (.cells #[.int .i64 o.kind, .int .i64 o.parent, .int .i64 (o.lab.d : Nat), .slice la o.lab.ps.length lc, .int .i64 (o.clr.d : Nat), .slice ca o.clr.ps.length cc, .int .i64 o.pages, .int .i64 o.names, .slice da o.data.length dc, .slice mma o.maps.length mmc, .int .i64 o.space, .int .i64 o.pc] 120) := ⟨_, rfl⟩;have hbb : Below wr.heap.size wr wb := by rw [hwb]; exact (Below.refl _ _).alloc (Nat.le_refl _) _
     rw [<- hwb] at HSb hkc ⊢;have hmp2 : wb.cell? ⟨mg, k + 1, none⟩ = some (.int .u64 hn) := by rw [<- hmp]; exact hbb.cell (p := ⟨mg, k + 1, none⟩) hmlt
     have hxb := (HSb.out.box _ List.mem_cons_self).1;have p0 : wb.cell? ⟨wr.heap.size, 0, none⟩ = some (.int .i64 o.kind) := (hxb.cell 0).trans rfl;have p1 : wb.cell? ⟨wr.heap.size, 1, none⟩ = some (.int .i64 o.parent) := (hxb.cell 1).trans rfl;have p2 : wb.cell? ⟨wr.heap.size, 2, none⟩ = some (.int .i64 (o.lab.d : Nat)) := (hxb.cell 2).trans rfl;have p3 : wb.cell? ⟨wr.heap.size, 3, none⟩ = some (.slice la o.lab.ps.length lc) := (hxb.cell 3).trans rfl;have p4 : wb.cell? ⟨wr.heap.size, 4, none⟩ = some (.int .i64 (o.clr.d : Nat)) := (hxb.cell 4).trans rfl;have p5 : wb.cell? ⟨wr.heap.size, 5, none⟩ = some (.slice ca o.clr.ps.length cc) := (hxb.cell 5).trans rfl;have p6 : wb.cell? ⟨wr.heap.size, 6, none⟩ = some (.int .i64 o.pages) := (hxb.cell 6).trans rfl;have p7 : wb.cell? ⟨wr.heap.size, 7, none⟩ = some (.int .i64 o.names) := (hxb.cell 7).trans rfl;have p8 : wb.cell? ⟨wr.heap.size, 8, none⟩ = some (.slice da o.data.length dc) := (hxb.cell 8).trans rfl;have p9 : wb.cell? ⟨wr.heap.size, 9, none⟩ = some (.slice mma o.maps.length mmc) := (hxb.cell 9).trans rfl;have p10 : wb.cell? ⟨wr.heap.size, 10, none⟩ = some (.int .i64 o.space) := (hxb.cell 10).trans rfl;have p11 : wb.cell? ⟨wr.heap.size, 11, none⟩ = some (.int .i64 o.pc) := (hxb.cell 11).trans rfl;have e0 : wb.cell? ⟨cb, 0, none⟩ = some (.int .i64 c.cores) := ((HSb.out.box _ (List.mem_cons_of_mem _ List.mem_cons_self)).1.cell 0).trans rfl
     have Hget : Hid (∀ wz, wz = wb.drew -> Calls Tryz.prog 15 #[.pointer (some ⟨g2.tb, 0, none⟩), .int .u64 hn] wz fun e w' => ∃ v, e = .returned v /\ (v = .pointer (some ⟨g2.bl hn, 0, none⟩) /\ w' = wb.drew)) := fun wz ez => by
      rw [ez];refine (get_any _ g2 _ hn (HSb.out.kin.drew).tab).mono ?_;rintro e w' ⟨rfl, rfl⟩;exact ⟨_, rfl, obP_some Hhx.out, rfl⟩
     have Hfill : Hid (∀ wz, wz = wb.drew -> Calls Tryz.prog 65 #[.pointer (some ⟨g.kb, 0, none⟩), .pointer (some ⟨g2.bl hn, 0, none⟩), .agg #[.int .i64 o.kind, .int .i64 o.parent, .int .i64 (o.lab.d : Nat), .slice la o.lab.ps.length lc, .int .i64 (o.clr.d : Nat), .slice ca o.clr.ps.length cc, .int .i64 o.pages, .int .i64 o.names, .slice da o.data.length dc, .slice mma o.maps.length mmc, .int .i64 o.space, .int .i64 o.pc], .slice (some ⟨mg, 0, none⟩) made.length rc, .int .i64 c.cores] wz fun e w' => ∃ v, e = .returned v /\ (v = .tuple #[] /\ ∃ g', BootSt w00 lo [(wr.heap.size, #[.int .i64 o.kind, .int .i64 o.parent, .int .i64 (o.lab.d : Nat), .slice la o.lab.ps.length lc, .int .i64 (o.clr.d : Nat), .slice ca o.clr.ps.length cc, .int .i64 o.pages, .int .i64 o.names, .slice da o.data.length dc, .slice mma o.maps.length mmc, .int .i64 o.space, .int .i64 o.pc], 120), (cb, #[.int .i64 c.cores, .int .i64 c.frames, .int .i64 c.names, .slice sa c.slots.length sc, .slice (some ⟨b, 0, none⟩) c.objs.length oc], 81)] w' g' Kn (.slice (some ⟨mg, 0, none⟩) made.length rc) made /\ g'.kb = g2.kb /\ Kn.slots = Kk.slots)) := fun wz ez => by
      rw [ez];have := fill_boot (HSb.out.below ((Below.refl _ wb).drew)) HLo.out HV0.out (x := x) (by rw [Hhn.out]; exact Hhx.out) Hxk.out hcr Hok.out (by have := HML.out; omega) HKn.out;rw [Hhn.out, Hkb.out] at this;refine this.mono ?_;rintro e w' ⟨rfl, g', h1, h2, h3⟩;exact ⟨_, rfl, rfl, g', h1, h2.trans Hkb.out.symm, h3⟩
     have s1 : IntKind.i64.wrap ((k : Int) + 1) = (k : Int) + 1 := IntWalk.i64_in _ (by omega);have s2 : (0 : Int) <= (k : Int) + 1 := by omega
     have s3 : ((k : Int) + 1).toNat = k + 1 := by omega
     clear hxb hwb hbb hmp q0 q1 q2 q3 q4 q5 q6 q7 q8 q9 q10 q11
     go_region_law (first
      | (refine step_call (by rfl) (ex_call (vs := #[.pointer (some ⟨g2.tb, 0, none⟩), .int .u64 hn]) (by simp [Act.eval]) (enters_fn Tryz.func15 (by kernel_rfl) rfl)) (Hget.out _ (by first | rfl | exact drew_eq _)) ?_; rintro v w9 ⟨rfl, rfl⟩)
      | (refine step_call (by rfl) (ex_call (vs := #[.pointer (some ⟨g.kb, 0, none⟩), .pointer (some ⟨g2.bl hn, 0, none⟩), .agg #[.int .i64 o.kind, .int .i64 o.parent, .int .i64 (o.lab.d : Nat), .slice la o.lab.ps.length lc, .int .i64 (o.clr.d : Nat), .slice ca o.clr.ps.length cc, .int .i64 o.pages, .int .i64 o.names, .slice da o.data.length dc, .slice mma o.maps.length mmc, .int .i64 o.space, .int .i64 o.pc], .slice (some ⟨mg, 0, none⟩) made.length rc, .int .i64 c.cores]) (by simp [Act.eval]) (enters_fn Tryz.func65 (by kernel_rfl) rfl)) (Hfill.out _ (by first | rfl | exact drew_eq _)) ?_; rintro v w9 ⟨rfl, g9, hS9, hk9, hs9⟩))
     all_goals
      have HF : Hid (Boot2 w00 lo (cb, #[.int .i64 c.cores, .int .i64 c.frames, .int .i64 c.names, .slice sa c.slots.length sc, .slice (some ⟨b, 0, none⟩) c.objs.length oc], 81) g c.objs c.cores K2 made (.slice (some ⟨mg, 0, none⟩) made.length rc) (k + 1) w9) := ⟨g9, Kn, hS9.drop0, Hrest.out, hs9.trans Hsl.out, hk9.trans Hkb.out⟩;clear hS9 hk9 hs9 hkc hmp2 s1 s2 s3;go_wp2_with fail
      go_roundw
      case rel => exact ⟨k + 1, by omega, by go_num, HF⟩
      case measure => simp [intOf]; omega
    ·obtain rfl : k = c.objs.length := by omega
     obtain ⟨g2, Kk, hS, hB, hsl, hkb⟩ := HI2.out;rw [List.drop_length] at hB;have hB' : some Kk = some K2 := hB;simp only [Option.some.injEq] at hB';subst hB';have hcfg := (hS.box _ List.mem_cons_self).1;have d3 : wr.cell? ⟨cb, 3, none⟩ = some (.slice sa c.slots.length sc) := (hcfg.cell 3).trans rfl
     have HB3 : Hid (Boot3 w00 lo (cb, #[.int .i64 c.cores, .int .i64 c.frames, .int .i64 c.names, .slice sa c.slots.length sc, .slice oa c.objs.length oc], 81) g c.slots Kk made (.slice (some ⟨mg, 0, none⟩) made.length rc) 0 wr) := ⟨g2, by
      have e : ({ Kk with slots := (c.slots.take 0).map fun s => (made.getD s.1.toNat 0, s.2) } : Km) = Kk := by
       obtain ⟨n1, n2, n3, n4, n5, n6, n7⟩ := Kk;have hsl' : n3 = [] := hsl;subst hsl';rfl
      rw [e]; exact hS, hkb⟩
     clear hS hB hsl hkb hcfg;go_wp2_with fail
     clear d3;go_loopw [116] (fun i wx => ∃ k : Nat, k <= c.slots.length /\ i = .int .i64 k /\ Hid (Boot3 w00 lo (cb, #[.int .i64 c.cores, .int .i64 c.frames, .int .i64 c.names, .slice sa c.slots.length sc, .slice oa c.objs.length oc], 81) g c.slots Kk made (.slice (some ⟨mg, 0, none⟩) made.length rc) k wx)) (fun i _ => c.slots.length - (intOf i).toNat)
     case atStart => exact ⟨0, Nat.zero_le _, rfl, HB3⟩
     case round =>
      obtain ⟨k, hkl, rfl, HI3⟩ := hrel;by_cases hlt3 : k < c.slots.length
      ·obtain ⟨g2, hS, hkb⟩ := HI3.out
       obtain ⟨L, hL⟩ : ∃ L : List (Int × Int), L = (c.slots.take k).map fun s => (made.getD s.1.toNat 0, s.2) := ⟨_, rfl⟩
       rw [<- hL] at hS;have hLl : L.length = k := by rw [hL, List.length_map, List.length_take]; omega
       have HL := Lib.hid hL;clear hL;have hslr := RowAt.below HSl.out hS.bel (by rw [HLo.out]; exact Nat.le_refl _);obtain ⟨sb, rfl, hsblt, hsbc⟩ := RowAt.cells hslr (by omega);obtain ⟨sl, hsl⟩ : ∃ sl, c.slots[k]? = some sl := ⟨c.slots[k], by simp [hlt3]⟩;have hflat := fun i (hi : i < 2) => flat_at slotV 2 (fun _ => rfl) c.slots k sl hsl i hi
       have q0 : wr.cell? ⟨sb, k * 2, none⟩ = some (.int .u64 sl.1) := hsbc (k * 2) _ (by have := hflat 0 (by omega); rw [Nat.add_zero] at this; rw [this]; rfl);have q1 : wr.cell? ⟨sb, k * 2 + 1, none⟩ = some (.int .i64 sl.2) := hsbc _ _ (by rw [hflat 1 (by omega)]; rfl);have hall := H3.out;simp only [List.all_eq_true, decide_eq_true_eq] at hall;obtain ⟨sg1, sg2⟩ := hall sl (List.mem_of_getElem? hsl);have sg3 := HS.out sl (List.mem_of_getElem? hsl);obtain ⟨sn, hsn⟩ : ∃ sn : Nat, sl.1 = (sn : Int) := ⟨sl.1.toNat, by omega⟩;have hsnl : sn < made.length := by omega
       obtain ⟨mg', he', hmlt, hmc⟩ := RowAt.cells (RowAt.own hS.row) (by omega)
       cases he';obtain ⟨gv, hgv⟩ : ∃ gv, gv = made.getD sn 0 := ⟨_, rfl⟩;have hms : wr.cell? ⟨mg, sn, none⟩ = some (.int .u64 gv) := by rw [hgv]; exact hmc sn _ (by rw [List.getElem?_map]; simp [List.getD, hsnl])
       rw [hsn] at q0;have hsn2 : (sn : Int) < made.length := by omega
       have hxe : (made.getD sl.1.toNat 0, sl.2) = (gv, sl.2) := by rw [hsn, hgv]; rfl
       have Hxe := Lib.hid hxe;obtain ⟨sv2, hsv2⟩ : ∃ sv2, sl.2 = sv2 := ⟨_, rfl⟩;rw [hsv2] at q1 sg3;have hSb := hS.addBox #[.int .u64 (sn : Int), .int .i64 sv2] 127;have Hsl := Lib.hid hsl; have Hsv := Lib.hid hsv2; have Hkb := Lib.hid hkb; have HSb := Lib.hid hSb;obtain ⟨wb, hwb⟩ : ∃ wb, wb = wr.alloc (.cells #[.int .u64 (sn : Int), .int .i64 sv2] 127) := ⟨_, rfl⟩;have hbb : Below wr.heap.size wr wb := by rw [hwb]; exact (Below.refl _ _).alloc (Nat.le_refl _) _
       clear hS hSb hslr hsbc hflat hall hmc hgv hxe hsl hsv2 hkb hsn sg1 sg2;go_wp2_with fail
       rw [<- hwb] at HSb ⊢;have hms2 : wb.cell? ⟨mg, sn, none⟩ = some (.int .u64 gv) := by rw [<- hms]; exact hbb.cell (p := ⟨mg, sn, none⟩) hmlt
       have hxb := (HSb.out.box _ List.mem_cons_self).1;have p0 : wb.cell? ⟨wr.heap.size, 0, none⟩ = some (.int .u64 (sn : Int)) := (hxb.cell 0).trans rfl;have p1 : wb.cell? ⟨wr.heap.size, 1, none⟩ = some (.int .i64 sv2) := (hxb.cell 1).trans rfl;have hmlt2 : mg < wb.heap.size := Nat.lt_of_lt_of_le hmlt hbb.size;have hxlt := hxb.lt;obtain ⟨kcv, ksv, kdv, kv1, kv2, kv3, kv4⟩ := HSb.out.kin.kern.ex;obtain ⟨dva, dvc, rfl, -, -⟩ := Own.form kv3;rw [Hkb.out] at kv2;have kv2' := kv2;have hk3 : wb.cell? ⟨g.kb, 3, none⟩ = some (.slice dva L.length dvc) := (kv2.cell 3).trans rfl;have hk3a : (wb.alloc (.cells #[.int .u64 gv, .int .i64 sv2] 127)).cell? ⟨g.kb, 3, none⟩ = some (.slice dva L.length dvc) := ((kv2.alloc _).cell 3).trans rfl;have hklt := kv2.lt;obtain ⟨i0, hi0, hz0, hz1, hz2⟩ := info_parts info_slot3;have Hi0 := Lib.hid hi0; have Hz0 := Lib.hid hz0; have Hz1 := Lib.hid hz1; have Hz2 := Lib.hid hz2;have Hrow2 : Hid (World.ownsRow (wb.alloc (.cells #[.int .u64 gv, .int .i64 sv2] 127)).drew 0 127 2 (.slice dva L.length dvc) L.length (L.flatMap slotV)) := row_kept (T := fun _ => False) kv3.row ((Kept.refl _ _).alloc _).drew (fun _ _ q => q)
       have H1c : Hid (∀ u ∈ [Value.int .u64 gv, .int .i64 sv2], u.oneCell' = true) := fun u hu => by
        simp at hu;rcases hu with rfl | rfl <;> rfl
       have Hblk2 : Hid (∀ w8, World.grownBy (wb.alloc (.cells #[.int .u64 gv, .int .i64 sv2] 127)).drew w8 (Value.slice dva L.length dvc).ownBlock -> Blk w8 g.kb (kernC g2 kcv (.slice dva L.length dvc) kdv Kk.done) 88) := fun w8 hg => (kept_grown hg).blk ((kv2.alloc _).drew) (fun e => by
        have e1 := kv3.tag _ e;have e2 := HSb.out.kin.tags.kb;rw [Hkb.out] at e2;rw [e1] at e2; cases e2)
       have HKv := Lib.hid (And.intro kv1 (And.intro kv2 (And.intro kv3 kv4)));have hl8 : L.length < 8 := by omega
       have HLl := Lib.hid hLl;clear kv1 kv2 kv2' kv3 kv4 hxb hwb hbb hms q0 q1 hi0 hz0 hz1 hz2 hLl
       go_region_law (first
        | (refine step_append_lies _ (by rfl) (.tmp 124) (.tmp 133) 78 (by rfl) 0 127 i0 _ 2 16 Tryz.underlying78 Hi0.out Hz0.out Hz1.out Hz2.out rfl (by decide) (.slice dva L.length dvc) L.length (L.flatMap slotV) (by simp [Act.eval]) Hrow2.out ⟨wb.heap.size, 0, none⟩ 1 1 [.int .u64 gv, .int .i64 sv2] (by simp [Act.eval]) rfl (World.news_of_block (Blk.new wb #[.int .u64 gv, .int .i64 sv2] 127).drew) H1c.out (by omega) (by unfold maxLen; omega) (by omega) (by simp) _ rfl ?_; intro g8 cap8 w8 hown8 hgrow8 hg8 hlt8; have hB8 := Hblk2.out w8 hgrow8; have j3 : w8.cell? ⟨g.kb, 3, none⟩ = some (.slice dva L.length dvc) := (hB8.cell 3).trans rfl
           have k3 : w8.frozen? ⟨g.kb, 3, none⟩ = false := hB8.free 3))
       all_goals
        clear j3 k3 hB8
        have hg9 : (Value.slice dva L.length dvc).ownBlock = some g8 \/ wb.heap.size <= g8 := by
         rcases hg8 with e | e
         ·exact .inl e
         ·right; rw [e]; simp
        obtain ⟨f1, f2⟩ := HSb.out.kin.putSlots HSb.out.inv.nc (x := (gv, sv2)) HKv.out.1 (by rw [Hkb.out]; exact HKv.out.2.1) HKv.out.2.2.1 HKv.out.2.2.2 (((Kept.refl _ wb).alloc _).drew.trans (kept_grown hgrow8)) hown8 hg9 hlt8 sg3 hl8;rw [Hkb.out] at f1 f2;have hbi : BInv (g2.own g8 (0, 7)) { Kk with slots := L ++ [(gv, sv2)] } := (HSb.out.inv.own g8 (0, 7) rfl Kk.devs).slots (L ++ [(gv, sv2)]);have HS9 := HSb.out.step f1 hbi f2
        have HF : Hid (Boot3 w00 lo (cb, #[.int .i64 c.cores, .int .i64 c.frames, .int .i64 c.names, .slice (some ⟨sb, 0, none⟩) c.slots.length sc, .slice oa c.objs.length oc], 81) g c.slots Kk made (.slice (some ⟨mg, 0, none⟩) made.length rc) (k + 1) (w8.setCell ⟨g.kb, 3, none⟩ (.slice (some ⟨g8, 0, none⟩) (L.length + 1) cap8))) := by
         refine ⟨g2.own g8 (0, 7), ?_, Hkb.out⟩;rw [List.take_add_one, Hsl.out];simp only [Option.toList_some, List.map_append, List.map_cons, List.map_nil];rw [<- HL.out, show (made.getD sl.1.toNat 0, sl.2) = (gv, sv2) by rw [Hxe.out, Hsv.out]];exact HS9.drop0
        clear hown8 hgrow8 hg8 hlt8 hg9 f1 f2 hbi HS9;go_wp2_with fail
        go_roundw
        case rel => exact ⟨k + 1, by omega, by go_num, HF⟩
        case measure => simp [intOf]; omega
      ·obtain rfl : k = c.slots.length := by omega
       obtain ⟨g2, hS, hkb⟩ := HI3.out;rw [List.take_length] at hS;have hcfg := (hS.box _ List.mem_cons_self).1;have d0 : wr.cell? ⟨cb, 0, none⟩ = some (.int .i64 c.cores) := (hcfg.cell 0).trans rfl;obtain ⟨cn, hcn⟩ : ∃ cn : Nat, c.cores = (cn : Int) := ⟨c.cores.toNat, by omega⟩;obtain ⟨s0, hs0⟩ : ∃ s0, c.slots[0]? = some s0 := ⟨c.slots[0], by simp⟩;have hs0g : (c.slots.getD 0 (0, 0)).2 = s0.2 := by simp [List.getD, hs0]
       have hs016 := HS.out s0 (List.mem_of_getElem? hs0);obtain ⟨K3, hK3⟩ : ∃ K3 : Km, K3 = { Kk with slots := c.slots.map fun s => (made.getD s.1.toNat 0, s.2) } := ⟨_, rfl⟩;rw [<- hK3] at hS;have hs3 : K3.slots = c.slots.map fun s => (made.getD s.1.toNat 0, s.2) := by rw [hK3]
       have hs3l : K3.slots.length = c.slots.length := by rw [hs3, List.length_map]
       have hs30 : K3.slots[0]? = some (made.getD s0.1.toNat 0, s0.2) := by rw [hs3, List.getElem?_map, hs0]; rfl
       have HB4 : Hid (Boot4 w00 lo (cb, #[.int .i64 c.cores, .int .i64 c.frames, .int .i64 c.names, .slice sa c.slots.length sc, .slice oa c.objs.length oc], 81) g K3 s0.2 0 wr g2 (.slice none 0 0)) :=
        ⟨hS.kin.toM hS.inv.nc, hS.inv, Own.nil _ _ _ _ _, hS.le, hS.bel, hS.free, hkb, hcfg, (hS.box _ List.mem_cons_self).2.1⟩
       have HK3 := Lib.hid (And.intro hK3 (And.intro hs3l (And.intro hs30 (And.intro hs0g hs016))));have Hcn := Lib.hid hcn;clear hS hkb hcfg hK3 hs3 hs3l hs30 hs0g hs0 hs016;rw [hcn] at d0;have hcn4 : 1 <= cn /\ cn <= 4 := by omega
       clear hcn;go_wp2_with fail
       clear d0;go_loopw [140] (fun i wx => ∃ k : Nat, k <= cn /\ i = .int .i64 k /\ ∃ g3 cv3, Hid (Boot4 w00 lo (cb, #[.int .i64 c.cores, .int .i64 c.frames, .int .i64 c.names, .slice sa c.slots.length sc, .slice oa c.objs.length oc], 81) g K3 s0.2 k wx g3 cv3)) (fun i _ => cn - (intOf i).toNat)
       case atStart => exact ⟨0, Nat.zero_le _, rfl, _, _, HB4⟩
       case round =>
        obtain ⟨k, hkl, rfl, g3, cv3, HI4⟩ := hrel;by_cases hlt4 : k < cn
        ·obtain ⟨s4, d4, kv2, kv3, kv4⟩ := HI4.out.kin.kern
         obtain ⟨cva, cvc, rfl, hcv1, hcv2⟩ := Own.form HI4.out.own;obtain ⟨sva, svc, rfl, -, -⟩ := Own.form kv3;obtain ⟨sgb, rfl, hsglt, hsgc⟩ := RowAt.cells (RowAt.own kv3.row) (by rw [HK3.out.2.1]; omega);rw [HI4.out.kb] at kv2;have hk2 : wr.cell? ⟨g.kb, 2, none⟩ = some (.slice cva k cvc) := (kv2.cell 2).trans rfl;have hk3 : wr.cell? ⟨g.kb, 3, none⟩ = some (.slice (some ⟨sgb, 0, none⟩) K3.slots.length svc) := (kv2.cell 3).trans rfl;have hklt := kv2.lt
         have hs01 : wr.cell? ⟨sgb, 1, none⟩ = some (.int .i64 s0.2) := hsgc 1 _ (by
          have := flat_at slotV 2 (fun _ => rfl) K3.slots 0 _ HK3.out.2.2.1 1 (by omega);rw [Nat.zero_mul, Nat.zero_add] at this;rw [this]; rfl)
         have hspos : 0 < K3.slots.length := by rw [HK3.out.2.1]; omega
         have Hclk : Hid (∀ wz, wz = wr.drew -> Calls Tryz.prog 66 #[.slice (some ⟨sgb, 0, none⟩) K3.slots.length svc] wz fun e w' => ∃ v, e = .returned v /\ (v = clock0 s0.2 /\ Below wr.drew.heap.size wr.drew w')) := fun wz ez => by
          rw [ez];refine (clock_any sgb K3.slots.length svc s0.2 _ hspos (by rw [<- hs01]; exact ((Below.refl _ wr).drew).cell (p := ⟨sgb, 1, none⟩) hsglt)).mono ?_;rintro e w' ⟨rfl, hb⟩;exact ⟨_, rfl, rfl, hb⟩
         obtain ⟨i0, hi0, hz0, hz1, hz2⟩ := info_parts info_core;have Hi0 := Lib.hid hi0; have Hz0 := Lib.hid hz0; have Hz1 := Lib.hid hz1; have Hz2 := Lib.hid hz2
         have H1c : Hid (∀ u ∈ coreL s0.2, u.oneCell' = true) := fun u hu => by
          unfold coreL coreC at hu;simp only [List.mem_cons, List.not_mem_nil, or_false] at hu;rcases hu with rfl | rfl | rfl | rfl | rfl | rfl | rfl | rfl | rfl | rfl | rfl | rfl | rfl | rfl | rfl | rfl | rfl | rfl | rfl | rfl | rfl | rfl | rfl | rfl | rfl | rfl | rfl <;> rfl
         have Hrow2 : Hid (∀ w9, Below wr.drew.heap.size wr.drew w9 -> World.ownsRow (w9.alloc (.cells #[.int .i64 0, .int .i64 s0.2, .int .u64 0, .int .u64 0, .int .u64 0, .int .u64 0, .int .u64 0, .int .u64 0, .int .u64 0, .int .u64 0, .int .u64 0, .int .i64 0, .int .i64 0, .bool false, .int .i64 0, .int .i64 0, .bool false, .int .i64 0, .int .i64 0, .bool false, .int .i64 0, .int .i64 0, .bool false, .int .i64 0, .bool false, .int .u64 0, .int .u64 0] 162)) 0 162 27 (.slice cva k cvc) k (coresL s0.2 k)) := fun w9 hb => row_kept (T := fun _ => False) HI4.out.own.row ((((Kept.refl _ wr).drew).trans (Kept.of_below hb)).alloc _) (fun _ _ q => q)
         have Hblk2 : Hid (∀ w9 w8, Below wr.drew.heap.size wr.drew w9 -> World.grownBy (w9.alloc (.cells #[.int .i64 0, .int .i64 s0.2, .int .u64 0, .int .u64 0, .int .u64 0, .int .u64 0, .int .u64 0, .int .u64 0, .int .u64 0, .int .u64 0, .int .u64 0, .int .i64 0, .int .i64 0, .bool false, .int .i64 0, .int .i64 0, .bool false, .int .i64 0, .int .i64 0, .bool false, .int .i64 0, .int .i64 0, .bool false, .int .i64 0, .bool false, .int .u64 0, .int .u64 0] 162)) w8 (Value.slice cva k cvc).ownBlock -> Blk w8 g.kb (kernC g3 (.slice cva k cvc) (.slice (some ⟨sgb, 0, none⟩) K3.slots.length svc) d4 K3.done) 88) := fun w9 w8 hb hg => (kept_grown hg).blk ((((kv2.drew).below hb kv2.drew.lt)).alloc _) (fun e => by
          have e1 := HI4.out.own.tag _ e;have e2 := HI4.out.kin.tags.kb;rw [HI4.out.kb] at e2;rw [e1] at e2; cases e2)
         have Hk2 : Hid (∀ w9, Below wr.drew.heap.size wr.drew w9 -> w9.cell? ⟨g.kb, 2, none⟩ = some (.slice cva k cvc) /\ (w9.alloc (.cells #[.int .i64 0, .int .i64 s0.2, .int .u64 0, .int .u64 0, .int .u64 0, .int .u64 0, .int .u64 0, .int .u64 0, .int .u64 0, .int .u64 0, .int .u64 0, .int .i64 0, .int .i64 0, .bool false, .int .i64 0, .int .i64 0, .bool false, .int .i64 0, .int .i64 0, .bool false, .int .i64 0, .int .i64 0, .bool false, .int .i64 0, .bool false, .int .u64 0, .int .u64 0] 162)).cell? ⟨g.kb, 2, none⟩ = some (.slice cva k cvc)) := fun w9 hb => by
          have e := (kv2.drew).below hb kv2.drew.lt;exact ⟨(e.cell 2).trans rfl, ((e.alloc _).cell 2).trans rfl⟩
         have hk4 : k <= 4 := by omega
         clear kv2 kv3 kv4 hsgc hi0 hz0 hz1 hz2;unfold clock0 at Hclk;go_wp2_with fail
         go_region_law (first
          | (refine step_call (by rfl) (ex_call (vs := #[.slice (some ⟨sgb, 0, none⟩) K3.slots.length svc]) (by simp [Act.eval]) (enters_fn Tryz.func66 (by kernel_rfl) rfl)) (Hclk.out _ (by first | rfl | exact drew_eq _)) ?_; rintro v w9 ⟨rfl, hb9⟩; obtain ⟨n2, n2a⟩ := Hk2.out w9 hb9)
          | (refine step_append_lies _ (by rfl) (.tmp 146) (.tmp 153) 86 (by rfl) 0 162 i0 _ 27 216 Tryz.underlying86 Hi0.out Hz0.out Hz1.out Hz2.out rfl (by decide) (.slice cva k cvc) k (coresL s0.2 k) (by simp [Act.eval]) (Hrow2.out w9 hb9) ⟨w9.heap.size, 0, none⟩ 1 1 (coreL s0.2) (by simp [Act.eval]) rfl (World.news_of_block (Blk.new w9 #[.int .i64 0, .int .i64 s0.2, .int .u64 0, .int .u64 0, .int .u64 0, .int .u64 0, .int .u64 0, .int .u64 0, .int .u64 0, .int .u64 0, .int .u64 0, .int .i64 0, .int .i64 0, .bool false, .int .i64 0, .int .i64 0, .bool false, .int .i64 0, .int .i64 0, .bool false, .int .i64 0, .int .i64 0, .bool false, .int .i64 0, .bool false, .int .u64 0, .int .u64 0] 162)) H1c.out (by omega) (by unfold maxLen; omega) (by omega) (by simp) _ rfl ?_; intro g8 cap8 w8 hown8 hgrow8 hg8 hlt8; have hB8 := Hblk2.out w9 w8 hb9 hgrow8; have j2 : w8.cell? ⟨g.kb, 2, none⟩ = some (.slice cva k cvc) := (hB8.cell 2).trans rfl
             have k2 : w8.frozen? ⟨g.kb, 2, none⟩ = false := hB8.free 2))
         all_goals
          clear j2 k2 hB8 n2 n2a;have hbz : wr.heap.size <= w9.heap.size := by have := hb9.size; rw [drew_size] at this; exact this
          have hg9 : (Value.slice cva k cvc).ownBlock = some g8 \/ wr.heap.size <= g8 := by
           rcases hg8 with e | e
           ·exact .inl e
           ·right; rw [e, World.size_alloc]; omega
          obtain ⟨f1, f2, f3⟩ := HI4.out.kin.put HI4.out.own ((((Kept.refl _ wr).drew).trans (Kept.of_below hb9)).alloc _ |>.trans (kept_grown hgrow8)) hown8 hg9 hlt8;rw [HI4.out.kb] at f1 f2 f3
          have HF : Hid (Boot4 w00 lo (cb, #[.int .i64 c.cores, .int .i64 c.frames, .int .i64 c.names, .slice sa c.slots.length sc, .slice oa c.objs.length oc], 81) g K3 s0.2 (k + 1) (w8.setCell ⟨g.kb, 2, none⟩ (.slice (some ⟨g8, 0, none⟩) (k + 1) cap8)) (g3.own g8 (0, 6)) (.slice (some ⟨g8, 0, none⟩) (k + 1) cap8)) :=
           ⟨f1, HI4.out.inv.own g8 (0, 6) rfl K3.devs, f2, Nat.le_trans HI4.out.le f3.kept.size, HI4.out.bel.trans (f3.kept.below HI4.out.le (fun b hb q => q (HI4.out.free b hb))), fun b hb => f3.tag b (Nat.lt_of_lt_of_le hb HI4.out.le) (HI4.out.free b hb), HI4.out.kb, f3.kept.blk HI4.out.box.1 (fun q => q HI4.out.box.2), f3.tag _ HI4.out.box.1.lt HI4.out.box.2⟩
          clear hown8 hgrow8 hg8 hlt8 hg9 f1 f2 f3 hb9 hbz;go_wp2_with fail
          go_roundw
          case rel => exact ⟨k + 1, by omega, by go_num, _, _, HF⟩
          case measure => simp [intOf]; omega
        ·obtain rfl : k = cn := by omega
         go_wp2_with fail
         go_ret2
         obtain ⟨b, hb⟩ := HI4.out.kin.done (n := k) (left := s0.2) hcn4 (by rw [HK3.out.2.1]; omega) HK3.out.2.2.2.2 HI4.out.own;have hbi := HI4.out.inv.done (left := s0.2) (n := k) (b := b)
         have e : ({ K3 with nc := k, cores := fun _ => core0 s0.2 } : Km) = startK Kk c made := by
          unfold startK;rw [HK3.out.2.2.2.1, HK3.out.1, Hcn.out]; rfl
         rw [e] at hb hbi;exact ⟨rfl, HI4.out.bel, _, hb, hbi, HI4.out.kb, HI4.out.free⟩
end Go.Proofs.YtiadbhiadhgjkaaGreatDoor
