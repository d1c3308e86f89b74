/- Of the proof of this claim: a joined text. -/
import Derived.Test.YtiadbhiadhgjkaaGreatDoorZzKp
import Derived.Deep.AppendLies
import Derived.Deep.LoopGhost
import Derived.Test.YtiadbhiadhgjkaaGreatDoorZzWoHm
set_option maxRecDepth 100000
set_option maxHeartbeats 4000000
namespace Go.Proofs.YtiadbhiadhgjkaaGreatDoor
open Go.RowKit
attribute [local irreducible] World.setCell World.alloc World.drew World.setRow Calls Code.wp
attribute [local go_sem] Oper.semAt_some
def mapFill (made : List Int) (m : WMap) : WMap := { m with seg := made.getD m.seg.toNat 0 }
theorem info_map : (Tryz.prog.info? 125).map (fun i => (i.zero, i.size, i.bytes)) = some (some (.agg #[.int .i64 0, .int .u64 0, .int .i64 0, .int .i64 0, .bool false]), 5, 40) := by kernel_rfl
def FillI (w0 : World) (g0 : Gh) (K : Km) (x : Ob) (made : List Int) (ms : List WMap) (k : Nat) (w : World) : Prop :=
 ∃ g, KIn w g (K.set { x with maps := x.maps ++ (ms.take k).map (mapFill made) }) /\ Ext g0 g w0 w /\ (∀ n, Alike1 g0 g n) /\ (g.P = g0.P /\ g.tlb = g0.tlb /\ g.flush = g0.flush /\ g.last = g0.last /\ g.N = g0.N /\ g.F = g0.F /\ g.Y = g0.Y /\ g.ths = g0.ths) /\ ∀ b n i, g.A b = some (n, i) -> g0.A b = some (n, i) \/ n = x.name
theorem fill_space (w : World) (g : Gh) (K : Km) (h : KIn w g K) (x : Ob) (hx : K.obj x.name = some x) (hk : x.kind = 4) (o : WObj) (ls lc vd vm mv : Value) (made : List Int) (cores : Int) (hv : ObjV w o ls lc vd vm) (ho : o.kind = 4) (hs : o.space = 0)
  (hrd : ∀ wx, Kept (fun b => g.A b ≠ none) w wx -> MapsIn wx vm o.maps /\ MadeIn wx mv made) (hms : ∀ m ∈ o.maps, 0 <= m.seg /\ m.seg < made.length) (hml : x.maps.length + o.maps.length <= 1000) (hmd : made.length <= 1000000) :
  Calls Tryz.prog 65 #[.pointer (some ⟨g.kb, 0, none⟩), .pointer (some ⟨g.bl x.name, 0, none⟩), wobjV o ls lc vd vm, mv, .int .i64 cores] w fun e w' =>
   e = .returned (.tuple #[]) /\ FillI w g K x made o.maps o.maps.length w' := by
 obtain ⟨la, lc1, rfl, -, -⟩ := RowAt.form hv.lab;obtain ⟨ca, cc1, rfl, -, -⟩ := RowAt.form hv.clr;obtain ⟨da, dc1, rfl, -, -⟩ := RowAt.form hv.data;obtain ⟨ma, mc1, rfl, hmc1, hmc2⟩ := RowAt.form hv.maps;obtain ⟨mr, mrc, rfl, hm1, hm2⟩ := RowAt.form (hrd w (Kept.refl _ _)).2;have H := Lib.hid h; have HX := Lib.hid hx; have HR := Lib.hid hrd; have HS := Lib.hid hms
 have H0 : Hid (FillI w g K x made o.maps 0 (w.alloc (.cells #[.int .i64 4, .int .i64 o.parent, .int .i64 (o.lab.d : Nat), .slice la o.lab.ps.length lc1, .int .i64 (o.clr.d : Nat), .slice ca o.clr.ps.length cc1, .int .i64 o.pages, .int .i64 o.names, .slice da o.data.length dc1, .slice ma o.maps.length mc1, .int .i64 0, .int .i64 o.pc] 120))) := by
  refine ⟨g, ?_, Ext.below ((Below.refl _ w).alloc (Nat.le_refl _) _), fun n => Alike1.refl g n, ⟨rfl, rfl, rfl, rfl, rfl, rfl, rfl, rfl⟩, fun b n i e => .inl e⟩;have e : ({ x with maps := x.maps ++ (o.maps.take 0).map (mapFill made) } : Ob) = x := by simp
  rw [e]
  have e2 : K.set x = K := by
   unfold Km.set
   have : (fun n => if n = x.name then some x else K.obj n) = K.obj := by
    funext n
    by_cases q : n = x.name
    ·rw [if_pos q, q, hx]
    ·rw [if_neg q]
   rw [this]
  rw [e2];exact h.alloc _
 obtain ⟨i0, hi0, hz0, hz1, hz2⟩ := info_parts info_map;have Hi0 := Lib.hid hi0; have Hz0 := Lib.hid hz0; have Hz1 := Lib.hid hz1; have Hz2 := Lib.hid hz2;have hx0 := (h.objs _ _ hx).2;clear hv h hx hrd hms hi0 hz0 hz1 hz2 hx0;unfold wobjV;rw [ho, hs];go_enter Tryz.func65, Tryz.ntmps65
 go_wp2_with fail
 go_loopw [12, 28] (fun _ i wx => ∃ k : Nat, k <= o.maps.length /\ i = .int .i64 k /\ Hid (FillI w g K x made o.maps k wx)) (fun _ i _ => o.maps.length - (intOf i).toNat)
 case atStart => exact ⟨0, Nat.zero_le _, rfl, H0⟩
 case round =>
  obtain ⟨k, hkl, rfl, HI⟩ := hrel;by_cases hlt : k < o.maps.length
  ·obtain ⟨g1, f1, f2, f3, f4, f5⟩ := HI.out
   obtain ⟨x1, hx1⟩ : ∃ x1 : Ob, x1 = { x with maps := x.maps ++ (o.maps.take k).map (mapFill made) } := ⟨_, rfl⟩;have hx1n : x1.name = x.name := by rw [hx1]
   have hx1k : x1.kind = 4 := by rw [hx1]; exact hk
   have hx1m : x1.maps = x.maps ++ (o.maps.take k).map (mapFill made) := by rw [hx1]
   have hx1l : x1.maps.length = x.maps.length + k := by rw [hx1m, List.length_append, List.length_map, List.length_take]; omega
   rw [<- hx1] at f1;obtain ⟨r1, r2⟩ := HR.out _ f2.kept;obtain ⟨vb, rfl, hvlt, hvc⟩ := RowAt.cells r1 (by omega);obtain ⟨m, hm⟩ : ∃ m, o.maps[k]? = some m := ⟨o.maps[k], by simp [hlt]⟩;have hflat := fun i (hi : i < 5) => flat_at mapV 5 (fun _ => rfl) o.maps k m hm i hi
   have c0 : wr.cell? ⟨vb, k * 5, none⟩ = some (.int .i64 m.at_) := hvc (k * 5) _ (by have := hflat 0 (by omega); rw [Nat.add_zero] at this; rw [this]; rfl);have c1 : wr.cell? ⟨vb, k * 5 + 1, none⟩ = some (.int .u64 m.seg) := hvc _ _ (by rw [hflat 1 (by omega)]; rfl);have c2 : wr.cell? ⟨vb, k * 5 + 2, none⟩ = some (.int .i64 m.from_) := hvc _ _ (by rw [hflat 2 (by omega)]; rfl);have c3 : wr.cell? ⟨vb, k * 5 + 3, none⟩ = some (.int .i64 m.n) := hvc _ _ (by rw [hflat 3 (by omega)]; rfl);have c4 : wr.cell? ⟨vb, k * 5 + 4, none⟩ = some (.bool m.wr) := hvc _ _ (by rw [hflat 4 (by omega)]; rfl);obtain ⟨sg1, sg2⟩ := HS.out m (List.mem_of_getElem? hm);obtain ⟨sn, hsn⟩ : ∃ sn : Nat, m.seg = (sn : Int) := ⟨m.seg.toNat, by omega⟩;have hsnl : sn < made.length := by omega
   obtain ⟨mg, rfl, hmlt, hmc⟩ := RowAt.cells r2 (by omega);have hms : wr.cell? ⟨mg, sn, none⟩ = some (.int .u64 (made.getD sn 0)) := hmc sn _ (by rw [List.getElem?_map]; simp [List.getD, hsnl]);have hmf : mapFill made m = { m with seg := made.getD sn 0 } := by unfold mapFill; rw [hsn]; rfl
   have Hmf := Lib.hid hmf; have Hmk := Lib.hid hm;obtain ⟨gv, hgv⟩ : ∃ gv, gv = made.getD sn 0 := ⟨_, rfl⟩;rw [<- hgv] at hms;have Hgv := Lib.hid hgv;rw [hsn] at c1;have q2 : (sn : Int) < made.length := by omega
   have hkl2 : (k : Int) < o.maps.length := by omega
   obtain ⟨s, T, hO⟩ := f1.at (Km.set_same K x1);obtain ⟨sq, sk, sf, sm, sl, sc, so, si, sr⟩ := s;obtain ⟨ka, kc, rfl, hk1, hk2⟩ := hO.rows.maps.form;have HO := Lib.hid hO;have d18 : wr.cell? ⟨g1.bl x.name, 18, none⟩ = some (.slice ka x1.maps.length kc) := by rw [<- hx1n]; exact (hO.blk.cell 18).trans rfl
   have f18 : wr.frozen? ⟨g1.bl x.name, 18, none⟩ = false := by rw [<- hx1n]; exact hO.blk.free 18
   have hblt : g1.bl x.name < wr.heap.size := by rw [<- hx1n]; exact hO.blk.lt
   have hbl : g1.bl x.name = g.bl x.name := (f3 x.name).bl;rw [hbl] at d18 f18 hblt;have F1 := Lib.hid f1; have F2 := Lib.hid f2; have F3 := Lib.hid f3; have F4 := Lib.hid f4; have F5 := Lib.hid f5;have Hx1 := Lib.hid (And.intro hx1n (And.intro hx1k (And.intro hx1m hx1l)));clear f1 f2 f3 f4 f5 hO hvc hmc hflat hm hmf hsn sg1 sg2 hgv r1 r2 hx1n hx1k hx1m;have hml2 : x1.maps.length <= 1000 := by omega
   have HX1 := Lib.hid hx1;clear hx1l hx1;go_wp2_with fail
   obtain ⟨wb, hwb⟩ : ∃ wb, wb = wr.alloc (.cells #[.int .i64 m.at_, .int .u64 gv, .int .i64 m.from_, .int .i64 m.n, .bool m.wr] 125) := ⟨_, rfl⟩;rw [<- hwb];have hbb : Below wr.heap.size wr wb := by rw [hwb]; exact (Below.refl _ _).alloc (Nat.le_refl _) _
   have Hbb := Lib.hid hbb;have hBx : Blk wb wr.heap.size #[.int .i64 m.at_, .int .u64 gv, .int .i64 m.from_, .int .i64 m.n, .bool m.wr] 125 := by rw [hwb]; exact Blk.new _ _ _
   have HO2 := Lib.hid (HO.out.below hbb);have FB := Lib.hid (F1.out.below hbb);have e18 : wb.cell? ⟨g.bl x.name, 18, none⟩ = some (.slice ka x1.maps.length kc) := by rw [<- d18]; exact hbb.cell (p := ⟨g.bl x.name, 18, none⟩) hblt
   have k18 : wb.frozen? ⟨g.bl x.name, 18, none⟩ = false := by rw [<- f18]; exact hbb.frozen (p := ⟨g.bl x.name, 18, none⟩) hblt
   have hblt2 : g.bl x.name < wb.heap.size := Nat.lt_of_lt_of_le hblt hbb.size;have hrb : wr.heap.size < wb.heap.size := hBx.lt;have b0 : wb.cell? ⟨wr.heap.size, 0, none⟩ = some (.int .i64 m.at_) := (hBx.cell 0).trans rfl;have b1 : wb.cell? ⟨wr.heap.size, 1, none⟩ = some (.int .u64 gv) := (hBx.cell 1).trans rfl;have b2 : wb.cell? ⟨wr.heap.size, 2, none⟩ = some (.int .i64 m.from_) := (hBx.cell 2).trans rfl;have b3 : wb.cell? ⟨wr.heap.size, 3, none⟩ = some (.int .i64 m.n) := (hBx.cell 3).trans rfl;have b4 : wb.cell? ⟨wr.heap.size, 4, none⟩ = some (.bool m.wr) := (hBx.cell 4).trans rfl
   have Hrow : Hid (World.ownsRow (wb.alloc (.cells #[.int .i64 m.at_, .int .u64 gv, .int .i64 m.from_, .int .i64 m.n, .bool m.wr] 125)).drew 0 125 5 (.slice ka x1.maps.length kc) x1.maps.length (x1.maps.flatMap mapV)) := by
    have := row_kept (T := fun _ => False) HO2.out.rows.maps.row ((Kept.refl _ _).alloc (.cells #[.int .i64 m.at_, .int .u64 gv, .int .i64 m.from_, .int .i64 m.n, .bool m.wr] 125)).drew (fun _ _ q => q);exact this
   have H1c : Hid (∀ u ∈ [Value.int .i64 m.at_, .int .u64 gv, .int .i64 m.from_, .int .i64 m.n, .bool m.wr], u.oneCell' = true) := fun u hu => by
    simp at hu;rcases hu with rfl | rfl | rfl | rfl | rfl <;> rfl
   have Hblk : Hid (∀ w5, World.grownBy (wb.alloc (.cells #[.int .i64 m.at_, .int .u64 gv, .int .i64 m.from_, .int .i64 m.n, .bool m.wr] 125)).drew w5 (Value.slice ka x1.maps.length kc).ownBlock -> ∃ cs, Blk w5 (g.bl x.name) cs 68 /\ cs[18]? = some (.slice ka x1.maps.length kc)) := fun w5 hg => by
    have h1 := (kept_grown hg).blk ((HO2.out.blk.alloc (.cells #[.int .i64 m.at_, .int .u64 gv, .int .i64 m.from_, .int .i64 m.n, .bool m.wr] 125)).drew) (fun e => by
     have h1 := HO2.out.rows.maps.tag _ e;have h2 := (FB.out.objs _ _ (Km.set_same K x1)).2.tag;rw [h1] at h2; cases h2)
    rw [Hx1.out.1, (F3.out x.name).bl] at h1;exact ⟨_, h1, rfl⟩
   clear hwb hbb hBx d18 f18 hblt c0 c1 c2 c3 c4 hms
   go_region_law (first
    | (refine step_append_lies _ (by rfl) (.tmp 42) (.tmp 44) 61 (by rfl) 0 125 i0 _ 5 40 Tryz.underlying61 Hi0.out Hz0.out Hz1.out Hz2.out rfl (by decide) (.slice ka x1.maps.length kc) x1.maps.length (x1.maps.flatMap mapV) (by simp [Act.eval]) Hrow.out ⟨wb.heap.size, 0, none⟩ 1 1 [.int .i64 m.at_, .int .u64 gv, .int .i64 m.from_, .int .i64 m.n, .bool m.wr] (by simp [Act.eval]) rfl (World.news_of_block (Blk.new wb #[.int .i64 m.at_, .int .u64 gv, .int .i64 m.from_, .int .i64 m.n, .bool m.wr] 125).drew) H1c.out (by omega) (by unfold maxLen; omega) (by omega) (by simp) _ rfl ?_; intro g5 cap w5 hown5 hgrow5 hg5 hlt5; obtain ⟨cs5, hB5, hB5c⟩ := Hblk.out w5 hgrow5; have j18 : w5.cell? ⟨g.bl x.name, 18, none⟩ = some (.slice ka x1.maps.length kc) := by rw [hB5.cell]; exact hB5c
       have m18 : w5.frozen? ⟨g.bl x.name, 18, none⟩ = false := hB5.free 18))
   all_goals
    clear j18 m18 hB5 hB5c
    have hg6 : (Value.slice ka x1.maps.length kc).ownBlock = some g5 \/ wb.heap.size <= g5 := by
     rcases hg5 with e | e
     ·exact .inl e
     ·right; rw [e]; simp
    obtain ⟨p1, p2⟩ := FB.out.putMaps (o := x1) (x := { m with seg := gv }) (Km.set_same K x1) HO2.out.blk HO2.out.rows HO2.out.th HO2.out.no (((Kept.refl _ wb).alloc _).drew.trans (kept_grown hgrow5)) hown5 rfl hg6 hlt5;have hbx : g1.bl x1.name = g.bl x.name := by rw [Hx1.out.1]; exact (F3.out x.name).bl
    rw [hbx] at p1 p2
    have HP : Hid (FillI w g K x made o.maps (k + 1) (w5.setCell ⟨g.bl x.name, 18, none⟩ (.slice (some ⟨g5, 0, none⟩) (x1.maps.length + 1) cap))) := by
     refine ⟨_, ?_, (F2.out.trans (Ext.below Hbb.out)).trans p2, fun n => (F3.out n).trans (Alike1.own g1 g5 _ n), F4.out, fun b n i e => ?_⟩
     ·have e1 : ({ x1 with maps := x1.maps ++ [{ m with seg := gv }] } : Ob) = { x with maps := x.maps ++ (o.maps.take (k + 1)).map (mapFill made) } := by
       rw [Hx1.out.2.2.1, HX1.out, List.take_add_one, Hmk.out];simp only [Option.toList_some, List.map_append, List.map_cons, List.map_nil, List.append_assoc];rw [Hmf.out, <- Hgv.out]
      rw [e1] at p1;rw [Km.set_set K x1 _ (by rw [Hx1.out.1])] at p1;exact p1
     ·rw [Gh.own_A] at e
      split at e
      ·cases e; exact .inr Hx1.out.1
      ·exact F5.out b n i e
    clear p1 p2 hown5 hgrow5 hg5 hlt5 hg6;go_wp2_with fail
    go_roundw
    case rel => exact ⟨k + 1, by omega, by go_num, HP⟩
    case measure => simp [intOf]; omega
  ·obtain rfl : k = o.maps.length := by omega
   go_wp2_with fail
   go_end0
   exact ⟨rfl, HI.out⟩
theorem ObjsIn.form {w : World} {v : Value} {os : List WObj} (h : ObjsIn w v os) : ∃ a c, v = .slice a os.length c /\ os.length <= c /\ c <= maxLen := by
 obtain ⟨ss, _, _, h3⟩ := h;exact RowAt.form h3
theorem home_any (x y z : Int) (sv ov : Value) (os : List WObj) (i : Nat) (o : WObj) (w : World) (hO : ObjsIn w ov os) (hi : os[i]? = some o) (hp : I64 o.parent) (hn : os.length <= 100000) :
  Calls Tryz.prog 80 #[.agg #[.int .i64 x, .int .i64 y, .int .i64 z, sv, ov], .int .i64 (i : Int)] w fun e w' => ∃ (dv : Int) (ha : Option Addr) (hl hc : Nat), e = .returned (.tuple #[.agg #[.int .i64 dv, .slice ha hl hc], .bool (homeL os i o).isSome]) /\ (∀ h, homeL os i o = some h -> LabIn w' (.agg #[.int .i64 dv, .slice ha hl hc]) h) /\ Below w.heap.size w w' := by
 obtain ⟨a, c, rfl, hc1, hc2⟩ := hO.form;have hlt := (List.getElem?_eq_some_iff.1 hi).1;obtain ⟨p1, p2⟩ := hp;obtain ⟨wa, hwa⟩ : ∃ wa : World, wa = (w.alloc (.cells #[.int .i64 x, .int .i64 y, .int .i64 z, sv, .slice a os.length c] 81)).alloc (.cells #[.int .i64 0, .slice none 0 0] 43) := ⟨_, rfl⟩;obtain ⟨xb, hxb⟩ : ∃ xb, xb = w.heap.size := ⟨_, rfl⟩;have HX : Hid (Blk wa xb #[.int .i64 x, .int .i64 y, .int .i64 z, sv, .slice a os.length c] 81) := by rw [hwa, hxb]; exact (Blk.new _ _ _).alloc _
 have HL : Hid (Blk wa (xb + 1) #[.int .i64 0, .slice none 0 0] 43) := by
  rw [hwa, hxb];have := Blk.new (w.alloc (.cells #[.int .i64 x, .int .i64 y, .int .i64 z, sv, .slice a os.length c] 81)) #[.int .i64 0, .slice none 0 0] 43;rw [World.size_alloc] at this;exact this
 have HBa : Hid (Below w.heap.size w wa) := by rw [hwa]; exact ((Below.refl _ w).alloc (Nat.le_refl _) _).alloc (by rw [World.size_alloc]; omega) _
 have HOa := Lib.hid (hO.below HBa.out (Nat.le_refl _));obtain ⟨b, s, rfl, hb, hV, hcell⟩ := HOa.out.at hi;have q1 : wa.cell? ⟨b, i * 12 + 1, none⟩ = some (.int .i64 o.parent) := by rw [hcell 1 (by omega)]; rfl
 have hcx := HX.out.cell;have Hxb := Lib.hid hxb;have hi' : (i : Int) < os.length := by omega
 have hB2 : ∀ v1 v2 wq, Below wa.heap.size wa wq -> Blk wq (xb + 1) #[.int .i64 0, .slice none 0 0] 43 /\ Below w.heap.size w ((wq.setCell ⟨xb + 1, 0, none⟩ v1).setCell ⟨xb + 1, 1, none⟩ v2) /\ Blk ((wq.setCell ⟨xb + 1, 0, none⟩ v1).setCell ⟨xb + 1, 1, none⟩ v2) (xb + 1) #[v1, v2] 43 := fun v1 v2 wq hq => by
  have h1 := Blk.below HL.out hq HL.out.lt;exact ⟨h1, ((bel_from HBa.out hq).setCell (p := ⟨xb + 1, 0, none⟩) (by rw [Hxb.out]; exact Nat.le_succ _) _).setCell (p := ⟨xb + 1, 1, none⟩) (by rw [Hxb.out]; exact Nat.le_succ _) _, ((h1.set 0 v1).set 1 v2).cells rfl⟩
 have HB2 := Lib.hid hB2;have Hi := Lib.hid hi;clear hcell hV hO hi hB2;go_enter Tryz.func80, Tryz.ntmps80
 go_upto_region 1 with fail
 rw [<- hwa, <- hxb];clear hwa hxb;by_cases c0 : o.parent = 0
 ·have Hh : Hid (homeL os i o = some ⟨2, []⟩) := by show _ = _; unfold homeL; rw [if_pos c0]
  have c0b : (o.parent == 0) = true := by simpa using c0
  have Hof := Lib.hid (fun w => lab_of_any 2 w);clear c0;go_wp2_with fail
  refine (Hof.out _).mono ?_;rintro e w1 ⟨rfl, hb1⟩;obtain ⟨g1, g2, g3⟩ := HB2.out (.int .i64 2) (.slice none 0 0) w1 hb1;have G2 := Lib.hid g2; have G3 := Lib.hid g3;have hf1 := g1.free;have hc1x := g1.cell;clear hb1 g1 g2 g3;go_wp2_with fail
  refine bodyPost_ret (results_ct rfl _ _ ⟨xb + 1, 0, none⟩ _ rfl (load_label _ _ _ rfl G3.out)) rfl ?_;refine ⟨_, _, _, _, by rw [Hh.out]; rfl, fun h e => ?_, G2.out⟩;rw [Hh.out] at e
  cases e;exact ⟨_, rfl, RowAt.nil _ _⟩
 ·have c0b : (o.parent == 0) = false := by simpa using c0
  obtain ⟨g1, g2, g3⟩ := HB2.out (.int .i64 0) (.slice none 0 0) wa (Below.refl _ _);have G2 := Lib.hid g2; have G3 := Lib.hid g3;have hf1 := g1.free;have hc1x := g1.cell;clear g2 g3;by_cases c1 : o.parent < 0
  ·have Hh : Hid (homeL os i o = none) := by show _ = _; unfold homeL; rw [if_neg c0, if_pos (.inl c1)]
   clear c0;go_wp2_with fail
   refine bodyPost_ret (results_ct rfl _ _ ⟨xb + 1, 0, none⟩ _ rfl (load_label _ _ _ rfl G3.out)) rfl ?_;exact ⟨_, _, _, _, by rw [Hh.out]; rfl, (fun h e => by rw [Hh.out] at e; cases e), G2.out⟩
  ·by_cases c2 : (i : Int) < o.parent
   ·have Hh : Hid (homeL os i o = none) := by show _ = _; unfold homeL; rw [if_neg c0, if_pos (.inr c2)]
    clear c0;go_wp2_with fail
    refine bodyPost_ret (results_ct rfl _ _ ⟨xb + 1, 0, none⟩ _ rfl (load_label _ _ _ rfl G3.out)) rfl ?_;exact ⟨_, _, _, _, by rw [Hh.out]; rfl, (fun h e => by rw [Hh.out] at e; cases e), G2.out⟩
   ·obtain ⟨j, hj⟩ : ∃ j : Nat, o.parent = (j : Int) + 1 := ⟨o.parent.toNat - 1, by omega⟩
    have hjl : j < os.length := by omega
    obtain ⟨q, hq⟩ : ∃ q, os[j]? = some q := ⟨_, List.getElem?_eq_getElem hjl⟩;obtain ⟨b', s', e', -, hV', hcell'⟩ := HOa.out.at hq
    cases e';have r0 : wa.cell? ⟨b, j * 12, none⟩ = some (.int .i64 q.kind) := by have := hcell' 0 (by omega); rw [Nat.add_zero] at this; rw [this]; rfl
    have r2 : wa.cell? ⟨b, j * 12 + 2, none⟩ = some (.int .i64 (q.lab.d : Nat)) := by rw [hcell' 2 (by omega)]; rfl
    have r3 : wa.cell? ⟨b, j * 12 + 3, none⟩ = some s'.ls := by rw [hcell' 3 (by omega)]; rfl
    have hjw : IntKind.i64.wrap (o.parent - 1) = (j : Int) := by rw [hj, IntWalk.i64_in _ (by omega)]; omega
    have hjl' : (j : Int) < os.length := by omega
    have hj0 : (0 : Int) <= j := by omega
    have hHm : homeL os i o = if q.kind = 1 then some q.lab else none := by
     unfold homeL;rw [if_neg c0, if_neg (by omega), show o.parent.toNat - 1 = j by omega, hq]
    have HHm := Lib.hid hHm;have HV := Lib.hid hV';obtain ⟨pa, pc, hps, -, -⟩ := RowAt.form hV'.lab;rw [hps] at r3;have Hps := Lib.hid hps;clear hcell' hV' hq hHm c0 hps;by_cases c3 : q.kind = 1
    ·have c3b : (q.kind != 1) = false := by simp [c3]
     have Hh : Hid (homeL os i o = some q.lab) := by show _ = _; rw [HHm.out, if_pos c3]
     obtain ⟨g1, g2, g3⟩ := HB2.out (.int .i64 (q.lab.d : Nat)) (.slice pa q.lab.ps.length pc) wa (Below.refl _ _);have K2 := Lib.hid g2; have K3 := Lib.hid g3;clear g1 g2 g3 c3;go_wp2_with fail
     refine bodyPost_ret (results_ct rfl _ _ ⟨xb + 1, 0, none⟩ _ rfl (load_label _ _ _ rfl K3.out)) rfl ?_;refine ⟨_, _, _, _, by rw [Hh.out]; rfl, (fun h e => ?_), K2.out⟩;rw [Hh.out] at e
     cases e;refine ⟨_, rfl, ?_⟩;have hv := HV.out.lab;rw [Hps.out] at hv;refine RowAt.kept hv (((Kept.refl (· = xb + 1) wa).setIn (xb + 1) 0 _ rfl).setIn (xb + 1) 1 _ rfl) (fun b cs fz e hh => ?_);have := HL.out;unfold Blk at this;rw [e, this] at hh;simp at hh
    ·have c3b : (q.kind != 1) = true := by simpa using c3
     have Hh : Hid (homeL os i o = none) := by show _ = _; rw [HHm.out, if_neg c3]
     clear c3;go_wp2_with fail
     refine bodyPost_ret (results_ct rfl _ _ ⟨xb + 1, 0, none⟩ _ rfl (load_label _ _ _ rfl G3.out)) rfl ?_;exact ⟨_, _, _, _, by rw [Hh.out]; rfl, (fun h e => by rw [Hh.out] at e; cases e), G2.out⟩
end Go.Proofs.YtiadbhiadhgjkaaGreatDoor
