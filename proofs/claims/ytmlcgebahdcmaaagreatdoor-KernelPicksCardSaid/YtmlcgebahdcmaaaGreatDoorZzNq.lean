/- Of the proof of this claim: a joined text. -/
import Derived.Test.YtmlcgebahdcmaaaGreatDoorZzNn
set_option maxRecDepth 100000
set_option maxHeartbeats 8000000
namespace Go.Proofs.YtmlcgebahdcmaaaGreatDoor
open Go.RowKit
attribute [local irreducible] World.setCell World.alloc World.drew World.setRow Calls Code.wp
theorem light22_any (w : World) (a : Option Addr) (n c : Nat) : Calls Tryz.prog 7 #[.slice a n c, .slice none 0 0] w fun e w' => e = .returned (.bool (decide (n <= 20))) /\ w' = w := by
 by_cases h : n <= 20
 ·have h' : (n : Int) <= 20 := by omega
  have e : decide (n <= 20) = true := decide_eq_true h
  rw [e]
  clear e h
  go_enter Tryz.func7, Tryz.ntmps7
  go_wp2_with fail
  go_ret
  exact ⟨rfl, rfl⟩
 ·have h' : ¬ (n : Int) <= 20 := by omega
  have e : decide (n <= 20) = false := decide_eq_false h
  rw [e]
  clear e h
  go_enter Tryz.func7, Tryz.ntmps7
  go_wp2_with fail
  go_ret
  exact ⟨rfl, rfl⟩
theorem info_prog : (Tryz.prog.info? 30).map (fun i => (i.zero, i.size, i.bytes)) = some (some (.agg #[.slice none 0 0, .int .i64 0, .slice none 0 0, .int .i64 0]), 4, 64) := by kernel_rfl
structure WorkK (w0 : World) (lo : Nat) (kb : Nat) (K : Km) (g : Gh) (w : World) : Prop where
 bel : Below w0.heap.size w0 w
 le0 : w0.heap.size <= lo
 kin : KIn w g K
 inv : Inv g K
 kb : g.kb = kb
 free : ∀ b, b < lo -> g.A b = none
 le : lo <= w.heap.size
theorem WorkK.step {w0 : World} {lo kb : Nat} {K K' : Km} {g g' : Gh} {w w' : World} (h : WorkK w0 lo kb K g w) (m : MSt w g K' w' g') : WorkK w0 lo kb K' g' w' /\ Below lo w w' :=
 ⟨⟨h.bel.trans ((m.ext.kept.below h.le (fun b hb q => q (h.free b hb))).mono h.le0), h.le0, m.kin, m.inv, m.ext.al.kb.trans h.kb, fun b hb => m.ext.tag b (Nat.lt_of_lt_of_le hb h.le) (h.free b hb), Nat.le_trans h.le m.ext.kept.size⟩, m.ext.kept.below h.le (fun b hb q => q (h.free b hb))⟩
theorem WorkK.below {w0 : World} {lo kb : Nat} {K : Km} {g : Gh} {w w' : World} (h : WorkK w0 lo kb K g w) (k : Below w.heap.size w w') : WorkK w0 lo kb K g w' := ⟨h.bel.trans (k.mono h.bel.size), h.le0, h.kin.below k, h.inv, h.kb, h.free, Nat.le_trans h.le k.size⟩
theorem picks_walk (l : List (LSeed × Int)) (v : Value) (Q : Nat -> Value × Value) (picks ticks : Int) (w : World) (h : CalmIn w v l Q) (hok : ∀ p ∈ l, ∀ n ∈ p.1.ls, I64 n) :
  Calls Tryz.prog 3 #[v, .int .i64 picks, .int .i64 ticks] w fun e w' => e = .returned (.bool true) /\ Below w.heap.size w w' := by
 obtain ⟨la, lc, rfl, hc1, hc2⟩ := (show ∃ a c, v = .slice a l.length c /\ l.length <= c /\ c <= maxLen by obtain ⟨-, a, c, e, h1, h2, -⟩ := h; exact ⟨a, c, e, h1, h2⟩)
 unfold maxLen at hc2
 have HL := Lib.hid (fun w' (k : Below w.heap.size w w') => h.below k (Nat.le_refl _))
 have Hok := Lib.hid hok
 have HFit := Lib.hid (fit22_any w)
 have hp1 : bits .and .i64 picks 63 = picks % 64 := and_mask_i64 picks 6 63 (by omega) (by decide)
 have hp2 : bits .and .i64 ticks 7 = ticks % 8 := and7 ticks
 clear h hok
 go_enter Tryz.func3, Tryz.ntmps3
 go_wp2_with fail
 refine HFit.out.mono ?_
 rintro e w1 ⟨rfl, hb1⟩
 have HB1 := Lib.hid hb1
 clear hb1 HFit
 have HLi := Lib.hid (light22_any w1 la l.length lc)
 go_wp2_with fail
 refine HLi.out.mono ?_
 rintro e w2 ⟨rfl, rfl⟩
 clear HLi
 by_cases h20 : l.length <= 20
 ·rw [decide_eq_true h20]
  obtain ⟨pk, hpk⟩ : ∃ pk : Nat, picks % 64 = (pk : Int) := ⟨(picks % 64).toNat, by omega⟩
  obtain ⟨tk, htk⟩ : ∃ tk : Nat, ticks % 8 = (tk : Int) := ⟨(ticks % 8).toNat, by omega⟩
  have hpk64 : pk < 64 := by omega
  have htk8 : tk < 8 := by omega
  rw [hpk] at hp1
  rw [htk] at hp2
  obtain ⟨i0, hi0, hz0, hz1, hz2⟩ := info_parts info_prog
  have Hi0 := Lib.hid hi0; have Hz0 := Lib.hid hz0; have Hz1 := Lib.hid hz1; have Hz2 := Lib.hid hz2
  clear hpk htk hi0 hz0 hz1 hz2
  go_upto_block 0 with fail
  go_cut [7, 9] (fun v7 _ wx => Hid (wx.ownsRow w.heap.size 30 4 v7 l.length (calmRow l Q l.length) /\ Below w.heap.size w wx))
  case first =>
   go_wp2_with fail
   go_loopg [7, 9, 27] l.length (fun gg v7 _ v27 wq => ∃ k : Nat, k + gg = l.length /\ v27 = .int .i64 k /\ Hid (wq.ownsRow w.heap.size 30 4 v7 k (calmRow l Q k) /\ Below w.heap.size w wq))
   case atStart => exact ⟨0, by omega, rfl, Lib.hid ⟨World.ownsRow_nil _ _ _ _, HB1.out⟩⟩
   case round =>
    obtain ⟨k, hk, rfl, HK⟩ := hrel
    by_cases hlt : k < l.length
    ·have hlt' : (k : Int) < l.length := by omega
     obtain ⟨p, hp⟩ : ∃ p, l[k]? = some p := ⟨_, List.getElem?_eq_getElem hlt⟩
     obtain ⟨b, o, rfl, hblt, ⟨fa, fn, fc, hf1⟩, hV, hc⟩ := (HL.out wr HK.out.2).at hp
     obtain ⟨ga, gc, hf2, -, -⟩ := hV.form
     have q0 : wr.cell? ⟨b, o + k * 4, none⟩ = some (.slice fa fn fc) := by have := hc 0 (by omega); rw [Nat.add_zero] at this; rw [this, <- hf1]; rfl
     have q1 : wr.cell? ⟨b, o + k * 4 + 1, none⟩ = some (.int .i64 p.1.d) := by rw [hc 1 (by omega)]; rfl
     have q2 : wr.cell? ⟨b, o + k * 4 + 2, none⟩ = some (.slice ga p.1.ls.length gc) := by rw [hc 2 (by omega), <- hf2]; rfl
     have q3 : wr.cell? ⟨b, o + k * 4 + 3, none⟩ = some (.int .i64 p.2) := by rw [hc 3 (by omega)]; rfl
     have hnx := calmRow_next (Q := Q) hp
     rw [hf2] at hnx
     have Hnx := Lib.hid hnx
     have hwb := HK.out.2.size
     obtain ⟨ua, uc, rfl, -, -⟩ := RowAt.form (RowAt.own HK.out.1)
     clear hc hV hf1 hf2 hp hblt hnx
     go_wp2_with (at_builtin; (refine wpList_append_lies _ rfl _ _ 22 rfl w.heap.size 30 i0 _ 4 64 Tryz.underlying22 Hi0.out Hz0.out Hz1.out Hz2.out rfl (by decide) _ k (calmRow l Q k) rfl ((HK.out.1.alloc _).alloc _) ⟨wr.heap.size + 1, 0, none⟩ 1 1 [.slice none 0 0, .int .i64 p.1.d, .slice ga p.1.ls.length gc, .int .i64 p.2] rfl rfl (World.news_of_block (blk_new2 wr (.cells #[.slice none 0 0, .int .i64 p.1.d, .slice ga p.1.ls.length gc, .int .i64 p.2] 30) #[.slice none 0 0, .int .i64 p.1.d, .slice ga p.1.ls.length gc, .int .i64 p.2] 30)) (fun u hu => by simp at hu; rcases hu with rfl | rfl | rfl | rfl <;> rfl) (by omega) (by unfold maxLen; omega) (by omega) (by rw [World.size_alloc, World.size_alloc]; omega) _ rfl ?_; intro g6 cap w6 hown6 hgrow6 _ _))
     have HN : Hid (w6.ownsRow w.heap.size 30 4 (.slice (some ⟨g6, 0, none⟩) (k + 1) cap) (k + 1) (calmRow l Q (k + 1)) /\ Below w.heap.size w w6) := Lib.hid (by
      rw [Hnx.out]
      refine ⟨hown6, ((HK.out.2.alloc hwb _).alloc (by rw [World.size_alloc]; omega) _).grown hgrow6 (by rw [World.size_alloc, World.size_alloc]; omega) (fun b' e => (HK.out.1.lt b' e).1)⟩)
     clear hown6 hgrow6
     go_wp2_with fail
     go_roundg (l.length - (k + 1))
     case measure => omega
     case rel => exact ⟨k + 1, by omega, by go_num, HN⟩
    ·have hlt' : ¬ (k : Int) < l.length := by omega
     obtain rfl : k = l.length := by omega
     go_wp2_with fail
     go_meet
     exact HK
  case rest =>
   rename World => w3
   have HR := hcut
   clear hcut
   have hpl : (l.map calmPV).map PV.plain = calmPs (l.map fun p => ((calmPV p).lab, p.2)) := by
    unfold calmPs
    rw [List.map_map, List.map_map]
    rfl
   obtain ⟨K0, hK0, hC0⟩ := calm_new (l.map fun p => ((calmPV p).lab, p.2)) (fun q hq => by obtain ⟨p, -, rfl⟩ := List.mem_map.1 hq; exact (calmPV p).lab_good)
   have HWo : Hid (Calls Tryz.prog 9 #[u7, .int .i64 0] w3 fun e w' => ∃ u, e = .returned u /\ CfgIn w' u (worldK (calmPs (l.map fun p => ((calmPV p).lab, p.2))) 0) /\ Below w3.heap.size w3 w') := Lib.hid (by
    have hP : ProgsIn w3 u7 (l.map calmPV) (fun j => (.slice none 0 0, (Q j).2)) := calm_progs HR.out.1 (fun j p hj => ((HL.out w3 HR.out.2).1 j p hj).2)
    have := world_any (l.map calmPV) u7 _ 0 w3 hP (fun q hq => by
     obtain ⟨p, hp, rfl⟩ := List.mem_map.1 hq
     exact ⟨Nat.zero_le _, fun l hl => (by cases hl), Hok.out p hp⟩) (by omega)
    rw [hpl] at this
    exact this)
   have HC0 := Lib.hid hC0
   have HK0 : Hid (∀ W v, Below w.heap.size w W -> CfgIn W v (worldK (calmPs (l.map fun p => ((calmPV p).lab, p.2))) 0) -> Calls Tryz.prog 8 #[v] W fun e w' => ∃ kb, e = .returned (.tuple #[.pointer (some ⟨kb, 0, none⟩), .int .i64 0]) /\ ∃ g, WorkK w W.heap.size kb K0 g w') := Lib.hid (fun W v hbW hv => by
    refine (knew_any W _ v K0 hv (worldK_bd _ _ (fun p hp => by
     obtain ⟨q, hq, rfl⟩ := List.mem_map.1 hp
     obtain ⟨r, -, rfl⟩ := List.mem_map.1 hq
     exact (calmPV r).lab_good.1)) hK0).mono ?_
    rintro e w' ⟨kb, h1, h2, g, h3, h4, h5, h6⟩
    exact ⟨kb, h1, g, hbW.trans (h2.mono hbW.size), hbW.size, h3, h4, h5, h6, h2.size⟩)
   clear hpl hK0 hC0 Hi0 Hz0 Hz1 Hz2
   go_wp2_with fail
   refine HWo.out.mono ?_
   rintro e w4 ⟨u, rfl, hC4, hb4⟩
   obtain ⟨sv, ov, rfl, hS, hO⟩ := hC4
   have HNw := Lib.hid (HK0.out w4 _ (HR.out.2.trans (hb4.mono HR.out.2.size)) ⟨sv, ov, rfl, hS, hO⟩)
   clear hS hO hb4 HWo HK0
   go_wp2_with fail
   refine HNw.out.mono ?_
   rintro e w5 ⟨kb, rfl, g0, hW5⟩
   have HW5 := Lib.hid hW5
   clear hW5 HNw
   generalize w4.heap.size = lo at HW5
   go_upto_block 2 with fail
   go_cut [] (fun wx => ∃ K g, Hid (WorkK w lo kb K g wx /\ CalmK K))
   case first =>
    go_wp2_with fail
    go_loopg [46] tk (fun gg v46 wq => ∃ k : Nat, k + gg = tk /\ v46 = .int .i64 k /\ ∃ K g, Hid (WorkK w lo kb K g wq /\ CalmK K))
    case atStart => exact ⟨0, by omega, rfl, K0, g0, Lib.hid ⟨HW5.out, HC0.out⟩⟩
    case round =>
     obtain ⟨k, hk, rfl, K, g, HK⟩ := hrel
     by_cases hlt : k < tk
     ·have hlt' : (k : Int) < tk := by omega
      have HSt : Hid (Calls Tryz.prog 10 #[.pointer (some ⟨kb, 0, none⟩), .agg #[.int .i64 1, .int .i64 0, .slice none 0 0]] wr fun e w' => e = .returned (.agg #[.int .i64 0, .int .u64 0, .int .i64 0]) /\ ∃ g', WorkK w lo kb (K.tick 0) g' w' /\ CalmK (K.tick 0)) := Lib.hid (by
       have hst := step_tick wr g K 0 none 0 0 HK.out.1.kin HK.out.1.inv (by rw [HK.out.2.nc]; omega)
       rw [HK.out.1.kb] at hst
       refine hst.mono ?_
       rintro e w' ⟨h1, g', h2⟩
       rw [Int.zero_emod] at h2
       refine ⟨h1, g', (HK.out.1.step h2).1, HK.out.2.tick⟩)
      go_wp2_with fail
      refine HSt.out.mono ?_
      rintro e w6 ⟨rfl, g', h6⟩
      have H6 := Lib.hid h6
      clear h6 HSt
      go_wp2_with fail
      go_roundg (tk - (k + 1))
      case measure => omega
      case rel => exact ⟨k + 1, by omega, by go_num, _, g', H6⟩
     ·have hlt' : ¬ (k : Int) < tk := by omega
      go_wp2_with fail
      go_meet
      exact ⟨K, g, HK⟩
   case rest =>
    rename World => w7
    obtain ⟨K, g, HK⟩ := hcut
    clear HW5 HC0
    obtain ⟨c, os, hsl, hAt, hSt⟩ := HK.out.2.at (fun n o h => (HK.out.1.kin.objs n o h).1)
    have hnc := hAt.nc
    have hkin := HK.out.1.kin
    have hkb := HK.out.1.kb
    obtain ⟨sb, sc, cc, hV⟩ := hkin.kerV (i := 0) (by rw [hnc]; omega)
    have HAt := Lib.hid hAt; have HSt := Lib.hid hSt
    obtain ⟨s, hs⟩ : ∃ s : Nat, (K.cores 0).slot = (s : Int) := ⟨(K.cores 0).slot.toNat, by have := HK.out.2.slot; omega⟩
    have hs3 : s < 3 := by have := HK.out.2.slot; omega
    have hs3' : (s : Int) < 3 := by omega
    have hlen : K.slots.length = 3 := by rw [HK.out.2.slots]; rfl
    have k0 : w7.cell? ⟨kb, 0, none⟩ = some (.pointer (some ⟨g.tb, 0, none⟩)) := by rw [<- hkb]; exact hV.tb
    have k3 : w7.drew.cell? ⟨kb, 3, none⟩ = some (.slice (some ⟨sb, 0, none⟩) 3 sc) := by
     have h1 := hV.slots
     rw [hlen, hkb] at h1
     exact cell_drew h1
    have k2 : w7.drew.cell? ⟨kb, 2, none⟩ = some (.slice (some ⟨g.cb, 0, none⟩) 1 cc) := by
     have := hV.cores
     rw [hnc] at this
     rw [<- hkb]; exact cell_drew this
    have ks : w7.drew.cell? ⟨sb, s * 2, none⟩ = some (.int .u64 c) := by
     have := hV.slot s (by omega)
     rw [hs, Int.toNat_natCast] at hsl
     rw [hsl] at this
     exact cell_drew this
    have HSl : Hid (Calls Tryz.prog 11 #[.pointer (some ⟨g.cb, 0, none⟩)] w7.drew fun e w' => ∃ v, e = .returned v /\ (v = .int .i64 (s : Int) /\ w7.drew = w')) := Lib.hid (by
     have := kslot_any w7.drew g K hkin.drew 0 (by rw [hnc]; omega)
     rw [hs, Nat.zero_mul] at this
     exact this.mono (fun e w' q => ⟨_, q.1, rfl, q.2⟩))
    have HTh : Hid (Calls Tryz.prog 12 #[.pointer (some ⟨g.tb, 0, none⟩), .int .u64 c, .int .i64 0] w7.drew fun e w' => ∃ v, e = .returned v /\ w'.ownsRow w7.heap.size 86 1 v os.length (obPs g os) /\ Below w7.heap.size w7 w') := Lib.hid (by
     refine (threads_any w7.drew g K c 0 os hkin.drew hAt.thr).mono ?_
     rintro e w' ⟨v, h1, h2, h3⟩
     rw [World.size_drew] at h2 h3
     exact ⟨v, h1, h2, (Below.refl _ w7).drew.trans h3⟩)
    have k0d := cell_drew k0
    have hc1l : (1 : Nat) <= cc := by have := hV.cap; rw [hnc] at this; exact this
    have hkl : kb < w7.heap.size := World.block_lt_of_cell? w7 ⟨kb, 0, none⟩ k0
    clear hsl hAt hSt hnc hkin hkb hV hs hlen k0
    go_upto_region 20 with fail
    go_cut [12] (fun v12 wx => v12 = .int .u64 c /\ wx = w7.drew)
    case first =>
     go_region_law (refine step_call (by rfl) (ex_call (vs := #[.pointer (some ⟨g.cb, 0, none⟩)]) (by first | (simp [Act.eval]; done) | simp [Act.eval, Act.put]) (enters_fn Tryz.func11 (by kernel_rfl) rfl)) HSl.out ?_; rintro v w8 ⟨rfl, rfl⟩)
     all_goals
      go_wp2_with fail
      go_meet
      exact ⟨rfl, rfl⟩
    case rest =>
    obtain ⟨rfl, hw8⟩ := hcut
    subst hw8
    clear k2 k3 ks HSl
    go_wp2_with fail
    refine HTh.out.mono ?_
    rintro e w9 ⟨v13, rfl, hrow, hb9⟩
    obtain ⟨ra, rc, rfl, -, -⟩ := RowAt.form (RowAt.own hrow)
    have HR9 : Hid (w9.ownsRow w7.heap.size 86 1 (.slice ra os.length rc) os.length (obPs g os) /\ ∀ b, (Value.slice ra os.length rc).ownBlock = some b -> g.A b = none) := Lib.hid ⟨hrow, fun b hb => HK.out.1.kin.nrm b ((hrow.lt b hb).1)⟩
    have HK9 : Hid (WorkK w lo kb K g w9 /\ CalmK K) := Lib.hid ⟨HK.out.1.below hb9, HK.out.2⟩
    clear hrow hb9 HTh k0d HK
    have hol : os.length <= 100 := HAt.out.len
    have hrc : os.length <= rc := by
     obtain ⟨a', c', e, h1, h2⟩ := RowAt.form (RowAt.own HR9.out.1)
     cases e; exact h1
    go_upto_block 4 with fail
    go_cut [14, 15] (fun _ _ wx => Hid (Below w.heap.size w wx))
    case first =>
     go_wp2_with fail
     go_loopg [14, 15, 73] pk (fun gg _ _ v73 wq => ∃ (i : Nat) (K1 : Km) (g1 : Gh), i + gg = pk /\ v73 = .int .i64 i /\ Hid (WorkK w lo kb K1 g1 wq /\ CalmSt K os i K1 /\ AllOk K1 /\ K1.nc = 1 /\ ∀ o ∈ os, g1.bl o.name = g.bl o.name) /\ Hid (wq.ownsRow 0 86 1 (.slice ra os.length rc) os.length (obPs g os) /\ ∀ b, (Value.slice ra os.length rc).ownBlock = some b -> g1.A b = none))
     case atStart => exact ⟨0, K, g, by omega, rfl, Lib.hid ⟨HK9.out.1, HSt.out, HK9.out.2.all, HAt.out.nc, fun _ _ => rfl⟩, Lib.hid ⟨row_base HR9.out.1 (Nat.zero_le _), HR9.out.2⟩⟩
     case round =>
      obtain ⟨i, K1, g1, hi, rfl, H1, H2⟩ := hrel
      by_cases hlt : i < pk
      ·have hlt' : (i : Int) < pk := by omega
       have hi63 : (i : Int) <= 63 := by omega
       obtain ⟨K2, ev, hpick, hst2, he1, he2⟩ := calm_pick HAt.out (i := i) (by omega) H1.out.2.1
       have HPk : Hid (Calls Tryz.prog 10 #[.pointer (some ⟨kb, 0, none⟩), .agg #[.int .i64 0, .int .i64 0, .slice none 0 0]] wr fun e w' => e = .returned (.agg #[.int .i64 ev.core, .int .u64 ev.thread, .int .i64 ev.what]) /\ ∃ g2, (WorkK w lo kb K2 g2 w' /\ CalmSt K os (i + 1) K2 /\ AllOk K2 /\ K2.nc = 1 /\ ∀ o ∈ os, g2.bl o.name = g.bl o.name) /\ (w'.ownsRow 0 86 1 (.slice ra os.length rc) os.length (obPs g os) /\ ∀ b, (Value.slice ra os.length rc).ownBlock = some b -> g2.A b = none)) := Lib.hid (by
        obtain ⟨hw, -, hall, hnc, hbl⟩ := H1.out
        have hs := step_pick (Q := fun _ _ => True) (fun _ _ _ _ _ _ => trivial) noMic_ok noWt_ok wr g1 K1 K2 0 0 ev none 0 0 hw.kin hw.inv hall.kok trivial (by rw [hnc]; omega) (by decide) (by decide) (by rw [Int.zero_emod]; exact hpick)
        rw [hw.kb] at hs
        refine hs.mono ?_
        rintro e w' ⟨h1, g2, h2⟩
        have hrow := row_kept H2.out.1 h2.ext.kept (fun b hb q => q (H2.out.2 b hb))
        refine ⟨h1, g2, ⟨(hw.step h2).1, hst2, AllOk.pickT (fun _ _ _ _ _ _ h => (by cases h)) (fun _ _ _ _ _ _ _ h => (by cases h)) hall hpick, hst2.nc.trans HAt.out.nc, fun o ho => ?_⟩, hrow, fun b hb => h2.ext.tag b (own_lt H2.out.1 hb) (H2.out.2 b hb)⟩
        obtain ⟨n, hn⟩ := threadsT_mem HAt.out.thr o ho
        have hnm := HAt.out.name n o hn
        have hob := H1.out.2.1.obj n
        rw [hn] at hob
        have h3 := (hw.kin.objs n _ hob).2.tag
        rw [(haltI_kind os i o).2.2.1] at h3
        exact (h2.ext.bl _ h3).1.trans (hbl o ho))
       have HE1 := Lib.hid he1; have HE2 := Lib.hid he2
       clear hpick hst2 he1 he2
       go_wp2_with fail
       refine HPk.out.mono ?_
       rintro e w10 ⟨rfl, g2, h3, h4⟩
       have H3 := Lib.hid h3; have H4 := Lib.hid h4
       clear h3 h4 HPk H1 H2
       have H3a : Hid (WorkK w lo kb K2 g2 (w10.alloc (.cells #[.int .i64 ev.core, .int .u64 ev.thread, .int .i64 ev.what] 42)) /\ CalmSt K os (i + 1) K2 /\ AllOk K2 /\ K2.nc = 1 /\ ∀ o ∈ os, g2.bl o.name = g.bl o.name) := Lib.hid ⟨H3.out.1.below ((Below.refl _ w10).alloc (Nat.le_refl _) _), H3.out.2⟩
       have H4a : Hid ((w10.alloc (.cells #[.int .i64 ev.core, .int .u64 ev.thread, .int .i64 ev.what] 42)).ownsRow 0 86 1 (.slice ra os.length rc) os.length (obPs g os) /\ ∀ b, (Value.slice ra os.length rc).ownBlock = some b -> g2.A b = none) := Lib.hid ⟨H4.out.1.alloc _, H4.out.2⟩
       clear H3 H4
       by_cases h0 : os.length = 0
       ·have hb0 : ((os.length : Int) == 0) = true := by simp [h0]
        have hev := HE1.out (List.eq_nil_of_length_eq_zero h0)
        subst hev
        have hne : ∀ W, (binOp .neq 42 (.agg #[.int .i64 0, .int .u64 0, .int .i64 0]) (.agg #[.int .i64 0, .int .u64 0, .int .i64 0])).run Tryz.prog W = .ok (.bool false) W := fun W => by kernel_rfl
        clear h0
        go_wp2_with fail
        go_roundg (pk - (i + 1))
        case measure => omega
        case rel => exact ⟨i + 1, K2, g2, by omega, by go_num, H3a, H4a⟩
       ·have hb0 : ((os.length : Int) == 0) = false := by simp only [beq_eq_false_iff_ne, ne_eq]; omega
        obtain ⟨q, hq⟩ : ∃ q, i % os.length = q := ⟨_, rfl⟩
        have hqn : q < os.length := by rw [<- hq]; exact Nat.mod_lt _ (by omega)
        have hrem : Int.tmod (i : Int) (os.length : Int) = (q : Int) := by rw [<- hq]; rfl
        obtain ⟨o, ho⟩ : ∃ o, os[q]? = some o := ⟨_, List.getElem?_eq_getElem hqn⟩
        have hev := HE2.out o (by rw [hq]; exact ho)
        subst hev
        obtain ⟨eb, heb⟩ : ∃ eb, w10.heap.size = eb := ⟨_, rfl⟩
        obtain ⟨w11, hw11⟩ : ∃ w11, w11 = w10.alloc (.cells #[.int .i64 0, .int .u64 o.name, .int .i64 (if i < os.length then 1 else 0)] 42) := ⟨_, rfl⟩
        have hE : Blk w11 eb #[.int .i64 0, .int .u64 o.name, .int .i64 (if i < os.length then 1 else 0)] 42 := by rw [hw11, <- heb]; exact Blk.new _ _ _
        have hrow := H4a.out.1
        rw [<- hw11] at hrow
        obtain ⟨rb, rfl, -, hcl⟩ := RowAt.cells (RowAt.own hrow) (by omega)
        have r0 : w11.drew.cell? ⟨rb, q, none⟩ = some (.pointer (some ⟨g.bl o.name, 0, none⟩)) := cell_drew (hcl q _ (by unfold obPs; rw [List.getElem?_map, ho]; rfl))
        have e1 : w11.drew.cell? ⟨eb, 1, none⟩ = some (.int .u64 o.name) := cell_drew ((hE.cell 1).trans rfl)
        have e2 : w11.drew.cell? ⟨eb, 2, none⟩ = some (.int .i64 (if i < os.length then 1 else 0)) := cell_drew ((hE.cell 2).trans rfl)
        have n0 : w11.drew.cell? ⟨g.bl o.name, 2, none⟩ = some (.int .u64 o.name) := by
         have hmem := List.mem_of_getElem? ho
         obtain ⟨n, hn⟩ := threadsT_mem HAt.out.thr o hmem
         have hnm := HAt.out.name n o hn
         have hob := H3a.out.2.1.obj n
         rw [hn] at hob
         have hO := (H3a.out.1.kin.objs n _ hob).2
         obtain ⟨s', T, hB, -⟩ := hO.ex
         have hnn := (haltI_kind os (i + 1) o).2.2.1
         rw [hnn, H3a.out.2.2.2.2 o hmem, <- hw11] at hB
         refine cell_drew ((hB.cell 2).trans ?_)
         show some (Value.int .u64 (haltI os (i + 1) o).name) = _
         rw [hnn]
        have hrn : (0 : Int) < os.length := by omega
        have hwq : IntKind.i64.wrap (q : Int) = (q : Int) := IntWalk.i64_in _ (by omega)
        have hqn' : (q : Int) < os.length := by omega
        have hqc : (os.length : Int) <= rc := by omega
        have hos : ¬ os = [] := fun e => h0 (by rw [e]; rfl)
        have Heb := Lib.hid heb
        clear hrow hcl hE ho heb hq HE1 HE2 h0
        by_cases hin : i < os.length
        ·have hin' : (i : Int) < os.length := by omega
         rw [<- hw11] at H3a H4a
         rw [if_pos hin] at e2 hw11
         clear hin
         go_upto_region 29 with fail
         rw [<- hw11, Heb.out]
         clear hw11
         have hS0 : w11.drew.cell? ⟨eb, 1, none⟩ = some (.int .u64 o.name) /\ w11.drew.cell? ⟨eb, 2, none⟩ = some (.int .i64 1) /\ w11.drew.cell? ⟨rb, q, none⟩ = some (.pointer (some ⟨g.bl o.name, 0, none⟩)) /\ w11.drew.cell? ⟨g.bl o.name, 2, none⟩ = some (.int .u64 o.name) := ⟨e1, e2, r0, n0⟩
         first
         | go_region_held3 (fun W => W.cell? ⟨eb, 1, none⟩ = some (.int .u64 o.name) /\ W.cell? ⟨eb, 2, none⟩ = some (.int .i64 1) /\ W.cell? ⟨rb, q, none⟩ = some (.pointer (some ⟨g.bl o.name, 0, none⟩)) /\ W.cell? ⟨g.bl o.name, 2, none⟩ = some (.int .u64 o.name)) (exact hS0) (fail)
         | fail
         all_goals
          go_wp2_with fail
          go_roundg (pk - (i + 1))
          case measure => omega
          case rel => exact ⟨i + 1, K2, g2, by omega, by go_num, Lib.hid ⟨H3a.out.1.below ((Below.refl _ w11).drew), H3a.out.2⟩, Lib.hid ⟨World.ownsRow.drew H4a.out.1, H4a.out.2⟩⟩
        ·have hin' : ¬ (i : Int) < os.length := by omega
         rw [<- hw11] at H3a H4a
         rw [if_neg hin] at e2 hw11
         clear hin
         go_upto_region 29 with fail
         rw [<- hw11, Heb.out]
         clear hw11
         have hS0 : w11.drew.cell? ⟨eb, 1, none⟩ = some (.int .u64 o.name) /\ w11.drew.cell? ⟨eb, 2, none⟩ = some (.int .i64 0) /\ w11.drew.cell? ⟨rb, q, none⟩ = some (.pointer (some ⟨g.bl o.name, 0, none⟩)) /\ w11.drew.cell? ⟨g.bl o.name, 2, none⟩ = some (.int .u64 o.name) := ⟨e1, e2, r0, n0⟩
         first
         | go_region_held3 (fun W => W.cell? ⟨eb, 1, none⟩ = some (.int .u64 o.name) /\ W.cell? ⟨eb, 2, none⟩ = some (.int .i64 0) /\ W.cell? ⟨rb, q, none⟩ = some (.pointer (some ⟨g.bl o.name, 0, none⟩)) /\ W.cell? ⟨g.bl o.name, 2, none⟩ = some (.int .u64 o.name)) (exact hS0) (fail)
         | fail
         all_goals
          go_wp2_with fail
          go_roundg (pk - (i + 1))
          case measure => omega
          case rel => exact ⟨i + 1, K2, g2, by omega, by go_num, Lib.hid ⟨H3a.out.1.below ((Below.refl _ w11).drew), H3a.out.2⟩, Lib.hid ⟨World.ownsRow.drew H4a.out.1, H4a.out.2⟩⟩
      ·have hlt' : ¬ (i : Int) < pk := by omega
       go_wp2_with fail
       go_meet
       exact Lib.hid H1.out.1.bel
    case rest =>
    go_wp2_with fail
    go_ret
    exact ⟨rfl, hcut.out⟩
 ·rw [decide_eq_false h20]
  go_wp2_with fail
  go_ret
  exact ⟨rfl, HB1.out⟩
end Go.Proofs.YtmlcgebahdcmaaaGreatDoor
