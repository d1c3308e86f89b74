/- play of layer 14, kind 4. -/
import Derived.Test.YtndnjimiabpkpaaByD
import Derived.Test.YtndnjimiabpkpaaSgE
import Derived.Test.YtndnjimiabpkpaaSgF
import Derived.Test.YtndnjimiabpkpaaStr
import Derived.Test.YtndnjimiabpkpaaCut
import Derived.Test.YtndnjimiabpkpaaReg
import Derived.Deep.QuietTactic
import Derived.BigQuiet
import Derived.IntWalk
import Derived.BigRegion
import Derived.Deep.LoopGhost
import Derived.Deep.DeepCutAuto
import Derived.Deep.CutBlock
import Derived.Deep.RegionHeld3
import Derived.Deep.AppendLies
import Derived.Deep.MidRow
import Derived.StillTailTactics
namespace Go.Proofs.Ytndnjimiabpkpaa
open Go.RowKit
attribute [local irreducible] World.setCell World.alloc World.drew World.setRow Calls Code.wp row
theorem pow_256' (m : Nat) : (2 : Int) ^ (8 * m) = 256 ^ m := by rw [Int.pow_mul]; rfl

set_option maxRecDepth 100000 in
set_option maxHeartbeats 8000000 in
theorem play14_4 (base sb mb pb db ob lo : Nat) (v x : Nat → Value) (L : Nat → List Int) (P : Pool) (kd wh off nn at_ xx : Int) (da : Option Addr) (dl dc : Nat) (dB : Nat → Int) (w0 w : World) (hT : Two w base sb mb pb db ob lo v x L P) (hbel : Below base w0 w)
    (hk : (kd.tmod 7 + 7) % 7 = 4) (ho : (Lit.int .i64 off).wf = true) (hn : (Lit.int .i64 nn).wf = true) (ha : (Lit.int .i64 at_).wf = true) (hx : (Lit.int .u64 xx).wf = true)
    (hB : ∀ w', Below base w0 w' → BytesIn w' da dl dB) (hBd : ∀ j, 0 ≤ dB j ∧ dB j ≤ 255) (hdl : dl ≤ 300) (hdc : dl ≤ dc) (hdm : dc ≤ maxLen) :
    Calls Try.prog 40 #[.pointer (some ⟨pb, 0, none⟩), .slice (some ⟨sb, 0, none⟩) 2 2, .slice (some ⟨mb, 0, none⟩) 2 2, .agg #[.int .i64 kd, .int .i64 wh, .int .i64 off, .int .i64 nn, .int .i64 at_, .int .u64 xx, .slice da dl dc]] w fun e w' =>
      e = .returned (.bool true) ∧ PlayPost w0 base sb mb pb db ob lo w' := by
  have ho' := wf_i64 ho; have hn' := wf_i64 hn; have ha' := wf_i64 ha; have hx' := wf_u64 hx
  have Ho := Lib.hid ho; have Hn := Lib.hid hn; have Ha := Lib.hid ha; have Hx := Lib.hid hx
  have HB := Lib.hid hB; have HBd := Lib.hid hBd; have Hdl := Lib.hid (And.intro hdl (And.intro hdc hdm))
  clear ho hn ha hx hB hBd hdl hdc hdm
  obtain ⟨i, hi, hi2⟩ : ∃ i : Nat, wh % 2 = (i : Int) ∧ i < 2 := ⟨(wh % 2).toNat, by omega, by omega⟩
  have hand : bits .and .i64 wh 1 = (i : Int) := by rw [and1, hi]
  have hi2' : (i : Int) < 2 := by omega
  obtain ⟨q0, q1⟩ := tmod_bd kd 7 (by omega)
  have hkk : kd.tmod 7 % 7 = 4 := by omega
  clear hi
  have hbase := hT.base
  obtain ⟨xa, hxa⟩ := (hT.ls.r i hi2).open
  have hmc0 : ∀ o, (w.alloc o).cell? ⟨mb, i, none⟩ = some (.slice xa ((L i).length * 64) ((L i).length * 64)) := fun o => by
    rw [(hT.ls.hb.alloc o).cell, duo_at x i hi2, hxa]
  have h16 := hT.sg.h16 i hi2
  have hlen : (((L i).length * 64 : Nat) : Int) = segS (L i) := by unfold segS; omega
  go_enter Try.func40, Try.ntmps40
  go_upto_block 0 with fail
  obtain ⟨w1, hw1⟩ : ∃ w1 : World, w1 = w.alloc (.cells #[.int .i64 kd, .int .i64 wh, .int .i64 off, .int .i64 nn, .int .i64 at_, .int .u64 xx, .slice da dl dc] 74) := ⟨_, rfl⟩
  rw [← hw1]
  have hcc : ∀ k, w1.cell? ⟨w.heap.size, k, none⟩ = (#[Value.int .i64 kd, .int .i64 wh, .int .i64 off, .int .i64 nn, .int .i64 at_, .int .u64 xx, .slice da dl dc])[k]? := by rw [hw1]; exact (Blk.new _ _ _).cell
  have HC : Hid (Blk w1 w.heap.size #[Value.int .i64 kd, .int .i64 wh, .int .i64 off, .int .i64 nn, .int .i64 at_, .int .u64 xx, .slice da dl dc] 74) := by rw [hw1]; exact Blk.new _ _ _
  have HT : Hid (Two w1 base sb mb pb db ob lo v x L P) := by rw [hw1]; exact hT.below ((Below.refl _ _).alloc (Nat.le_refl _) _)
  have Hb : Hid (Below base w0 w1) := by rw [hw1]; exact hbel.alloc hbase _
  have Hvl : Hid (∀ k, k < 2 → ∀ g, (v k).ownBlock = some g → g < w.heap.size) := fun k hk g hg => ((hT.sg.fr k hk).lt g hg).2
  have Hxl : Hid (∀ k, k < 2 → ∀ g, (x k).ownBlock = some g → g < w.heap.size) := fun k hk g hg => ((hT.ls.r k hk).lt g hg).2
  have Hhs : Hid (sb < w.heap.size ∧ mb < w.heap.size ∧ lo ≤ w.heap.size) := ⟨hT.sg.hb.lt, hT.ls.hb.lt, hT.sg.hlo⟩
  generalize (Value.agg #[.int .i64 kd, .int .i64 wh, .int .i64 off, .int .i64 nn, .int .i64 at_, .int .u64 xx, .slice da dl dc]) = vagg
  have hmc := hmc0 (.cells #[.int .i64 kd, .int .i64 wh, .int .i64 off, .int .i64 nn, .int .i64 at_, .int .u64 xx, .slice da dl dc] 74)
  rw [← hw1] at hmc
  have Hxa := Lib.hid hxa
  clear hw1 hT hbel hmc0 hxa
  obtain ⟨hx0, hx1⟩ := hx'
  cases hs : segM (L i) off nn
  · have Hs := Lib.hid hs
    obtain ⟨b, hb⟩ : ∃ b, segW (L i) off nn = b := ⟨_, rfl⟩
    have hnot : ¬ (1 ≤ nn ∧ nn ≤ 8 ∧ b = true) := fun h => by
      have := (segM_iff (L i) off nn).2 (by rw [hb]; exact h)
      rw [hs] at this; cases this
    have HB' := Lib.hid hb
    have Hno := Lib.hid (fun w (hS : SegAt w sb i (duo v) lo (v i) (L i)) => sput_no sb i pb _ _ _ (L i) off nn xx w hx0 hx1 hS Hs.out)
    clear hs hb hlen
    by_cases c1 : 1 ≤ nn
    · by_cases c2 : nn ≤ 8
      · obtain rfl : b = false := by
          cases b
          · rfl
          · exact absurd ⟨c1, c2, rfl⟩ hnot
        clear hnot
        go_wp2_with fail
        refine (wi_any (segS (L i)) off nn _ (by unfold segS; omega) (by unfold segS; omega) Ho.out Hn.out).mono ?_
        rintro e w' ⟨rfl, rfl⟩
        rw [wi_seg, HB'.out]
        go_wp2_with fail
        refine (Hno.out _ (HT.out.sg.at hi2)).mono ?_
        rintro e w2 ⟨rfl, hb2⟩
        have HT2 := Lib.hid (HT.out.below hb2)
        have Hb2 := Lib.hid (Hb.out.trans (hb2.mono HT.out.base))
        clear hb2 hcc hmc
        go_wp2_with fail
        refine wp_loop_rounds 1 ?_; rw [rounds_succ]
        go_wp2_with fail
        go_ret
        exact ⟨rfl, Hb2.out, v, x, L, P, HT2.out⟩
      · clear hnot
        go_wp2_with fail
        refine (Hno.out _ (HT.out.sg.at hi2)).mono ?_
        rintro e w2 ⟨rfl, hb2⟩
        have HT2 := Lib.hid (HT.out.below hb2)
        have Hb2 := Lib.hid (Hb.out.trans (hb2.mono HT.out.base))
        clear hb2 hcc hmc
        go_wp2_with fail
        refine wp_loop_rounds 1 ?_; rw [rounds_succ]
        go_wp2_with fail
        go_ret
        exact ⟨rfl, Hb2.out, v, x, L, P, HT2.out⟩
    · clear hnot
      go_wp2_with fail
      refine (Hno.out _ (HT.out.sg.at hi2)).mono ?_
      rintro e w2 ⟨rfl, hb2⟩
      have HT2 := Lib.hid (HT.out.below hb2)
      have Hb2 := Lib.hid (Hb.out.trans (hb2.mono HT.out.base))
      clear hb2 hcc hmc
      go_wp2_with fail
      refine wp_loop_rounds 1 ?_; rw [rounds_succ]
      go_wp2_with fail
      go_ret
      exact ⟨rfl, Hb2.out, v, x, L, P, HT2.out⟩
  · obtain ⟨c1, c2, c3⟩ := (segM_iff (L i) off nn).1 hs
    obtain ⟨f1, f2, f3, f4⟩ := (segW_iff _ _ _).1 c3
    obtain ⟨q, rfl⟩ : ∃ q : Nat, off = (q : Int) := ⟨off.toNat, by omega⟩
    obtain ⟨m, rfl⟩ : ∃ m : Nat, nn = (m : Int) := ⟨nn.toNat, by omega⟩
    have hqm : q + m ≤ (L i).length * 64 := by unfold segS at f3 f4; omega
    have Hs := Lib.hid hs; have Hw := Lib.hid c3; clear hs c3
    clear hlen f3 f4
    go_wp2_with fail
    refine (wi_any (segS (L i)) q m _ (by unfold segS; omega) (by unfold segS; omega) Ho.out Hn.out).mono ?_
    rintro e w' ⟨rfl, rfl⟩
    rw [wi_seg, Hw.out]
    go_wp2_with fail
    have hsg := HT.out.sg.seg hi2
    refine (sput_yes sb i pb db ob _ _ _ (L i) P _ q m xx _ hx0 hx1 hsg.seg hsg.pool hsg.inn Hs.out hsg.n1 hsg.n3).mono ?_
    rintro e w2 ⟨rfl, P2, hP2, hD, hK⟩
    have hls2 := HT.out.ls.kept hK HT.out.nmb (fun k hk g hg => HT.out.nps g ((HT.out.ls.r k hk).lt g hg).1)
    have hri := hls2.r i hi2
    have hcc2 := (hK.blk HC.out (by have := Hhs.out; have := HT.out.sg.lp; rintro (e | e | e) <;> omega))
    have hmc2 : w2.cell? ⟨mb, i, none⟩ = some (.slice xa ((L i).length * 64) ((L i).length * 64)) := by rw [hls2.hb.cell, duo_at x i hi2, Hxa.out]
    obtain ⟨g, hX, hgo⟩ : ∃ g, xa = some ⟨g, 0, none⟩ ∧ (x i).ownBlock = some g := by
      rcases hri with ⟨e, h0⟩ | ⟨g, e, _, hbl⟩
      · omega
      · refine ⟨g, ?_, by rw [e]; rfl⟩
        rw [Hxa.out] at e; injection e
    subst hX
    have hgl : g < w.heap.size := Hxl.out i hi2 g hgo
    have hgm : lo ≤ g := ((HT.out.ls.r i hi2).lt g hgo).1
    have hml := HT.out.ls.ml
    have Hri := Lib.hid hri; have Hm2 := Lib.hid hls2.hb; have HC2 := Lib.hid hcc2
    have Hb2 := Lib.hid (Hb.out.trans (seg_ps HT.out.bs HT.out.base hK))
    have HP2 := Lib.hid hP2; have HD := Lib.hid hD; have HK := Lib.hid hK
    have Hgo := Lib.hid hgo
    clear hri hls2 hP2 hD hK hsg hcc hmc hcc2 hgo
    have hcc2 := HC2.out.cell
    go_wp2_with fail
    obtain ⟨nL, hnL⟩ : ∃ nL, (L i).length = nL := ⟨_, rfl⟩
    rw [hnL] at hqm h16 hmc2
    have HnL := Lib.hid hnL
    have Hri2 : Hid (RowIn w2 lo (x i) (nL * 64) (segD P (L i))) := by rw [← hnL]; exact Hri.out
    clear hnL hmc2 hcc2
    go_loopg [24] m (fun gh kk wx => ∃ k : Nat, k + gh = m ∧ kk = .int .i64 k ∧ Kept (fun b => b = g) w2 wx ∧ RowIn wx lo (x i) (nL * 64) (fun j => if q ≤ j ∧ j < q + k then byN m xx (j - q) else segD P (L i) j))
    case atStart => exact ⟨0, by omega, rfl, Kept.refl _ _, Hri2.out.congr (fun j _ => by rw [if_neg (by omega)])⟩
    case round =>
      obtain ⟨k, hk, rfl, hKr, hRr⟩ := hrel
      have HKr := Lib.hid hKr; have HRr := Lib.hid hRr
      have hcr := (hKr.blk HC2.out (show ¬ w.heap.size = g by omega)).cell
      have hmr : wr.cell? ⟨mb, i, none⟩ = some (.slice (some ⟨g, 0, none⟩) (nL * 64) (nL * 64)) := by rw [(hKr.blk Hm2.out (show ¬ mb = g by omega)).cell, duo_at x i hi2, Hxa.out, HnL.out]
      clear hKr hRr
      by_cases hlt : k < m
      · have hw : xx / 2 ^ (8 * (m - 1 - k)) % 256 = byN m xx k := by unfold byN; rw [pow_256']
        obtain ⟨c0, c1'⟩ := byN_bd m xx k
        obtain ⟨y, hy⟩ : ∃ y, byN m xx k = y := ⟨_, rfl⟩
        have Hy := Lib.hid hy
        rw [hy] at hw c0 c1'
        obtain ⟨j, hj⟩ : ∃ j, m - 1 - k = j := ⟨_, rfl⟩
        have hji : (m : Int) - 1 - (k : Int) = (j : Int) := by omega
        have hj8 : j < 8 := by omega
        rw [hj] at hw
        have hw2 : xx / 2 ^ min (8 * j) 64 % 256 = y := by rw [Nat.min_eq_left (by omega)]; exact hw
        have hji2 : IntKind.i64.wrap ((m : Int) - 1) = (m : Int) - 1 := IntWalk.i64_in _ (by omega)
        have hji3 : IntKind.i64.wrap (j : Int) = (j : Int) := IntWalk.i64_in _ (by omega)
        have hqk : IntKind.i64.wrap ((q : Int) + k) = (q : Int) + k := IntWalk.i64_in _ (by omega)
        clear hy hj
        have hix : ∀ w, (Instr.indexAt 32 (.slice (some ⟨g, 0, none⟩) (nL * 64) (nL * 64)) (.int .i64 ((q : Int) + k))).run Try.prog w = .ok (.pointer (some ⟨g, q + k, none⟩)) w := by
          intro w
          have := idx_some (P := Try.prog) (T := 32) (E := 5) (sz := 1) Try.underlying32 (fun w => by kernel_rfl) g 0 (nL * 64) (nL * 64) (q + k) (by omega) w
          rw [Nat.zero_add, Nat.mul_one, Int.natCast_add] at this; exact this
        go_wp2_with fail
        go_still_tail 20, (by kernel_rfl)
        rw [drew_eq wr]
        have hRd := HRr.out.kept (S := fun _ => False) ((Kept.refl _ wr).drew) (fun _ _ h => h)
        have hKd := HKr.out.drew
        have hst := hRd.store Hgo.out (q + k) y
        have hst' : RowIn (wr.drew.setCell ⟨g, q + k, none⟩ (.int .u8 y)) lo (x i) (nL * 64) (fun j => if q ≤ j ∧ j < q + (k + 1) then byN m xx (j - q) else segD P (L i) j) := by
          refine hst.congr fun j _ => ?_
          by_cases e : j = q + k
          · subst e; rw [if_pos rfl, if_pos (by omega), ← Hy.out]; congr 1; omega
          · rw [if_neg e]
            by_cases c : q ≤ j ∧ j < q + k
            · rw [if_pos c, if_pos (by omega)]
            · rw [if_neg c, if_neg (by omega)]
        obtain ⟨y0, hy0, hf0⟩ : ∃ y0, wr.drew.cell? ⟨g, q + k, none⟩ = some y0 ∧ wr.drew.frozen? ⟨g, q + k, none⟩ = false := by
          rcases hRd with ⟨e, _⟩ | ⟨g', e, _, hbl⟩
          · have := Hgo.out; rw [e] at this; cases this
          · have := Hgo.out; rw [e] at this
            obtain rfl : g' = g := by injection this
            exact ⟨_, hbl.rowAt (q + k) (by omega), hbl.free _⟩
        have Hst := Lib.hid hst'; have HKd := Lib.hid (hKd.setIn g (q + k) (.int .u8 y) rfl)
        clear hst hst' hRd hKd
        go_wp2_with fail
        go_roundg (m - (k + 1))
        case measure => omega
        case rel => exact ⟨k + 1, by omega, by go_num, by simpa only [World.setCell_drew] using HKd.out, by simpa only [World.setCell_drew] using Hst.out⟩
      · obtain rfl : k = m := by omega
        go_wp2_with fail
        go_ret
        have hK3 : Kept (fun k => (x i).ownBlock = some k) w2 wr := HKr.out.mono (fun b _ e => by rw [e]; exact Hgo.out)
        have hR3 : RowIn wr lo (x i) ((L i).length * 64) (fun j => if q ≤ j ∧ j < q + k then byN k xx (j - q) else segD P (L i) j) := by rw [HnL.out]; exact HRr.out
        refine ⟨rfl, Hb2.out.trans (HKr.out.below (by have := HT.out.base; have := HK.out.size; omega) (fun k hk e => ?_)), v, x, L, P2, HT.out.write hi2 HP2.out HD.out HK.out hK3 hR3⟩
        have := HT.out.bs; have := HT.out.sg.lp; have := HT.out.sg.sl; omega
end Go.Proofs.Ytndnjimiabpkpaa
