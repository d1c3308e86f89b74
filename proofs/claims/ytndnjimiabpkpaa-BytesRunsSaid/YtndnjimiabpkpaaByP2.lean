/- play of layer 14, kind 2. -/
import Derived.Test.YtndnjimiabpkpaaByD
import Derived.Test.YtndnjimiabpkpaaSgE
import Derived.Test.YtndnjimiabpkpaaSgF
import Derived.Test.YtndnjimiabpkpaaStr
import Derived.Test.YtndnjimiabpkpaaCut
import Derived.Test.YtndnjimiabpkpaaReg
import Derived.Deep.QuietTactic
import Derived.BigQuiet
import Derived.IntWalk
import Derived.BigRegion
import Derived.Deep.LoopGhost
import Derived.Deep.MidRow
import Derived.StillTailTactics
namespace Go.Proofs.Ytndnjimiabpkpaa
open Go.RowKit
attribute [local irreducible] World.setCell World.alloc World.drew World.setRow Calls Code.wp row

set_option maxRecDepth 100000 in
set_option maxHeartbeats 8000000 in
theorem play14_2 (base sb mb pb db ob lo : Nat) (v x : Nat → Value) (L : Nat → List Int) (P : Pool) (kd wh off nn at_ xx : Int) (da : Option Addr) (dl dc : Nat) (dB : Nat → Int) (w0 w : World) (hT : Two w base sb mb pb db ob lo v x L P) (hbel : Below base w0 w)
    (hk : (kd.tmod 7 + 7) % 7 = 2) (ho : (Lit.int .i64 off).wf = true) (hn : (Lit.int .i64 nn).wf = true) (ha : (Lit.int .i64 at_).wf = true) (hx : (Lit.int .u64 xx).wf = true)
    (hB : ∀ w', Below base w0 w' → BytesIn w' da dl dB) (hBd : ∀ j, 0 ≤ dB j ∧ dB j ≤ 255) (hdl : dl ≤ 300) (hdc : dl ≤ dc) (hdm : dc ≤ maxLen) :
    Calls Try.prog 40 #[.pointer (some ⟨pb, 0, none⟩), .slice (some ⟨sb, 0, none⟩) 2 2, .slice (some ⟨mb, 0, none⟩) 2 2, .agg #[.int .i64 kd, .int .i64 wh, .int .i64 off, .int .i64 nn, .int .i64 at_, .int .u64 xx, .slice da dl dc]] w fun e w' =>
      e = .returned (.bool true) ∧ PlayPost w0 base sb mb pb db ob lo w' := by
  have ho' := wf_i64 ho; have hn' := wf_i64 hn; have ha' := wf_i64 ha; have hx' := wf_u64 hx
  have Ho := Lib.hid ho; have Hn := Lib.hid hn; have Ha := Lib.hid ha; have Hx := Lib.hid hx
  have HB := Lib.hid hB; have HBd := Lib.hid hBd; have Hdl := Lib.hid (And.intro hdl (And.intro hdc hdm))
  clear ho hn ha hx hB hBd hdl hdc hdm
  obtain ⟨i, hi, hi2⟩ : ∃ i : Nat, wh % 2 = (i : Int) ∧ i < 2 := ⟨(wh % 2).toNat, by omega, by omega⟩
  have hand : bits .and .i64 wh 1 = (i : Int) := by rw [and1, hi]
  have hi2' : (i : Int) < 2 := by omega
  obtain ⟨q0, q1⟩ := tmod_bd kd 7 (by omega)
  have hkk : kd.tmod 7 % 7 = 2 := by omega
  clear hi
  have hbase := hT.base
  obtain ⟨xa, hxa⟩ := (hT.ls.r i hi2).open
  have hmc0 : ∀ o, (w.alloc o).cell? ⟨mb, i, none⟩ = some (.slice xa ((L i).length * 64) ((L i).length * 64)) := fun o => by
    rw [(hT.ls.hb.alloc o).cell, duo_at x i hi2, hxa]
  have h16 := hT.sg.h16 i hi2
  have hlen : (((L i).length * 64 : Nat) : Int) = segS (L i) := by unfold segS; omega
  go_enter Try.func40, Try.ntmps40
  go_wp2_with fail
  obtain ⟨w1, hw1⟩ : ∃ w1 : World, w1 = w.alloc (.cells #[.int .i64 kd, .int .i64 wh, .int .i64 off, .int .i64 nn, .int .i64 at_, .int .u64 xx, .slice da dl dc] 74) := ⟨_, rfl⟩
  rw [← hw1]
  have hcc : ∀ k, w1.cell? ⟨w.heap.size, k, none⟩ = (#[Value.int .i64 kd, .int .i64 wh, .int .i64 off, .int .i64 nn, .int .i64 at_, .int .u64 xx, .slice da dl dc])[k]? := by rw [hw1]; exact (Blk.new _ _ _).cell
  have HC : Hid (Blk w1 w.heap.size #[Value.int .i64 kd, .int .i64 wh, .int .i64 off, .int .i64 nn, .int .i64 at_, .int .u64 xx, .slice da dl dc] 74) := by rw [hw1]; exact Blk.new _ _ _
  have HT : Hid (Two w1 base sb mb pb db ob lo v x L P) := by rw [hw1]; exact hT.below ((Below.refl _ _).alloc (Nat.le_refl _) _)
  have Hb : Hid (Below base w0 w1) := by rw [hw1]; exact hbel.alloc hbase _
  have Hvl : Hid (∀ k, k < 2 → ∀ g, (v k).ownBlock = some g → g < w.heap.size) := fun k hk g hg => ((hT.sg.fr k hk).lt g hg).2
  have Hxl : Hid (∀ k, k < 2 → ∀ g, (x k).ownBlock = some g → g < w.heap.size) := fun k hk g hg => ((hT.ls.r k hk).lt g hg).2
  have Hhs : Hid (sb < w.heap.size ∧ mb < w.heap.size ∧ lo ≤ w.heap.size) := ⟨hT.sg.hb.lt, hT.ls.hb.lt, hT.sg.hlo⟩
  generalize (Value.agg #[.int .i64 kd, .int .i64 wh, .int .i64 off, .int .i64 nn, .int .i64 at_, .int .u64 xx, .slice da dl dc]) = vagg
  have hmc := hmc0 (.cells #[.int .i64 kd, .int .i64 wh, .int .i64 off, .int .i64 nn, .int .i64 at_, .int .u64 xx, .slice da dl dc] 74)
  rw [← hw1] at hmc
  have Hxa := Lib.hid hxa
  clear hw1 hT hbel hmc0 hxa
  have hwfd : (Lit.int .i64 (dl : Int)).wf = true := by have := Hdl.out; unfold maxLen at this; simp [Lit.wf, IntKind.min, IntKind.max, IntKind.signed, IntKind.bits]; omega
  have Hwfd := Lib.hid hwfd; clear hwfd
  cases hs : segW (L i) off (dl : Int)
  · have Hs := Lib.hid hs; clear hs
    refine (wi_any (segS (L i)) off (dl : Int) _ (by unfold segS; omega) (by unfold segS; omega) Ho.out Hwfd.out).mono ?_
    rintro e w' ⟨rfl, rfl⟩
    rw [wi_seg, Hs.out]
    go_wp2_with fail
    refine (swrite_no sb i pb _ _ _ (L i) off da dl dc _ (HT.out.sg.at hi2) Hs.out).mono ?_
    rintro e w' ⟨rfl, rfl⟩
    go_wp2_with fail
    go_ret
    exact ⟨rfl, Hb.out, v, x, L, P, HT.out⟩
  · obtain ⟨f1, f2, f3, f4⟩ := (segW_iff _ _ _).1 hs
    obtain ⟨q, rfl⟩ : ∃ q : Nat, off = (q : Int) := ⟨off.toNat, by omega⟩
    have hqm : q + dl ≤ (L i).length * 64 := by unfold segS at f3 f4; omega
    have Hs := Lib.hid hs; clear hs
    refine (wi_any (segS (L i)) q (dl : Int) _ (by unfold segS; omega) (by unfold segS; omega) Ho.out Hwfd.out).mono ?_
    rintro e w' ⟨rfl, rfl⟩
    rw [wi_seg, Hs.out]
    go_wp2_with fail
    have hsg := HT.out.sg.seg hi2
    have hB1 : ∀ w', Kept (PS pb db ob) w1 w' → BytesIn w' da dl dB := fun w' hk => HB.out w' (Hb.out.trans (seg_ps HT.out.bs HT.out.base hk))
    refine (swrite_yes sb i pb db ob _ _ _ (L i) P _ q da dl dc dB _ hsg.seg hsg.pool hsg.inn Hs.out hB1 HBd.out Hdl.out.2.1 Hdl.out.2.2 hsg.n1 hsg.n3).mono ?_
    rintro e w2 ⟨rfl, P2, hP2, hD, hK⟩
    have hls2 := HT.out.ls.kept hK HT.out.nmb (fun k hk g hg => HT.out.nps g ((HT.out.ls.r k hk).lt g hg).1)
    have hri := hls2.r i hi2
    have hri' := hri
    rw [Hxa.out] at hri'
    obtain ⟨xb, hsl, hxb⟩ := row_from hri' q (by omega) (by omega)
    have hcc2 := (hK.blk HC.out (by have := Hhs.out; have := HT.out.sg.lp; rintro (e | e | e) <;> omega)).cell
    have hmc2 : w2.cell? ⟨mb, i, none⟩ = some (.slice xa ((L i).length * 64) ((L i).length * 64)) := by rw [hls2.hb.cell, duo_at x i hi2, Hxa.out]
    have Hri := Lib.hid hri; have Hxb := Lib.hid hxb
    have Hb2 := Lib.hid (Hb.out.trans (seg_ps HT.out.bs HT.out.base hK))
    have HB2 := Lib.hid (HB.out w2 Hb2.out)
    have HP2 := Lib.hid hP2; have HD := Lib.hid hD; have HK := Lib.hid hK
    clear hri hri' hxb hls2 hP2 hD hK hB1 hsg hcc hmc hlen f3 f4
    generalize segS (L i) = sL at *
    go_wp2_with fail
    go_still_tail 9, (by kernel_rfl)
    rw [drew_eq w2]
    refine wpList_copy_rowIn rfl (.tmp 231) (.tmp 233) rfl q dl _ _ _ _ _ _ (Hri.out.kept (S := fun _ => False) ((Kept.refl _ _).drew) (fun _ _ h => h)) rfl rfl (by simp [Nat.min_def]; omega) (HB.out _ Hb2.out.drew) (by omega) (fun h => by rw [Hxa.out]; exact Hxb.out (by omega)) ?_
    intro w3 HK3 HR3
    go_wp2_with fail
    go_ret
    have hK' : Kept (fun k => (x i).ownBlock = some k) w2 w3 := ((Kept.refl _ w2).drew).trans HK3.out
    refine ⟨rfl, Hb2.out.trans (hK'.below (by have := HT.out.base; have := HK.out.size; omega) (fun k hk e => ?_)), v, x, L, P2, HT.out.write hi2 HP2.out HD.out HK.out hK' HR3.out⟩
    have := ((HT.out.ls.r i hi2).lt k e).1; have := HT.out.bs; have := HT.out.sg.lp; have := HT.out.sg.sl; omega
end Go.Proofs.Ytndnjimiabpkpaa
