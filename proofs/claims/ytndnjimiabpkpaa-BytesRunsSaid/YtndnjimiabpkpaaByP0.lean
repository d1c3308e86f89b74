/- play of layer 14, kind 0. -/
import Derived.Test.YtndnjimiabpkpaaByD
import Derived.Test.YtndnjimiabpkpaaSgE
import Derived.Test.YtndnjimiabpkpaaSgF
import Derived.Test.YtndnjimiabpkpaaStr
import Derived.Test.YtndnjimiabpkpaaCut
import Derived.Test.YtndnjimiabpkpaaReg
import Derived.Deep.QuietTactic
import Derived.BigQuiet
import Derived.IntWalk
import Derived.BigRegion
import Derived.Deep.LoopGhost
import Derived.Deep.MidRow
import Derived.StillTailTactics
namespace Go.Proofs.Ytndnjimiabpkpaa
open Go.RowKit
attribute [local irreducible] World.setCell World.alloc World.drew World.setRow Calls Code.wp row

set_option maxRecDepth 100000 in
set_option maxHeartbeats 8000000 in
theorem play14_0 (base sb mb pb db ob lo : Nat) (v x : Nat → Value) (L : Nat → List Int) (P : Pool) (kd wh off nn at_ xx : Int) (da : Option Addr) (dl dc : Nat) (dB : Nat → Int) (w0 w : World) (hT : Two w base sb mb pb db ob lo v x L P) (hbel : Below base w0 w)
    (hk : (kd.tmod 7 + 7) % 7 = 0) (ho : (Lit.int .i64 off).wf = true) (hn : (Lit.int .i64 nn).wf = true) (ha : (Lit.int .i64 at_).wf = true) (hx : (Lit.int .u64 xx).wf = true)
    (hB : ∀ w', Below base w0 w' → BytesIn w' da dl dB) (hBd : ∀ j, 0 ≤ dB j ∧ dB j ≤ 255) (hdl : dl ≤ 300) (hdc : dl ≤ dc) (hdm : dc ≤ maxLen) :
    Calls Try.prog 40 #[.pointer (some ⟨pb, 0, none⟩), .slice (some ⟨sb, 0, none⟩) 2 2, .slice (some ⟨mb, 0, none⟩) 2 2, .agg #[.int .i64 kd, .int .i64 wh, .int .i64 off, .int .i64 nn, .int .i64 at_, .int .u64 xx, .slice da dl dc]] w fun e w' =>
      e = .returned (.bool true) ∧ PlayPost w0 base sb mb pb db ob lo w' := by
  have ho' := wf_i64 ho; have hn' := wf_i64 hn; have ha' := wf_i64 ha; have hx' := wf_u64 hx
  have Ho := Lib.hid ho; have Hn := Lib.hid hn; have Ha := Lib.hid ha; have Hx := Lib.hid hx
  have HB := Lib.hid hB; have HBd := Lib.hid hBd; have Hdl := Lib.hid (And.intro hdl (And.intro hdc hdm))
  clear ho hn ha hx hB hBd hdl hdc hdm
  obtain ⟨i, hi, hi2⟩ : ∃ i : Nat, wh % 2 = (i : Int) ∧ i < 2 := ⟨(wh % 2).toNat, by omega, by omega⟩
  have hand : bits .and .i64 wh 1 = (i : Int) := by rw [and1, hi]
  have hi2' : (i : Int) < 2 := by omega
  obtain ⟨q0, q1⟩ := tmod_bd kd 7 (by omega)
  have hkk : kd.tmod 7 % 7 = 0 := by omega
  clear hi
  have hbase := hT.base
  obtain ⟨xa, hxa⟩ := (hT.ls.r i hi2).open
  have hmc0 : ∀ o, (w.alloc o).cell? ⟨mb, i, none⟩ = some (.slice xa ((L i).length * 64) ((L i).length * 64)) := fun o => by
    rw [(hT.ls.hb.alloc o).cell, duo_at x i hi2, hxa]
  have h16 := hT.sg.h16 i hi2
  have hlen : (((L i).length * 64 : Nat) : Int) = segS (L i) := by unfold segS; omega
  go_enter Try.func40, Try.ntmps40
  go_wp2_with fail
  obtain ⟨w1, hw1⟩ : ∃ w1 : World, w1 = w.alloc (.cells #[.int .i64 kd, .int .i64 wh, .int .i64 off, .int .i64 nn, .int .i64 at_, .int .u64 xx, .slice da dl dc] 74) := ⟨_, rfl⟩
  rw [← hw1]
  have hcc : ∀ k, w1.cell? ⟨w.heap.size, k, none⟩ = (#[Value.int .i64 kd, .int .i64 wh, .int .i64 off, .int .i64 nn, .int .i64 at_, .int .u64 xx, .slice da dl dc])[k]? := by rw [hw1]; exact (Blk.new _ _ _).cell
  have HC : Hid (Blk w1 w.heap.size #[Value.int .i64 kd, .int .i64 wh, .int .i64 off, .int .i64 nn, .int .i64 at_, .int .u64 xx, .slice da dl dc] 74) := by rw [hw1]; exact Blk.new _ _ _
  have HT : Hid (Two w1 base sb mb pb db ob lo v x L P) := by rw [hw1]; exact hT.below ((Below.refl _ _).alloc (Nat.le_refl _) _)
  have Hb : Hid (Below base w0 w1) := by rw [hw1]; exact hbel.alloc hbase _
  have Hvl : Hid (∀ k, k < 2 → ∀ g, (v k).ownBlock = some g → g < w.heap.size) := fun k hk g hg => ((hT.sg.fr k hk).lt g hg).2
  have Hxl : Hid (∀ k, k < 2 → ∀ g, (x k).ownBlock = some g → g < w.heap.size) := fun k hk g hg => ((hT.ls.r k hk).lt g hg).2
  have Hhs : Hid (sb < w.heap.size ∧ mb < w.heap.size ∧ lo ≤ w.heap.size) := ⟨hT.sg.hb.lt, hT.ls.hb.lt, hT.sg.hlo⟩
  generalize (Value.agg #[.int .i64 kd, .int .i64 wh, .int .i64 off, .int .i64 nn, .int .i64 at_, .int .u64 xx, .slice da dl dc]) = vagg
  have hmc := hmc0 (.cells #[.int .i64 kd, .int .i64 wh, .int .i64 off, .int .i64 nn, .int .i64 at_, .int .u64 xx, .slice da dl dc] 74)
  rw [← hw1] at hmc
  have Hxa := Lib.hid hxa
  clear hw1 hT hbel hmc0 hxa
  have hpl : P.left ≤ 20 := by have := HT.out.left; omega
  have hdv : segS (L i) / 64 = ((L i).length : Int) := by unfold segS; omega
  have Hdv := Lib.hid hdv; clear hdv
  have Hlf : Hid (∀ k, Calls Try.prog 20 #[.pointer (some ⟨pb, 0, none⟩)] (w1.drewN k) fun e w' => e = .returned (.int .i64 P.left) ∧ w' = w1.drewN k) := fun k => (left_any pb db ob P (w1.drewN k) (HT.out.sg.pool.drewN k)).mono fun e w' ⟨h1, h2⟩ => ⟨h1, h2.symm⟩
  cases hs : segR P (L i) ((i : Int) + 1) nn
  · have h3 : ¬ (0 ≤ nn ∧ nn ≤ 16 ∧ nn ≤ ((L i).length : Int) + P.left) := fun h => by
      have := (segR_iff P (L i) ((i : Int) + 1) nn).2 ⟨h.1, h.2.1, h.2.2, by omega⟩
      rw [hs] at this; cases this
    have Hs := Lib.hid hs; clear hs
    have hdv := Hdv.out
    clear hlen
    generalize (L i).length = nL at *
    have hs0 : 0 ≤ segS (L i) := by unfold segS; omega
    generalize segS (L i) = sL at *
    by_cases c1 : 0 ≤ nn
    · by_cases c2 : nn ≤ 16
      · have c3 : decide (nn ≤ (nL : Int) + P.left) = false := by simp; omega
        go_wp2_with fail
        go_quiet ((exact Calls.quiet_of_same (Hlf.out _)))
        go_wp2_with fail
        refine (resize_no sb i pb db ob _ _ _ (L i) P _ nn _ (HT.out.drewN nq |>.sg.at hi2) (HT.out.drewN nq).sg.pool Hs.out).mono ?_
        rintro e w' ⟨rfl, k, rfl⟩
        go_wp2_with fail
        go_ret
        exact ⟨rfl, below_drewN Hb.out _, v, x, L, P, HT.out.drewN _⟩
      · have c2' : decide (nn ≤ 16) = false := by simp; omega
        go_wp2_with fail
        go_quiet (fail)
        go_wp2_with fail
        refine (resize_no sb i pb db ob _ _ _ (L i) P _ nn _ (HT.out.drewN nq |>.sg.at hi2) (HT.out.drewN nq).sg.pool Hs.out).mono ?_
        rintro e w' ⟨rfl, k, rfl⟩
        go_wp2_with fail
        go_ret
        exact ⟨rfl, below_drewN Hb.out _, v, x, L, P, HT.out.drewN _⟩
    · have c1' : decide (0 ≤ nn) = false := by simp; omega
      go_wp2_with fail
      go_quiet (fail)
      go_wp2_with fail
      refine (resize_no sb i pb db ob _ _ _ (L i) P _ nn _ (HT.out.drewN nq |>.sg.at hi2) (HT.out.drewN nq).sg.pool Hs.out).mono ?_
      rintro e w' ⟨rfl, k, rfl⟩
      go_wp2_with fail
      go_ret
      exact ⟨rfl, below_drewN Hb.out _, v, x, L, P, HT.out.drewN _⟩
  · obtain ⟨c1, c2, c3, -⟩ := (segR_iff P (L i) ((i : Int) + 1) nn).1 hs
    obtain ⟨n, rfl⟩ : ∃ n : Nat, nn = (n : Int) := ⟨nn.toNat, by omega⟩
    have Hs := Lib.hid hs; clear hs
    have hdv := Hdv.out
    have Hlen := Lib.hid hlen
    clear hlen
    obtain ⟨nL, hnL⟩ : ∃ nL, (L i).length = nL := ⟨_, rfl⟩
    have HnL := Lib.hid hnL
    rw [hnL] at c3 h16 hdv hmc
    clear hnL
    have hs0 : 0 ≤ segS (L i) := by unfold segS; omega
    obtain ⟨sL, hsL⟩ : ∃ sL, segS (L i) = sL := ⟨_, rfl⟩
    rw [hsL] at hs0 hdv ⊢
    rw [HnL.out]
    clear hsL
    go_wp2_with fail
    go_quiet ((exact Calls.quiet_of_same (Hlf.out _)))
    have HT1 := Lib.hid (HT.out.drewN nq)
    have Hb1 := Lib.hid (below_drewN Hb.out nq)
    have HC1 := Lib.hid (HC.out.drewN nq)
    have hz1 : (w1.drewN nq).heap.size = w1.heap.size := rfl
    have hz0 := HC.out.lt
    clear HT Hb HC Hlf hcc hmc
    generalize w1.drewN nq = w2 at *
    have hcc := HC1.out.cell
    go_wp2_with fail
    refine (resize_yes sb i pb db ob _ _ _ (L i) P _ n _ (HT1.out.sg.at hi2) HT1.out.sg.pool (HT1.out.sg.inn i hi2) Hs.out HT1.out.sg.hlo (HT1.out.sg.seg hi2).n1 (HT1.out.sg.seg hi2).n2).mono ?_
    rintro e w3 ⟨rfl, v', L', P', hR⟩
    have HR := Lib.hid hR
    have hnr : ¬ RS pb db ob sb (v i) w.heap.size := by
      have := Hhs.out; have := HT1.out.sg.lp
      rintro ((e | e | e) | e | e)
      · omega
      · omega
      · omega
      · omega
      · have := Hvl.out i hi2 _ e; omega
    have hnm : ¬ RS pb db ob sb (v i) mb := by
      have := HT1.out.lm; have := HT1.out.ls.ml
      rintro ((e | e | e) | e | e)
      · omega
      · omega
      · omega
      · omega
      · have := ((HT1.out.sg.fr i hi2).lt _ e).1; omega
    have hnx : ∀ g, (x i).ownBlock = some g → ¬ RS pb db ob sb (v i) g := fun g hg hr => by
      have h1 := ((HT1.out.ls.r i hi2).lt g hg).1
      have := HT1.out.sg.lp; have := HT1.out.sg.sl
      rcases hr with (e1 | e1 | e1) | e1 | e1
      · omega
      · omega
      · omega
      · omega
      · exact HT1.out.vx i i hi2 hi2 g e1 hg
    have HC3 := Lib.hid (hR.kept.blk HC1.out hnr)
    have Hm3 := Lib.hid (hR.kept.blk HT1.out.ls.hb hnm)
    have Hx3 := Lib.hid ((HT1.out.ls.r i hi2).kept hR.kept hnx)
    have hz3 := hR.kept.size
    have Hb3 := Lib.hid (Hb1.out.trans (hR.kept.below (B := base) HT1.out.base (fun k hk e => by
      have := HT1.out.bs; have := HT1.out.sg.lp; have := HT1.out.sg.sl
      rcases e with (e1 | e1 | e1) | e1 | e1
      · omega
      · omega
      · omega
      · omega
      · have := ((HT1.out.sg.fr i hi2).lt _ e1).1; omega)))
    clear hR hnr hnm hnx hcc
    have hcc := HC3.out.cell
    have hmc : ∀ o, (w3.alloc o).cell? ⟨mb, i, none⟩ = some (.slice xa (nL * 64) (nL * 64)) := fun o => by rw [(Hm3.out.alloc o).cell, duo_at x i hi2, Hxa.out, HnL.out]
    have hmk := run_makeBytes n (by omega)
    have hrow : RowIn (w3.alloc (.cells (row (n * 64) fun _ => .int .u8 0) 5)) lo (.slice (some ⟨w3.heap.size, 0, none⟩) (n * 64) (n * 64)) (n * 64) (fun _ => 0) :=
      .inr ⟨_, rfl, by have := HT1.out.sg.hlo; omega, Blk.new _ _ _⟩
    have Hrow := Lib.hid hrow
    have Hxx := Hx3.out.kept (S := fun _ => False) ((Kept.refl _ w3).alloc (.cells (row (n * 64) fun _ => .int .u8 0) 5)) (fun _ _ h => h)
    obtain ⟨xb, hxb, hxb0, hxB⟩ := row_whole Hxx
    have hxab : xb = xa := by
      have := Hxa.out; rw [hxb] at this; injection this
    subst hxab
    have hxB' : BytesIn (w3.alloc (.cells (row (n * 64) fun _ => .int .u8 0) 5)) xb (Nat.min (nL * 64) (n * 64)) (segD P (L i)) := by
      have := hxB _ _ Hxx; rw [HnL.out] at this
      exact this.imp (fun h => by rw [h]; simp) (fun ⟨b, o, h1, h2⟩ => ⟨b, o, h1, fun j hj => h2 j (Nat.lt_of_lt_of_le hj (Nat.min_le_left _ _))⟩)
    have HxB := Lib.hid hxB'
    have hml : 0 + Nat.min (nL * 64) (n * 64) ≤ n * 64 := by rw [Nat.zero_add]; exact Nat.min_le_right _ _
    have Hml := Lib.hid hml
    clear hrow Hxx hxb hxb0 hxB hxB' hml
    go_wp2_with (refine wpList_copy_rowIn rfl (.tmp 152) (.tmp 156) rfl 0 (Nat.min (nL * 64) (n * 64)) _ _ _ _ _ _ Hrow.out rfl rfl rfl HxB.out Hml.out (fun _ => ⟨_, rfl, rfl⟩) ?_)
    intro w4 HK4 HR4
    have hK4 := HK4.out; have hR4 := HR4.out
    have hK5 : Kept (fun k => k = w3.heap.size) w3 w4 := ((Kept.refl _ w3).alloc _).trans (hK4.mono (fun k _ hk => by injection hk with hk; exact hk.symm))
    have hb4 : Below w3.heap.size w3 w4 := hK5.below (Nat.le_refl _) (fun k hk e => by omega)
    have Hfin := Lib.hid (HT1.out.resized hi2 HR.out hb4 (X := .slice (some ⟨w3.heap.size, 0, none⟩) (n * 64) (n * 64)) rfl (Nat.le_refl _) hR4 (fun j hj => by
      rw [HnL.out]
      split <;> split <;> first | rfl | (exfalso; omega)))
    have hfrb : Below base w3 (w4.setCell ⟨mb, i, none⟩ (.slice (some ⟨w3.heap.size, 0, none⟩) (n * 64) (n * 64))) := by
      have h1 := (Kept.of_below (S := fun k => k = mb) hb4).setIn mb i (.slice (some ⟨w3.heap.size, 0, none⟩) (n * 64) (n * 64)) rfl
      refine h1.below (by have := Hb3.out; have := HT1.out.base; omega) (fun k hk e => ?_)
      have := HT1.out.bs; have := HT1.out.lm; omega
    have Hfb := Lib.hid (Hb3.out.trans hfrb)
    have hmc4 : w4.cell? ⟨mb, i, none⟩ = some (.slice xb (nL * 64) (nL * 64)) := by rw [(Hm3.out.below hb4 Hm3.out.lt).cell, duo_at x i hi2, Hxa.out, HnL.out]
    have hmf4 := (Hm3.out.below hb4 Hm3.out.lt).free
    clear hK4 hR4 hK5 hb4 hfrb hmc hcc hmk
    go_wp2_with fail
    go_ret
    exact ⟨rfl, Hfb.out, _, _, _, _, Hfin.out⟩
end Go.Proofs.Ytndnjimiabpkpaa
