/- play of layer 14, kind 3. -/
import Derived.Test.YtndnjimiabpkpaaByD
import Derived.Test.YtndnjimiabpkpaaSgE
import Derived.Test.YtndnjimiabpkpaaSgF
import Derived.Test.YtndnjimiabpkpaaStr
import Derived.Test.YtndnjimiabpkpaaCut
import Derived.Test.YtndnjimiabpkpaaReg
import Derived.Deep.QuietTactic
import Derived.BigQuiet
import Derived.IntWalk
import Derived.BigRegion
import Derived.Deep.LoopGhost
import Derived.Deep.MidRow
import Derived.StillTailTactics
namespace Go.Proofs.Ytndnjimiabpkpaa
open Go.RowKit
attribute [local irreducible] World.setCell World.alloc World.drew World.setRow Calls Code.wp row

set_option maxRecDepth 100000 in
set_option maxHeartbeats 8000000 in
theorem play14_3 (base sb mb pb db ob lo : Nat) (v x : Nat → Value) (L : Nat → List Int) (P : Pool) (kd wh off nn at_ xx : Int) (da : Option Addr) (dl dc : Nat) (dB : Nat → Int) (w0 w : World) (hT : Two w base sb mb pb db ob lo v x L P) (hbel : Below base w0 w)
    (hk : (kd.tmod 7 + 7) % 7 = 3) (ho : (Lit.int .i64 off).wf = true) (hn : (Lit.int .i64 nn).wf = true) (ha : (Lit.int .i64 at_).wf = true) (hx : (Lit.int .u64 xx).wf = true)
    (hB : ∀ w', Below base w0 w' → BytesIn w' da dl dB) (hBd : ∀ j, 0 ≤ dB j ∧ dB j ≤ 255) (hdl : dl ≤ 300) (hdc : dl ≤ dc) (hdm : dc ≤ maxLen) :
    Calls Try.prog 40 #[.pointer (some ⟨pb, 0, none⟩), .slice (some ⟨sb, 0, none⟩) 2 2, .slice (some ⟨mb, 0, none⟩) 2 2, .agg #[.int .i64 kd, .int .i64 wh, .int .i64 off, .int .i64 nn, .int .i64 at_, .int .u64 xx, .slice da dl dc]] w fun e w' =>
      e = .returned (.bool true) ∧ PlayPost w0 base sb mb pb db ob lo w' := by
  have ho' := wf_i64 ho; have hn' := wf_i64 hn; have ha' := wf_i64 ha; have hx' := wf_u64 hx
  have Ho := Lib.hid ho; have Hn := Lib.hid hn; have Ha := Lib.hid ha; have Hx := Lib.hid hx
  have HB := Lib.hid hB; have HBd := Lib.hid hBd; have Hdl := Lib.hid (And.intro hdl (And.intro hdc hdm))
  clear ho hn ha hx hB hBd hdl hdc hdm
  obtain ⟨i, hi, hi2⟩ : ∃ i : Nat, wh % 2 = (i : Int) ∧ i < 2 := ⟨(wh % 2).toNat, by omega, by omega⟩
  have hand : bits .and .i64 wh 1 = (i : Int) := by rw [and1, hi]
  have hi2' : (i : Int) < 2 := by omega
  obtain ⟨q0, q1⟩ := tmod_bd kd 7 (by omega)
  have hkk : kd.tmod 7 % 7 = 3 := by omega
  clear hi
  have hbase := hT.base
  obtain ⟨xa, hxa⟩ := (hT.ls.r i hi2).open
  have hmc0 : ∀ o, (w.alloc o).cell? ⟨mb, i, none⟩ = some (.slice xa ((L i).length * 64) ((L i).length * 64)) := fun o => by
    rw [(hT.ls.hb.alloc o).cell, duo_at x i hi2, hxa]
  have h16 := hT.sg.h16 i hi2
  have hlen : (((L i).length * 64 : Nat) : Int) = segS (L i) := by unfold segS; omega
  go_enter Try.func40, Try.ntmps40
  go_wp2_with fail
  obtain ⟨w1, hw1⟩ : ∃ w1 : World, w1 = w.alloc (.cells #[.int .i64 kd, .int .i64 wh, .int .i64 off, .int .i64 nn, .int .i64 at_, .int .u64 xx, .slice da dl dc] 74) := ⟨_, rfl⟩
  rw [← hw1]
  have hcc : ∀ k, w1.cell? ⟨w.heap.size, k, none⟩ = (#[Value.int .i64 kd, .int .i64 wh, .int .i64 off, .int .i64 nn, .int .i64 at_, .int .u64 xx, .slice da dl dc])[k]? := by rw [hw1]; exact (Blk.new _ _ _).cell
  have HC : Hid (Blk w1 w.heap.size #[Value.int .i64 kd, .int .i64 wh, .int .i64 off, .int .i64 nn, .int .i64 at_, .int .u64 xx, .slice da dl dc] 74) := by rw [hw1]; exact Blk.new _ _ _
  have HT : Hid (Two w1 base sb mb pb db ob lo v x L P) := by rw [hw1]; exact hT.below ((Below.refl _ _).alloc (Nat.le_refl _) _)
  have Hb : Hid (Below base w0 w1) := by rw [hw1]; exact hbel.alloc hbase _
  have Hvl : Hid (∀ k, k < 2 → ∀ g, (v k).ownBlock = some g → g < w.heap.size) := fun k hk g hg => ((hT.sg.fr k hk).lt g hg).2
  have Hxl : Hid (∀ k, k < 2 → ∀ g, (x k).ownBlock = some g → g < w.heap.size) := fun k hk g hg => ((hT.ls.r k hk).lt g hg).2
  have Hhs : Hid (sb < w.heap.size ∧ mb < w.heap.size ∧ lo ≤ w.heap.size) := ⟨hT.sg.hb.lt, hT.ls.hb.lt, hT.sg.hlo⟩
  generalize (Value.agg #[.int .i64 kd, .int .i64 wh, .int .i64 off, .int .i64 nn, .int .i64 at_, .int .u64 xx, .slice da dl dc]) = vagg
  have hmc := hmc0 (.cells #[.int .i64 kd, .int .i64 wh, .int .i64 off, .int .i64 nn, .int .i64 at_, .int .u64 xx, .slice da dl dc] 74)
  rw [← hw1] at hmc
  have Hxa := Lib.hid hxa
  clear hw1 hT hbel hmc0 hxa
  cases hs : segM (L i) off nn
  · have Hs := Lib.hid hs
    obtain ⟨b, hb⟩ : ∃ b, segW (L i) off nn = b := ⟨_, rfl⟩
    have hnot : ¬ (1 ≤ nn ∧ nn ≤ 8 ∧ b = true) := fun h => by
      have := (segM_iff (L i) off nn).2 (by rw [hb]; exact h)
      rw [hs] at this; cases this
    have HB' := Lib.hid hb
    clear hs hb
    refine (snum_no sb i pb _ _ _ (L i) off nn _ (HT.out.sg.at hi2) Hs.out).mono ?_
    rintro e w' ⟨rfl, rfl⟩
    clear hlen
    by_cases c1 : 1 ≤ nn
    · by_cases c2 : nn ≤ 8
      · obtain rfl : b = false := by
          cases b
          · rfl
          · exact absurd ⟨c1, c2, rfl⟩ hnot
        clear hnot
        go_wp2_with fail
        refine (wi_any (segS (L i)) off nn _ (by unfold segS; omega) (by unfold segS; omega) Ho.out Hn.out).mono ?_
        rintro e w' ⟨rfl, rfl⟩
        rw [wi_seg, HB'.out]
        go_wp2_with fail
        refine wp_loop_rounds 1 ?_; rw [rounds_succ]
        go_wp2_with fail
        go_ret
        exact ⟨rfl, Hb.out, v, x, L, P, HT.out⟩
      · clear hnot
        go_wp2_with fail
        refine wp_loop_rounds 1 ?_; rw [rounds_succ]
        go_wp2_with fail
        go_ret
        exact ⟨rfl, Hb.out, v, x, L, P, HT.out⟩
    · clear hnot
      go_wp2_with fail
      refine wp_loop_rounds 1 ?_; rw [rounds_succ]
      go_wp2_with fail
      go_ret
      exact ⟨rfl, Hb.out, v, x, L, P, HT.out⟩
  · obtain ⟨c1, c2, c3⟩ := (segM_iff (L i) off nn).1 hs
    obtain ⟨f1, f2, f3, f4⟩ := (segW_iff _ _ _).1 c3
    obtain ⟨q, rfl⟩ : ∃ q : Nat, off = (q : Int) := ⟨off.toNat, by omega⟩
    obtain ⟨m, rfl⟩ : ∃ m : Nat, nn = (m : Int) := ⟨nn.toNat, by omega⟩
    have hqm : q + m ≤ (L i).length * 64 := by unfold segS at f3 f4; omega
    have Hs := Lib.hid hs; have Hw := Lib.hid c3; clear hs c3
    refine (snum_yes sb i pb db ob _ _ _ (L i) P _ q m _ (HT.out.sg.at hi2) HT.out.sg.pool (HT.out.sg.inn i hi2) Hs.out).mono ?_
    rintro e w2 ⟨rfl, hb2⟩
    have HT2 := Lib.hid (HT.out.below hb2)
    have Hb2 := Lib.hid (Hb.out.trans (hb2.mono HT.out.base))
    have hcc2 := (HC.out.below hb2 HC.out.lt).cell
    have hmc2 : w2.cell? ⟨mb, i, none⟩ = some (.slice xa ((L i).length * 64) ((L i).length * 64)) := by rw [HT2.out.ls.hb.cell, duo_at x i hi2, Hxa.out]
    obtain ⟨g, hX, hcell⟩ : ∃ g, xa = some ⟨g, 0, none⟩ ∧ ∀ j, j < (L i).length * 64 → w2.cell? ⟨g, j, none⟩ = some (.int .u8 (segD P (L i) j)) := by
      rcases HT2.out.ls.r i hi2 with ⟨e, h0⟩ | ⟨g, e, _, hbl⟩
      · omega
      · refine ⟨g, ?_, fun j hj => hbl.rowAt j hj⟩
        rw [Hxa.out] at e; injection e
    subst hX
    have Hcell := Lib.hid hcell
    have hD : ∀ j, 0 ≤ segD P (L i) (q + j) ∧ segD P (L i) (q + j) ≤ 255 := fun j => HT2.out.sg.pool.bd _
    obtain ⟨C, hC⟩ : ∃ C : Nat → Int, (fun j => segD P (L i) (q + j)) = C := ⟨_, rfl⟩
    have hCj : ∀ j, segD P (L i) (q + j) = C j := fun j => congrFun hC j
    have hCb : ∀ j, 0 ≤ C j ∧ C j ≤ 255 := fun j => by rw [← hCj]; exact hD j
    have HCj := Lib.hid hCj
    rw [hC]
    have hCm := beN_bd8 C hCb m (by omega)
    clear hcell hb2 hcc hmc hlen f3 f4 hD hC hCj
    have Hwi := Lib.hid (wi_any (segS (L i)) q m w2 (by unfold segS; omega) (by unfold segS; omega) Ho.out Hn.out)
    have Hsv := Lib.hid (show segS (L i) = segS (L i) from rfl)
    go_wp2_with fail
    refine Hwi.out.mono ?_
    rintro e w' ⟨rfl, rfl⟩
    rw [wi_seg, Hw.out]
    clear Hwi
    go_wp2_with fail
    obtain ⟨nL, hnL⟩ : ∃ nL, (L i).length = nL := ⟨_, rfl⟩
    rw [hnL] at hqm h16 hmc2
    have Hcell2 : Hid (∀ j, j < nL * 64 → w2.cell? ⟨g, j, none⟩ = some (.int .u8 (segD P (L i) j))) := by rw [← hnL]; exact Hcell.out
    go_loopg [20, 22] m (fun gh s kk wx => ∃ k n : Nat, k + gh = m ∧ kk = .int .i64 k ∧ s = .int .u64 (beN C k) ∧ wx = w2.drewN n)
    case atStart => exact ⟨0, 0, by omega, rfl, rfl, rfl⟩
    case round =>
      obtain ⟨k, n, hk, rfl, rfl, rfl⟩ := hrel
      by_cases hlt : k < m
      · have hcl := Hcell2.out (q + k) (by omega)
        rw [HCj.out k] at hcl
        obtain ⟨c0, c1'⟩ := hCb k
        obtain ⟨d0, d1⟩ := beN_bd C hCb k (by omega)
        have hor := or_u64 (beN C k) (C k) d0 c0 (by omega) d1
        have Hs : Hid (beN C (k + 1) = beN C k * 256 + C k) := rfl
        have hix : ∀ w, (Instr.indexAt 32 (.slice (some ⟨g, 0, none⟩) (nL * 64) (nL * 64)) (.int .i64 ((q : Int) + k))).run Try.prog w = .ok (.pointer (some ⟨g, q + k, none⟩)) w := by
          intro w
          have := idx_some (P := Try.prog) (T := 32) (E := 5) (sz := 1) Try.underlying32 (fun w => by kernel_rfl) g 0 (nL * 64) (nL * 64) (q + k) (by omega) w
          rw [Nat.zero_add, Nat.mul_one, Int.natCast_add] at this; exact this
        have hqk : IntKind.i64.wrap ((q : Int) + k) = (q : Int) + k := IntWalk.i64_in _ (by omega)
        go_wp2_with fail
        go_quiet (fail)
        go_wp2_with fail
        go_roundg (m - (k + 1))
        case measure => omega
        case rel => exact ⟨k + 1, _, by omega, by go_num, by rw [Hs.out], rfl⟩
      · obtain rfl : k = m := by omega
        go_wp2_with fail
        go_ret
        exact ⟨by simp, below_drewN Hb2.out _, v, x, L, P, HT2.out.drewN _⟩
end Go.Proofs.Ytndnjimiabpkpaa
