/- play of layer 14, kind 1. -/
import Derived.Test.YtndnjimiabpkpaaByD
import Derived.Test.YtndnjimiabpkpaaSgE
import Derived.Test.YtndnjimiabpkpaaSgF
import Derived.Test.YtndnjimiabpkpaaStr
import Derived.Test.YtndnjimiabpkpaaCut
import Derived.Test.YtndnjimiabpkpaaReg
import Derived.Deep.QuietTactic
import Derived.BigQuiet
import Derived.IntWalk
import Derived.BigRegion
import Derived.Deep.LoopGhost
import Derived.Deep.MidRow
import Derived.StillTailTactics
namespace Go.Proofs.Ytndnjimiabpkpaa
open Go.RowKit
attribute [local irreducible] World.setCell World.alloc World.drew World.setRow Calls Code.wp row

set_option maxRecDepth 100000 in
set_option maxHeartbeats 8000000 in
theorem play14_1 (base sb mb pb db ob lo : Nat) (v x : Nat → Value) (L : Nat → List Int) (P : Pool) (kd wh off nn at_ xx : Int) (da : Option Addr) (dl dc : Nat) (dB : Nat → Int) (w0 w : World) (hT : Two w base sb mb pb db ob lo v x L P) (hbel : Below base w0 w)
    (hk : (kd.tmod 7 + 7) % 7 = 1) (ho : (Lit.int .i64 off).wf = true) (hn : (Lit.int .i64 nn).wf = true) (ha : (Lit.int .i64 at_).wf = true) (hx : (Lit.int .u64 xx).wf = true)
    (hB : ∀ w', Below base w0 w' → BytesIn w' da dl dB) (hBd : ∀ j, 0 ≤ dB j ∧ dB j ≤ 255) (hdl : dl ≤ 300) (hdc : dl ≤ dc) (hdm : dc ≤ maxLen) :
    Calls Try.prog 40 #[.pointer (some ⟨pb, 0, none⟩), .slice (some ⟨sb, 0, none⟩) 2 2, .slice (some ⟨mb, 0, none⟩) 2 2, .agg #[.int .i64 kd, .int .i64 wh, .int .i64 off, .int .i64 nn, .int .i64 at_, .int .u64 xx, .slice da dl dc]] w fun e w' =>
      e = .returned (.bool true) ∧ PlayPost w0 base sb mb pb db ob lo w' := by
  have ho' := wf_i64 ho; have hn' := wf_i64 hn; have ha' := wf_i64 ha; have hx' := wf_u64 hx
  have Ho := Lib.hid ho; have Hn := Lib.hid hn; have Ha := Lib.hid ha; have Hx := Lib.hid hx
  have HB := Lib.hid hB; have HBd := Lib.hid hBd; have Hdl := Lib.hid (And.intro hdl (And.intro hdc hdm))
  clear ho hn ha hx hB hBd hdl hdc hdm
  obtain ⟨i, hi, hi2⟩ : ∃ i : Nat, wh % 2 = (i : Int) ∧ i < 2 := ⟨(wh % 2).toNat, by omega, by omega⟩
  have hand : bits .and .i64 wh 1 = (i : Int) := by rw [and1, hi]
  have hi2' : (i : Int) < 2 := by omega
  obtain ⟨q0, q1⟩ := tmod_bd kd 7 (by omega)
  have hkk : kd.tmod 7 % 7 = 1 := by omega
  clear hi
  have hbase := hT.base
  obtain ⟨xa, hxa⟩ := (hT.ls.r i hi2).open
  have hmc0 : ∀ o, (w.alloc o).cell? ⟨mb, i, none⟩ = some (.slice xa ((L i).length * 64) ((L i).length * 64)) := fun o => by
    rw [(hT.ls.hb.alloc o).cell, duo_at x i hi2, hxa]
  have h16 := hT.sg.h16 i hi2
  have hlen : (((L i).length * 64 : Nat) : Int) = segS (L i) := by unfold segS; omega
  go_enter Try.func40, Try.ntmps40
  go_wp2_with fail
  obtain ⟨w1, hw1⟩ : ∃ w1 : World, w1 = w.alloc (.cells #[.int .i64 kd, .int .i64 wh, .int .i64 off, .int .i64 nn, .int .i64 at_, .int .u64 xx, .slice da dl dc] 74) := ⟨_, rfl⟩
  rw [← hw1]
  have hcc : ∀ k, w1.cell? ⟨w.heap.size, k, none⟩ = (#[Value.int .i64 kd, .int .i64 wh, .int .i64 off, .int .i64 nn, .int .i64 at_, .int .u64 xx, .slice da dl dc])[k]? := by rw [hw1]; exact (Blk.new _ _ _).cell
  have HC : Hid (Blk w1 w.heap.size #[Value.int .i64 kd, .int .i64 wh, .int .i64 off, .int .i64 nn, .int .i64 at_, .int .u64 xx, .slice da dl dc] 74) := by rw [hw1]; exact Blk.new _ _ _
  have HT : Hid (Two w1 base sb mb pb db ob lo v x L P) := by rw [hw1]; exact hT.below ((Below.refl _ _).alloc (Nat.le_refl _) _)
  have Hb : Hid (Below base w0 w1) := by rw [hw1]; exact hbel.alloc hbase _
  have Hhs : Hid (sb < w.heap.size ∧ mb < w.heap.size ∧ lo ≤ w.heap.size) := ⟨hT.sg.hb.lt, hT.ls.hb.lt, hT.sg.hlo⟩
  generalize (Value.agg #[.int .i64 kd, .int .i64 wh, .int .i64 off, .int .i64 nn, .int .i64 at_, .int .u64 xx, .slice da dl dc]) = vagg
  have hmc := hmc0 (.cells #[.int .i64 kd, .int .i64 wh, .int .i64 off, .int .i64 nn, .int .i64 at_, .int .u64 xx, .slice da dl dc] 74)
  rw [← hw1] at hmc
  have Hxa := Lib.hid hxa
  clear hw1 hT hbel hmc0 hxa
  cases hs : segW (L i) off nn
  · have Hs := Lib.hid hs; clear hs
    have Hwi := Lib.hid (wi_at (L i) off nn h16 Ho.out Hn.out false Hs.out)
    refine (sread_no sb i pb _ _ _ (L i) off nn _ (HT.out.sg.at hi2) Hs.out).mono ?_
    rintro e w' ⟨rfl, rfl⟩
    clear hlen
    generalize segS (L i) = sL at *
    go_wp2_with fail
    go_quiet ((exact Calls.quiet_of_same (Hwi.out _ _)))
    go_wp2_with fail
    go_ret
    exact ⟨rfl, below_drewN Hb.out _, v, x, L, P, HT.out.drewN _⟩
  · obtain ⟨f1, f2, f3, f4⟩ := (segW_iff _ _ _).1 hs
    obtain ⟨q, rfl⟩ : ∃ q : Nat, off = (q : Int) := ⟨off.toNat, by omega⟩
    obtain ⟨m, rfl⟩ : ∃ m : Nat, nn = (m : Int) := ⟨nn.toNat, by omega⟩
    have hqm : q + m ≤ (L i).length * 64 := by unfold segS at f3 f4; omega
    have Hs := Lib.hid hs; clear hs
    have Hwi := Lib.hid (wi_at (L i) q m h16 Ho.out Hn.out true Hs.out)
    refine (sread_yes sb i pb db ob _ _ _ (L i) P _ q m _ (HT.out.sg.at hi2) HT.out.sg.pool (HT.out.sg.inn i hi2) Hs.out).mono ?_
    rintro e w2 ⟨r, rfl, hown, hb2⟩
    have HT2 := Lib.hid (HT.out.below hb2)
    have Hb2 := Lib.hid (Hb.out.trans (hb2.mono HT.out.base))
    rw [cutL_seg] at hown
    have hown' : w2.ownsRow w1.heap.size 5 1 r (cutL (segD P (L i)) q m).length (bytesV (cutL (segD P (L i)) q m)) := by rw [cutL_len]; exact hown
    have hs1 : ∀ w', (∃ n, w' = w2.drewN n) → (convert 32 9 r).run Try.prog w' = .ok (.string (bs (cutL (segD P (L i)) q m))) w' := fun w' hw' => by
      obtain ⟨n, rfl⟩ := hw'
      exact run_str_own Try.underlying32 Try.underlying5 Try.underlying9 (show (w2.drewN n).ownsRow _ _ _ _ _ _ from hown')
    have hri := HT2.out.ls.r i hi2
    rw [Hxa.out] at hri
    obtain ⟨xb, hsl, hcv⟩ := row_cut hri q m hqm (by omega)
    have hs2 : ∀ w', (∃ n, w' = w2.drewN n) → (convert 32 9 (.slice xb m ((L i).length * 64 - q))).run Try.prog w' = .ok (.string (bs (cutL (segD P (L i)) q m))) w' := fun w' hw' => by
      obtain ⟨n, rfl⟩ := hw'
      exact hcv _ (hri.kept (S := fun _ => False) ((Kept.refl _ _).drewN n) (fun _ _ h => h))
    have Hs1 := Lib.hid hs1; have Hs2 := Lib.hid hs2
    have hcc2 := (HC.out.below hb2 HC.out.lt).cell
    have hmc2 : w2.cell? ⟨mb, i, none⟩ = some (.slice xa ((L i).length * 64) ((L i).length * 64)) := by rw [HT2.out.ls.hb.cell, duo_at x i hi2, Hxa.out]
    clear hs1 hs2 hcv hown hown' hri hcc hmc hb2 hlen f3 f4
    generalize segS (L i) = sL at *
    have hmw : IntKind.i64.wrap ((q : Int) + m) = (q : Int) + m := IntWalk.i64_in _ (by omega)
    go_wp2_with fail
    refine wp_region_quiet_lit (by kernel_rfl) (by kernel_rfl) ?_
    repeat (first
      | (refine BigFrame.wpQuiet_want rfl (fun K hK => quiet_conv 32 9 (.tmp 187) _ _ rfl rfl Hs1.out (hK _ ?_)); clear hK K; go_simp)
      | (refine BigFrame.wpQuiet_want rfl (fun K hK => quiet_conv 32 9 (.tmp 200) _ _ rfl rfl Hs2.out (hK _ ?_)); clear hK K; go_simp)
      | go_big_quiet_step ((exact Calls.quiet_of_same (Hwi.out _ _))))
    refine wpQuiet_nil ?_
    intro nq
    go_wp2_with fail
    go_ret
    exact ⟨by simp, below_drewN Hb2.out _, v, x, L, P, HT2.out.drewN _⟩
end Go.Proofs.Ytndnjimiabpkpaa
