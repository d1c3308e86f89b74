/- play of layer 14, kind 5. -/
import Derived.Test.YtndnjimiabpkpaaByD
import Derived.Test.YtndnjimiabpkpaaSgE
import Derived.Test.YtndnjimiabpkpaaSgF
import Derived.Test.YtndnjimiabpkpaaStr
import Derived.Test.YtndnjimiabpkpaaCut
import Derived.Test.YtndnjimiabpkpaaReg
import Derived.Deep.QuietTactic
import Derived.BigQuiet
import Derived.IntWalk
import Derived.BigRegion
import Derived.Deep.LoopGhost
import Derived.Deep.DeepCutAuto
import Derived.Deep.CutBlock
import Derived.Deep.RegionHeld3
import Derived.Deep.AppendLies
import Derived.Deep.MidRow
import Derived.StillTailTactics
namespace Go.Proofs.Ytndnjimiabpkpaa
open Go.RowKit
attribute [local irreducible] World.setCell World.alloc World.drew World.setRow Calls Code.wp row

set_option maxRecDepth 100000 in
set_option maxHeartbeats 8000000 in
theorem play14_5 (base sb mb pb db ob lo : Nat) (v x : Nat → Value) (L : Nat → List Int) (P : Pool) (kd wh off nn at_ xx : Int) (da : Option Addr) (dl dc : Nat) (dB : Nat → Int) (w0 w : World) (hT : Two w base sb mb pb db ob lo v x L P) (hbel : Below base w0 w)
    (hk : (kd.tmod 7 + 7) % 7 = 5) (ho : (Lit.int .i64 off).wf = true) (hn : (Lit.int .i64 nn).wf = true) (ha : (Lit.int .i64 at_).wf = true) (hx : (Lit.int .u64 xx).wf = true)
    (hB : ∀ w', Below base w0 w' → BytesIn w' da dl dB) (hBd : ∀ j, 0 ≤ dB j ∧ dB j ≤ 255) (hdl : dl ≤ 300) (hdc : dl ≤ dc) (hdm : dc ≤ maxLen) :
    Calls Try.prog 40 #[.pointer (some ⟨pb, 0, none⟩), .slice (some ⟨sb, 0, none⟩) 2 2, .slice (some ⟨mb, 0, none⟩) 2 2, .agg #[.int .i64 kd, .int .i64 wh, .int .i64 off, .int .i64 nn, .int .i64 at_, .int .u64 xx, .slice da dl dc]] w fun e w' =>
      e = .returned (.bool true) ∧ PlayPost w0 base sb mb pb db ob lo w' := by
  have ho' := wf_i64 ho; have hn' := wf_i64 hn; have ha' := wf_i64 ha; have hx' := wf_u64 hx
  have Ho := Lib.hid ho; have Hn := Lib.hid hn; have Ha := Lib.hid ha; have Hx := Lib.hid hx
  have HB := Lib.hid hB; have HBd := Lib.hid hBd; have Hdl := Lib.hid (And.intro hdl (And.intro hdc hdm))
  clear ho hn ha hx hB hBd hdl hdc hdm
  obtain ⟨i, hi, hi2⟩ : ∃ i : Nat, wh % 2 = (i : Int) ∧ i < 2 := ⟨(wh % 2).toNat, by omega, by omega⟩
  have hand : bits .and .i64 wh 1 = (i : Int) := by rw [and1, hi]
  have hi2' : (i : Int) < 2 := by omega
  obtain ⟨q0, q1⟩ := tmod_bd kd 7 (by omega)
  have hkk : kd.tmod 7 % 7 = 5 := by omega
  clear hi
  have hbase := hT.base
  obtain ⟨xa, hxa⟩ := (hT.ls.r i hi2).open
  have hmc0 : ∀ o, (w.alloc o).cell? ⟨mb, i, none⟩ = some (.slice xa ((L i).length * 64) ((L i).length * 64)) := fun o => by
    rw [(hT.ls.hb.alloc o).cell, duo_at x i hi2, hxa]
  have h16 := hT.sg.h16 i hi2
  have hlen : (((L i).length * 64 : Nat) : Int) = segS (L i) := by unfold segS; omega
  go_enter Try.func40, Try.ntmps40
  go_upto_block 0 with fail
  obtain ⟨w1, hw1⟩ : ∃ w1 : World, w1 = w.alloc (.cells #[.int .i64 kd, .int .i64 wh, .int .i64 off, .int .i64 nn, .int .i64 at_, .int .u64 xx, .slice da dl dc] 74) := ⟨_, rfl⟩
  rw [← hw1]
  have hcc : ∀ k, w1.cell? ⟨w.heap.size, k, none⟩ = (#[Value.int .i64 kd, .int .i64 wh, .int .i64 off, .int .i64 nn, .int .i64 at_, .int .u64 xx, .slice da dl dc])[k]? := by rw [hw1]; exact (Blk.new _ _ _).cell
  have HC : Hid (Blk w1 w.heap.size #[Value.int .i64 kd, .int .i64 wh, .int .i64 off, .int .i64 nn, .int .i64 at_, .int .u64 xx, .slice da dl dc] 74) := by rw [hw1]; exact Blk.new _ _ _
  have HT : Hid (Two w1 base sb mb pb db ob lo v x L P) := by rw [hw1]; exact hT.below ((Below.refl _ _).alloc (Nat.le_refl _) _)
  have Hb : Hid (Below base w0 w1) := by rw [hw1]; exact hbel.alloc hbase _
  have Hvl : Hid (∀ k, k < 2 → ∀ g, (v k).ownBlock = some g → g < w.heap.size) := fun k hk g hg => ((hT.sg.fr k hk).lt g hg).2
  have Hxl : Hid (∀ k, k < 2 → ∀ g, (x k).ownBlock = some g → g < w.heap.size) := fun k hk g hg => ((hT.ls.r k hk).lt g hg).2
  have Hhs : Hid (sb < w.heap.size ∧ mb < w.heap.size ∧ lo ≤ w.heap.size) := ⟨hT.sg.hb.lt, hT.ls.hb.lt, hT.sg.hlo⟩
  generalize (Value.agg #[.int .i64 kd, .int .i64 wh, .int .i64 off, .int .i64 nn, .int .i64 at_, .int .u64 xx, .slice da dl dc]) = vagg
  have hmc := hmc0 (.cells #[.int .i64 kd, .int .i64 wh, .int .i64 off, .int .i64 nn, .int .i64 at_, .int .u64 xx, .slice da dl dc] 74)
  rw [← hw1] at hmc
  have Hxa := Lib.hid hxa
  clear hw1 hT hbel hmc0 hxa
  have h6a : (kd.tmod 7 == 6) = false := by simp; omega
  have h6b : (kd.tmod 7 == -1) = false := by simp; omega
  obtain ⟨k, hk1, hk2⟩ : ∃ k : Nat, (1 : Int) - (i : Int) = (k : Int) ∧ k < 2 := ⟨1 - i, by omega, by omega⟩
  have hki : (k : Int) < 2 := by omega
  obtain ⟨xk, hxk⟩ := (HT.out.ls.r k hk2).open
  have hmck : w1.cell? ⟨mb, k, none⟩ = some (.slice xk ((L k).length * 64) ((L k).length * 64)) := by rw [HT.out.ls.hb.cell, duo_at x k hk2, hxk]
  have Hxk := Lib.hid hxk
  clear hxk
  go_wp2_with fail
  have h16k := HT.out.sg.h16 k hk2
  have hlenk : (((L k).length * 64 : Nat) : Int) = segS (L k) := by unfold segS; omega
  cases hs1 : segW (L k) at_ nn
  · have Hwi1 := Lib.hid (wi_at (L k) at_ nn h16k Ha.out Hn.out false hs1 w1)
    have Hbad : Hid ((segW (L k) at_ nn && segW (L i) off nn) = false) := by rw [hs1]; rfl
    clear hs1
    go_quiet ((exact Calls.quiet_of_same (Hwi1.out _)))
    have HT2 := Lib.hid (HT.out.drewN nq); have Hb2 := Lib.hid (below_drewN Hb.out nq)
    have HC2 := Lib.hid (HC.out.drewN nq)
    clear hcc hmc
    try clear hmck
    generalize w1.drewN nq = w2' at *
    have hcc := HC2.out.cell
    have HSS : Hid (∀ w', Kept (PS pb db ob) w2' w' → w'.cell? ⟨w.heap.size, 2, none⟩ = some (.int .i64 off) ∧ w'.cell? ⟨w.heap.size, 3, none⟩ = some (.int .i64 nn) ∧ w'.cell? ⟨w.heap.size, 4, none⟩ = some (.int .i64 at_)) := fun w' hb => by
      have h1 := hb.blk HC2.out (by have := Hhs.out; have := HT.out.sg.lp; rintro (e | e | e) <;> omega)
      exact ⟨h1.cell 2, h1.cell 3, h1.cell 4⟩
    have Hdr2 : Hid (Below w2'.heap.size w2' w2'.drew) := (Below.refl _ _).drew
    go_wp2_with fail
    go_region_held3 (fun w' => w'.cell? ⟨w.heap.size, 2, none⟩ = some (.int .i64 off) ∧ w'.cell? ⟨w.heap.size, 3, none⟩ = some (.int .i64 nn) ∧ w'.cell? ⟨w.heap.size, 4, none⟩ = some (.int .i64 at_))
      (first
        | exact HSS.out _ (Kept.of_below Hdr2.out)
        | exact HSS.out _ ((Kept.of_below Hdr2.out).trans (Kept.of_below hb2)))
      ((refine (scopy_no sb i sb k pb db ob _ _ _ _ _ _ (L i) (L k) P _ off at_ nn _ (HT2.out.sg.drew.at hi2) (HT2.out.sg.drew.at hk2) HT2.out.sg.drew.pool (HT2.out.sg.inn k hk2) Hbad.out).mono ?_; rintro e w2 ⟨rfl, hb2⟩))
    have HT3 := Lib.hid (HT2.out.drew.below hb2)
    have Hb3 := Lib.hid (Hb2.out.drew.trans (hb2.mono HT2.out.drew.base))
    clear hb2
    go_wp2_with fail
    go_ret
    exact ⟨rfl, Hb3.out, v, x, L, P, HT3.out⟩
  · cases hs2 : segW (L i) off nn
    · have Hwi1 := Lib.hid (wi_at (L k) at_ nn h16k Ha.out Hn.out true hs1 w1)
      have Hwi2 := Lib.hid (wi_at (L i) off nn h16 Ho.out Hn.out false hs2 w1)
      have Hbad : Hid ((segW (L k) at_ nn && segW (L i) off nn) = false) := by rw [hs1, hs2]; rfl
      clear hs1 hs2
      go_quiet ((first | (exact Calls.quiet_of_same (Hwi1.out _)) | (exact Calls.quiet_of_same (Hwi2.out _))))
      have HT2 := Lib.hid (HT.out.drewN nq); have Hb2 := Lib.hid (below_drewN Hb.out nq)
      have HC2 := Lib.hid (HC.out.drewN nq)
      clear hcc hmc
      try clear hmck
      generalize w1.drewN nq = w2' at *
      have hcc := HC2.out.cell
      have HSS : Hid (∀ w', Kept (PS pb db ob) w2' w' → w'.cell? ⟨w.heap.size, 2, none⟩ = some (.int .i64 off) ∧ w'.cell? ⟨w.heap.size, 3, none⟩ = some (.int .i64 nn) ∧ w'.cell? ⟨w.heap.size, 4, none⟩ = some (.int .i64 at_)) := fun w' hb => by
        have h1 := hb.blk HC2.out (by have := Hhs.out; have := HT.out.sg.lp; rintro (e | e | e) <;> omega)
        exact ⟨h1.cell 2, h1.cell 3, h1.cell 4⟩
      have Hdr2 : Hid (Below w2'.heap.size w2' w2'.drew) := (Below.refl _ _).drew
      go_wp2_with fail
      go_region_held3 (fun w' => w'.cell? ⟨w.heap.size, 2, none⟩ = some (.int .i64 off) ∧ w'.cell? ⟨w.heap.size, 3, none⟩ = some (.int .i64 nn) ∧ w'.cell? ⟨w.heap.size, 4, none⟩ = some (.int .i64 at_))
        (first
          | exact HSS.out _ (Kept.of_below Hdr2.out)
          | exact HSS.out _ ((Kept.of_below Hdr2.out).trans (Kept.of_below hb2)))
        ((refine (scopy_no sb i sb k pb db ob _ _ _ _ _ _ (L i) (L k) P _ off at_ nn _ (HT2.out.sg.drew.at hi2) (HT2.out.sg.drew.at hk2) HT2.out.sg.drew.pool (HT2.out.sg.inn k hk2) Hbad.out).mono ?_; rintro e w2 ⟨rfl, hb2⟩))
      have HT3 := Lib.hid (HT2.out.drew.below hb2)
      have Hb3 := Lib.hid (Hb2.out.drew.trans (hb2.mono HT2.out.drew.base))
      clear hb2
      go_wp2_with fail
      go_ret
      exact ⟨rfl, Hb3.out, v, x, L, P, HT3.out⟩
    · obtain ⟨f1, f2, f3, f4⟩ := (segW_iff _ _ _).1 hs2
      obtain ⟨g1, g2, g3, g4⟩ := (segW_iff _ _ _).1 hs1
      obtain ⟨q, rfl⟩ : ∃ q : Nat, off = (q : Int) := ⟨off.toNat, by omega⟩
      obtain ⟨m, rfl⟩ : ∃ m : Nat, nn = (m : Int) := ⟨nn.toNat, by omega⟩
      obtain ⟨p, rfl⟩ : ∃ p : Nat, at_ = (p : Int) := ⟨at_.toNat, by omega⟩
      have hqm : q + m ≤ (L i).length * 64 := by unfold segS at f3 f4; omega
      have hpm : p + m ≤ (L k).length * 64 := by unfold segS at g3 g4; omega
      have Hwi1 := Lib.hid (wi_at (L k) p m h16k Ha.out Hn.out true hs1 w1)
      have Hwi2 := Lib.hid (wi_at (L i) q m h16 Ho.out Hn.out true hs2 w1)
      have Hs1 := Lib.hid hs1; have Hs2 := Lib.hid hs2
      clear hs1 hs2 f3 f4 g3 g4
      go_quiet ((first | (exact Calls.quiet_of_same (Hwi1.out _)) | (exact Calls.quiet_of_same (Hwi2.out _))))
      have HT2' := Lib.hid (HT.out.drewN nq); have Hb2' := Lib.hid (below_drewN Hb.out nq)
      have HC2' := Lib.hid (HC.out.drewN nq)
      clear hcc hmc
      try clear hmck
      generalize w1.drewN nq = w2' at *
      have hcc := HC2'.out.cell
      have HSS : Hid (∀ w', Kept (PS pb db ob) w2' w' → w'.cell? ⟨w.heap.size, 2, none⟩ = some (.int .i64 q) ∧ w'.cell? ⟨w.heap.size, 3, none⟩ = some (.int .i64 m) ∧ w'.cell? ⟨w.heap.size, 4, none⟩ = some (.int .i64 p)) := fun w' hb => by
        have h1 := hb.blk HC2'.out (by have := Hhs.out; have := HT.out.sg.lp; rintro (e | e | e) <;> omega)
        exact ⟨h1.cell 2, h1.cell 3, h1.cell 4⟩
      have Hdr2 : Hid (Below w2'.heap.size w2' w2'.drew) := (Below.refl _ _).drew
      have HT2 := Lib.hid HT2'.out.drew; have Hb2 := Lib.hid Hb2'.out.drew; have HC2 := Lib.hid HC2'.out.drew
      have Hsg := Lib.hid (HT2.out.sg.seg hi2)
      have Hsk := Lib.hid (HT2.out.sg.seg hk2)
      go_wp2_with fail
      go_region_held3 (fun w' => w'.cell? ⟨w.heap.size, 2, none⟩ = some (.int .i64 q) ∧ w'.cell? ⟨w.heap.size, 3, none⟩ = some (.int .i64 m) ∧ w'.cell? ⟨w.heap.size, 4, none⟩ = some (.int .i64 p))
        (first
          | exact HSS.out _ (Kept.of_below Hdr2.out)
          | exact HSS.out _ ((Kept.of_below Hdr2.out).trans hK))
        ((refine (scopy_yes sb i sb k pb db ob _ _ _ _ _ _ (L i) (L k) P _ _ q p m _ Hsg.out.seg Hsk.out.seg Hsg.out.pool Hsg.out.inn Hsk.out.inn Hs1.out Hs2.out Hsg.out.n1 Hsg.out.n3).mono ?_; rintro e w3 ⟨rfl, P2, hP2, hD, hK⟩))
      clear hcc HT2' Hb2' HC2' HSS Hdr2 Hsg Hsk
      generalize w2'.drew = w2 at *
      have hls3 := HT2.out.ls.kept hK HT2.out.nmb (fun k hk g hg => HT2.out.nps g ((HT2.out.ls.r k hk).lt g hg).1)
      have hri := hls3.r i hi2
      have hrk := hls3.r k hk2
      have hri' := hri; have hrk' := hrk
      rw [Hxa.out] at hri'
      rw [Hxk.out] at hrk'
      obtain ⟨ya, hsl1, hya, -⟩ := row_sub hri' q m hqm (by omega)
      obtain ⟨yk, hsl2, -, hyk⟩ := row_sub hrk' p m hpm (by omega)
      have hcc3 := (hK.blk HC2.out (by have := Hhs.out; have := HT.out.sg.lp; rintro (e | e | e) <;> omega))
      have HS : Hid (∀ w', Kept (fun b => (x i).ownBlock = some b) w3 w' → w'.cell? ⟨w.heap.size, 2, none⟩ = some (.int .i64 q) ∧ w'.cell? ⟨w.heap.size, 3, none⟩ = some (.int .i64 m) ∧ w'.cell? ⟨w.heap.size, 4, none⟩ = some (.int .i64 p) ∧
          w'.cell? ⟨mb, i, none⟩ = some (.slice xa ((L i).length * 64) ((L i).length * 64)) ∧ w'.cell? ⟨mb, k, none⟩ = some (.slice xk ((L k).length * 64) ((L k).length * 64))) := fun w' hb => by
        have h1 := hb.blk hcc3 (fun e => by have := Hxl.out i hi2 _ e; omega)
        have h2 := hb.blk hls3.hb (fun e => by have := (hri.lt _ e).1; have := hls3.ml; omega)
        refine ⟨h1.cell 2, h1.cell 3, h1.cell 4, ?_, ?_⟩
        · rw [h2.cell, duo_at x i hi2, Hxa.out]
        · rw [h2.cell, duo_at x k hk2, Hxk.out]
      have Hri := Lib.hid hri; have Hya := Lib.hid hya
      have Hrk := Lib.hid hrk'; have Hyk := Lib.hid hyk
      have Hb3 := Lib.hid (Hb2.out.trans (seg_ps HT2.out.bs HT2.out.base hK))
      have HP3 := Lib.hid hP2; have HD := Lib.hid hD; have HK := Lib.hid hK
      have Hdr : Hid (Below w3.heap.size w3 w3.drew) := (Below.refl _ _).drew
      have hqmw : IntKind.i64.wrap ((q : Int) + m) = (q : Int) + m := IntWalk.i64_in _ (by omega)
      have hpmw : IntKind.i64.wrap ((p : Int) + m) = (p : Int) + m := IntWalk.i64_in _ (by omega)
      clear hri hrk hri' hrk' hya hyk hls3 hP2 hD hK hcc3
      go_wp2_with fail
      go_region_held3 (fun w' => w'.cell? ⟨w.heap.size, 2, none⟩ = some (.int .i64 q) ∧ w'.cell? ⟨w.heap.size, 3, none⟩ = some (.int .i64 m) ∧ w'.cell? ⟨w.heap.size, 4, none⟩ = some (.int .i64 p) ∧
          w'.cell? ⟨mb, i, none⟩ = some (.slice xa ((L i).length * 64) ((L i).length * 64)) ∧ w'.cell? ⟨mb, k, none⟩ = some (.slice xk ((L k).length * 64) ((L k).length * 64)))
        (first
          | exact HS.out _ (Kept.of_below Hdr.out)
          | exact HS.out _ (Kept.of_below Hb5.out)
          | exact HS.out _ ((Kept.of_below Hb5.out).trans HK6.out))
        (first
          | (refine step_append_bytes rfl (.tmp 114) rfl yk m _ rfl (Hyk.out _ _ (Hrk.out.kept (S := fun _ => False) (Kept.of_below Hdr.out) (fun _ _ h => h))) (by omega) Hdr.out ?_; intro A5 C5 w5 HB5 Hb5)
          | (refine step_copy_rowIn rfl (.tmp 102) (.tmp 115) rfl q m _ _ _ _ _ _ (Hri.out.kept (S := fun _ => False) (Kept.of_below Hb5.out) (fun _ _ h => h)) rfl rfl (by simp) HB5.out hqm (fun h => by rw [Hxa.out]; exact Hya.out h) ?_; intro w6 HK6 HR6))
      go_wp2_with fail
      go_ret
      have hK3 : Kept (fun b => (x i).ownBlock = some b) w3 w6 := (Kept.of_below Hb5.out).trans HK6.out
      refine ⟨rfl, Hb3.out.trans (hK3.below (by have := HT2.out.base; have := HK.out.size; omega) (fun b hb e => ?_)), v, x, L, P2, HT2.out.write hi2 HP3.out HD.out HK.out hK3 HR6.out⟩
      have := ((HT2.out.ls.r i hi2).lt b e).1; have := HT2.out.bs; have := HT2.out.sg.lp; have := HT2.out.sg.sl; omega
end Go.Proofs.Ytndnjimiabpkpaa
