/- The walk of PagesRuns: one table, call by call. -/
import Derived.Test.YtndnjimiabpkpaaPgRw
import Derived.Deep.LoopGhost
import Derived.Deep.DeepCutAuto
namespace Go.Proofs.Ytndnjimiabpkpaa
open Go.RowKit
attribute [local irreducible] World.setCell World.alloc World.drew World.setRow Calls Code.wp row
attribute [local go_sem] Oper.semAt_some

theorem run_makeMapIW (w : World) : (Instr.makeMap 84 none).run Try.prog w = .ok (.map (some w.heap.size)) (w.alloc (.map #[] 0)) := by kernel_rfl

theorem cntN_pos (N : Nat → Int) : ∀ k, N 0 ≠ 0 → 1 ≤ cntN N (k + 1)
  | 0, h => by unfold cntN; rw [if_neg h]; omega
  | k + 1, h => by have := cntN_pos N k h; unfold cntN; omega

set_option maxRecDepth 100000 in
set_option maxHeartbeats 8000000 in
theorem runs07_walk (a0 : Option Addr) (len cap : Nat) (X : Nat → Call07) (w : World) (hr : Call07s w a0 len cap X) :
    Calls Try.prog 15 #[.slice a0 len cap] w fun e w' => e = .returned (.bool true) ∧ Below w.heap.size w w' := by
  obtain ⟨b, off, hix, hblt, hmax, hcell⟩ := hr
  have hmax : len ≤ 9223372036854775807 := by unfold maxLen at hmax; omega
  have Hix := Lib.hid hix; clear hix
  have Hcell := Lib.hid hcell; clear hcell
  have Hblt := Lib.hid hblt; clear hblt
  go_enter Try.func15, Try.ntmps15
  go_wp2_with fail
  refine (fit07_any _).mono ?_
  rintro e w1 ⟨rfl, hb1⟩
  have Hb1 := Lib.hid hb1
  have hsz := hb1.size
  clear hb1
  by_cases hlen : 100 < len
  · go_wp2_with fail
    go_ret
    exact ⟨rfl, Hb1.out⟩
  go_wp2_with fail
  refine (new_any 400 _ (by omega) (by omega)).mono ?_
  rintro e w2 ⟨pb, db, ob, rfl, hP, l1, l2, l3, hb2⟩
  have HP := Lib.hid hP
  have Hb2 := Lib.hid (Hb1.out.trans (hb2.mono hsz))
  have hlow : w.heap.size ≤ pb ∧ w.heap.size ≤ db ∧ w.heap.size ≤ ob := by refine ⟨?_, ?_, ?_⟩ <;> omega
  clear hb2 l1 l2 l3 hP
  have hl0 : (newPool 400).left = 400 := by
    unfold Pool.left newPool; decide +kernel
  have hc0 : countTo (newPool 400).O 9 (newPool 400).n = 0 := by decide +kernel
  obtain ⟨r, hra, ra1, ra2, hTa, hMa, hLa, hCa⟩ := Tab.begin (newPool 400) 9 (by omega) (by omega)
  have Hra := Lib.hid hra; have HTa := Lib.hid hTa; have HLa := Lib.hid (show ((newPool 400).alloc 9).left = 399 by omega)
  have HCa := Lib.hid (show countTo ((newPool 400).alloc 9).O 9 (newPool 400).n = 1 by omega)
  have HNa := Lib.hid (show ((newPool 400).alloc 9).n = 400 from hMa.n)
  clear hra hTa hMa hLa hCa hl0 hc0
  go_wp2_with fail
  refine (alloc_any pb db ob (newPool 400) 9 _ HP.out).mono ?_
  rintro e w3 ⟨rfl, hP3, hK3⟩
  have HP3 := Lib.hid hP3
  have Hb3 : Hid (Below w.heap.size w w3) := Hb2.out.trans (hK3.below (B := w.heap.size) (by have := Hb2.out.size; exact this) (fun k hk e => by rcases e with e | e | e <;> omega))
  clear hP3 hK3 HP
  rw [Hra.out]
  have hmm := run_makeMapIB
  have hmw := run_makeMapIW
  go_wp2_with fail
  obtain ⟨mb, hmb⟩ : ∃ mb, mb = w3.heap.size := ⟨_, rfl⟩
  obtain ⟨kb, hkb⟩ : ∃ kb, kb = mb + 1 := ⟨_, rfl⟩
  obtain ⟨w4, hw4⟩ : ∃ w4 : World, w4 = (w3.alloc (.map #[] 0)).alloc (.map #[] 0) := ⟨_, rfl⟩
  try simp only [World.size_alloc]
  rw [← hw4, ← hmb, ← hkb]
  have hlow3 : pb < mb ∧ db < mb ∧ ob < mb := by rw [hmb]; exact ⟨HP3.out.hp.lt, HP3.out.hd.lt, HP3.out.ho.lt⟩
  have hz3 := Hb3.out.size
  have Hb4 : Hid (Below w.heap.size w w4) := by rw [hw4]; exact (Hb3.out.alloc hz3 _).alloc (by simp; omega) _
  have hwN : Ways (rootN r) [] := by
    intro n
    unfold rootN
    by_cases e : n = 0
    · simp [e]; omega
    · simp [e]
  have h1N : cntN (rootN r) 585 = 1 := by rw [hwN.same Ways.nil (fun q => Iff.rfl)]; decide +kernel
  have HR4 : Hid (RunW w4 w.heap.size pb db ob mb kb r (rootN r) noF noY [] [] ((newPool 400).alloc 9) 0) := by
    refine ⟨?_, HTa.out, ?_, ?_, .nil _, fun q hq => by simp at hq, hwN, HNa.out, ?_, ?_, ?_, by omega, by omega⟩
    · rw [hw4]; exact (HP3.out.alloc _).alloc _
    · rw [hw4, hmb]; exact (MapAt.new _).alloc _
    · rw [hw4, hkb, hmb]; have := MapAt.new (w3.alloc (.map #[] 0)); rw [World.size_alloc] at this; exact this
    · rw [h1N, HNa.out]; exact HCa.out
    · rw [h1N, HLa.out]
    · rw [h1N]; omega
  clear hmm hmw hw4 hmb hkb hwN h1N HP3 Hb3 HTa HLa HCa HNa Hra hz3 Hb2 Hb1 hsz
  go_loopg [36] len (fun g i wx => ∃ (j : Nat) (N F : Nat → Int) (Y : Nat → Bool) (es ks : List (Int × Value)) (P : Pool), j + g = len ∧ i = .int .i64 j ∧ RunW wx w.heap.size pb db ob mb kb r N F Y es ks P j ∧ Below w.heap.size w wx)
  case atStart => exact ⟨0, _, _, _, _, _, _, by omega, rfl, HR4.out, Hb4.out⟩
  case round =>
    clear HR4 Hb4
    obtain ⟨j, N, F, Y, es, ks, P, hj, rfl, hR, hb⟩ := hrel
    have HR := Lib.hid hR; have Hb := Lib.hid hb
    have hbz := hb.size
    clear hR hb
    by_cases hlt : j < len
    · have hix := Hix.out j hlt
      obtain ⟨⟨c0, c1, c2, c3, c4⟩, v0, v1, v2, v3⟩ := Hcell.out j hlt
      have hbl := Hblt.out (by omega)
      rw [← Hb.out.cell (p := ⟨b, off + j * 5, none⟩) hbl] at c0
      rw [← Hb.out.cell (p := ⟨b, off + j * 5 + 1, none⟩) hbl] at c1
      rw [← Hb.out.cell (p := ⟨b, off + j * 5 + 2, none⟩) hbl] at c2
      rw [← Hb.out.cell (p := ⟨b, off + j * 5 + 3, none⟩) hbl] at c3
      rw [← Hb.out.cell (p := ⟨b, off + j * 5 + 4, none⟩) hbl] at c4
      generalize (X j).kd = kd at *; generalize (X j).pg = pg at *; generalize (X j).fr = fr at *; generalize (X j).mo = mo at *; generalize (X j).may = my at *
      have v0 := wf_i64 v0; have v1 := wf_i64 v1; have v2 := wf_i64 v2; have v3 := wf_i64 v3
      obtain ⟨q0, q1⟩ := tmod_bd pg 4096 (by omega)
      obtain ⟨q2, q3⟩ := tmod_bd fr 50 (by omega)
      obtain ⟨q4, q5⟩ := tmod_bd kd 4 (by omega)
      obtain ⟨q6, q7⟩ := tmod_bd mo 6 (by omega)
      obtain ⟨p, hp, hp2⟩ : ∃ p : Nat, (pg.tmod 4096 + 4096) % 4096 = (p : Int) ∧ p < 4096 := ⟨((pg.tmod 4096 + 4096) % 4096).toNat, by omega, by omega⟩
      have hp' : pg.tmod 4096 % 4096 = (p : Int) := by omega
      obtain ⟨f0, hf0⟩ : ∃ f0, fr.tmod 50 % 50 = f0 := ⟨_, rfl⟩
      have hf1 : 0 ≤ f0 ∧ f0 ≤ 49 := by omega
      obtain ⟨k0, hk0⟩ : ∃ k0, kd.tmod 4 % 4 = k0 := ⟨_, rfl⟩
      obtain ⟨m0, hm0⟩ : ∃ m0, mo.tmod 6 % 6 = m0 := ⟨_, rfl⟩
      have hm1 : 0 ≤ m0 ∧ m0 ≤ 5 := by omega
      have hk1 : k0 = 0 ∨ k0 = 1 ∨ k0 = 2 ∨ k0 = 3 := by omega
      have Hk1 := Lib.hid hk1
      have Hp := Lib.hid hp
      clear hk1 hp
      go_upto_block 2 with fail
      simp only [Hp.out, show (kd.tmod 4 + 4) % 4 = k0 by omega, show (fr.tmod 50 + 50) % 50 = f0 by omega]
      obtain ⟨cb, hcb⟩ : ∃ cb, cb = wr.heap.size := ⟨_, rfl⟩
      obtain ⟨w5, hw5⟩ : ∃ w5 : World, w5 = wr.alloc (.cells #[.int .i64 kd, .int .i64 pg, .int .i64 fr, .int .i64 mo, .bool my] 86) := ⟨_, rfl⟩
      rw [← hcb, ← hw5]
      have HR5 : Hid (RunW w5 w.heap.size pb db ob mb kb r N F Y es ks P j) := by rw [hw5]; exact HR.out.below ((Below.refl _ _).alloc (Nat.le_refl _) _)
      have HC5 : Hid (Blk w5 cb #[.int .i64 kd, .int .i64 pg, .int .i64 fr, .int .i64 mo, .bool my] 86) := by rw [hw5, hcb]; exact Blk.new _ _ _
      have Hb5 : Hid (Below w.heap.size w w5) := by rw [hw5]; exact Hb.out.alloc hbz _
      have hlow5 : pb < cb ∧ db < cb ∧ ob < cb ∧ mb < cb ∧ kb < cb := by
        rw [hcb]; exact ⟨HR.out.pool.hp.lt, HR.out.pool.hd.lt, HR.out.pool.ho.lt, HR.out.m.lt, HR.out.k.lt⟩
      have hbz5 : w.heap.size ≤ w5.heap.size := Hb5.out.size
      have hj100 : j < 100 := by omega
      clear hw5 hcb c0 c1 c2 c3 c4 HR Hb hbz hix hbl v0 v1 v2 v3 q0 q1 q2 q3 q4 q5
      go_cut [11, 12, 13, 14, 15, 16, 17, 18, 69, 142, 144] (fun _ _ _ _ _ _ _ _ _ _ _ wx => ∃ (N : Nat → Int) (F : Nat → Int) (Y : Nat → Bool) (es ks : List (Int × Value)) (P : Pool), RunW wx w.heap.size pb db ob mb kb r N F Y es ks P (j + 1) ∧ Below w.heap.size w wx)
      case first =>
        have hne := HR5.out.ne
        have hbs := HR5.out.base
        rcases Hk1.out with rfl | rfl | rfl | rfl
        · have hpos : 1 ≤ cntN N 585 := cntN_pos N 584 (by rw [HR5.out.tab.root]; exact HR5.out.tab.r0)
          have hcle := HR5.out.most
          obtain ⟨w6, hu6, hk6, hK6⟩ := HR5.out.k.run_update (P := Try.prog) Try.underlying28 Try.underlying3 (p : Int) (.bool true)
          have HP6 := Lib.hid (HR5.out.pool.kept hK6 (by omega) (by omega) (by omega))
          have HM6 := Lib.hid (HR5.out.m.kept hK6 (by omega))
          have HC6 := Lib.hid (hK6.blk HC5.out (by omega))
          have Hk6 := Lib.hid hk6
          have Hb6 : Hid (Below w.heap.size w w6) := Hb5.out.trans (hK6.below (B := w.heap.size) hbz5 (fun i hi e => by omega))
          have hc5 := HC5.out.cell
          clear hk6 hK6
          go_wp2_with fail
          refine (tables_any kb _ _ Hk6.out (keys_put HR5.out.keys p hp2 _)).mono ?_
          rintro e w7 ⟨n, rfl, hn, hb7⟩
          have hneed := HR5.out.need p hp2 _ n hn
          have HP7 := Lib.hid (HP6.out.below hb7)
          have HM7 := Lib.hid (HM6.out.below hb7 HM6.out.lt)
          have Hk7 := Lib.hid (Hk6.out.below hb7 Hk6.out.lt)
          have HC7 := Lib.hid (HC6.out.below hb7 HC6.out.lt)
          have Hb7 := Lib.hid (Hb6.out.trans (hb7.mono Hb6.out.size))
          obtain ⟨c, hc⟩ : ∃ c, cntN N 585 = c + 1 := ⟨cntN N 585 - 1, by omega⟩
          have hn3 := needT_le N p
          obtain ⟨nt, hnt⟩ : ∃ nt, needT N p = nt := ⟨_, rfl⟩
          rw [hc] at hneed hcle
          rw [hnt] at hneed hn3
          obtain rfl : n = c + nt := by omega
          have Hc := Lib.hid hc; have Hnt := Lib.hid hnt
          clear hn hneed hb7 hc hnt hc5
          have hc7 := HC7.out.cell
          have hd1 : (c : Int) + (nt : Int) - (c : Int) = nt := by omega
          go_wp2_with fail
          refine (count_any pb db ob P 9 _ HP7.out).mono ?_
          rintro e w8 ⟨rfl, rfl⟩
          rw [if_neg (by decide), HR5.out.cnt, Hc.out]
          by_cases hgt : m0 < (nt : Int)
          · obtain ⟨w9, hd9, hk9, hK9, -⟩ := Hk7.out.run_delete (P := Try.prog) Try.underlying28 Try.underlying3 (p : Int) 0
            have HP9 := Lib.hid (HP7.out.kept hK9 (by omega) (by omega) (by omega))
            have HM9 := Lib.hid (HM7.out.kept hK9 (by omega))
            have HC9 := Lib.hid (hK9.blk HC7.out (by omega))
            have Hk9 := Lib.hid hk9
            have Hb9 : Hid (Below w.heap.size w w9) := Hb7.out.trans (hK9.below (B := w.heap.size) Hb7.out.size (fun i hi e => by omega))
            have hc9 := HC9.out.cell
            clear hk9 hK9 hc7
            go_wp2_with fail
            refine (fill_no pb db ob P r 9 N F Y p (f0 + 350) m0 my _ HP9.out HR5.out.tab hp2 (by omega) (by omega) (by rw [Hnt.out]; exact hgt) (HR5.out.low hj100 p)).mono ?_
            rintro e w10 ⟨rfl, P', hP', hT', hmv', hl', hct', hK'⟩
            have HP10 := Lib.hid hP'; have HT10 := Lib.hid hT'
            have HM10 := Lib.hid (HM9.out.kept hK' (by rintro (e | e | e) <;> omega))
            have Hk10 := Lib.hid (Hk9.out.kept hK' (by rintro (e | e | e) <;> omega))
            have Hb10 : Hid (Below w.heap.size w w10) := Hb9.out.trans (hK'.below (B := w.heap.size) Hb9.out.size (fun i hi e => by rcases e with e | e | e <;> omega))
            have Hn10 := Lib.hid hmv'.n; have Hl10 := Lib.hid hl'; have Hct := Lib.hid hct'
            have Hcn : Hid (countTo P'.O 9 P'.n = c + 1) := by rw [hmv'.n, hct', HR5.out.cnt]; exact Hc.out
            clear hP' hT' hmv' hl' hct' hK' hc9
            go_wp2_with fail
            refine (count_any pb db ob P' 9 _ HP10.out).mono ?_
            rintro e w11 ⟨rfl, rfl⟩
            rw [if_neg (by decide), Hcn.out]
            have hng : ¬ (nt : Int) ≤ m0 := by omega
            have hq1 : ((c : Int) + 1 != 1 + (c : Int)) = false := by simp; omega
            go_wp2_with fail
            go_meet
            exact ⟨N, F, Y, es, _, P', HR5.out.refused hp2 (by rw [Hnt.out]; omega) HP10.out HT10.out Hn10.out Hl10.out Hct.out HM10.out _ Hk10.out, Hb10.out⟩
          · go_wp2_with fail
            refine (fill_yes pb db ob P r 9 N F Y p (f0 + 350) m0 my _ HP7.out HR5.out.tab hp2 (by omega) (by omega) (by rw [Hnt.out]; omega) (HR5.out.low hj100 p)).mono ?_
            rintro e w10 ⟨rfl, P', N', hF⟩
            have HF := Lib.hid hF
            have HM10 := Lib.hid (HM7.out.kept hF.kept (by rintro (e | e | e) <;> omega))
            have Hk10 := Lib.hid (Hk7.out.kept hF.kept (by rintro (e | e | e) <;> omega))
            have HC10 := Lib.hid (hF.kept.blk HC7.out (by rintro (e | e | e) <;> omega))
            have Hb10 : Hid (Below w.heap.size w w10) := Hb7.out.trans (hF.kept.below (B := w.heap.size) Hb7.out.size (fun i hi e => by rcases e with e | e | e <;> omega))
            have Hcn : Hid (countTo P'.O 9 P'.n = c + 1 + nt) := by show _ = _; rw [hF.mv.n, hF.cnt, HR5.out.cnt, Hc.out, Hnt.out]
            rw [Hnt.out]
            obtain ⟨w11, hu11, hm11, hK11⟩ := HM10.out.run_update (P := Try.prog) Try.underlying84 Try.underlying3 (p : Int) (wayV (f0 + 350) my)
            have HP11 := Lib.hid (hF.pool.kept hK11 (by omega) (by omega) (by omega))
            have Hk11 := Lib.hid (Hk10.out.kept hK11 (by omega))
            have HM11 := Lib.hid hm11
            have Hb11 : Hid (Below w.heap.size w w11) := Hb10.out.trans (hK11.below (B := w.heap.size) Hb10.out.size (fun i hi e => by omega))
            have hc10 := HC10.out.cell
            have hgt' : (nt : Int) ≤ m0 := by omega
            have HPf := Lib.hid hF.pool
            unfold wayV at hu11
            clear hF hm11 hK11 hc7
            go_wp2_with fail
            refine (count_any pb db ob P' 9 _ HPf.out).mono ?_
            rintro e w12 ⟨rfl, rfl⟩
            rw [if_neg (by decide), Hcn.out]
            have hq2 : ((c : Int) + 1 + (nt : Int) != 1 + (c : Int) + (nt : Int)) = false := by simp; omega
            go_wp2_with fail
            go_meet
            exact ⟨N', _, _, _, _, P', HR5.out.filled hp2 (by omega) HF.out HP11.out HM11.out Hk11.out, Hb11.out⟩
        · go_wp2_with fail
          go_meet
          exact ⟨N, F, Y, es, ks, P, HR5.out.step, Hb5.out⟩
        · have hrg' := RangeAt.begin (P := Try.prog) HR5.out.m Try.underlying84
          obtain ⟨o6, hrg, hR6⟩ := hrg'
          go_wp2_with fail
          obtain ⟨ib, hib⟩ : ∃ ib, ib = w5.heap.size := ⟨_, rfl⟩
          obtain ⟨w6, hw6⟩ : ∃ w6 : World, w6 = w5.alloc o6 := ⟨_, rfl⟩
          rw [← hib, ← hw6] at hR6 ⊢
          have HR6 := Lib.hid hR6
          have HP6 : Hid (PoolAt w6 pb db ob P) := by rw [hw6]; exact HR5.out.pool.alloc _
          have HM6 : Hid (MapAt w6 mb es) := by rw [hw6]; exact HR5.out.m.alloc _
          have Hk6 : Hid (MapAt w6 kb ks) := by rw [hw6]; exact HR5.out.k.alloc _
          have Hb6 : Hid (Below w.heap.size w w6) := by rw [hw6]; exact Hb5.out.alloc hbz5 _
          have hibz : mb < ib ∧ kb < ib ∧ pb < ib ∧ db < ib ∧ ob < ib ∧ w.heap.size ≤ ib := by
            rw [hib]; exact ⟨HR5.out.m.lt, HR5.out.k.lt, HR5.out.pool.hp.lt, HR5.out.pool.hd.lt, HR5.out.pool.ho.lt, hbz5⟩
          have hesl : es.length ≤ 4096 := by
            rw [count_like (F := F) HR5.out.m.nd (fun q hq => by obtain ⟨p, h1, rfl, h2⟩ := HR5.out.like.2 q hq; exact ⟨p, h1, rfl, h2⟩) (fun p hp hF => ⟨((p : Int), wayV (F p) (Y p)), look_some (by rw [HR5.out.like.1 p hp, if_neg hF]), rfl⟩)]
            exact pgs_len F 0 4096
          have HW6 := Lib.hid (Wiping.start HR5.out.m.nd F (f0 + 350))
          clear hw6 hib hR6 hrg HC5
          go_loopg [16, 17, 18] es.length (fun g cv _ _ wx => ∃ left cur ces n, List.length left = g ∧ cv = .int .i64 (n : Nat) ∧ RangeAt wx ib mb left cur ∧ MapAt wx mb ces ∧ Wiping es ces left F (f0 + 350) n ∧ PoolAt wx pb db ob P ∧ MapAt wx kb ks ∧ Below w.heap.size w wx)
          case atStart => exact ⟨es, none, es, 0, rfl, rfl, HR6.out, HM6.out, HW6.out, HP6.out, Hk6.out, Hb6.out⟩
          case round =>
            clear HR6 HM6 HW6 HP6 Hk6 Hb6
            obtain ⟨left, cur, ces, n, hlg, rfl, hR, hM, hW, hP, hK, hB⟩ := hrel
            have HM := Lib.hid hM; have HW := Lib.hid hW; have HP := Lib.hid hP; have HK := Lib.hid hK; have HB := Lib.hid hB; have Hlg := Lib.hid hlg
            have hbz := hB.size
            clear hM hW hP hK hB hlg
            rcases hR.next (P := Try.prog) 0 with ⟨hl0, hrun⟩ | ⟨q, l1, l2, hl, w8, hrun, hR8, hK8⟩
            · clear hR
              subst hl0
              obtain ⟨Lp, hLp⟩ : ∃ Lp, pgs F 0 4096 = Lp := ⟨_, rfl⟩
              have HLp := Lib.hid hLp
              clear hLp
              go_wp2_with fail
              refine (wipe_any pb db ob P r 9 N F Y (f0 + 350) _ HP.out HR5.out.tab (by omega) Lp HLp.out).mono ?_
              rintro e w9 ⟨rfl, P', F', hP', hT', hF', hmv', hl', hO', hK'⟩
              obtain ⟨hA', hcount⟩ := HW.out.done HR5.out.like HR5.out.m.nd HM.out.nd (by omega) hF'
              rw [HLp.out] at hcount
              rw [← hcount]
              have HR9 := Lib.hid (HR5.out.wiped hP' hT' (HM.out.kept hK' (by rintro (e | e | e) <;> omega)) (HK.out.kept hK' (by rintro (e | e | e) <;> omega)) hA' hmv' hl' hO')
              have HB9 : Hid (Below w.heap.size w w9) := HB.out.trans (hK'.below (B := w.heap.size) hbz (fun i hi e => by rcases e with e | e | e <;> omega))
              have hnn : ((n : Int) != (n : Int)) = false := by simp
              clear hP' hT' hF' hmv' hl' hO' hK' hA' hcount
              go_wp2_with fail
              go_meet
              exact ⟨N, _, _, _, _, _, HR9.out, HB9.out⟩
            · clear hR
              obtain ⟨pq, hpq, hqe, hpq0⟩ := HR5.out.like.2 q (HW.out.a q (HW.out.rest q (by rw [hl]; simp))).1
              have Hl := Lib.hid hl
              have hen := hR8.entry (P := Try.prog)
              have HR8 := Lib.hid hR8
              have Hib := Lib.hid hR8.lt
              have HM8 := Lib.hid (HM.out.kept hK8 (by omega))
              have HP8 := Lib.hid (HP.out.kept hK8 (by omega) (by omega) (by omega))
              have Hk8 := Lib.hid (HK.out.kept hK8 (by omega))
              have HB8 := Lib.hid (HB.out.trans (hK8.below (B := w.heap.size) hbz (fun i hi' e => by omega)))
              have Hqe := Lib.hid hqe
              obtain ⟨fq, hfq⟩ : ∃ fq, F pq = fq := ⟨_, rfl⟩
              obtain ⟨yq, hyq⟩ : ∃ yq, Y pq = yq := ⟨_, rfl⟩
              rw [hqe, hfq, hyq] at hen hrun
              have hR8q := hR8
              rw [hqe, hfq, hyq] at hR8q
              have HR8q := Lib.hid hR8q
              clear hR8q
              unfold wayV at hen hrun
              have Hfq : Hid (F q.1.toNat = fq) := by show F q.1.toNat = fq; rw [hqe]; simpa using hfq
              have hW8 := HW.out
              rw [hl] at hW8
              have HW8 := Lib.hid hW8
              have hnb : n ≤ 4096 := by have := hW8.len; omega
              clear hW8
              clear hl hR8 hK8 hqe hfq hyq hpq0
              by_cases hfe : fq = f0 + 350
              · subst hfe
                have hbe : (f0 + 350 == f0 + 350) = true := by simp
                obtain ⟨w9, hd9, hm9, hK9, hRk⟩ := (HM8.out.alloc (.cells #[.int .i64 (f0 + 350), .bool yq] 89)).run_delete (P := Try.prog) Try.underlying84 Try.underlying3 (pq : Int) 0
                have HR9 := Lib.hid (hRk ib _ _ (HR8q.out.below ((Below.refl _ _).alloc (Nat.le_refl _) _) Hib.out HM8.out.lt))
                have HM9 := Lib.hid hm9
                have HP9 := Lib.hid ((HP8.out.alloc (.cells #[.int .i64 (f0 + 350), .bool yq] 89)).kept hK9 (by omega) (by omega) (by omega))
                have Hk9 := Lib.hid ((Hk8.out.alloc (.cells #[.int .i64 (f0 + 350), .bool yq] 89)).kept hK9 (by omega))
                have HB9 : Hid (Below w.heap.size w w9) := (HB8.out.alloc HB8.out.size _).trans (hK9.below (B := w.heap.size) (by have := HB8.out.size; simp; omega) (fun i hi e => by omega))
                have hW9 := HW8.out.drop Hfq.out HM8.out.nd
                rw [show q.1 = (pq : Int) by rw [Hqe.out]] at hW9
                have HW9 := Lib.hid hW9
                clear hm9 hK9 hRk hW9
                go_wp2_with fail
                go_roundg (l1 ++ l2).length
                case measure => rw [← Hlg.out, Hl.out]; simp
                case rel => exact ⟨l1 ++ l2, _, _, n + 1, rfl, by go_num, HR9.out, HM9.out, HW9.out, HP9.out, Hk9.out, HB9.out⟩
              · have hbe : (fq == f0 + 350) = false := by simpa using hfe
                have Hfe := Lib.hid hfe
                clear hfe
                go_wp2_with fail
                go_roundg (l1 ++ l2).length
                case measure => rw [← Hlg.out, Hl.out]; simp
                case rel => exact ⟨l1 ++ l2, _, _, n, rfl, rfl, HR8.out.below ((Below.refl _ _).alloc (Nat.le_refl _) _) Hib.out HM8.out.lt, HM8.out.alloc _, HW8.out.keep (by rw [Hfq.out]; exact Hfe.out), HP8.out.alloc _, Hk8.out.alloc _, HB8.out.alloc HB8.out.size _⟩
        · have hpos : 1 ≤ cntN N 585 := cntN_pos N 584 (by rw [HR5.out.tab.root]; exact HR5.out.tab.r0)
          have hcle := HR5.out.most
          go_wp2_with fail
          refine (drop_all pb db ob P r 9 N F Y _ HR5.out.pool HR5.out.tab).mono ?_
          rintro e w6 ⟨rfl, P', hG⟩
          have HG := Lib.hid hG
          have HM6 := Lib.hid (HR5.out.m.kept hG.kept (by rintro (e | e | e) <;> omega))
          have HK6 := Lib.hid (HR5.out.k.kept hG.kept (by rintro (e | e | e) <;> omega))
          have Hb6 : Hid (Below w.heap.size w w6) := Hb5.out.trans (hG.kept.below (B := w.heap.size) hbz5 (fun i hi e => by rcases e with e | e | e <;> omega))
          have Hcn : Hid (countTo P'.O 9 P'.n = 1) := by
            have h1 := hG.cnt; have h2 := HR5.out.cnt; show countTo P'.O 9 P'.n = 1; rw [hG.mv.n]; omega
          clear hG
          go_wp2_with fail
          refine (tables_any kb ks _ HK6.out HR5.out.keys).mono ?_
          rintro e w7 ⟨n, rfl, hn, hb7⟩
          obtain rfl := HR5.out.known n hn
          have HP7 := Lib.hid (HG.out.pool.below hb7)
          have HM7 := Lib.hid (HM6.out.below hb7 HM6.out.lt)
          have HK7 := Lib.hid (HK6.out.below hb7 HK6.out.lt)
          have Hb7 := Lib.hid (Hb6.out.trans (hb7.mono Hb6.out.size))
          obtain ⟨w8, hc8, hm8, hK8⟩ := HM7.out.run_clear (P := Try.prog) Try.underlying84 0
          obtain ⟨w9, hc9, hm9, hK9⟩ := (HK7.out.kept hK8 (by omega)).run_clear (P := Try.prog) Try.underlying28 0
          have HP9 := Lib.hid ((HP7.out.kept hK8 (by omega) (by omega) (by omega)).kept hK9 (by omega) (by omega) (by omega))
          have HM9 := Lib.hid (hm8.kept hK9 (by omega))
          have HK9 := Lib.hid hm9
          have Hb9 : Hid (Below w.heap.size w w9) := (Hb7.out.trans (hK8.below (B := w.heap.size) Hb7.out.size (fun i hi e => by omega))).trans (hK9.below (B := w.heap.size) (by have := Hb7.out.size; have := hK8.size; omega) (fun i hi e => by omega))
          generalize cntN N 585 - 1 = c at *
          have hcc : ((c : Int) != (c : Int)) = false := by simp
          clear hn hb7 hm8 hK8 hm9 hK9
          go_wp2_with fail
          refine (count_any pb db ob P' 9 _ HP7.out).mono ?_
          rintro e w10 ⟨rfl, rfl⟩
          rw [if_neg (by decide), Hcn.out]
          go_wp2_with fail
          go_meet
          obtain ⟨N', hR'⟩ := HR5.out.dropped HG.out HP9.out HM9.out HK9.out
          exact ⟨N', _, _, _, _, _, hR', Hb9.out⟩
      case rest =>
        clear HR5 HC5 Hb5 hbz5
        obtain ⟨N, F, Y, es, ks, P, hR, hB⟩ := hcut
        have HR := Lib.hid hR; have HB := Lib.hid hB
        have hbz := hB.size
        clear hR hB
        obtain ⟨f, y, t, hwk, hlo⟩ : ∃ (f : Int) (y t : Bool), (∀ wx, PoolAt wx pb db ob P → Calls Try.prog 38 #[.pointer (some ⟨pb, 0, none⟩), .int .i64 r, .int .i64 p] wx fun e w' => e = .returned (.tuple #[.int .i64 f, .bool y, .bool t]) ∧ Below wx.heap.size wx w') ∧
            ((look es p).getD (wayV 0 false) = wayV f y ∧ (look es p).isSome = t) := by
          have hw := fun wx (h : PoolAt wx pb db ob P) => walk_any pb db ob P r 9 N F Y p wx h HR.out.tab hp2
          have hl := HR.out.like.1 p hp2
          by_cases c : F p = 0
          · rw [if_pos c] at hl
            exact ⟨_, _, _, hw, by rw [hl]; simp [c]⟩
          · rw [if_neg c] at hl
            exact ⟨_, _, _, hw, by rw [hl]; simp [c]⟩
        have Hlo := Lib.hid hlo; have Hwk := Lib.hid hwk
        clear hlo hwk
        go_wp2_with fail
        refine (Hwk.out _ HR.out.pool).mono ?_
        rintro e w6 ⟨rfl, hb6⟩
        have HR6 := Lib.hid (HR.out.below hb6)
        have HB6 := Lib.hid (HB.out.trans (hb6.mono hbz))
        have hlk := HR6.out.m.run_lookup_ok (P := Try.prog) Try.underlying84 Try.underlying3 (z := wayV 0 false) (fun w => by kernel_rfl) (p : Int)
        rw [Hlo.out.1, Hlo.out.2] at hlk
        unfold wayV at hlk
        have hff : (f != f) = false := by simp
        clear hb6
        go_wp2_with fail
        go_roundg (len - (j + 1))
        case measure => omega
        case rel => exact ⟨j + 1, N, F, Y, es, ks, P, by omega, by go_num, HR6.out.below ((Below.refl _ _).alloc (Nat.le_refl _) _), HB6.out.alloc HB6.out.size _⟩
    · obtain rfl : j = len := by omega
      go_wp2_with fail
      refine (whole_any pb db ob mb P r 9 N F Y es _ HR.out.pool HR.out.tab HR.out.m HR.out.like).mono ?_
      rintro e w5 ⟨rfl, hb5⟩
      have Hb5 := Lib.hid (Hb.out.trans (hb5.mono hbz))
      clear hb5
      go_wp2_with fail
      go_ret
      exact ⟨rfl, Hb5.out⟩
end Go.Proofs.Ytndnjimiabpkpaa
