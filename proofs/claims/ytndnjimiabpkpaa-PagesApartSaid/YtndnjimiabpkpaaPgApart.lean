/- The walk of PagesApart: two tables of one memory, each held against a map. -/
import Derived.Test.YtndnjimiabpkpaaPgAp
import Derived.Deep.LoopGhost
import Derived.Deep.DeepCutAuto
namespace Go.Proofs.Ytndnjimiabpkpaa
open Go.RowKit
attribute [local irreducible] World.setCell World.alloc World.drew World.setRow Calls Code.wp row

theorem pair_at {α : Type} (f : Nat → α) (k : Nat) (h : k < 2) (g : α → Value) : (#[g (f 0), g (f 1)] : Array Value)[k]? = some (g (f k)) := by
  obtain rfl | rfl : k = 0 ∨ k = 1 := by omega
  · rfl
  · rfl
theorem countTo_zero'' (o : Int) (h : o ≠ 0) (n : Nat) : countTo (fun _ => 0) o n = 0 := by
  induction n with
  | zero => rfl
  | succ n ih => unfold countTo; rw [ih, if_neg (fun e => h e.symm)]
theorem run_makeMapII (w : World) : (Instr.makeMap 79 none).run Try.prog w = .ok (.map (some w.heap.size)) (w.alloc (.map #[] 0)) := by kernel_rfl

set_option maxRecDepth 100000 in
set_option maxHeartbeats 4000000 in
theorem apart_walk (a0 : Option Addr) (len cap : Nat) (zs : List Int) (w : World) (hr : IsRow .i64 w a0 len cap zs) :
    Calls Try.prog 14 #[.slice a0 len cap] w fun e w' => e = .returned (.bool true) ∧ Below w.heap.size w w' := by
  obtain ⟨b, off, xs, hix, hcell, hblt, hmax, hwf⟩ := row_open (P := Try.prog) (T := 22) Try.underlying22 (fun w => by kernel_rfl) hr
  have hmax : len ≤ 9223372036854775807 := by unfold maxLen at hmax; omega
  have Hix := Lib.hid hix; have Hcell := Lib.hid hcell; have Hblt := Lib.hid hblt; have Hwf := Lib.hid hwf
  clear hix hcell hblt hwf hr
  go_enter Try.func14, Try.ntmps14
  go_wp2_with fail
  refine (fit07_any _).mono ?_
  rintro e w1 ⟨rfl, hb1⟩
  have Hb1 := Lib.hid hb1; clear hb1
  by_cases hlen : 40 < len
  · go_wp2_with fail
    go_ret
    exact ⟨rfl, Hb1.out⟩
  have hsz := Hb1.out.size
  go_wp2_with fail
  refine (new_any 400 _ (by omega) (by omega)).mono ?_
  rintro e w2 ⟨pb, db, ob, rfl, hP, l1, l2, l3, hb2⟩
  have HP := Lib.hid hP; clear hP
  have Hl : Hid (w.heap.size ≤ pb ∧ w.heap.size ≤ db ∧ w.heap.size ≤ ob) := by refine ⟨?_, ?_, ?_⟩ <;> omega
  have Hb2 := Lib.hid (Hb1.out.trans (hb2.mono hsz)); clear hb2 l1 l2 l3
  have hl0 : (newPool 400).left = 400 := by
    unfold Pool.left newPool; decide +kernel
  have hn0 : (newPool 400).n = 400 := rfl
  obtain ⟨ra, hra, ra1, ra2, hTa, hMa, hLa, hCa⟩ := Tab.begin (newPool 400) 1 (by omega) (by omega)
  obtain ⟨rb, hrb, rb1, rb2, hTb, hMb, hLb, hCb⟩ := Tab.begin ((newPool 400).alloc 1) 2 (by omega) (by omega)
  have Hra := Lib.hid hra; have Hrb := Lib.hid hrb; have HTa := Lib.hid hTa; have HTb := Lib.hid hTb; have HMb := Lib.hid hMb; have HMa := Lib.hid hMa; have HLa := Lib.hid hLa; have HLb := Lib.hid hLb; have HCa := Lib.hid hCa; have HCb := Lib.hid hCb
  have Hl0 := Lib.hid hl0
  clear hra hrb hTa hTb hMa hMb hLa hLb hCa hCb ra1 ra2 rb1 rb2 hl0 hn0
  go_wp2_with fail
  refine (alloc_any pb db ob (newPool 400) 1 _ HP.out).mono ?_
  rintro e w3 ⟨rfl, hP3, hK3⟩
  have HP3 := Lib.hid hP3; have HK3 := Lib.hid hK3
  clear hP3 hK3
  rw [Hra.out]
  go_wp2_with fail
  refine (alloc_any pb db ob ((newPool 400).alloc 1) 2 _ HP3.out).mono ?_
  rintro e w4 ⟨rfl, hP4, hK4⟩
  have HP4 := Lib.hid hP4
  have HK4 := Lib.hid (HK3.out.trans hK4)
  clear hP4 hK4
  rw [Hrb.out]
  have Hb4 : Hid (Below w.heap.size w w4) := Hb2.out.trans (HK4.out.below (B := w.heap.size) (by have := Hb2.out.size; exact this) (fun k hk e => by have := Hl.out; rcases e with e | e | e <;> omega))
  have hmm := run_makeMapII
  go_wp2_with fail
  have hsz4 := HP4.out.hp.lt; have hsz5 := HP4.out.hd.lt; have hsz6 := HP4.out.ho.lt
  obtain ⟨w5, hw5⟩ : ∃ w5 : World, w5 = ((w4.alloc (.map #[] 0)).alloc (.map #[] 0)).alloc (.cells #[.map (some w4.heap.size), .map (some (w4.heap.size + 1))] 80) := ⟨_, rfl⟩
  have hz5 : w5.heap.size = w4.heap.size + 3 := by rw [hw5]; simp
  have HA : Hid (Apart w5 w.heap.size pb db ob (w4.heap.size + 1 + 1) (fun k => if k = 0 then ra else rb) (fun k => w4.heap.size + k) (fun k => if k = 0 then rootN ra else rootN rb) (fun _ => noF) (fun _ => noY) (fun _ => []) (((newPool 400).alloc 1).alloc 2) 0) := by
    have hl := Hl.out
    have c1 : cntN (rootN ra) 585 = 1 := cntN_root _ (by have := HTa.out.r0; simpa [rootN] using this) (fun j h0 _ => by simp [rootN]; omega) 585 (by omega) (by omega)
    have c2 : cntN (rootN rb) 585 = 1 := cntN_root _ (by have := HTb.out.r0; simpa [rootN] using this) (fun j h0 _ => by simp [rootN]; omega) 585 (by omega) (by omega)
    have n1 : ((newPool 400).alloc 1).n = 400 := HMa.out.n
    have n2 : (((newPool 400).alloc 1).alloc 2).n = 400 := HMb.out.n.trans n1
    have z0 : countTo (newPool 400).O 1 400 = 0 := countTo_zero'' 1 (by omega) 400
    have z1 : countTo (newPool 400).O 2 400 = 0 := countTo_zero'' 2 (by omega) 400
    have e1 : countTo ((newPool 400).alloc 1).O 1 400 = 1 := by have := HCa.out; rw [show (newPool 400).n = 400 from rfl, z0] at this; exact this
    have e2 : countTo ((newPool 400).alloc 1).O 2 400 = 0 := by have := HMa.out.cnt 2 (by omega) (by omega); rw [show (newPool 400).n = 400 from rfl, z1] at this; exact this
    have e3 : countTo (((newPool 400).alloc 1).alloc 2).O 2 400 = 1 := by have := HCb.out; rw [n1, e2] at this; exact this
    have e4 : countTo (((newPool 400).alloc 1).alloc 2).O 1 400 = 1 := by have := HMb.out.cnt 1 (by omega) (by omega); rw [n1, e1] at this; exact this
    have k2 : ∀ (Q : Nat → Prop), Q 0 → Q 1 → ∀ k, k < 2 → Q k := fun Q h0 h1 k hk => by
      obtain rfl | rfl : k = 0 ∨ k = 1 := by omega
      · exact h0
      · exact h1
    rw [hw5]
    refine ⟨((HP4.out.alloc _).alloc _).alloc _, k2 _ (HTa.out.mv HMb.out (by omega)) HTb.out, k2 _ ?_ ?_, fun _ _ => Alike.nil, k2 _ ?_ ?_, k2 _ ?_ ?_, ?_, ?_, ?_, k2 _ ?_ ?_, ?_, hl⟩
    · exact ((MapAt.new w4).alloc _).alloc _
    · have := ((MapAt.new (w4.alloc (.map #[] 0))).alloc (.cells #[.map (some w4.heap.size), .map (some (w4.heap.size + 1))] 80))
      simpa using this
    · show countTo _ _ _ = cntN (rootN ra) 585
      rw [n2, c1]; exact e4
    · show countTo _ _ _ = cntN (rootN rb) 585
      rw [n2, c2]; exact e3
    · exact ⟨fun _ => c1, fun _ => rfl⟩
    · exact ⟨fun _ => c2, fun _ => rfl⟩
    · have := HLa.out; have := HLb.out; have := Hl0.out; omega
    · exact blk_new_at _ _ _ _ (by simp)
    · show w4.heap.size + 0 ≠ w4.heap.size + 1; omega
    · show w4.heap.size + 0 ≠ _; omega
    · show w4.heap.size + 1 ≠ _; omega
    · show _ ∧ _ ∧ _ ∧ pb < w4.heap.size + 0 ∧ db < w4.heap.size + 0 ∧ ob < w4.heap.size + 0 ∧ pb < w4.heap.size + 1 ∧ _ ∧ _; omega
  have Hb5 : Hid (Below w.heap.size w w5) := by
    have := Hb4.out.size
    rw [hw5]; exact ((Hb4.out.alloc this _).alloc (by simp; omega) _).alloc (by simp; omega) _
  rw [← hw5]
  clear hw5 hmm HP HP3 HP4 HK3 HK4 Hra Hrb HTa HTb HMa HMb HLa HLb HCa HCb Hl0
  obtain ⟨R, hR, hR0, hR1⟩ : ∃ R : Nat → Int, R = (fun k => if k = 0 then ra else rb) ∧ ra = R 0 ∧ rb = R 1 := ⟨_, rfl, rfl, rfl⟩
  obtain ⟨r, hr⟩ : ∃ r : Nat → Nat, r = (fun k => w4.heap.size + k) := ⟨_, rfl⟩
  obtain ⟨mb, hmb⟩ : ∃ mb, mb = w4.heap.size + 1 + 1 := ⟨_, rfl⟩
  rw [← hmb] at HA ⊢
  rw [← hR, ← hr] at HA
  have HA1 : Hid (∃ N F Y es P, Apart w5 w.heap.size pb db ob mb R r N F Y es P 0) := ⟨_, _, _, _, _, HA.out⟩
  clear hR hr HA
  subst hR0 hR1
  generalize w4.heap.size = h4 at *
  clear hmb hz5 hsz4 hsz5 hsz6 Hb4 Hb2
  go_loopg [44] len (fun g i wx => ∃ (j : Nat) (N F : Nat → Nat → Int) (Y : Nat → Nat → Bool) (es : Nat → List (Int × Value)) (P : Pool), j + g = len ∧ i = .int .i64 j ∧ Apart wx w.heap.size pb db ob mb R r N F Y es P j ∧ Below w.heap.size w wx)
  case atStart =>
    obtain ⟨N, F, Y, es, P, h⟩ := HA1.out
    exact ⟨0, N, F, Y, es, P, by omega, rfl, h, Hb5.out⟩
  case round =>
    clear HA1 Hb5
    obtain ⟨j, N, F, Y, es, P, hj, rfl, hA, hb⟩ := hrel
    have HA := Lib.hid hA; have Hb := Lib.hid hb
    have hbz := hb.size
    clear hA hb
    by_cases hlt : j < len
    · have hix := Hix.out j hlt
      have hcl := Hcell.out j hlt
      have hbl := Hblt.out (by omega)
      rw [← Hb.out.cell (p := ⟨b, off + j, none⟩) hbl] at hcl
      obtain ⟨x, hx⟩ : ∃ x, xs j = x := ⟨_, rfl⟩
      have hxw := Hwf.out j
      rw [hx] at hcl hxw
      have hxw := wf_i64 hxw
      obtain ⟨p, hp, hp2⟩ : ∃ p : Nat, x / 2 % 4096 = (p : Int) ∧ p < 4096 := ⟨(x / 2 % 4096).toNat, by omega, by omega⟩
      obtain ⟨k, hk, hk2⟩ : ∃ k : Nat, x % 2 = (k : Int) ∧ k < 2 := ⟨(x % 2).toNat, by omega, by omega⟩
      have hand1 : bits .and .i64 (x / 2) 4095 = (p : Int) := by rw [and4095, hp]
      have hand2 : bits .and .i64 x 1 = (k : Int) := by rw [and1, hk]
      clear hx hp hk
      have hk2' : (k : Int) < 2 := by omega
      have HF : Hid (∀ ρ, ρ = R k → Calls Try.prog 37 #[.pointer (some ⟨pb, 0, none⟩), .int .i64 ρ, .int .i64 p, .int .i64 (10 + (j : Int)), .bool true, .int .u64 ((k : Int) + 1), .int .i64 3] wr fun e w' =>
          ∃ n : Int, e = .returned (.tuple #[.int .i64 n, .bool true]) ∧ ∃ P' N', Filled wr w' pb db ob P (R k) ((k : Int) + 1) (N k) (F k) (Y k) p (10 + (j : Int)) true P' N') := by
        intro ρ e
        subst e
        have h3 := needT_le (N k) p
        have := HA.out.left
        exact (fill_yes pb db ob P (R k) ((k : Int) + 1) (N k) (F k) (Y k) p (10 + (j : Int)) 3 true wr HA.out.pool (HA.out.tab k hk2) hp2 (by omega) (by omega) (by omega) (by omega)).mono fun e w' ⟨h1, h2⟩ => ⟨_, h1, h2⟩
      have hkc : k = 0 ∨ k = 1 := by omega
      have Hk := Lib.hid hkc; clear hkc
      go_wp2_with fail
      · have eR : Hid (R 1 = R k) := by
          have h : ((k : Int) == 1) = true := by assumption
          have h1 : k = 1 := by have := eq_of_beq h; omega
          show R _ = R k
          rw [h1]
        refine (HF.out _ eR.out).mono ?_
        rintro e w6 ⟨n, rfl, P6, N6, hF6⟩
        have HF6 := Lib.hid hF6
        have hmk := (HA.out.map k hk2).kept hF6.kept (HA.out.nps hk2)
        have hmc : w6.cell? ⟨mb, k, none⟩ = some (.map (some (r k))) := by rw [(hF6.kept.blk HA.out.hmb HA.out.nmb).cell]; exact pair_at r k hk2 (fun b => .map (some b))
        obtain ⟨w7, hup, hm7, hK7⟩ := hmk.run_update (P := Try.prog) Try.underlying79 Try.underlying3 (p : Int) (.int .i64 (10 + (j : Int)))
        have hB6 : Below w.heap.size w w6 := Hb.out.trans (hF6.kept.below (B := w.heap.size) hbz (fun i hi e => by have := HA.out.bs; rcases e with e | e | e <;> omega))
        have hB7 : Below w.heap.size w w7 := hB6.trans (hK7.below (B := w.heap.size) hB6.size (fun i hi e => by
          have := HA.out.ps; have := HA.out.bs
          rcases Hk.out with rfl | rfl <;> omega))
        have HA7 := Lib.hid (HA.out.fill hk2 hp2 (show (10 + (j : Int)) ≠ 0 by omega) hF6 hm7 hK7)
        have HB7 := Lib.hid hB7
        clear hF6 hmk hm7 hK7 hB6 hB7
        go_wp2_with fail
        go_roundg (len - (j + 1))
        case measure => omega
        case rel => exact ⟨j + 1, _, _, _, _, _, by omega, by go_num, HA7.out, HB7.out⟩
      · have eR : Hid (R 0 = R k) := by
          have h : ((k : Int) == 1) = false := by assumption
          have h1 : k = 0 := by have : (k : Int) ≠ 1 := by simpa using h
                                omega
          show R _ = R k
          rw [h1]
        refine (HF.out _ eR.out).mono ?_
        rintro e w6 ⟨n, rfl, P6, N6, hF6⟩
        have HF6 := Lib.hid hF6
        have hmk := (HA.out.map k hk2).kept hF6.kept (HA.out.nps hk2)
        have hmc : w6.cell? ⟨mb, k, none⟩ = some (.map (some (r k))) := by rw [(hF6.kept.blk HA.out.hmb HA.out.nmb).cell]; exact pair_at r k hk2 (fun b => .map (some b))
        obtain ⟨w7, hup, hm7, hK7⟩ := hmk.run_update (P := Try.prog) Try.underlying79 Try.underlying3 (p : Int) (.int .i64 (10 + (j : Int)))
        have hB6 : Below w.heap.size w w6 := Hb.out.trans (hF6.kept.below (B := w.heap.size) hbz (fun i hi e => by have := HA.out.bs; rcases e with e | e | e <;> omega))
        have hB7 : Below w.heap.size w w7 := hB6.trans (hK7.below (B := w.heap.size) hB6.size (fun i hi e => by
          have := HA.out.ps; have := HA.out.bs
          rcases Hk.out with rfl | rfl <;> omega))
        have HA7 := Lib.hid (HA.out.fill hk2 hp2 (show (10 + (j : Int)) ≠ 0 by omega) hF6 hm7 hK7)
        have HB7 := Lib.hid hB7
        clear hF6 hmk hm7 hK7 hB6 hB7
        go_wp2_with fail
        go_roundg (len - (j + 1))
        case measure => omega
        case rel => exact ⟨j + 1, _, _, _, _, _, by omega, by go_num, HA7.out, HB7.out⟩
    · obtain rfl : j = len := by omega
      have hz0 : (zeroValue 3).run Try.prog = fun w => .ok (.int .i64 0) w := by funext w; kernel_rfl
      go_wp2_with fail
      obtain ⟨w6, hw6⟩ : ∃ w6 : World, w6 = wr.alloc (.cells #[.int .i64 (R 0), .int .i64 (R 1)] 3) := ⟨_, rfl⟩
      rw [← hw6]
      obtain ⟨sbk, hsbk⟩ : ∃ sbk, sbk = wr.heap.size := ⟨_, rfl⟩
      rw [← hsbk]
      have HS6 : Hid (Blk w6 sbk #[.int .i64 (R 0), .int .i64 (R 1)] 3) := by rw [hw6, hsbk]; exact Blk.new _ _ _
      have HA6 : Hid (Apart w6 w.heap.size pb db ob mb R r N F Y es P j) := by rw [hw6]; exact HA.out.below ((Below.refl _ _).alloc (Nat.le_refl _) _)
      have HB6 : Hid (Below w.heap.size w w6) := by rw [hw6]; exact Hb.out.alloc hbz _
      have Hlow : Hid (pb < sbk ∧ db < sbk ∧ ob < sbk ∧ mb < sbk ∧ ∀ i, i < 2 → r i < sbk) := by
        rw [hsbk]; exact ⟨HA.out.pool.hp.lt, HA.out.pool.hd.lt, HA.out.pool.ho.lt, HA.out.hmb.lt, fun i hi => (HA.out.map i hi).lt⟩
      have Hbs : Hid (w.heap.size ≤ sbk) := by rw [hsbk]; exact hbz
      clear hw6 hsbk HA Hb hbz
      go_loopg [83] 2 (fun g i wx => ∃ k : Nat, k + g = 2 ∧ i = .int .i64 k ∧ Apart wx w.heap.size pb db ob mb R r N F Y es P j ∧ Blk wx sbk #[.int .i64 (R 0), .int .i64 (R 1)] 3 ∧ Below w.heap.size w wx)
      case atStart => exact ⟨0, by omega, rfl, HA6.out, HS6.out, HB6.out⟩
      case round =>
        clear HA6 HS6 HB6
        obtain ⟨k, hk, rfl, hA, hS, hB⟩ := hrel
        have HA := Lib.hid hA; have HS := Lib.hid hS; have HB := Lib.hid hB
        have hbz := hB.size
        clear hA hS hB
        by_cases hk2 : k < 2
        · have hk2' : (k : Int) < 2 := by omega
          have hsc : wr.cell? ⟨sbk, k, none⟩ = some (.int .i64 (R k)) := by rw [HS.out.cell]; exact pair_at R k hk2 (fun b => .int .i64 b)
          have hmc : wr.cell? ⟨mb, 0, none⟩ = some (.map (some (r 0))) := HA.out.hmb.cell 0
          obtain ⟨o7, hrg, hR7⟩ := RangeAt.begin (P := Try.prog) (HA.out.map 0 (by omega)) Try.underlying79
          obtain ⟨rk, hrk⟩ : ∃ rk, R k = rk := ⟨_, rfl⟩
          have Hrk := Lib.hid hrk
          rw [hrk] at hsc
          clear hrk
          go_wp2_with fail
          obtain ⟨ib, hib⟩ : ∃ ib, ib = wr.heap.size := ⟨_, rfl⟩
          obtain ⟨w7, hw7⟩ : ∃ w7 : World, w7 = wr.alloc o7 := ⟨_, rfl⟩
          rw [← hib, ← hw7] at hR7 ⊢
          have HA7 : Hid (Apart w7 w.heap.size pb db ob mb R r N F Y es P j) := by rw [hw7]; exact HA.out.below ((Below.refl _ _).alloc (Nat.le_refl _) _)
          have HS7 : Hid (Blk w7 sbk #[.int .i64 (R 0), .int .i64 (R 1)] 3) := by rw [hw7]; exact HS.out.alloc _
          have HB7 : Hid (Below w.heap.size w w7) := by rw [hw7]; exact HB.out.alloc hbz _
          have HR7 := Lib.hid hR7
          have Hib : Hid (pb < ib ∧ db < ib ∧ ob < ib ∧ mb < ib ∧ sbk < ib ∧ (∀ i, i < 2 → r i < ib) ∧ w.heap.size ≤ ib) := by
            rw [hib]; exact ⟨HA.out.pool.hp.lt, HA.out.pool.hd.lt, HA.out.pool.ho.lt, HA.out.hmb.lt, HS.out.lt, fun i hi => (HA.out.map i hi).lt, hbz⟩
          clear hw7 hib hR7 hrg hsc hmc HA HS HB hbz
          go_loopg [] (es 0).length (fun g wx => ∃ left cur, List.length left = g ∧ (∀ q ∈ left, q ∈ es 0) ∧ RangeAt wx ib (r 0) left cur ∧ Apart wx w.heap.size pb db ob mb R r N F Y es P j ∧ Blk wx sbk #[.int .i64 (R 0), .int .i64 (R 1)] 3 ∧ Below w.heap.size w wx)
          case atStart => exact ⟨es 0, none, rfl, fun _ h => h, HR7.out, HA7.out, HS7.out, HB7.out⟩
          case round =>
            clear HR7 HA7 HS7 HB7
            obtain ⟨left, cur, hlg, hsub, hR, hA, hS, hB⟩ := hrel
            have HA := Lib.hid hA; have HS := Lib.hid hS; have HB := Lib.hid hB
            have Hsub := Lib.hid hsub; have Hlg := Lib.hid hlg
            have hbz := hB.size
            clear hA hS hB hsub hlg
            rcases hR.next (P := Try.prog) 0 with ⟨-, hrun⟩ | ⟨q, l1, l2, hl, w8, hrun, hR8, hK8⟩
            · clear hR
              go_wp2_with fail
              go_roundg (2 - (k + 1))
              case measure => omega
              case rel => exact ⟨k + 1, by omega, by go_num, HA.out, HS.out, HB.out⟩
            · clear hR
              obtain ⟨p, hp, rfl, hp0⟩ := (HA.out.like 0 (by omega)).2 q (Hsub.out q (by rw [hl]; simp))
              have Hl := Lib.hid hl
              have Hp0 := Lib.hid hp0
              have hen := hR8.entry (P := Try.prog)
              have HR8 := Lib.hid hR8
              have hi := Hib.out
              have HA8 := Lib.hid (HA.out.keptS hK8 (by omega) (by omega) (by omega) (by omega) (fun i hi' => by have := hi.2.2.2.2.2.1 i hi'; omega))
              have HS8 := Lib.hid (hK8.blk HS.out (show ¬ sbk = ib by omega))
              have HB8 := Lib.hid (HB.out.trans (hK8.below (B := w.heap.size) hbz (fun i hi' e => by omega)))
              clear hl hp0 hR8 hK8 hi
              obtain ⟨f0, hf0⟩ : ∃ f0, F 0 p = f0 := ⟨_, rfl⟩
              obtain ⟨f, hf⟩ : ∃ f, F k p = f := ⟨_, rfl⟩
              obtain ⟨bb, hbb⟩ : ∃ bb, decide (f ≠ 0) = bb := ⟨_, rfl⟩
              obtain ⟨yy, hyy⟩ : ∃ yy, (decide (f ≠ 0) && Y k p) = yy := ⟨_, rfl⟩
              have Hwk : Hid (Calls Try.prog 38 #[.pointer (some ⟨pb, 0, none⟩), .int .i64 rk, .int .i64 p] w8 fun e w' => e = .returned (.tuple #[.int .i64 f, .bool yy, .bool bb]) ∧ Below w8.heap.size w8 w') := by
                rw [← Hrk.out, ← hyy, ← hbb, ← hf]
                exact walk_any pb db ob P (R k) _ (N k) (F k) (Y k) p w8 HA8.out.pool (HA8.out.tab k hk2) hp
              have hlk0 : (look (es k) p).getD (.int .i64 0) = .int .i64 f ∧ (look (es k) p).isSome = bb := by
                rw [(HA8.out.like k hk2).1 p hp, hf, ← hbb]
                by_cases c : f = 0
                · simp [c]
                · simp [c]
              have Hlk := Lib.hid hlk0; clear hlk0
              have hff : Hid (k = 0 → f0 = f) := fun e => by subst e; rw [← hf0, ← hf]
              have Hhf0 := Lib.hid hf0
              rw [hf0] at hrun hen
              clear hf0 hf hbb hyy
              have hk01 : ((k : Int) == 0) = false ∨ (((k : Int) == 0) = true ∧ f0 = f) := by
                by_cases c : k = 0
                · exact .inr ⟨by simp [c], hff.out c⟩
                · exact .inl (by simp; omega)
              rcases hk01 with hkb | ⟨hkb, rfl⟩
              all_goals
                go_wp2_with fail
                refine Hwk.out.mono ?_
                rintro e w9 ⟨rfl, hb9⟩
                have HA9 := Lib.hid (HA8.out.below hb9)
                have HS9 := Lib.hid (HS8.out.below hb9 HS8.out.lt)
                have HR9 := Lib.hid (HR8.out.below hb9 HR8.out.lt (HA8.out.map 0 (by omega)).lt)
                have HB9 := Lib.hid (HB8.out.trans (hb9.mono HB8.out.size))
                have hmc : w9.cell? ⟨mb, k, none⟩ = some (.map (some (r k))) := by rw [HA9.out.hmb.cell]; exact pair_at r k hk2 (fun b => .map (some b))
                have hlk := (HA9.out.map k hk2).run_lookup_ok (P := Try.prog) Try.underlying79 Try.underlying3 (z := .int .i64 0) (fun w => by kernel_rfl) (p : Int)
                rw [Hlk.out.1, Hlk.out.2] at hlk
                clear hb9
                go_wp2_with fail
                go_roundg (l1 ++ l2).length
                case measure => have h1 := Hlg.out; rw [Hl.out] at h1; simp at h1 ⊢; omega
                case rel => exact ⟨l1 ++ l2, _, rfl, fun q hq => Hsub.out q (by rw [Hl.out]; simp at hq ⊢; rcases hq with h | h <;> simp [h]), HR9.out, HA9.out, HS9.out, HB9.out⟩
        · obtain rfl : k = 2 := by omega
          go_wp2_with fail
          have hT0 : Tab P (R 0) 1 (N 0) (F 0) (Y 0) := HA.out.tab 0 (by omega)
          have hc1 : 1 ≤ cntN (N 0) 585 := by have := cntN_cut (N 0) 0 585 (by omega) (by rw [hT0.root]; exact hT0.r0); omega
          refine (drop_all pb db ob P (R 0) 1 (N 0) (F 0) (Y 0) _ HA.out.pool hT0).mono ?_
          rintro e w7 ⟨rfl, P7, hG⟩
          have HG := Lib.hid hG
          have hm0 := (HA.out.map 0 (by omega)).kept hG.kept (HA.out.nps (by omega))
          have hm1 := (HA.out.map 1 (by omega)).kept hG.kept (HA.out.nps (by omega))
          have hmb7 := hG.kept.blk HA.out.hmb HA.out.nmb
          have hT1 : Tab P7 (R 1) 2 (N 1) (F 1) (Y 1) := (show Tab P (R 1) 2 (N 1) (F 1) (Y 1) from HA.out.tab 1 (by omega)).mv hG.mv (by omega)
          have hB7 : Below w.heap.size w w7 := HB.out.trans (hG.kept.below (B := w.heap.size) hbz (fun i hi e => by have := HA.out.bs; rcases e with e | e | e <;> omega))
          have hcn : countTo P7.O 1 P7.n = 1 := by
            have h1 := hG.cnt; have h2 : countTo P.O 1 P.n = cntN (N 0) 585 := HA.out.cnt 0 (by omega)
            rw [hG.mv.n]; omega
          have hone : (es 0).length = 0 ↔ cntN (N 0) 585 - 1 = 0 := by
            have := HA.out.one 0 (by omega)
            rw [List.length_eq_zero_iff, this]; omega
          have hlike := HA.out.like 1 (by omega)
          have hps := HA.out.ps
          have hrr := HA.out.rr
          have hrm0 := HA.out.rm 0 (by omega); have hrm1 := HA.out.rm 1 (by omega)
          have Hm0 := Lib.hid hm0; have Hm1 := Lib.hid hm1; have Hmb := Lib.hid hmb7; have HT1 := Lib.hid hT1; have HB7 := Lib.hid hB7; have Hcn := Lib.hid hcn; have Hlike := Lib.hid hlike
          have HP7 := Lib.hid hG.pool
          obtain ⟨cd, hcd⟩ : ∃ cd, cntN (N 0) 585 - 1 = cd := ⟨_, rfl⟩
          rw [hcd] at hone ⊢
          have Hone := Lib.hid hone
          clear hT0 hc1 hG hm0 hm1 hmb7 hT1 hB7 hcn hlike hcd hone HA HS HB hbz HG
          have hmc : w7.cell? ⟨mb, 1, none⟩ = some (.map (some (r 1))) := Hmb.out.cell 1
          obtain ⟨o8, hrg, hR8⟩ := RangeAt.begin (P := Try.prog) Hm1.out Try.underlying79
          have hbz := HB7.out.size
          go_wp2_with fail
          obtain ⟨ib, hib⟩ : ∃ ib, ib = w7.heap.size := ⟨_, rfl⟩
          obtain ⟨w8, hw8⟩ : ∃ w8 : World, w8 = w7.alloc o8 := ⟨_, rfl⟩
          rw [← hib, ← hw8] at hR8 ⊢
          have HR8 := Lib.hid hR8
          have HP8 : Hid (PoolAt w8 pb db ob P7) := by rw [hw8]; exact HP7.out.alloc _
          have Hm8 : Hid (MapAt w8 (r 0) (es 0)) := by rw [hw8]; exact Hm0.out.alloc _
          have Hb8 : Hid (Blk w8 mb #[.map (some (r 0)), .map (some (r 1))] 80) := by rw [hw8]; exact Hmb.out.alloc _
          have HB8 : Hid (Below w.heap.size w w8) := by rw [hw8]; exact HB7.out.alloc hbz _
          have Hib : Hid (pb < ib ∧ db < ib ∧ ob < ib ∧ mb < ib ∧ r 0 < ib ∧ r 1 < ib ∧ w.heap.size ≤ ib) := by
            rw [hib]; exact ⟨HP7.out.hp.lt, HP7.out.hd.lt, HP7.out.ho.lt, Hmb.out.lt, Hm0.out.lt, Hm1.out.lt, hbz⟩
          clear hw8 hib hR8 hrg hmc HP7 Hm0 Hm1 Hmb HB7 hbz
          go_loopg [] (es 1).length (fun g wx => ∃ left cur, List.length left = g ∧ (∀ q ∈ left, q ∈ es 1) ∧ RangeAt wx ib (r 1) left cur ∧ PoolAt wx pb db ob P7 ∧ MapAt wx (r 0) (es 0) ∧ Blk wx mb #[.map (some (r 0)), .map (some (r 1))] 80 ∧ Below w.heap.size w wx)
          case atStart => exact ⟨es 1, none, rfl, fun _ h => h, HR8.out, HP8.out, Hm8.out, Hb8.out, HB8.out⟩
          case round =>
            clear HR8 HP8 Hm8 Hb8 HB8
            obtain ⟨left, cur, hlg, hsub, hR, hP, hM, hb, hB⟩ := hrel
            have HP := Lib.hid hP; have HM := Lib.hid hM; have Hmb := Lib.hid hb; have HB := Lib.hid hB
            have Hsub := Lib.hid hsub; have Hlg := Lib.hid hlg
            have hbz := hB.size
            clear hP hM hb hB hsub hlg
            rcases hR.next (P := Try.prog) 0 with ⟨-, hrun⟩ | ⟨q, l1, l2, hl, w9, hrun, hR9, hK9⟩
            · clear hR
              go_wp2_with fail
              refine (count_any pb db ob P7 1 _ HP.out).mono ?_
              rintro e w9 ⟨rfl, rfl⟩
              rw [if_neg (by omega), Hcn.out]
              have hmc : wr.cell? ⟨mb, 0, none⟩ = some (.map (some (r 0))) := Hmb.out.cell 0
              have hln := HM.out.run_len (P := Try.prog) Try.underlying79
              generalize (es 0).length = n0 at *
              by_cases c0 : cd = 0
              · have hn0 := Hone.out.2 c0
                clear Hone
                subst c0 hn0
                go_wp2_with fail
                go_ret
                exact ⟨rfl, HB.out⟩
              · have hb1 : ((cd : Int) == 0) = false := by simp; omega
                have hb2 : ((n0 : Int) == 0) = false := by simp; exact fun h => c0 (Hone.out.1 h)
                clear Hone
                go_wp2_with fail
                go_ret
                exact ⟨by simp, HB.out⟩
            · clear hR
              obtain ⟨p, hp, rfl, hp0⟩ := Hlike.out.2 q (Hsub.out q (by rw [hl]; simp))
              have Hl := Lib.hid hl
              have Hp0 := Lib.hid hp0
              have hen := hR9.entry (P := Try.prog)
              have HR9 := Lib.hid hR9
              have hi := Hib.out
              have HP9 := Lib.hid (HP.out.kept hK9 (show ¬ pb = ib by omega) (show ¬ db = ib by omega) (show ¬ ob = ib by omega))
              have HM9 := Lib.hid (HM.out.kept hK9 (show ¬ r 0 = ib by omega))
              have Hmb9 := Lib.hid (hK9.blk Hmb.out (show ¬ mb = ib by omega))
              have HB9 := Lib.hid (HB.out.trans (hK9.below (B := w.heap.size) hbz (fun i hi' e => by omega)))
              have Hr1 : Hid (r 1 < w9.heap.size) := by have := hR9.lt; show r 1 < _; omega
              clear hl hp0 hR9 hK9 hi
              obtain ⟨f, hf⟩ : ∃ f, F 1 p = f := ⟨_, rfl⟩
              obtain ⟨yy, hyy⟩ : ∃ yy, (decide (f ≠ 0) && Y 1 p) = yy := ⟨_, rfl⟩
              have Hwk : Hid (Calls Try.prog 38 #[.pointer (some ⟨pb, 0, none⟩), .int .i64 (R 1), .int .i64 p] w9 fun e w' => e = .returned (.tuple #[.int .i64 f, .bool yy, .bool true]) ∧ Below w9.heap.size w9 w') := by
                have := walk_any pb db ob P7 (R 1) _ (N 1) (F 1) (Y 1) p w9 HP9.out HT1.out hp
                rw [hf, hyy, show decide (f ≠ 0) = true by simpa [← hf] using Hp0.out] at this
                exact this
              rw [hf] at hrun hen
              clear hf hyy
              go_wp2_with fail
              refine Hwk.out.mono ?_
              rintro e w10 ⟨rfl, hb10⟩
              have HP10 := Lib.hid (HP9.out.below hb10)
              have HM10 := Lib.hid (HM9.out.below hb10 HM9.out.lt)
              have Hmb10 := Lib.hid (Hmb9.out.below hb10 Hmb9.out.lt)
              have HR10 := Lib.hid (HR9.out.below hb10 HR9.out.lt Hr1.out)
              have HB10 := Lib.hid (HB9.out.trans (hb10.mono HB9.out.size))
              clear hb10
              go_wp2_with fail
              go_roundg (l1 ++ l2).length
              case measure => have h1 := Hlg.out; rw [Hl.out] at h1; simp at h1 ⊢; omega
              case rel => exact ⟨l1 ++ l2, _, rfl, fun q hq => Hsub.out q (by rw [Hl.out]; simp at hq ⊢; rcases hq with h | h <;> simp [h]), HR10.out, HP10.out, HM10.out, Hmb10.out, HB10.out⟩
end Go.Proofs.Ytndnjimiabpkpaa
