/- The walk of BytesRuns: two segments and two lists of bytes, call by call. -/
import Derived.Test.YtndnjimiabpkpaaByPlay
import Derived.Test.YtndnjimiabpkpaaFrN
import Derived.Deep.LoopGhost
import Derived.Deep.DeepCutAuto
import Derived.Deep.RegionHeld3
namespace Go.Proofs.Ytndnjimiabpkpaa
open Go.RowKit
attribute [local irreducible] World.setCell World.alloc World.drew World.setRow Calls Code.wp row

theorem run_makeSegs (w : World) : (Instr.makeSlice 72 (.int .i64 2) (.int .i64 2)).run Try.prog w = .ok (.slice (some ⟨w.heap.size, 0, none⟩) 2 2) (w.alloc (.cells (duo fun _ => .slice none 0 0) 54)) := by kernel_rfl
theorem run_makeLists (w : World) : (Instr.makeSlice 44 (.int .i64 2) (.int .i64 2)).run Try.prog w = .ok (.slice (some ⟨w.heap.size, 0, none⟩) 2 2) (w.alloc (.cells (duo fun _ => .slice none 0 0) 32)) := by kernel_rfl
theorem Two.new {w : World} {base sb mb pb db ob lo : Nat} (hP : PoolAt w pb db ob (newPool 20)) (hs : Blk w sb (duo fun _ => .slice none 0 0) 54) (hm : Blk w mb (duo fun _ => .slice none 0 0) 32)
    (l1 : pb < sb ∧ db < sb ∧ ob < sb) (l2 : pb < mb ∧ db < mb ∧ ob < mb ∧ sb ≠ mb) (l3 : sb < lo) (l4 : mb < lo) (l5 : lo ≤ w.heap.size) (l6 : base ≤ pb ∧ base ≤ db ∧ base ≤ ob) :
    Two w base sb mb pb db ob lo (fun _ => .slice none 0 0) (fun _ => .slice none 0 0) (fun _ => []) (newPool 20) :=
  ⟨⟨hP, hs, fun _ _ => .inl ⟨rfl, rfl⟩, fun _ _ => by simp, fun i _ => segIn_new 20 _ (by omega), fun _ _ _ _ _ _ h => (by cases h), l3, l1, l5⟩,
   ⟨hm, fun _ _ => .inl ⟨rfl, rfl⟩, fun _ _ _ _ _ _ h => (by cases h), l4⟩, fun _ _ _ _ _ h => (by cases h), l2, (by decide), l6⟩

theorem row_str {X : Value} {N : Nat} {D : Nat → Int} {w : World} {lo : Nat} (h : RowIn w lo X N D) : (convert 32 9 X).run Try.prog w = .ok (.string (bs (cutL D 0 N))) w := by
  rcases h with ⟨rfl, rfl⟩ | ⟨g, rfl, hg, hb⟩
  · exact run_str_nil Try.underlying32 Try.underlying5 Try.underlying9 _ _
  · have := run_str (P := Try.prog) (w := w) Try.underlying32 Try.underlying5 Try.underlying9 ⟨g, 0, none⟩ (cutL D 0 N) N fun j hj => ?_
    · rw [cutL_len] at this; exact this
    rw [cutL_len] at hj
    rw [Addr.add_lit, Nat.zero_add, hb.rowAt j hj]
    simp [cutL, List.getD, hj]

set_option maxRecDepth 100000 in
set_option maxHeartbeats 8000000 in
theorem runs14_walk (a0 : Option Addr) (len cap : Nat) (X : Nat → Call14) (w : World) (hr : Call14s w a0 len cap X) :
    Calls Try.prog 12 #[.slice a0 len cap] w fun e w' => e = .returned (.bool true) ∧ Below w.heap.size w w' := by
  have Hr := Lib.hid hr
  obtain ⟨b, off, hix, hblt, hmax, hcell⟩ := hr
  have hmax : len ≤ 9223372036854775807 := by unfold maxLen at hmax; omega
  have Hix := Lib.hid hix; clear hix
  have Hcell := Lib.hid hcell; clear hcell
  have Hblt := Lib.hid hblt; clear hblt
  go_enter Try.func12, Try.ntmps12
  go_wp2_with fail
  refine (fit14_any _).mono ?_
  rintro e w1 ⟨rfl, hb1⟩
  have Hb1 := Lib.hid hb1
  have hr1 : Call14s w1 a0 len cap X := by
    obtain ⟨b, off, h1, h2, h3, h4⟩ := Hr.out
    refine ⟨b, off, h1, fun h => Nat.lt_of_lt_of_le (h2 h) hb1.size, h3, fun j hj => ?_⟩
    obtain ⟨⟨c0, c1, c2, c3, c4, c5, c6⟩, hw, ⟨hv, hvc, hcm, hvd, hvB⟩⟩ := h4 j hj
    have hbl := h2 (by omega)
    refine ⟨⟨?_, ?_, ?_, ?_, ?_, ?_, ?_⟩, hw, hv, hvc, hcm, ?_, hvB⟩
    · rw [hb1.cell (p := ⟨b, _, none⟩) hbl]; exact c0
    · rw [hb1.cell (p := ⟨b, _, none⟩) hbl]; exact c1
    · rw [hb1.cell (p := ⟨b, _, none⟩) hbl]; exact c2
    · rw [hb1.cell (p := ⟨b, _, none⟩) hbl]; exact c3
    · rw [hb1.cell (p := ⟨b, _, none⟩) hbl]; exact c4
    · rw [hb1.cell (p := ⟨b, _, none⟩) hbl]; exact c5
    · rw [hb1.cell (p := ⟨b, _, none⟩) hbl]; exact c6
    · rcases hvd with h | ⟨bb, bo, e1, e2, e3⟩
      · exact .inl h
      · exact .inr ⟨bb, bo, e1, Nat.lt_of_lt_of_le e2 hb1.size, fun i hi => by rw [hb1.cell (p := ⟨bb, _, none⟩) e2]; exact e3 i hi⟩
  have Hr1 := Lib.hid hr1
  clear hb1 hr1
  go_wp2_with fail
  refine (light14_any a0 len cap X _ Hr1.out).mono ?_
  rintro e w1' ⟨lb, rfl, hlb, hb1'⟩
  have Hb1' := Lib.hid (Hb1.out.trans (hb1'.mono Hb1.out.size))
  have Hlb := Lib.hid hlb
  clear hlb hb1'
  cases lb
  · go_wp2_with fail
    go_ret
    exact ⟨rfl, Hb1'.out⟩
  have Hl := Lib.hid (Hlb.out rfl)
  have hsz := Hb1'.out.size
  go_wp2_with fail
  refine (new_any 20 _ (by omega) (by omega)).mono ?_
  rintro e w2 ⟨pb, db, ob, rfl, hP, l1, l2, l3, hb2⟩
  have HP := Lib.hid hP; clear hP
  have Hb2 := Lib.hid (Hb1'.out.trans (hb2.mono hsz)); clear hb2
  have m1 := run_makeSegs
  have m2 := run_makeLists
  go_wp2_with fail
  have hz2 := Hb2.out.size
  have z1 := HP.out.hp.lt; have z2 := HP.out.hd.lt; have z3 := HP.out.ho.lt
  go_cut [4, 5] (fun s t wx => ∃ sb mb, s = .slice (some ⟨sb, 0, none⟩) 2 2 ∧ t = .slice (some ⟨mb, 0, none⟩) 2 2 ∧ Two wx w.heap.size sb mb pb db ob wx.heap.size (fun _ => .slice none 0 0) (fun _ => .slice none 0 0) (fun _ => []) (newPool 20) ∧ Below w.heap.size w wx)
  case first =>
    go_region
    all_goals go_wp2_with fail
    all_goals go_meet
    · refine ⟨w2.heap.size, w2.heap.size + 1, rfl, rfl, Two.drew (Two.new ((HP.out.alloc _).alloc _) (((blk_new_at w2 _ _ _ rfl).alloc _)) (blk_new_at _ _ _ _ (by simp)) (by omega) (by omega) (by simp; omega) (by simp) (Nat.le_of_eq (drew_size _)) (by omega)), ?_⟩
      exact ((Hb2.out.alloc hz2 _).alloc (by simp; omega) _).drew
    · refine ⟨w2.heap.size + 1, w2.heap.size, rfl, rfl, Two.drew (Two.new ((HP.out.alloc _).alloc _) (blk_new_at _ _ _ _ (by simp)) (((blk_new_at w2 _ _ _ rfl).alloc _)) (by omega) (by omega) (by simp) (by simp; omega) (Nat.le_of_eq (drew_size _)) (by omega)), ?_⟩
      exact ((Hb2.out.alloc hz2 _).alloc (by simp; omega) _).drew
  case rest =>
  clear m1 m2
  obtain ⟨sb, mb, rfl, rfl, hT, hb'⟩ := hcut
  have hlo : wc.heap.size ≤ wc.heap.size := Nat.le_refl _
  generalize hlw : wc.heap.size = lo at hT hlo
  have HT3 := Lib.hid hT; have Hb3 := Lib.hid hb'
  clear hT hb' HP hlw hlo
  obtain ⟨w3, hw3⟩ : ∃ w3 : World, w3 = wc := ⟨_, rfl⟩
  have Hb4 : Hid (Below w.heap.size w3 wc) := by rw [hw3]; exact Below.refl _ _
  rw [← hw3] at Hb3
  clear hw3
  go_wp2_with fail
  go_loopg [21] len (fun g i wx => ∃ (j : Nat) (v x : Nat → Value) (L : Nat → List Int) (P : Pool), j + g = len ∧ i = .int .i64 j ∧ Two wx w.heap.size sb mb pb db ob lo v x L P ∧ Below w.heap.size w3 wx)
  case atStart => exact ⟨0, _, _, _, _, by omega, rfl, HT3.out, Hb4.out⟩
  case round =>
    clear HT3 Hb4
    obtain ⟨j, v, x, L, P, hj, rfl, hT, hb⟩ := hrel
    have HT := Lib.hid hT; have Hc := Lib.hid hb
    have Hb := Lib.hid (Hb3.out.trans hb)
    have hszr := Hb.out.size
    clear hT hb
    by_cases hlt : j < len
    · have hix := Hix.out j hlt
      obtain ⟨⟨c0, c1, c2, c3, c4, c5, c6⟩, ⟨w0', w1'', w2', w3', w4', w5'⟩, ⟨hv, hvc, hcm, hvd, hvB⟩⟩ := Hcell.out j hlt
      have hbl := Hblt.out (by omega)
      rw [← Hb.out.cell (p := ⟨b, off + j * 7, none⟩) hbl] at c0
      rw [← Hb.out.cell (p := ⟨b, off + j * 7 + 1, none⟩) hbl] at c1
      rw [← Hb.out.cell (p := ⟨b, off + j * 7 + 2, none⟩) hbl] at c2
      rw [← Hb.out.cell (p := ⟨b, off + j * 7 + 3, none⟩) hbl] at c3
      rw [← Hb.out.cell (p := ⟨b, off + j * 7 + 4, none⟩) hbl] at c4
      rw [← Hb.out.cell (p := ⟨b, off + j * 7 + 5, none⟩) hbl] at c5
      rw [← Hb.out.cell (p := ⟨b, off + j * 7 + 6, none⟩) hbl, hv] at c6
      have Hd := Lib.hid (Hl.out.2 j hlt)
      have Hvd := Lib.hid hvd; have HvB := Lib.hid hvB; have Hvc := Lib.hid (And.intro hvc hcm)
      have W0 := Lib.hid w0'; have W1 := Lib.hid w1''; have W2 := Lib.hid w2'; have W3 := Lib.hid w3'; have W4 := Lib.hid w4'; have W5 := Lib.hid w5'
      clear hv hvd hvB hvc hcm w0' w1'' w2' w3' w4' w5'
      generalize (X j).kd = kd at *; generalize (X j).wh = wh at *; generalize (X j).off = of at *; generalize (X j).nn = nn at *; generalize (X j).at_ = at_ at *; generalize (X j).xx = xx at *
      generalize (X j).a = da at *; generalize (X j).m = dl at *; generalize (X j).c = dc at *; generalize (X j).B = dB at *
      have HvI : Hid (∀ w', Below w.heap.size w3 w' → BytesIn w' da dl dB) := by
        intro w' hbw'
        have hbw := Hb3.out.trans hbw'
        rcases Hvd.out with h0 | ⟨bb, bo, h1, h2, h3⟩
        · exact .inl h0
        · exact .inr ⟨bb, bo, h1, fun i hi => by rw [hbw.cell (p := ⟨bb, bo + i, none⟩) h2]; exact h3 i hi⟩
      clear Hvd
      go_wp2_with fail
      refine (play14_any w.heap.size sb mb pb db ob lo v x L P kd wh of nn at_ xx da dl dc dB w3 _ (HT.out.below ((Below.refl _ _).alloc (Nat.le_refl _) _)) (Hc.out.alloc hszr _) W2.out W3.out W4.out W5.out HvI.out HvB.out Hd.out Hvc.out.1 Hvc.out.2).mono ?_
      rintro e w5 ⟨rfl, hb5, v', x', L', P', hT5⟩
      have HT5 := Lib.hid hT5; have Hb5 := Lib.hid hb5
      clear hT5 hb5 c0 c1 c2 c3 c4 c5 c6 HT
      go_wp2_with fail
      go_loopg [33] 2 (fun g i wx => ∃ i' : Nat, i' + g = 2 ∧ i = .int .i64 i' ∧ Two wx w.heap.size sb mb pb db ob lo v' x' L' P' ∧ Below w.heap.size w3 wx)
      case atStart => exact ⟨0, by omega, rfl, HT5.out, Hb5.out⟩
      case round =>
        clear HT5 Hb5
        obtain ⟨i', hi', rfl, hT6, hb6⟩ := hrel
        have HT6 := Lib.hid hT6; have Hb6 := Lib.hid hb6
        clear hT6 hb6
        have hbz6 := HT6.out.base
        by_cases hlt2 : i' < 2
        · have hlt2' : (i' : Int) < 2 := by omega
          obtain ⟨nL, hnL⟩ : ∃ nL, (L' i').length = nL := ⟨_, rfl⟩
          have h16 := HT6.out.sg.h16 i' hlt2
          rw [hnL] at h16
          have hseg : segS (L' i') = ((nL * 64 : Nat) : Int) := by unfold segS; rw [hnL]; omega
          have HS : Hid (∀ wx, Two wx w.heap.size sb mb pb db ob lo v' x' L' P' → Calls Try.prog 33 #[.pointer (some ⟨sb, i', none⟩)] wx fun e w' => e = .returned (.int .i64 ((nL * 64 : Nat) : Int)) ∧ wx = w') := fun wx hx => by
            rw [← hseg]; exact size_any sb i' _ _ _ _ wx (hx.sg.at hlt2)
          have HR : Hid (∀ wx, Two wx w.heap.size sb mb pb db ob lo v' x' L' P' → Calls Try.prog 30 #[.pointer (some ⟨sb, i', none⟩), .pointer (some ⟨pb, 0, none⟩), .int .i64 0, .int .i64 ((nL * 64 : Nat) : Int)] wx fun e w' =>
              ∃ r, e = .returned (.tuple #[r, .bool true]) ∧ w'.ownsRow wx.heap.size 5 1 r (nL * 64) (bytesV (cutL (segD P' (L' i')) 0 (nL * 64))) ∧ Below wx.heap.size wx w') := fun wx hx => by
            have := sread_yes sb i' pb db ob _ _ _ (L' i') P' _ 0 (nL * 64) wx (hx.sg.at hlt2) hx.sg.pool (hx.sg.inn i' hlt2) ((segW_iff _ _ _).2 ⟨by omega, by omega, by rw [hseg]; omega, by rw [hseg]; omega⟩)
            rw [cutL_seg] at this; exact this
          have HPg : Hid (∀ wx, Two wx w.heap.size sb mb pb db ob lo v' x' L' P' → Calls Try.prog 32 #[.pointer (some ⟨sb, i', none⟩)] wx fun e w' => e = .returned (.int .i64 (nL : Int)) ∧ w' = wx) := fun wx hx => by
            rw [← hnL]; exact (pages_any sb i' _ _ _ _ wx (hx.sg.at hlt2)).mono fun e w' ⟨h1, h2⟩ => ⟨h1, h2.symm⟩
          have HCt : Hid (∀ wx, Two wx w.heap.size sb mb pb db ob lo v' x' L' P' → Calls Try.prog 21 #[.pointer (some ⟨pb, 0, none⟩), .int .u64 ((i' : Int) + 1)] wx fun e w' => e = .returned (.int .i64 (nL : Int)) ∧ w' = wx) := fun wx hx =>
            (count_any pb db ob P' ((i' : Int) + 1) wx hx.sg.pool).mono fun e w' ⟨h1, h2⟩ => ⟨by rw [h1, if_neg (by omega), (hx.sg.inn i' hlt2).cnt, hnL], h2.symm⟩
          have hrow : RowIn wr lo (x' i') (nL * 64) (segD P' (L' i')) := by have := HT6.out.ls.r i' hlt2; simp only [hnL] at this; exact this
          obtain ⟨xa, hxa⟩ := hrow.open
          have Hrow := Lib.hid hrow; have Hxa := Lib.hid hxa
          have HnL := Lib.hid hnL
          clear hrow hxa hseg hnL
          have hmul : ((nL * 64 : Nat) : Int) = (nL : Int) * 64 := by omega
          have Hmul := Lib.hid hmul; clear hmul
          go_wp2_with fail
          go_region_held3 (fun _ => True) (first | trivial | exact trivial) (first
            | (refine (HS.out _ HT6.out.drew).mono ?_; rintro e w' ⟨rfl, rfl⟩)
            | (refine (HR.out _ HT6.out.drew).mono ?_; rintro e w7 ⟨r, rfl, hown, hb7⟩))
          have HT7 := Lib.hid (HT6.out.drew.below hb7)
          have Hb7 := Lib.hid (Hb6.out.drew.trans (hb7.mono HT6.out.drew.base))
          have Hown := Lib.hid hown
          have hbz7 := HT7.out.base
          have hs1 : ∀ w', (∃ n, w' = w7.drewN n) → (convert 32 9 r).run Try.prog w' = .ok (.string (bs (cutL (segD P' (L' i')) 0 (nL * 64)))) w' := fun w' hw' => by
            obtain ⟨n, rfl⟩ := hw'
            have h7 : w7.ownsRow wr.drew.heap.size 5 1 r (cutL (segD P' (L' i')) 0 (nL * 64)).length (bytesV (cutL (segD P' (L' i')) 0 (nL * 64))) := by rw [cutL_len]; exact Hown.out
            exact run_str_own Try.underlying32 Try.underlying5 Try.underlying9 (show (w7.drewN n).ownsRow _ _ _ _ _ _ from h7)
          have hs2 : ∀ w', (∃ n, w' = w7.drewN n) → (convert 32 9 (.slice xa (nL * 64) (nL * 64))).run Try.prog w' = .ok (.string (bs (cutL (segD P' (L' i')) 0 (nL * 64)))) w' := fun w' hw' => by
            obtain ⟨n, rfl⟩ := hw'
            have h7 := (HT7.out.drewN n).ls.r i' hlt2
            simp only [HnL.out] at h7
            have h8 := row_str h7
            rw [Hxa.out] at h8; exact h8
          have Hs1 := Lib.hid hs1; have Hs2 := Lib.hid hs2
          have hmc : w7.cell? ⟨mb, i', none⟩ = some (.slice xa (nL * 64) (nL * 64)) := by rw [HT7.out.ls.hb.cell, duo_at x' i' hlt2, Hxa.out]
          have hmul := Hmul.out
          have Hpg2 : Hid (∀ n, Calls Try.prog 32 #[.pointer (some ⟨sb, i', none⟩)] (w7.drewN n) fun e w' => e = .returned (.int .i64 (nL : Int)) ∧ w' = w7.drewN n) := fun n => HPg.out _ (HT7.out.drewN n)
          have Hct2 : Hid (∀ n, Calls Try.prog 21 #[.pointer (some ⟨pb, 0, none⟩), .int .u64 ((i' : Int) + 1)] (w7.drewN n) fun e w' => e = .returned (.int .i64 (nL : Int)) ∧ w' = w7.drewN n) := fun n => HCt.out _ (HT7.out.drewN n)
          clear hs1 hs2 hown hb7
          go_wp2_with fail
          refine wp_region_quiet_lit (by kernel_rfl) (by kernel_rfl) ?_
          repeat (first
            | (refine BigFrame.wpQuiet_want rfl (fun K hK => quiet_conv 32 9 (.tmp 51) _ _ rfl rfl Hs1.out (hK _ ?_)); clear hK K; go_simp)
            | (refine BigFrame.wpQuiet_want rfl (fun K hK => quiet_conv 32 9 (.tmp 56) _ _ rfl rfl Hs2.out (hK _ ?_)); clear hK K; go_simp)
            | go_big_quiet_step ((first | (exact Calls.quiet_of_same (Hpg2.out _)) | (exact Calls.quiet_of_same (Hct2.out _)))))
          refine wpQuiet_nil ?_
          intro nq
          go_wp2_with fail
          go_roundg (2 - (i' + 1))
          case measure => omega
          case rel => exact ⟨i' + 1, by omega, by go_num, HT7.out.drewN _, below_drewN Hb7.out _⟩
        · obtain rfl : i' = 2 := by omega
          go_wp2_with fail
          go_roundg (len - (j + 1))
          case measure => omega
          case rel => exact ⟨j + 1, v', x', L', P', by omega, by go_num, HT6.out, Hb6.out⟩
    · obtain rfl : j = len := by omega
      have hlf : (P.left : Int) = 20 - ((L 0).length : Int) - ((L 1).length : Int) := by have := HT.out.left; omega
      have Hlf : Hid (∀ n, Calls Try.prog 20 #[.pointer (some ⟨pb, 0, none⟩)] (wr.drewN n) fun e w' => e = .returned (.int .i64 P.left) ∧ w' = wr.drewN n) := fun n => (left_any pb db ob P _ (HT.out.drewN n).sg.pool).mono fun e w' ⟨h1, h2⟩ => ⟨h1, h2.symm⟩
      have Hp0 : Hid (∀ n, Calls Try.prog 32 #[.pointer (some ⟨sb, 0, none⟩)] (wr.drewN n) fun e w' => e = .returned (.int .i64 (L 0).length) ∧ w' = wr.drewN n) := fun n => (pages_any sb 0 _ _ _ _ _ ((HT.out.drewN n).sg.at (by omega))).mono fun e w' ⟨h1, h2⟩ => ⟨h1, h2.symm⟩
      have Hp1 : Hid (∀ n, Calls Try.prog 32 #[.pointer (some ⟨sb, 1, none⟩)] (wr.drewN n) fun e w' => e = .returned (.int .i64 (L 1).length) ∧ w' = wr.drewN n) := fun n => (pages_any sb 1 _ _ _ _ _ ((HT.out.drewN n).sg.at (by omega))).mono fun e w' ⟨h1, h2⟩ => ⟨h1, h2.symm⟩
      have h160 := HT.out.sg.h16 0 (by omega); have h161 := HT.out.sg.h16 1 (by omega)
      have hl20 : P.left ≤ 20 := by have := HT.out.left; omega
      generalize (L 0).length = n0 at *; generalize (L 1).length = n1 at *; generalize P.left = pl at *
      have Hlf2 := Lib.hid hlf; clear hlf
      go_wp2_with fail
      go_quiet ((first | (exact Calls.quiet_of_same (Hlf.out _)) | (exact Calls.quiet_of_same (Hp0.out _)) | (exact Calls.quiet_of_same (Hp1.out _))))
      go_wp2_with fail
      go_ret
      exact ⟨by have := Hlf2.out; simp; omega, below_drewN Hb.out _⟩
end Go.Proofs.Ytndnjimiabpkpaa
