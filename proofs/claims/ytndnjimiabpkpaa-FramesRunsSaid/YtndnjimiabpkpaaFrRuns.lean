/- The walk of FramesRuns: a pool and the list model, call by call. -/
import Derived.Test.YtndnjimiabpkpaaFrPlay
import Derived.Test.YtndnjimiabpkpaaFrCalls
import Derived.Deep.LoopGhost
import Derived.Deep.DeepCutAuto
namespace Go.Proofs.Ytndnjimiabpkpaa
open Go.RowKit
attribute [local irreducible] World.setCell World.alloc World.drew World.setRow Calls Code.wp row

theorem run_makeRows (n : Nat) (h : n ≤ 4096) (w : World) : (Instr.makeSlice 44 (.int .i64 n) (.int .i64 n)).run Try.prog w =
    .ok (.slice (some ⟨w.heap.size, 0, none⟩) n n) (w.alloc (.cells (row n fun _ => .slice none 0 0) 32)) := by
  obtain ⟨i, hi, hz, hs, hb⟩ : ∃ i, Try.prog.info? 32 = some i ∧ i.zero = some (.slice none 0 0) ∧ i.size = 1 ∧ i.bytes = 24 :=
    info_parts (by kernel_rfl)
  have := run_make (P := Try.prog) w 44 32 i _ Try.underlying44 hi hz .i64 .i64 n n (by omega) (by omega) (by rw [hb]; omega) (by omega)
  rw [this, hs, Int.toNat_natCast]
  rw [made_row _ (.slice none 0 0) _ (by simp [Value.cells]) (fun i hi => by
    simp [Value.cells] at hi ⊢; subst hi; rfl), Nat.mul_one]

theorem ModAt.new {w : World} {mb dm om n : Nat} (lo : Nat) (hm : Blk w mb #[.slice (some ⟨dm, 0, none⟩) n n, .slice (some ⟨om, 0, none⟩) n n] 47)
    (hd : Blk w dm (row n fun _ => .slice none 0 0) 32) (ho : Blk w om (row n fun _ => .int .u64 0) 27) (n1 : mb ≠ dm) (n2 : mb ≠ om) (n3 : dm ≠ om) (l1 : mb < lo) (l2 : dm < lo) (l3 : om < lo) : ModAt w lo mb dm om (newPool n) :=
  ⟨hm, ho, n1, n2, n3, l1, l2, l3, fun _ => .slice none 0 0, fun _ => 0, hd, fun _ _ h => absurd rfl h, fun _ _ _ _ h => absurd rfl h⟩

set_option maxRecDepth 100000 in
set_option maxHeartbeats 2000000 in
theorem runs06_walk (n : Int) (a0 : Option Addr) (len cap : Nat) (X : Nat → Call06) (w : World) (_ : (Lit.int .i64 n).wf = true) (hr : Calls06 w a0 len cap X) :
    Calls Try.prog 6 #[.int .i64 n, .slice a0 len cap] w fun e w' => e = .returned (.bool true) ∧ Below w.heap.size w w' := by
  obtain ⟨b, off, hix, hblt, hmax, hcell⟩ := hr
  have hmax : len ≤ 9223372036854775807 := by unfold maxLen at hmax; omega
  have Hix := Lib.hid hix; clear hix
  have Hcell := Lib.hid hcell; clear hcell
  have Hblt := Lib.hid hblt; clear hblt
  obtain ⟨q0, q1⟩ := tmod_bd n 20 (by omega)
  obtain ⟨m, hm⟩ : ∃ m : Nat, (n.tmod 20 + 20) % 20 = (m : Int) := ⟨((n.tmod 20 + 20) % 20).toNat, by omega⟩
  have hm' : n.tmod 20 % 20 = (m : Int) := by omega
  have hm20 : m < 20 := by omega
  go_enter Try.func6, Try.ntmps6
  go_wp2_with fail
  refine (fit06_any _).mono ?_
  rintro e w1 ⟨rfl, hb1⟩
  have Hb1 := Lib.hid hb1; clear hb1
  by_cases hlen : 200 < len
  · go_wp2_with fail
    go_ret
    exact ⟨rfl, Hb1.out⟩
  · have hsz := Hb1.out.size
    go_wp2_with fail
    refine (new_any (m + 1) _ (by omega) (by omega)).mono ?_
    rintro e w2 ⟨pb, db, ob, rfl, hP, l1, l2, l3, hb2⟩
    have HP := Lib.hid hP; clear hP
    have Hb2 := Lib.hid (Hb1.out.trans (hb2.mono hsz)); clear hb2
    clear hm hm'
    have m1 := run_makeRows (m + 1) (by omega)
    have m2 := run_make45 (m + 1) (by omega)
    have ecast : ((m + 1 : Nat) : Int) = (m : Int) + 1 := by omega
    rw [ecast] at m1 m2
    clear ecast
    go_wp2_with fail
    have hz2 := Hb2.out.size
    have z1 := HP.out.hp.lt; have z2 := HP.out.hd.lt; have z3 := HP.out.ho.lt
    go_cut [6] (fun s wx => ∃ mb dm om, s = .pointer (some ⟨mb, 0, none⟩) ∧ PoolAt wx pb db ob (newPool (m + 1)) ∧ ModAt wx wx.heap.size mb dm om (newPool (m + 1)) ∧ w2.heap.size ≤ mb ∧ w2.heap.size ≤ dm ∧ w2.heap.size ≤ om ∧ Below w.heap.size w wx)
    case first =>
      go_region
      all_goals go_wp2_with fail
      all_goals go_meet
      · refine ⟨w2.heap.size + 1 + 1, w2.heap.size, w2.heap.size + 1, rfl, (((HP.out.alloc _).alloc _).alloc _).drew, (ModAt.new _ (blk_new_at _ _ _ _ (by simp)) (((blk_new_at _ _ _ _ rfl).alloc _).alloc _) ((blk_new_at _ _ _ _ (by simp)).alloc _) (by omega) (by omega) (by omega) (by simp) (by simp; omega) (by simp)).drew, by omega, by omega, by omega, ?_⟩
        exact (((Hb2.out.alloc hz2 _).alloc (by simp; omega) _).alloc (by simp; omega) _).drew
      · refine ⟨w2.heap.size + 1 + 1, w2.heap.size + 1, w2.heap.size, rfl, (((HP.out.alloc _).alloc _).alloc _).drew, (ModAt.new _ (blk_new_at _ _ _ _ (by simp)) ((blk_new_at _ _ _ _ (by simp)).alloc _) (((blk_new_at _ _ _ _ rfl).alloc _).alloc _) (by omega) (by omega) (by omega) (by simp) (by simp) (by simp; omega)).drew, by omega, by omega, by omega, ?_⟩
        exact (((Hb2.out.alloc hz2 _).alloc (by simp; omega) _).alloc (by simp; omega) _).drew
    case rest =>
    clear m1 m2
    obtain ⟨mb, dm, om, rfl, hP', hM', k1, k2, k3, hb'⟩ := hcut
    have hlo : wc.heap.size ≤ wc.heap.size := Nat.le_refl _
    generalize hlw : wc.heap.size = lo at hM' hlo
    have g1 := hM'.l1; have g2 := hM'.l2; have g3 := hM'.l3
    have HP3 := Lib.hid hP'; have HM3 := Lib.hid hM'; have Hb3 := Lib.hid hb'
    have Hlw := Lib.hid hlw
    clear hP' hM' hb' HP hlw hlo
    obtain ⟨w3, hw3⟩ : ∃ w3 : World, w3 = wc := ⟨_, rfl⟩
    have Hb4 : Hid (Below w.heap.size w3 wc) := by rw [hw3]; exact Below.refl _ _
    rw [← hw3] at Hb3 Hlw
    clear hw3
    go_wp2_with fail
    go_loopg [29] len (fun g i wx => ∃ (j : Nat) (P : Pool), j + g = len ∧ i = .int .i64 j ∧ PoolAt wx pb db ob P ∧ ModAt wx lo mb dm om P ∧ Below w.heap.size w3 wx)
    case atStart => exact ⟨0, _, by omega, rfl, HP3.out, HM3.out, Hb4.out⟩
    case round =>
      clear HP3 HM3 Hb4
      obtain ⟨j, P, hj, rfl, hP, hM, hb⟩ := hrel
      have HP := Lib.hid hP; have HM := Lib.hid hM; have Hc := Lib.hid hb
      have Hb := Lib.hid (Hb3.out.trans hb)
      have hlo : lo ≤ wr.heap.size := by have := hb.size; have := Hlw.out; omega
      have Hlo := Lib.hid hlo
      have hszr := Hb.out.size
      clear hP hM hb hlo
      by_cases hlt : j < len
      · have hix := Hix.out j hlt
        obtain ⟨⟨c0, c1, c2, c3, c4, c5⟩, ⟨w0', w1', w2', w3', w4'⟩, hv, hvc, hcm, hvd, hvB⟩ := Hcell.out j hlt
        have hbl := Hblt.out (by omega)
        rw [← Hb.out.cell (p := ⟨b, off + j * 6, none⟩) hbl] at c0
        rw [← Hb.out.cell (p := ⟨b, off + j * 6 + 1, none⟩) hbl] at c1
        rw [← Hb.out.cell (p := ⟨b, off + j * 6 + 2, none⟩) hbl] at c2
        rw [← Hb.out.cell (p := ⟨b, off + j * 6 + 3, none⟩) hbl] at c3
        rw [← Hb.out.cell (p := ⟨b, off + j * 6 + 4, none⟩) hbl] at c4
        rw [← Hb.out.cell (p := ⟨b, off + j * 6 + 5, none⟩) hbl, hv] at c5
        have Hv := Lib.hid hv; have Hvd := Lib.hid hvd; have HvB := Lib.hid hvB
        have W0 := Lib.hid w0'; have W1 := Lib.hid w1'; have W2 := Lib.hid w2'; have W3 := Lib.hid w3'; have W4 := Lib.hid w4'
        clear hv hvd hvB w0' w1' w2' w3' w4'
        generalize (X j).kd = kd at *; generalize (X j).f = f at *; generalize (X j).off = of at *; generalize (X j).nn = nn at *; generalize (X j).ow = ow at *
        generalize (X j).a = da at *; generalize (X j).m = dl at *; generalize (X j).c = dc at *; generalize (X j).B = dB at *
        have HvI : Hid (∀ w', Below w.heap.size w3 w' → BytesIn w' da dl dB) := by
          intro w' hbw'
          have hbw := Hb3.out.trans hbw'
          rcases Hvd.out with h0 | ⟨bb, bo, h1, h2, h3⟩
          · exact .inl h0
          · exact .inr ⟨bb, bo, h1, fun i hi => by rw [hbw.cell (p := ⟨bb, bo + i, none⟩) h2]; exact h3 i hi⟩
        clear Hvd Hv
        by_cases hd : 200 < dl
        · go_wp2_with fail
          go_ret
          exact ⟨rfl, Hb.out.alloc hszr _⟩
        · go_wp2_with fail
          refine (play_any pb db ob lo mb dm om w.heap.size P kd f of nn ow da dl dc dB w3 _ (HP.out.alloc _) (HM.out.alloc _) (by have := Hlo.out; simp; omega) (by omega) (by rintro (e | e | e) <;> omega) (by rintro (e | e | e) <;> omega) (by rintro (e | e | e) <;> omega) (by omega) (by omega) (Hc.out.alloc hszr _) HvI.out (fun j _ => HvB.out j) (by omega) W0.out W1.out W2.out W3.out W4.out).mono ?_
          rintro e w5 ⟨rfl, hb5, P5, hn5, hP5, hM5⟩
          have HP5 := Lib.hid hP5; have HM5 := Lib.hid hM5; have Hb5 := Lib.hid hb5
          clear hP5 hM5 hb5 hn5
          go_wp2_with fail
          go_roundg (len - (j + 1))
          case measure => omega
          case rel => exact ⟨j + 1, P5, by omega, by go_num, HP5.out, HM5.out, Hb5.out⟩
      · obtain rfl : j = len := by omega
        go_wp2_with fail
        go_ret
        exact ⟨rfl, Hb.out⟩
end Go.Proofs.Ytndnjimiabpkpaa
