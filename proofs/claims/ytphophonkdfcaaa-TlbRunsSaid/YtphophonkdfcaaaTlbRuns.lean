/- The walk of TlbRuns: it returns true, whatever the calls. -/
import Derived.Test.YtphophonkdfcaaaTlbRunsP
import Derived.Deep.LoopGhost
import Derived.Deep.DeepCutAuto
import Derived.Deep.CutBlock
namespace Go.Proofs.Ytphophonkdfcaaa
open Go.RowKit
attribute [local irreducible] World.setCell World.alloc World.drew Calls Code.wp

theorem blk_new_at (w : World) (c : Array Value) (t b : Nat) (h : b = w.heap.size) : Blk (w.alloc (.cells c t)) b c t := by subst h; exact Blk.new w c t

set_option maxRecDepth 100000 in
set_option maxHeartbeats 2000000 in
theorem runs_walk (a0 : Option Addr) (len cap : Nat) (w : World) (hr : CallsIn w a0 len cap) :
    Calls Try.prog 4 #[.slice a0 len cap] w fun e w' => e = .returned (.bool true) ∧ Below w.heap.size w w' := by
  obtain ⟨b, off, K, P, F, R, hix, hblt, hmax, hcell⟩ := hr
  have hmax : len ≤ 9223372036854775807 := by unfold maxLen at hmax; omega
  have Hix := Lib.hid hix; clear hix
  have Hcell := Lib.hid hcell; clear hcell
  have Hblt := Lib.hid hblt; clear hblt
  go_enter Try.func4, Try.ntmps4
  go_wp2_with fail
  refine (fit_any _).mono ?_
  rintro e w1 ⟨rfl, hb1⟩
  have Hb1 := Lib.hid hb1; clear hb1
  by_cases hlen : 300 < len
  · go_wp2_with fail
    go_ret
    exact ⟨rfl, Hb1.out⟩
  · have hsz := Hb1.out.size
    go_wp2_with fail
    go_loopg [5, 24] len (fun g n i wx => ∃ j : Nat, j + g = len ∧ i = .int .i64 j ∧ n = .int .i64 (runTo K P F R j).n ∧ Blk wx w1.heap.size (runTo K P F R j).cells 28 ∧ Blk wx (w1.heap.size + 1) (runTo K P F R j).lcells 36 ∧ Below w.heap.size w wx)
    case atStart => exact ⟨0, by omega, rfl, rfl, (Blk.new _ _ _).alloc _, blk_new_at _ _ _ _ (by simp), (Hb1.out.alloc hsz _).alloc (by simp; omega) _⟩
    case round =>
      obtain ⟨j, hj, rfl, rfl, hB, hL, hb⟩ := hrel
      have HB := Lib.hid hB; clear hB
      have HL := Lib.hid hL; clear hL
      have Hb := Lib.hid hb; clear hb
      have hg := runTo_good K P F R j
      have hs : runTo K P F R (j + 1) = (runTo K P F R j).step (kindOf (K j)) (P j) (F j) (R j) := rfl
      generalize hT : runTo K P F R j = T at *
      have HT := Lib.hid hT; clear hT
      have hn0 := hg.n0
      have hn4 := hg.n4
      have Hg := Lib.hid hg; clear hg
      by_cases hlt : j < len
      · have hix := Hix.out j hlt
        obtain ⟨hc0, hc1, hc2, hc3, _, _, _⟩ := Hcell.out j hlt
        have hbs := Hblt.out (by omega)
        have hc0 := (Hb.out.cell (p := ⟨b, off + j * 4, none⟩) hbs).trans hc0
        have hc1 := (Hb.out.cell (p := ⟨b, off + j * 4 + 1, none⟩) hbs).trans hc1
        have hc2 := (Hb.out.cell (p := ⟨b, off + j * 4 + 2, none⟩) hbs).trans hc2
        have hc3 := (Hb.out.cell (p := ⟨b, off + j * 4 + 3, none⟩) hbs).trans hc3
        clear hbs
        have hk1 : -4 < (K j).tmod 4 ∧ (K j).tmod 4 < 4 := tmod_bd _ 4 (by omega)
        have hk4 := kindOf_four (K j)
        unfold kindOf at hk4
        obtain ⟨q0, q1⟩ := hk1
        generalize hT' : runTo K P F R (j + 1) = T' at hs
        have HT' := Lib.hid hT'; clear hT'
        have Hs := Lib.hid hs; clear hs
        go_upto_block 2 with fail
        obtain ⟨w2, hw2⟩ : ∃ w2 : World, w2 = wr.alloc (.cells #[.int .i64 (K j), .int .i64 (P j), .int .i64 (F j), .bool (R j)] 38) := ⟨_, rfl⟩
        rw [← hw2]
        generalize (Value.agg #[.int .i64 (K j), .int .i64 (P j), .int .i64 (F j), .bool (R j)]) = vagg
        have HB2 : Hid (Blk w2 w1.heap.size T.cells 28) := by rw [hw2]; exact HB.out.alloc _
        have HL2 : Hid (Blk w2 (w1.heap.size + 1) T.lcells 36) := by rw [hw2]; exact HL.out.alloc _
        have HC2 : Hid (Blk w2 wr.heap.size #[.int .i64 (K j), .int .i64 (P j), .int .i64 (F j), .bool (R j)] 38) := by rw [hw2]; exact Blk.new _ _ _
        have Hb2 : Hid (Below w.heap.size w w2) := by rw [hw2]; exact Hb.out.alloc Hb.out.size _
        have hlt1 := HB.out.lt
        have hlt2 := HL.out.lt
        clear hw2 hc0 hc1 hc2 hc3 HB HL Hb
        go_cut [5, 8, 9, 10, 11, 13, 32] (fun s5 _ _ _ _ _ _ wx => s5 = .int .i64 T'.n ∧ Blk wx w1.heap.size T'.cells 28 ∧ Blk wx (w1.heap.size + 1) T'.lcells 36 ∧ Below w.heap.size w wx)
        case first =>
          have hc2 := HC2.out.cell
          rcases hk4 with hk4 | hk4 | hk4 | hk4
          · go_wp2_with fail
            refine (put_all _ T _ _ _ _ HB2.out hn0 hn4).mono ?_
            rintro e w3 ⟨rfl, hB3, hK3⟩
            have Hs1 : Hid (T' = T.put (P j) (F j) (R j)) := by rw [Hid, Hs.out]; simp [Pl.step, kindOf, hk4]
            have HB3 : Hid (Blk w3 w1.heap.size T'.cells 28) := by rw [Hs1.out]; exact hB3
            have HL3 := Lib.hid (hK3.blk HL2.out (by omega))
            have HC3 := Lib.hid (hK3.blk HC2.out (by omega))
            have Hb3 := Lib.hid (Hb2.out.trans (hK3.below Hb2.out.size (fun i hi e => by omega)))
            have hsz3 := hK3.size
            clear hB3 hK3 hc2
            have hc3 := HC3.out.cell
            by_cases hf : F j < 1
            · have Hs2 : Hid (T' = T) := by rw [Hid, Hs1.out]; unfold Pl.put; rw [if_pos hf]
              go_wp2_with fail
              go_meet
              rw [Hs2.out]
              exact ⟨rfl, by rw [← Hs2.out]; exact HB3.out, HL3.out, Hb3.out⟩
            · have Hs2 : Hid (T' = if T.atTo (P j) 4 < 0 then T.store T.n.toNat (P j) (F j) (R j) ((T.n + 1) % 4) else T.store (T.atTo (P j) 4).toNat (P j) (F j) (R j) T.n) := by
                rw [Hid, Hs1.out]; unfold Pl.put; rw [if_neg hf]
              have hl3 := HL3.out.cell
              unfold Pl.lcells at hl3
              go_wp2_with fail
              go_loopg [8, 9, 10, 53] 4 (fun g a _ _ i wx => ∃ k : Nat, k + g = 4 ∧ i = .int .i64 k ∧ a = .int .i64 (T.atTo (P j) k) ∧ Below w3.heap.size w3 wx)
              case atStart => exact ⟨0, by omega, rfl, rfl, Below.refl _ _⟩
              case round =>
                obtain ⟨k, hk, rfl, rfl, hb4⟩ := hrel
                have Hb4 := Lib.hid hb4; clear hb4 hc3 hl3
                have hc4 := (HC3.out.below Hb4.out HC3.out.lt).cell
                have hlt4 := (HC3.out.below Hb4.out HC3.out.lt).lt
                by_cases hlt : k < 4
                · have hi := lidx T k hlt
                  have hbd := Hg.out.f k hlt
                  have hs : T.atTo (P j) (k + 1) = if (T.f k != 0) && (T.p k == P j) then (k : Int) else T.atTo (P j) k := rfl
                  have Hs3 := Lib.hid hs; clear hs
                  cases e1 : decide (0 < T.f k) <;> cases e2 : (T.p k == P j)
                  all_goals go_wp2_with fail
                  all_goals go_roundg (3 - k)
                  all_goals first
                    | (case measure => omega)
                    | (case rel =>
                        refine ⟨k + 1, by omega, by go_num, ?_, Hb4.out.alloc Hb4.out.size _⟩
                        have f0 : (T.f k != 0) = decide (0 < T.f k) := by rw [Bool.eq_iff_iff]; simp; omega
                        rw [Hs3.out, f0, e1, e2]; simp)
                · have HB4 := Lib.hid (HB3.out.below Hb4.out HB3.out.lt)
                  have HL4 := Lib.hid (HL3.out.below Hb4.out HL3.out.lt)
                  have Hb5 := Lib.hid (Hb3.out.trans (Hb4.out.mono Hb3.out.size))
                  have hl4 := HL4.out.cell
                  have hf4 := HL4.out.free
                  unfold Pl.lcells at hl4
                  have hk4' : k = 4 := by omega
                  subst hk4'
                  have hbd := T.atTo_bd (P j) 4
                  have hcase : T.atTo (P j) 4 = -1 ∨ T.atTo (P j) 4 = 0 ∨ T.atTo (P j) 4 = 1 ∨ T.atTo (P j) 4 = 2 ∨ T.atTo (P j) 4 = 3 := by omega
                  have hcn : T.n = 0 ∨ T.n = 1 ∨ T.n = 2 ∨ T.n = 3 := by omega
                  clear hbd hn0 hn4
                  rcases hcase with h | h | h | h | h
                  · rcases hcn with e | e | e | e
                    all_goals go_wp2_with fail
                    all_goals go_meet
                    all_goals refine ⟨?_, HB4.out.below' (by repeat (first | exact Kept.refl _ _ | refine Kept.setIn ?_ _ _ _ (by exact rfl))) (by omega), Blk.cells (by (repeat apply Blk.set); exact HL4.out) ?_, ?_⟩
                    all_goals first
                      | (rw [Hs2.out]; simp [Pl.lcells, Pl.store, upd, h, e])
                      | (repeat refine Below.setCell ?_ (by simp; omega) _
                         exact Hb5.out)
                  all_goals clear hcn
                  all_goals go_wp2_with fail
                  all_goals go_meet
                  all_goals refine ⟨?_, HB4.out.below' (by repeat (first | exact Kept.refl _ _ | refine Kept.setIn ?_ _ _ _ (by exact rfl))) (by omega), Blk.cells (by (repeat apply Blk.set); exact HL4.out) ?_, ?_⟩
                  all_goals first
                    | (rw [Hs2.out]; simp [Pl.lcells, Pl.store, upd, h])
                    | (repeat refine Below.setCell ?_ (by simp; omega) _
                       exact Hb5.out)
          · go_wp2_with fail
            refine (put_all _ T _ _ _ _ HB2.out hn0 hn4).mono ?_
            rintro e w3 ⟨rfl, hB3, hK3⟩
            have Hs1 : Hid (T' = T.put (P j) (F j) (R j)) := by rw [Hid, Hs.out]; simp [Pl.step, kindOf, hk4]
            have HB3 : Hid (Blk w3 w1.heap.size T'.cells 28) := by rw [Hs1.out]; exact hB3
            have HL3 := Lib.hid (hK3.blk HL2.out (by omega))
            have HC3 := Lib.hid (hK3.blk HC2.out (by omega))
            have Hb3 := Lib.hid (Hb2.out.trans (hK3.below Hb2.out.size (fun i hi e => by omega)))
            have hsz3 := hK3.size
            clear hB3 hK3 hc2
            have hc3 := HC3.out.cell
            by_cases hf : F j < 1
            · have Hs2 : Hid (T' = T) := by rw [Hid, Hs1.out]; unfold Pl.put; rw [if_pos hf]
              go_wp2_with fail
              go_meet
              rw [Hs2.out]
              exact ⟨rfl, by rw [← Hs2.out]; exact HB3.out, HL3.out, Hb3.out⟩
            · have Hs2 : Hid (T' = if T.atTo (P j) 4 < 0 then T.store T.n.toNat (P j) (F j) (R j) ((T.n + 1) % 4) else T.store (T.atTo (P j) 4).toNat (P j) (F j) (R j) T.n) := by
                rw [Hid, Hs1.out]; unfold Pl.put; rw [if_neg hf]
              have hl3 := HL3.out.cell
              unfold Pl.lcells at hl3
              go_wp2_with fail
              go_loopg [8, 9, 10, 53] 4 (fun g a _ _ i wx => ∃ k : Nat, k + g = 4 ∧ i = .int .i64 k ∧ a = .int .i64 (T.atTo (P j) k) ∧ Below w3.heap.size w3 wx)
              case atStart => exact ⟨0, by omega, rfl, rfl, Below.refl _ _⟩
              case round =>
                obtain ⟨k, hk, rfl, rfl, hb4⟩ := hrel
                have Hb4 := Lib.hid hb4; clear hb4 hc3 hl3
                have hc4 := (HC3.out.below Hb4.out HC3.out.lt).cell
                have hlt4 := (HC3.out.below Hb4.out HC3.out.lt).lt
                by_cases hlt : k < 4
                · have hi := lidx T k hlt
                  have hbd := Hg.out.f k hlt
                  have hs : T.atTo (P j) (k + 1) = if (T.f k != 0) && (T.p k == P j) then (k : Int) else T.atTo (P j) k := rfl
                  have Hs3 := Lib.hid hs; clear hs
                  cases e1 : decide (0 < T.f k) <;> cases e2 : (T.p k == P j)
                  all_goals go_wp2_with fail
                  all_goals go_roundg (3 - k)
                  all_goals first
                    | (case measure => omega)
                    | (case rel =>
                        refine ⟨k + 1, by omega, by go_num, ?_, Hb4.out.alloc Hb4.out.size _⟩
                        have f0 : (T.f k != 0) = decide (0 < T.f k) := by rw [Bool.eq_iff_iff]; simp; omega
                        rw [Hs3.out, f0, e1, e2]; simp)
                · have HB4 := Lib.hid (HB3.out.below Hb4.out HB3.out.lt)
                  have HL4 := Lib.hid (HL3.out.below Hb4.out HL3.out.lt)
                  have Hb5 := Lib.hid (Hb3.out.trans (Hb4.out.mono Hb3.out.size))
                  have hl4 := HL4.out.cell
                  have hf4 := HL4.out.free
                  unfold Pl.lcells at hl4
                  have hk4' : k = 4 := by omega
                  subst hk4'
                  have hbd := T.atTo_bd (P j) 4
                  have hcase : T.atTo (P j) 4 = -1 ∨ T.atTo (P j) 4 = 0 ∨ T.atTo (P j) 4 = 1 ∨ T.atTo (P j) 4 = 2 ∨ T.atTo (P j) 4 = 3 := by omega
                  have hcn : T.n = 0 ∨ T.n = 1 ∨ T.n = 2 ∨ T.n = 3 := by omega
                  clear hbd hn0 hn4
                  rcases hcase with h | h | h | h | h
                  · rcases hcn with e | e | e | e
                    all_goals go_wp2_with fail
                    all_goals go_meet
                    all_goals refine ⟨?_, HB4.out.below' (by repeat (first | exact Kept.refl _ _ | refine Kept.setIn ?_ _ _ _ (by exact rfl))) (by omega), Blk.cells (by (repeat apply Blk.set); exact HL4.out) ?_, ?_⟩
                    all_goals first
                      | (rw [Hs2.out]; simp [Pl.lcells, Pl.store, upd, h, e])
                      | (repeat refine Below.setCell ?_ (by simp; omega) _
                         exact Hb5.out)
                  all_goals clear hcn
                  all_goals go_wp2_with fail
                  all_goals go_meet
                  all_goals refine ⟨?_, HB4.out.below' (by repeat (first | exact Kept.refl _ _ | refine Kept.setIn ?_ _ _ _ (by exact rfl))) (by omega), Blk.cells (by (repeat apply Blk.set); exact HL4.out) ?_, ?_⟩
                  all_goals first
                    | (rw [Hs2.out]; simp [Pl.lcells, Pl.store, upd, h])
                    | (repeat refine Below.setCell ?_ (by simp; omega) _
                       exact Hb5.out)
          · have Hs1 : Hid (T' = T) := by rw [Hid, Hs.out]; simp [Pl.step, kindOf, hk4]
            have hl2 := HL2.out.cell
            unfold Pl.lcells at hl2
            go_wp2_with fail
            go_loopg [11, 13, 87] 4 (fun g a _ i wx => ∃ k : Nat, k + g = 4 ∧ i = .int .i64 k ∧ a = .int .i64 (T.lastTo (P j) (R j) k) ∧ Below w2.heap.size w2 wx)
            case atStart => exact ⟨0, by omega, rfl, rfl, Below.refl _ _⟩
            case round =>
              obtain ⟨k, hk, rfl, rfl, hb4⟩ := hrel
              have Hb4 := Lib.hid hb4; clear hb4 hc2 hl2
              have hc4 := (HC2.out.below Hb4.out HC2.out.lt).cell
              have hlt4 := (HC2.out.below Hb4.out HC2.out.lt).lt
              by_cases hlt : k < 4
              · have hi := lidx T k hlt
                have hs : T.lastTo (P j) (R j) (k + 1) = if (decide (0 < T.f k)) && (T.p k == P j) && (T.w k || !R j) then T.f k else T.lastTo (P j) (R j) k := rfl
                have Hs3 := Lib.hid hs; clear hs
                cases e1 : decide (0 < T.f k) <;> cases e2 : (T.p k == P j) <;> cases e3 : T.w k <;> cases e4 : R j
                all_goals go_wp2_with fail
                all_goals go_roundg (3 - k)
                all_goals first
                  | (case measure => omega)
                  | (case rel =>
                      refine ⟨k + 1, by omega, by go_num, ?_, Hb4.out.alloc Hb4.out.size _⟩
                      rw [Hs3.out, e1, e2, e3, e4]; simp)
              · have hk4' : k = 4 := by omega
                subst hk4'
                have HB4 := Lib.hid (HB2.out.below Hb4.out HB2.out.lt)
                have HL4 := Lib.hid (HL2.out.below Hb4.out HL2.out.lt)
                have Hb5 := Lib.hid (Hb2.out.trans (Hb4.out.mono Hb2.out.size))
                have e5 : (T.find (P j) (R j) != T.lastTo (P j) (R j) 4) = false := by rw [Hg.out.last]; simp
                go_wp2_with fail
                refine (find_any _ T _ _ _ HB4.out).mono ?_
                rintro e w6 ⟨rfl, hb6⟩
                have HB6 := Lib.hid (HB4.out.below hb6 HB4.out.lt)
                have HL6 := Lib.hid (HL4.out.below hb6 HL4.out.lt)
                have Hb6 := Lib.hid (Hb5.out.trans (hb6.mono Hb5.out.size)); clear hb6
                go_wp2_with fail
                go_meet
                rw [Hs1.out]
                exact ⟨rfl, HB6.out, HL6.out, Hb6.out⟩
          · have hm3 := and3 (F j)
            by_cases h4 : F j % 4 = 0
            · have Hs1 : Hid (T' = Pl.zero) := by rw [Hid, Hs.out]; simp [Pl.step, kindOf, hk4, h4]
              have h4b : (F j % 4 == 0) = true := by simpa using h4
              clear h4
              go_wp2_with fail
              refine (flush_any _ T _ HB2.out).mono ?_
              rintro e w3 ⟨rfl, hB3, hK3⟩
              have HB3 := Lib.hid hB3; clear hB3
              have HL3 := Lib.hid (hK3.blk HL2.out (by omega))
              have Hb3 := Lib.hid (Hb2.out.trans (hK3.below Hb2.out.size (fun i hi e => by omega)))
              clear hK3 hc2
              have hl3 := HL3.out.cell
              have hf3 := HL3.out.free
              unfold Pl.lcells at hl3
              go_wp2_with fail
              go_meet
              rw [Hs1.out]
              refine ⟨rfl, HB3.out.below' (by repeat (first | exact Kept.refl _ _ | refine Kept.setIn ?_ _ _ _ (by exact rfl))) (by omega), Blk.cells (by (repeat apply Blk.set); exact HL3.out) (by simp [Pl.lcells, Pl.zero]), ?_⟩
              repeat refine Below.setCell ?_ (by simp; omega) _
              exact Hb3.out
            · have Hs1 : Hid (T' = T) := by rw [Hid, Hs.out]; simp [Pl.step, kindOf, hk4, h4]
              have h4b : (F j % 4 == 0) = false := by simpa using h4
              clear h4
              go_wp2_with fail
              go_meet
              rw [Hs1.out]
              exact ⟨rfl, HB2.out, HL2.out, Hb2.out⟩
        case rest =>
          obtain ⟨rfl, hB3, hL3, hb3⟩ := hcut
          have HB3 := Lib.hid hB3; clear hB3
          have HL3 := Lib.hid hL3; clear hL3
          have Hb3 := Lib.hid hb3; clear hb3
          have Hg' : Hid T'.Good := by rw [Hid, ← HT'.out]; exact runTo_good K P F R (j + 1)
          clear HB2 HL2 HC2 Hb2 hix hk4 q0 q1
          have hl3 := HL3.out.cell
          unfold Pl.lcells at hl3
          go_wp2_with fail
          go_loopg [14, 16, 120] 4 (fun g a _ i wx => ∃ k : Nat, k + g = 4 ∧ i = .int .i64 k ∧ a = .int .i64 (T'.lenTo k) ∧ Below wc.heap.size wc wx)
          case atStart => exact ⟨0, by omega, rfl, rfl, Below.refl _ _⟩
          case round =>
            obtain ⟨k, hk, rfl, rfl, hb4⟩ := hrel
            have Hb4 := Lib.hid hb4; clear hb4 hl3
            have hbd := T'.lenTo_bd k
            by_cases hlt : k < 4
            · have hi := lidx T' k hlt
              have hs : T'.lenTo (k + 1) = T'.lenTo k + (if T'.f k != 0 then 1 else 0) := rfl
              have Hs3 := Lib.hid hs; clear hs
              have hfk := Hg'.out.f k hlt
              cases e1 : decide (0 < T'.f k)
              all_goals go_wp2_with fail
              all_goals go_roundg (3 - k)
              all_goals first
                | (case measure => omega)
                | (case rel =>
                    refine ⟨k + 1, by omega, by go_num, ?_, Hb4.out.alloc Hb4.out.size _⟩
                    have f0 : (T'.f k != 0) = decide (0 < T'.f k) := by rw [Bool.eq_iff_iff]; simp; omega
                    rw [Hs3.out, f0, e1]; simp)
            · have hk4' : k = 4 := by omega
              subst hk4'
              have HB4 := Lib.hid (HB3.out.below Hb4.out HB3.out.lt)
              have HL4 := Lib.hid (HL3.out.below Hb4.out HL3.out.lt)
              have Hb5 := Lib.hid (Hb3.out.trans (Hb4.out.mono Hb3.out.size))
              have e5 : (T'.lenTo 4 != T'.lenTo 4) = false := by simp
              go_wp2_with fail
              refine (len_any _ T' _ HB4.out).mono ?_
              rintro e w6 ⟨rfl, hb6⟩
              have HB6 := Lib.hid (HB4.out.below hb6 HB4.out.lt)
              have HL6 := Lib.hid (HL4.out.below hb6 HL4.out.lt)
              have Hb6 := Lib.hid (Hb5.out.trans (hb6.mono Hb5.out.size)); clear hb6
              go_wp2_with fail
              go_roundg (len - (j + 1))
              case measure => omega
              case rel =>
                exact ⟨j + 1, by omega, by go_num, by rw [HT'.out], by rw [HT'.out]; exact HB6.out, by rw [HT'.out]; exact HL6.out, Hb6.out⟩
      · obtain rfl : len = j := by omega
        go_wp2_with fail
        go_ret
        exact ⟨rfl, Hb.out⟩
end Go.Proofs.Ytphophonkdfcaaa
