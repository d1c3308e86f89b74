/- The walk of TlbAgain: it returns true, whatever the list and the number. -/
import Derived.Test.YtphophonkdfcaaaTlbFit
import Derived.Test.YtphophonkdfcaaaBits
import Derived.Test.YtphophonkdfcaaaArgs
namespace Go.Proofs.Ytphophonkdfcaaa
open Go.RowKit
attribute [local irreducible] World.setCell World.alloc World.drew Calls Code.wp

/-- The four first puts. -/
def baseTo : Nat → Pl
  | 0 => Pl.zero
  | k + 1 => (baseTo k).put k (10 + k) false
theorem baseTo_n (k : Nat) : 0 ≤ (baseTo k).n ∧ (baseTo k).n < 4 := by
  induction k with
  | zero => exact ⟨by decide, by decide⟩
  | succ k ih => exact Pl.put_n _ _ _ _ ih.1 ih.2

/-- The puts of the list. -/
def againTo (xs : Nat → Int) : Nat → Pl
  | 0 => baseTo 4
  | j + 1 => (againTo xs j).put (xs j % 4) (100 + j) ((j : Int) % 2 == 0)
def wantTo (xs : Nat → Int) (p : Nat) : Nat → Int
  | 0 => 10 + p
  | j + 1 => if xs j % 4 = p then 100 + j else wantTo xs p j
def mayTo (xs : Nat → Int) (p : Nat) : Nat → Bool
  | 0 => false
  | j + 1 => if xs j % 4 = p then ((j : Int) % 2 == 0) else mayTo xs p j

/-- Page k in place k, all places used. -/
structure Pl.Ok (t : Pl) : Prop where
  p : ∀ k : Nat, k < 4 → t.p k = k
  f : ∀ k : Nat, k < 4 → 1 ≤ t.f k
  n : t.n = 0

theorem Pl.Ok.at {t : Pl} (h : t.Ok) (q : Nat) (hq : q < 4) : t.atTo (q : Int) 4 = q := by
  have f0 : (t.f 0 != 0) = true := by have := h.f 0 (by omega); simp; omega
  have f1 : (t.f 1 != 0) = true := by have := h.f 1 (by omega); simp; omega
  have f2 : (t.f 2 != 0) = true := by have := h.f 2 (by omega); simp; omega
  have f3 : (t.f 3 != 0) = true := by have := h.f 3 (by omega); simp; omega
  have p0 := h.p 0 (by omega); have p1 := h.p 1 (by omega); have p2 := h.p 2 (by omega); have p3 := h.p 3 (by omega)
  obtain rfl | rfl | rfl | rfl : q = 0 ∨ q = 1 ∨ q = 2 ∨ q = 3 := by omega
  all_goals simp [Pl.atTo, f0, f1, f2, f3, p0, p1, p2, p3]

theorem Pl.Ok.put_eq {t : Pl} (h : t.Ok) (q : Nat) (hq : q < 4) (f : Int) (hf : 1 ≤ f) (rw : Bool) : t.put (q : Int) f rw = t.store q (q : Int) f rw t.n := by
  have e := h.at q hq
  unfold Pl.put
  rw [if_neg (by omega), e, if_neg (by omega)]
  simp

theorem Pl.Ok.put {t : Pl} (h : t.Ok) (q : Nat) (hq : q < 4) (f : Int) (hf : 1 ≤ f) (rw : Bool) : (t.put (q : Int) f rw).Ok := by
  rw [h.put_eq q hq f hf rw]
  refine ⟨fun k hk => ?_, fun k hk => ?_, h.n⟩
  · show upd t.p q (q : Int) k = k
    unfold upd; split
    · subst_vars; rfl
    · exact h.p k hk
  · show 1 ≤ upd t.f q f k
    unfold upd; split
    · exact hf
    · exact h.f k hk

theorem base_ok : (baseTo 4).Ok := by
  refine ⟨fun k hk => ?_, fun k hk => ?_, by decide⟩
  all_goals obtain rfl | rfl | rfl | rfl : k = 0 ∨ k = 1 ∨ k = 2 ∨ k = 3 := by omega
  all_goals decide

theorem again_ok (xs : Nat → Int) (j : Nat) : (againTo xs j).Ok ∧ ∀ k : Nat, k < 4 → (againTo xs j).f k = wantTo xs k j ∧ (againTo xs j).w k = mayTo xs k j := by
  induction j with
  | zero =>
    refine ⟨base_ok, fun k hk => ?_⟩
    obtain rfl | rfl | rfl | rfl : k = 0 ∨ k = 1 ∨ k = 2 ∨ k = 3 := by omega
    all_goals (simp only [againTo, wantTo, mayTo]; decide)
  | succ j ih =>
    obtain ⟨ho, hfw⟩ := ih
    obtain ⟨q, hq⟩ : ∃ q : Nat, xs j % 4 = q := ⟨(xs j % 4).toNat, by omega⟩
    have hq4 : q < 4 := by omega
    unfold againTo
    rw [hq]
    refine ⟨ho.put q hq4 _ (by omega) _, fun k hk => ?_⟩
    rw [ho.put_eq q hq4 _ (by omega) _]
    have ⟨e1, e2⟩ := hfw k hk
    unfold wantTo mayTo
    rw [hq]
    by_cases hkq : k = q
    · subst hkq; simp [Pl.store, upd]
    · have : ¬ ((q : Int) = k) := by omega
      simp [Pl.store, upd, hkq, this, e1, e2]

theorem Pl.Ok.find {t : Pl} (h : t.Ok) (q : Nat) (hq : q < 4) : t.find (q : Int) false = t.f q ∧ t.find (q : Int) true = if t.w q then t.f q else 0 := by
  have f0 : (t.f 0 != 0) = true := by have := h.f 0 (by omega); simp; omega
  have f1 : (t.f 1 != 0) = true := by have := h.f 1 (by omega); simp; omega
  have f2 : (t.f 2 != 0) = true := by have := h.f 2 (by omega); simp; omega
  have f3 : (t.f 3 != 0) = true := by have := h.f 3 (by omega); simp; omega
  have p0 := h.p 0 (by omega); have p1 := h.p 1 (by omega); have p2 := h.p 2 (by omega); have p3 := h.p 3 (by omega)
  obtain rfl | rfl | rfl | rfl : q = 0 ∨ q = 1 ∨ q = 2 ∨ q = 3 := by omega
  all_goals simp [Pl.find, Pl.hit, f0, f1, f2, f3, p0, p1, p2, p3]

theorem again_n (xs : Nat → Int) (j : Nat) : 0 ≤ (againTo xs j).n ∧ (againTo xs j).n < 4 := by
  have := (again_ok xs j).1.n; omega

theorem again_find (xs : Nat → Int) (j k : Nat) (hk : k < 4) : (againTo xs j).find (k : Int) false = wantTo xs k j ∧ ((againTo xs j).find (k : Int) true != 0) = mayTo xs k j := by
  obtain ⟨ho, hfw⟩ := again_ok xs j
  have ⟨a, b⟩ := ho.find k hk
  have ⟨c, d⟩ := hfw k hk
  refine ⟨by rw [a, c], ?_⟩
  rw [b, d]
  have := ho.f k hk
  cases mayTo xs k j <;> simp; omega

/-- Behind one more page, that none of the four was: it lies in place 0. -/
theorem again_last (xs : Nat → Int) (j : Nat) (q : Int) (h0 : 0 ≤ q) (h8 : q < 8) :
    ((againTo xs j).put (50 + q) 7 true).lenTo 4 = 4 ∧ ((againTo xs j).put (50 + q) 7 true).find 0 false = 0 ∧ ((againTo xs j).put (50 + q) 7 true).find (50 + q) true = 7 := by
  obtain ⟨h, _⟩ := again_ok xs j
  generalize againTo xs j = t at h
  have f1 : (t.f 1 != 0) = true := by have := h.f 1 (by omega); simp; omega
  have f2 : (t.f 2 != 0) = true := by have := h.f 2 (by omega); simp; omega
  have f3 : (t.f 3 != 0) = true := by have := h.f 3 (by omega); simp; omega
  have p0 := h.p 0 (by omega); have p1 := h.p 1 (by omega); have p2 := h.p 2 (by omega); have p3 := h.p 3 (by omega)
  have n0 : ∀ k : Nat, k < 4 → (t.p k == 50 + q) = false := fun k hk => by rw [h.p k hk]; simp; omega
  have e : t.put (50 + q) 7 true = t.store 0 (50 + q) 7 true 1 := by
    unfold Pl.put
    have : t.atTo (50 + q) 4 = -1 := by simp [Pl.atTo, n0]
    rw [this, h.n]; simp
  have hq : (50 + q == 0) = false := by simp; omega
  rw [e]
  simp [Pl.store, Pl.lenTo, Pl.find, Pl.hit, upd, f1, f2, f3, p1, p2, p3, hq]

set_option maxHeartbeats 1000000 in
theorem again_walk (a0 : Option Addr) (len cap : Nat) (zs : List Int) (n : Int) (w : World) (hr : IsRow .i64 w a0 len cap zs) (_ : (Lit.int .i64 n).wf = true) :
    Calls Try.prog 3 #[.slice a0 len cap, .int .i64 n] w fun e w' => e = .returned (.bool true) ∧ Below w.heap.size w w' := by
  obtain ⟨b, off, xs, hix, hcell, hblt, hmax, _⟩ := row_open (P := Try.prog) (T := 22) (E := 3) (by kernel_rfl) (fun w => by kernel_rfl) hr
  have hmax : len ≤ 9223372036854775807 := by unfold maxLen at hmax; omega
  have Hix := Lib.hid hix; clear hix
  have Hcell := Lib.hid hcell; clear hcell
  have Hblt := Lib.hid hblt; clear hblt hr
  go_enter Try.func3, Try.ntmps3
  go_wp2_with fail
  refine (fit_any _).mono ?_
  rintro e w1 ⟨rfl, hb1⟩
  have Hb1 := Lib.hid hb1; clear hb1
  by_cases hlen : 100 < len
  · go_wp2_with fail
    go_ret
    exact ⟨rfl, Hb1.out⟩
  · have hsz := Hb1.out.size
    go_wp2_with fail
    go_loopw [6, 19] (fun _ i wx => ∃ k : Nat, k ≤ 4 ∧ i = .int .i64 k ∧ Blk wx w1.heap.size (baseTo k).cells 28 ∧ Below w.heap.size w wx) (fun _ i _ => 4 - (intOf i).toNat)
    case atStart => exact ⟨0, by omega, rfl, Blk.new _ _ _, Hb1.out.alloc hsz _⟩
    case round =>
      obtain ⟨k, hk, rfl, hB, hb⟩ := hrel
      have HB := Lib.hid hB; clear hB
      have Hb := Lib.hid hb; clear hb
      by_cases hlt : k < 4
      · go_wp2_with fail
        refine (put_all _ (baseTo k) _ _ _ _ HB.out (baseTo_n k).1 (baseTo_n k).2).mono ?_
        rintro e w2 ⟨rfl, hB1, hK1⟩
        have HB1 := Lib.hid hB1; clear hB1
        have HK1 := Lib.hid hK1; clear hK1
        go_wp2_with fail
        go_roundw
        case rel => exact ⟨k + 1, by omega, by go_num, HB1.out, Hb.out.trans (HK1.out.below Hb.out.size (fun j hj e => by omega))⟩
        case measure => simp [intOf]; omega
      · have HB0 : Hid (Blk wr w1.heap.size (baseTo 4).cells 28) := by
          have e4 : k = 4 := by omega
          rw [← e4]; exact HB.out
        clear HB
        go_wp2_with fail
        go_loopw [7, 8, 29] (fun _ _ i wx => ∃ j : Nat, j ≤ len ∧ i = .int .i64 j ∧ Blk wx w1.heap.size (againTo xs j).cells 28 ∧ Below w.heap.size w wx) (fun _ _ i _ => len - (intOf i).toNat)
        case atStart => exact ⟨0, by omega, rfl, HB0.out, Hb.out⟩
        case round =>
          clear HB0 Hb
          obtain ⟨j, hj, rfl, hB, hb⟩ := hrel
          have HB := Lib.hid hB; clear hB
          have Hb := Lib.hid hb; clear hb
          by_cases hlt : j < len
          · have hix := Hix.out j hlt
            have hc : wr.cell? ⟨b, off + j, none⟩ = some (.int .i64 ((xs j))) := by
              rw [Hb.out.cell (p := ⟨b, off + j, none⟩) (Hblt.out (by omega))]; exact Hcell.out j hlt
            have hm3 := and3 (xs j)
            have hm1 := and1 (j : Int)
            go_wp2_with fail
            refine (put_all _ (againTo xs j) _ _ _ _ HB.out (again_n _ j).1 (again_n _ j).2).mono ?_
            rintro e w2 ⟨rfl, hB1, hK1⟩
            have HB1 := Lib.hid hB1; clear hB1
            have HK1 := Lib.hid hK1; clear hK1
            go_wp2_with fail
            go_roundw
            case rel => exact ⟨j + 1, by omega, by go_num, HB1.out, Hb.out.trans (HK1.out.below Hb.out.size (fun j hj e => by omega))⟩
            case measure => simp [intOf]; omega
          · obtain rfl : len = j := by omega
            go_wp2_with fail
            obtain ⟨w3, rfl⟩ : ∃ w3 : World, w3 = wr := ⟨_, rfl⟩
            go_loopw [9, 10, 11, 12, 13, 43, 50] (fun _ _ _ _ _ i _ wx => ∃ p : Nat, p ≤ 4 ∧ i = .int .i64 p ∧ Blk wx w1.heap.size (againTo xs len).cells 28 ∧ Below w.heap.size w wx) (fun _ _ _ _ _ i _ _ => 4 - (intOf i).toNat)
            case atStart => exact ⟨0, by omega, rfl, HB.out, Hb.out⟩
            case round =>
              clear HB Hb
              obtain ⟨p, hp, rfl, hB, hb⟩ := hrel
              have HB := Lib.hid hB; clear hB
              have Hb := Lib.hid hb; clear hb
              by_cases hp4 : p < 4
              · go_wp2_with fail
                obtain ⟨w4, rfl⟩ : ∃ w4 : World, w4 = wr := ⟨_, rfl⟩
                go_loop [10, 11, 12, 13, 50] (fun x y _ _ i => ∃ j : Nat, j ≤ len ∧ i = .int .i64 j ∧ x = .int .i64 (wantTo xs p j) ∧ y = .bool (mayTo xs p j)) (fun _ _ _ _ i => len - (intOf i).toNat)
                case atStart => exact ⟨0, by omega, rfl, rfl, rfl⟩
                case round =>
                  obtain ⟨j, hj, rfl, rfl, rfl⟩ := hrel
                  by_cases hlt : j < len
                  · have hix := Hix.out j hlt
                    have hc : w4.cell? ⟨b, off + j, none⟩ = some (.int .i64 (xs j)) := by
                      rw [Hb.out.cell (p := ⟨b, off + j, none⟩) (Hblt.out (by omega))]; exact Hcell.out j hlt
                    have hm3 := and3 (xs j)
                    have hm1 := and1 (j : Int)
                    have hw : wantTo xs p (j + 1) = if xs j % 4 = p then 100 + (j : Int) else wantTo xs p j := rfl
                    have hy : mayTo xs p (j + 1) = if xs j % 4 = p then ((j : Int) % 2 == 0) else mayTo xs p j := rfl
                    have Hw := Lib.hid hw; clear hw
                    have Hy := Lib.hid hy; clear hy
                    cases hq : (xs j % 4 == (p : Int))
                    all_goals go_wp2_with fail
                    all_goals go_round
                    case rel => exact ⟨j + 1, by omega, by go_num, by rw [Hw.out, if_neg (by simpa using hq)], by rw [Hy.out, if_neg (by simpa using hq)]⟩
                    case measure => simp [intOf]; omega
                    case rel => exact ⟨j + 1, by omega, by go_num, by rw [Hw.out, if_pos (by simpa using hq)], by rw [Hy.out, if_pos (by simpa using hq)]⟩
                    case measure => simp [intOf]; omega
                  · obtain rfl : len = j := by omega
                    have ⟨g1, g2⟩ := again_find xs len p hp4
                    have g3 : (wantTo xs p len != wantTo xs p len) = false := by simp
                    have g4 : (mayTo xs p len != mayTo xs p len) = false := by simp
                    go_wp2_with fail
                    refine (find_any _ (againTo xs len) _ _ _ HB.out).mono ?_
                    rintro e w5 ⟨rfl, hb5⟩
                    have HB5 := Lib.hid (HB.out.below hb5 HB.out.lt)
                    have Hb5 := Lib.hid (Hb.out.trans (hb5.mono Hb.out.size)); clear hb5
                    go_wp2_with fail
                    refine (find_any _ (againTo xs len) _ _ _ HB5.out).mono ?_
                    rintro e w6 ⟨rfl, hb6⟩
                    have HB6 := Lib.hid (HB5.out.below hb6 HB5.out.lt)
                    have Hb6 := Lib.hid (Hb5.out.trans (hb6.mono Hb5.out.size)); clear hb6
                    go_wp2_with fail
                    go_roundw
                    case rel => exact ⟨p + 1, by omega, by go_num, HB6.out, Hb6.out⟩
                    case measure => simp [intOf]; omega
              · obtain rfl : p = 4 := by omega
                have hm7 := and7 n
                have ⟨g1, g2, g3⟩ := again_last xs len (n % 8) (by omega) (by omega)
                have gn := Pl.put_n (againTo xs len) (50 + n % 8) 7 true (again_n xs len).1 (again_n xs len).2
                have e4 : ((4 : Int) == 4) = true := by decide
                have e0 : ((0 : Int) == 0) = true := by decide
                have e7 : ((7 : Int) == 7) = true := by decide
                go_wp2_with fail
                refine (put_all _ (againTo xs len) _ _ _ _ HB.out (again_n xs len).1 (again_n xs len).2).mono ?_
                rintro e w5 ⟨rfl, hB5, hK5⟩
                have HB5 := Lib.hid hB5; clear hB5
                have Hb5 := Lib.hid (Hb.out.trans (hK5.below Hb.out.size (fun j hj e => by omega))); clear hK5
                go_wp2_with fail
                refine (len_any _ _ _ HB5.out).mono ?_
                rintro e w6 ⟨rfl, hb6⟩
                have HB6 := Lib.hid (HB5.out.below hb6 HB5.out.lt)
                have Hb6 := Lib.hid (Hb5.out.trans (hb6.mono Hb5.out.size)); clear hb6
                go_wp2_with fail
                refine (find_any _ _ _ _ _ HB6.out).mono ?_
                rintro e w7 ⟨rfl, hb7⟩
                have HB7 := Lib.hid (HB6.out.below hb7 HB6.out.lt)
                have Hb7 := Lib.hid (Hb6.out.trans (hb7.mono Hb6.out.size)); clear hb7
                go_wp2_with fail
                refine (find_any _ _ _ _ _ HB7.out).mono ?_
                rintro e w8 ⟨rfl, hb8⟩
                have Hb8 := Lib.hid (Hb7.out.trans (hb8.mono Hb7.out.size)); clear hb8
                go_wp2_with fail
                go_ret
                exact ⟨rfl, Hb8.out⟩
end Go.Proofs.Ytphophonkdfcaaa
