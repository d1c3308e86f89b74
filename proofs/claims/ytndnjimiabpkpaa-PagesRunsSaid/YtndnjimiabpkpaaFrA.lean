/- The contracts of package frames that only read: Left, Len, there, Owner, fits, Count; a nil pool too. -/
import Derived.Test.YtndnjimiabpkpaaFrD
import Derived.Deep.LoopGhost
namespace Go.Proofs.Ytndnjimiabpkpaa
open Go.RowKit
attribute [local irreducible] World.setCell World.alloc World.drew World.setRow Calls Code.wp row

theorem left_any (pb db ob : Nat) (P : Pool) (w : World) (hP : PoolAt w pb db ob P) :
    Calls Try.prog 20 #[.pointer (some ⟨pb, 0, none⟩)] w fun e w' => e = .returned (.int .i64 P.left) ∧ w = w' := by
  have hc := hP.hp.cell
  clear hP
  go_enter Try.func20, Try.ntmps20
  go_wp2
  go_ret
  exact ⟨rfl, rfl⟩
theorem left_nil (w : World) :
    Calls Try.prog 20 #[.pointer none] w fun e w' => e = .returned (.int .i64 0) ∧ w = w' := by
  go_enter Try.func20, Try.ntmps20
  go_wp2
  go_ret
  exact ⟨rfl, rfl⟩

theorem plen_any (pb db ob : Nat) (P : Pool) (w : World) (hP : PoolAt w pb db ob P) :
    Calls Try.prog 26 #[.pointer (some ⟨pb, 0, none⟩)] w fun e w' => e = .returned (.int .i64 P.n) ∧ w = w' := by
  have hc := hP.hp.cell
  clear hP
  go_enter Try.func26, Try.ntmps26
  go_wp2
  go_ret
  exact ⟨rfl, rfl⟩
theorem plen_nil (w : World) :
    Calls Try.prog 26 #[.pointer none] w fun e w' => e = .returned (.int .i64 0) ∧ w = w' := by
  go_enter Try.func26, Try.ntmps26
  go_wp2
  go_ret
  exact ⟨rfl, rfl⟩

theorem there_any (pb db ob : Nat) (P : Pool) (f : Int) (w : World) (hP : PoolAt w pb db ob P) :
    Calls Try.prog 48 #[.pointer (some ⟨pb, 0, none⟩), .int .i64 f] w fun e w' => e = .returned (.bool (P.there f)) ∧ w = w' := by
  have hc := hP.hp.cell
  clear hP
  have ht : P.there f = (decide (1 ≤ f) && decide (f ≤ P.n)) := rfl
  have Ht := Lib.hid ht; clear ht
  by_cases h1 : 1 ≤ f
  · have h1b : decide (1 ≤ f) = true := by simpa using h1
    go_enter Try.func48, Try.ntmps48
    go_wp2
    all_goals go_ret
    all_goals exact ⟨by rw [Ht.out, h1b]; simp, rfl⟩
  · have h1b : decide (1 ≤ f) = false := by simpa using h1
    go_enter Try.func48, Try.ntmps48
    go_wp2
    all_goals go_ret
    all_goals exact ⟨by rw [Ht.out, h1b]; simp, rfl⟩
theorem there_nil (f : Int) (w : World) :
    Calls Try.prog 48 #[.pointer none, .int .i64 f] w fun e w' => e = .returned (.bool false) ∧ w = w' := by
  go_enter Try.func48, Try.ntmps48
  go_wp2
  go_ret
  exact ⟨rfl, rfl⟩

theorem owner_any (pb db ob : Nat) (P : Pool) (f : Int) (w : World) (hP : PoolAt w pb db ob P) :
    Calls Try.prog 24 #[.pointer (some ⟨pb, 0, none⟩), .int .i64 f] w fun e w' => e = .returned (.int .u64 (P.owner f)) ∧ w = w' := by
  have hc := hP.hp.cell
  have hw : P.owner f = if P.there f then P.O (f.toNat - 1) else 0 := rfl
  by_cases ht : P.there f = true
  · obtain ⟨h1, h2⟩ := (P.there_iff f).1 ht
    obtain ⟨k, rfl⟩ : ∃ k : Nat, f = (k : Int) + 1 := ⟨(f - 1).toNat, by omega⟩
    have ho := hP.ho.rowAt k (by omega)
    have hhi := hP.hi
    have HP := Lib.hid hP; clear hP
    rw [if_pos ht] at hw
    have e : ((k : Int) + 1).toNat - 1 = k := by omega
    rw [e] at hw
    have Hw := Lib.hid hw; clear hw e
    have Ht := Lib.hid ht; clear ht
    go_enter Try.func24, Try.ntmps24
    go_wp2_with fail
    refine (there_any pb db ob P _ _ HP.out).mono ?_
    rintro e w' ⟨rfl, rfl⟩
    rw [Ht.out]
    go_wp2_with fail
    go_ret
    exact ⟨by rw [Hw.out]; rfl, rfl⟩
  · rw [if_neg ht] at hw
    have ht' : P.there f = false := by simpa using ht
    have Hw := Lib.hid hw; clear hw
    have HP := Lib.hid hP; clear hP
    have Ht := Lib.hid ht'; clear ht ht'
    go_enter Try.func24, Try.ntmps24
    go_wp2_with fail
    refine (there_any pb db ob P _ _ HP.out).mono ?_
    rintro e w' ⟨rfl, rfl⟩
    rw [Ht.out]
    go_wp2_with fail
    go_ret
    exact ⟨by rw [Hw.out]; rfl, rfl⟩
theorem owner_nil (f : Int) (w : World) :
    Calls Try.prog 24 #[.pointer none, .int .i64 f] w fun e w' => e = .returned (.int .u64 0) ∧ w = w' := by
  go_enter Try.func24, Try.ntmps24
  go_wp2_with fail
  refine (there_nil _ _).mono ?_
  rintro e w' ⟨rfl, rfl⟩
  go_wp2_with fail
  go_ret
  exact ⟨rfl, rfl⟩

set_option maxHeartbeats 400000 in
theorem fits_any (pb db ob : Nat) (P : Pool) (f off n : Int) (w : World) (hP : PoolAt w pb db ob P) :
    Calls Try.prog 49 #[.pointer (some ⟨pb, 0, none⟩), .int .i64 f, .int .i64 off, .int .i64 n] w fun e w' => e = .returned (.bool (P.fits f off n)) ∧ w = w' := by
  have hw : P.fits f off n = ((((P.owner f != 0) && decide (0 ≤ n)) && decide (n ≤ 64)) && decide (0 ≤ off) && decide (off ≤ 64 - n)) := rfl
  have Hw := Lib.hid hw; clear hw
  have HP := Lib.hid hP; clear hP
  cases e1 : (P.owner f != 0)
  · go_enter Try.func49, Try.ntmps49
    go_wp2_with (go_at_call 24; refine (owner_any pb db ob P _ _ HP.out).mono ?_; rintro e w' ⟨rfl, rfl⟩)
    go_ret
    exact ⟨by rw [Hw.out, e1]; rfl, rfl⟩
  by_cases h2 : 0 ≤ n
  · by_cases h3 : n ≤ 64
    · by_cases h4 : 0 ≤ off
      · go_enter Try.func49, Try.ntmps49
        go_wp2_with (go_at_call 24; refine (owner_any pb db ob P _ _ HP.out).mono ?_; rintro e w' ⟨rfl, rfl⟩)
        go_ret
        exact ⟨by rw [Hw.out, e1]; simp [h2, h3, h4], rfl⟩
      · go_enter Try.func49, Try.ntmps49
        go_wp2_with (go_at_call 24; refine (owner_any pb db ob P _ _ HP.out).mono ?_; rintro e w' ⟨rfl, rfl⟩)
        go_ret
        exact ⟨by rw [Hw.out, e1]; simp; omega, rfl⟩
    · go_enter Try.func49, Try.ntmps49
      go_wp2_with (go_at_call 24; refine (owner_any pb db ob P _ _ HP.out).mono ?_; rintro e w' ⟨rfl, rfl⟩)
      go_ret
      exact ⟨by rw [Hw.out, e1]; simp; omega, rfl⟩
  · go_enter Try.func49, Try.ntmps49
    go_wp2_with (go_at_call 24; refine (owner_any pb db ob P _ _ HP.out).mono ?_; rintro e w' ⟨rfl, rfl⟩)
    go_ret
    exact ⟨by rw [Hw.out, e1]; simp; omega, rfl⟩
theorem fits_nil (f off n : Int) (w : World) :
    Calls Try.prog 49 #[.pointer none, .int .i64 f, .int .i64 off, .int .i64 n] w fun e w' => e = .returned (.bool false) ∧ w = w' := by
  go_enter Try.func49, Try.ntmps49
  go_wp2_with (go_at_call 24; refine (owner_nil _ _).mono ?_; rintro e w' ⟨rfl, rfl⟩)
  go_ret
  exact ⟨rfl, rfl⟩

set_option maxHeartbeats 400000 in
theorem count_any (pb db ob : Nat) (P : Pool) (o : Int) (w : World) (hP : PoolAt w pb db ob P) :
    Calls Try.prog 21 #[.pointer (some ⟨pb, 0, none⟩), .int .u64 o] w fun e w' => e = .returned (.int .i64 (if o = 0 then 0 else (countTo P.O o P.n : Nat))) ∧ w = w' := by
  have hc := hP.hp.cell
  have hhi := hP.hi
  have HP := Lib.hid hP; clear hP
  by_cases h0 : o = 0
  · have h0b : (o != 0) = false := by simpa using h0
    rw [if_pos h0]
    clear h0
    go_enter Try.func21, Try.ntmps21
    go_wp2_with (go_at_call 26; refine (plen_any pb db ob P _ HP.out).mono ?_; rintro e w' ⟨rfl, rfl⟩)
    go_loop [5, 6, 9] (fun c _ i => ∃ k : Nat, k ≤ P.n ∧ i = .int .i64 k ∧ c = .int .i64 0) (fun _ _ i => P.n - (intOf i).toNat)
    case atStart => exact ⟨0, by omega, rfl, rfl⟩
    case round =>
      obtain ⟨k, hk, rfl, rfl⟩ := hrel
      by_cases hlt : k < P.n
      · go_wp2_with fail
        go_round
        case rel => exact ⟨k + 1, by omega, by go_num, rfl⟩
        case measure => simp [intOf]; omega
      · go_wp2_with fail
        go_ret
        exact ⟨rfl, rfl⟩
  · have h0b : (o != 0) = true := by simpa using h0
    rw [if_neg h0]
    clear h0
    go_enter Try.func21, Try.ntmps21
    go_wp2_with (go_at_call 26; refine (plen_any pb db ob P _ HP.out).mono ?_; rintro e w' ⟨rfl, rfl⟩)
    go_loop [5, 6, 9] (fun c _ i => ∃ k : Nat, k ≤ P.n ∧ i = .int .i64 k ∧ c = .int .i64 (countTo P.O o k : Nat)) (fun _ _ i => P.n - (intOf i).toNat)
    case atStart => exact ⟨0, by omega, rfl, rfl⟩
    case round =>
      obtain ⟨k, hk, rfl, rfl⟩ := hrel
      by_cases hlt : k < P.n
      · have ho := HP.out.ho.rowAt k hlt
        have hcl := countTo_le P.O o k
        have hs : countTo P.O o (k + 1) = countTo P.O o k + (if P.O k = o then 1 else 0) := rfl
        have Hs := Lib.hid hs; clear hs
        cases e1 : (P.O k == o)
        all_goals go_wp2_with fail
        all_goals go_round
        case rel => exact ⟨k + 1, by omega, by go_num, by rw [Hs.out, if_neg (by simpa using e1)]; simp⟩
        case measure => simp [intOf]; omega
        case rel => exact ⟨k + 1, by omega, by go_num, by rw [Hs.out, if_pos (by simpa using e1)]; go_num⟩
        case measure => simp [intOf]; omega
      · obtain rfl : k = P.n := by omega
        go_wp2_with fail
        go_ret
        exact ⟨rfl, rfl⟩
theorem count_nil (o : Int) (w : World) :
    Calls Try.prog 21 #[.pointer none, .int .u64 o] w fun e w' => e = .returned (.int .i64 0) ∧ w = w' := by
  go_enter Try.func21, Try.ntmps21
  go_wp2_with (go_at_call 26; refine (plen_nil _).mono ?_; rintro e w' ⟨rfl, rfl⟩)
  refine wp_loop_rounds 1 ?_
  rw [rounds_succ]
  go_wp2_with fail
  go_ret
  exact ⟨rfl, rfl⟩
end Go.Proofs.Ytndnjimiabpkpaa
