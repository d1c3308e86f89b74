/- The laws' own digits and registers. -/
import Derived.Test.YtjjnidbggoaonaaGreatDoorIsaT
import Derived.Test.YtjjnidbggoaonaaGreatDoorDec
import Derived.Test.YtjjnidbggoaonaaGreatDoorStr
import Derived.Test.YtjjnidbggoaonaaGreatDoorAsM
import Derived.Test.YtjjnidbggoaonaaGreatDoorBits
import Derived.IntWalk
namespace Go.Proofs.YtjjnidbggoaonaaGreatDoor
open Go.RowKit
attribute [local irreducible] World.setCell World.alloc World.drew Calls Code.wp

theorem wrap64_id {n : Int} (h0 : 0 ≤ n) (h1 : n ≤ 9223372036854775807) : wrap64 n = n := by
  unfold wrap64; omega
theorem bs_one (k : Nat) : bs [(48 : Int) + k] = ⟨[UInt8.ofNat (48 + k)].toArray⟩ := by
  have h := bs_list [(48 : Int) + k]
  have h2 : (bs [(48 : Int) + k]).data = #[UInt8.ofNat (48 + k)] := by
    apply Array.toList_inj.1
    rw [h]
    have e : ((48 : Int) + k).toNat = 48 + k := by omega
    simp only [List.map_cons, List.map_nil, e]
  rw [← h2]
theorem dec_len (u : Nat) (h : u ≤ 9223372036854775807) : (Lib.decDigits u).length ≤ 30 := by
  have := Lib.itoa_length_le (n := (u : Int)) (by omega) (by omega)
  unfold Lib.itoa at this
  rw [if_neg (by omega)] at this
  simp at this
  omega
set_option maxRecDepth 100000 in
set_option maxHeartbeats 1000000 in
theorem ldig_nat (u : Nat) (hu : u ≤ 9223372036854775807) (w : World) :
    Calls Tryz.prog 19 #[.int .i64 (u : Int)] w fun e w' => e = .returned (S (Lib.decDigits u)) ∧ Below w.heap.size w w' := by
  induction u using Nat.strongRecOn generalizing w with
  | _ u ih =>
    have h0 : (0 : Int) ≤ u := by omega
    by_cases h : u < 10
    · have h9 : (u : Int) < 10 := by omega
      have hwu : IntKind.u8.wrap (48 + (u : Int)) = 48 + u := by
        simp [IntKind.wrap, IntKind.bits, IntKind.signed]; omega
      have Hd : Hid (Lib.decDigits u = [UInt8.ofNat (48 + u)]) := by unfold Hid; rw [Lib.decDigits, dif_pos h]
      have hst := run_str (P := Tryz.prog) (w := w.alloc (.cells #[.int .u8 (48 + (u : Int))] 5)) Tryz.underlying27 Tryz.underlying5 Tryz.underlying9 ⟨w.heap.size, 0, none⟩ [48 + (u : Int)] 1 (fun j hj => by
        have : j = 0 := by simpa using hj
        subst this
        rw [Addr.add_lit, Nat.zero_add, (Blk.new w _ _).cell]
        rfl)
      rw [bs_one] at hst
      obtain ⟨dg, hdg⟩ : ∃ d, UInt8.ofNat (48 + u) = d := ⟨_, rfl⟩
      rw [hdg] at hst
      rw [hdg] at Hd
      clear hdg
      have hst' : (convert 27 9 (.slice (some ⟨w.heap.size, 0, none⟩) 1 1)).run Tryz.prog (w.alloc (.cells #[.int .u8 (48 + (u : Int))] 5)) = .ok (.string ⟨[dg].toArray⟩) (w.alloc (.cells #[.int .u8 (48 + (u : Int))] 5)) := hst
      clear hst ih
      go_enter Tryz.func19, Tryz.ntmps19
      go_wp2_with fail
      go_ret
      exact ⟨by rw [Hd.out]; rfl, (Below.refl _ _).alloc (Nat.le_refl _) _⟩
    · have h10 : ¬ ((u : Int) < 10) := by omega
      have hq : (u : Int).tdiv 10 = ((u / 10 : Nat) : Int) := by rw [Int.tdiv_eq_ediv_of_nonneg h0]; omega
      have hr : (u : Int).tmod 10 = ((u % 10 : Nat) : Int) := by rw [Int.tmod_eq_emod_of_nonneg h0]; omega
      obtain ⟨q, hqe⟩ : ∃ q, u / 10 = q := ⟨_, rfl⟩
      obtain ⟨r, hre⟩ : ∃ r, u % 10 = r := ⟨_, rfl⟩
      have Hd : Hid (Lib.decDigits u = Lib.decDigits q ++ Lib.decDigits r) := by
        unfold Hid
        rw [Lib.decDigits, dif_neg h, hqe]
        congr 1
        rw [Lib.decDigits, dif_pos (by omega), hre]
      have i1 := Lib.hid (ih q (by omega) (by omega))
      have i2 := Lib.hid (ih r (by omega) (by omega))
      have l1 := dec_len q (by omega)
      have l2 := dec_len r (by omega)
      have ha := run_sadd (P := Tryz.prog) (Lib.decDigits q) (Lib.decDigits r) (by omega)
      rw [hqe] at hq
      rw [hre] at hr
      have hwq : wrap64 (q : Int) = q := wrap64_id (by omega) (by omega)
      clear ih hqe hre h
      go_enter Tryz.func19, Tryz.ntmps19
      go_wp2_with fail
      refine (i1.out _).mono ?_
      rintro e w1 ⟨rfl, hb1⟩
      have Hb1 := Lib.hid hb1; clear hb1
      go_wp2_with fail
      refine (i2.out _).mono ?_
      rintro e w2 ⟨rfl, hb2⟩
      have Hb2 := Lib.hid (bel_from Hb1.out hb2); clear hb2
      go_wp2_with fail
      go_ret
      exact ⟨by rw [Hd.out]; rfl, Hb2.out⟩
set_option maxRecDepth 100000 in
set_option maxHeartbeats 1000000 in
theorem ldig_any (n : Int) (h0 : -9223372036854775807 ≤ n) (h1 : n ≤ 9223372036854775807) (w : World) :
    Calls Tryz.prog 19 #[.int .i64 n] w fun e w' => e = .returned (S (Lib.itoa n)) ∧ Below w.heap.size w w' := by
  by_cases hn : n < 0
  · obtain ⟨u, hu, hu2⟩ : ∃ u : Nat, -n = (u : Int) ∧ u ≤ 9223372036854775807 := ⟨n.natAbs, by omega, by omega⟩
    have Hd : Hid (Lib.itoa n = 45 :: Lib.decDigits u) := by
      unfold Hid Lib.itoa
      rw [if_pos hn, show n.natAbs = u by omega]
    have hw : IntKind.i64.wrap (u : Int) = u := IntWalk.i64_in _ (by omega)
    have i1 := Lib.hid (ldig_nat u (by omega))
    have l1 := dec_len u (by omega)
    have ha := run_sadd (P := Tryz.prog) [45] (Lib.decDigits u) (by simp; omega)
    go_enter Tryz.func19, Tryz.ntmps19
    go_wp2_with fail
    refine (i1.out _).mono ?_
    rintro e w1 ⟨rfl, hb1⟩
    have Hb1 := Lib.hid hb1; clear hb1
    go_wp2_with fail
    go_ret
    exact ⟨by rw [Hd.out]; rfl, Hb1.out⟩
  · obtain ⟨u, rfl⟩ : ∃ u : Nat, n = (u : Int) := ⟨n.toNat, by omega⟩
    have e : Lib.itoa (u : Int) = Lib.decDigits u := by
      unfold Lib.itoa
      rw [if_neg hn]; simp
    rw [e]
    exact ldig_nat u (by omega) w
set_option maxRecDepth 100000 in
set_option maxHeartbeats 1000000 in
/-- A register's name: the law's own. -/
theorem lreg_any (n : Int) (w : World) :
    Calls Tryz.prog 29 #[.int .i64 n] w fun e w' => e = .returned (S (rT (n % 16))) ∧ Below w.heap.size w w' := by
  have ha := and15 n
  obtain ⟨u, hu⟩ : ∃ u : Nat, n % 16 = (u : Int) := ⟨(n % 16).toNat, by omega⟩
  have hu16 : u < 16 := by omega
  rw [hu] at ha ⊢
  have i1 := Lib.hid (ldig_any (u : Int) (by omega) (by omega))
  have l1 := Lib.itoa_length_le (u : Int) (by omega) (by omega)
  have hs := run_sadd (P := Tryz.prog) [114] (Lib.itoa u) (by simp; omega)
  have hr : rT (u : Int) = 114 :: Lib.itoa u := rfl
  rw [hr]
  clear hu hr
  generalize Lib.itoa (u : Int) = D at *
  go_enter Tryz.func29, Tryz.ntmps29
  go_wp2_with fail
  refine (i1.out _).mono ?_
  rintro e w1 ⟨rfl, hb1⟩
  have Hb1 := Lib.hid hb1; clear hb1
  go_wp2_with fail
  go_ret
  exact ⟨rfl, Hb1.out⟩
end Go.Proofs.YtjjnidbggoaonaaGreatDoor
