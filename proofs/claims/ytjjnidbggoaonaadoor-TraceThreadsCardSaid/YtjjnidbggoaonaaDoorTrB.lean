/- The law's own digits (trace). -/
import Derived.Test.YtjjnidbggoaonaaDoorTrA
namespace Go.Proofs.YtjjnidbggoaonaaDoor
open Go.RowKit
attribute [local irreducible] World.setCell World.alloc World.drew Calls Code.wp

theorem run_add {P : Program} {w : World} {t : TypeId} (l m : List UInt8) (h : l.length + m.length ≤ 9223372036854775807) : (binOp .add t (S l) (S m)).run P w = .ok (S (l ++ m)) w := by
  have e : (⟨l.toArray⟩ : ByteArray) ++ ⟨m.toArray⟩ = ⟨(l ++ m).toArray⟩ := by
    apply ByteArray.ext
    simp
  have h1 : ¬ (((⟨l.toArray⟩ : ByteArray).size + (⟨m.toArray⟩ : ByteArray).size : Nat) : Int) > IntKind.i64.max := by
    have e1 : (⟨l.toArray⟩ : ByteArray).size = l.length := by show l.toArray.size = _; simp
    have e2 : (⟨m.toArray⟩ : ByteArray).size = m.length := by show m.toArray.size = _; simp
    rw [e1, e2]
    have : IntKind.i64.max = 9223372036854775807 := rfl
    omega
  simp only [binOp_string_add, Op.stringOp, if_neg h1, e]
  rfl

theorem run_sadd {P : Program} (l m : List UInt8) (h : l.length + m.length ≤ 9223372036854775807) (w : World) : (Op.stringOp .add ⟨l.toArray⟩ ⟨m.toArray⟩).run P w = .ok (S (l ++ m)) w := by
  have := run_add (P := P) (w := w) (t := 0) l m h
  rwa [binOp_string_add] at this

theorem bs_one (k : Nat) : bs [(48 : Int) + k] = ⟨[UInt8.ofNat (48 + k)].toArray⟩ := by
  have h := bs_list [(48 : Int) + k]
  have h2 : (bs [(48 : Int) + k]).data = #[UInt8.ofNat (48 + k)] := by
    apply Array.toList_inj.1
    rw [h]
    have e : ((48 : Int) + k).toNat = 48 + k := by omega
    simp only [List.map_cons, List.map_nil, e]
  rw [← h2]
theorem dec_len20 (u : Nat) (h : u < 18446744073709551616) : (Lib.decDigits u).length ≤ 20 := by
  rw [Lib.decDigits_length]
  by_cases h1 : 1 ≤ u
  · have := Lib.numDigits_eq u h1 h; split at this <;> omega
  · obtain rfl : u = 0 := by omega
    decide +kernel
set_option maxRecDepth 100000 in
set_option maxHeartbeats 1000000 in
theorem ldig_u (u : Nat) (hu : u < 18446744073709551616) (w : World) :
    Calls Tryd.prog 8 #[.int .u64 (u : Int)] w fun e w' => e = .returned (S (Lib.decDigits u)) ∧ Below w.heap.size w w' := by
  induction u using Nat.strongRecOn generalizing w with
  | _ u ih =>
    have h0 : (0 : Int) ≤ u := by omega
    by_cases h : u < 10
    · have h9 : (u : Int) < 10 := by omega
      have hwu : IntKind.u8.wrap (48 + (u : Int)) = 48 + u := by
        simp [IntKind.wrap, IntKind.bits, IntKind.signed]; omega
      have Hd : Hid (Lib.decDigits u = [UInt8.ofNat (48 + u)]) := by unfold Hid; rw [Lib.decDigits, dif_pos h]
      have hst := run_str (P := Tryd.prog) (w := w.alloc (.cells #[.int .u8 (48 + (u : Int))] 5)) Tryd.underlying59 Tryd.underlying5 Tryd.underlying9 ⟨w.heap.size, 0, none⟩ [48 + (u : Int)] 1 (fun j hj => by
        have : j = 0 := by simpa using hj
        subst this
        rw [Addr.add_lit, Nat.zero_add, (Blk.new w _ _).cell]
        rfl)
      rw [bs_one] at hst
      obtain ⟨dg, hdg⟩ : ∃ d, UInt8.ofNat (48 + u) = d := ⟨_, rfl⟩
      rw [hdg] at hst
      rw [hdg] at Hd
      clear hdg
      have hst' : (convert 59 9 (.slice (some ⟨w.heap.size, 0, none⟩) 1 1)).run Tryd.prog (w.alloc (.cells #[.int .u8 (48 + (u : Int))] 5)) = .ok (.string ⟨[dg].toArray⟩) (w.alloc (.cells #[.int .u8 (48 + (u : Int))] 5)) := hst
      clear hst ih
      go_enter Tryd.func8, Tryd.ntmps8
      go_wp2_with fail
      go_ret
      exact ⟨by rw [Hd.out]; rfl, (Below.refl _ _).alloc (Nat.le_refl _) _⟩
    · have h10 : ¬ ((u : Int) < 10) := by omega
      have hq : (u : Int) / 10 = ((u / 10 : Nat) : Int) := by omega
      have hr : (u : Int) % 10 = ((u % 10 : Nat) : Int) := by omega
      obtain ⟨q, hqe⟩ : ∃ q, u / 10 = q := ⟨_, rfl⟩
      obtain ⟨r, hre⟩ : ∃ r, u % 10 = r := ⟨_, rfl⟩
      have Hd : Hid (Lib.decDigits u = Lib.decDigits q ++ Lib.decDigits r) := by
        unfold Hid
        rw [Lib.decDigits, dif_neg h, hqe]
        congr 1
        rw [Lib.decDigits, dif_pos (by omega), hre]
      have i1 := Lib.hid (ih q (by omega) (by omega))
      have i2 := Lib.hid (ih r (by omega) (by omega))
      have l1 := dec_len20 q (by omega)
      have l2 := dec_len20 r (by omega)
      have ha := run_sadd (P := Tryd.prog) (Lib.decDigits q) (Lib.decDigits r) (by omega)
      rw [hqe] at hq
      rw [hre] at hr
      clear ih hqe hre h
      go_enter Tryd.func8, Tryd.ntmps8
      go_wp2_with fail
      refine (i1.out _).mono ?_
      rintro e w1 ⟨rfl, hb1⟩
      have Hb1 := Lib.hid hb1; clear hb1
      go_wp2_with fail
      refine (i2.out _).mono ?_
      rintro e w2 ⟨rfl, hb2⟩
      have Hb2 := Lib.hid (bel_from Hb1.out hb2); clear hb2
      go_wp2_with fail
      go_ret
      exact ⟨by rw [Hd.out]; rfl, Hb2.out⟩
end Go.Proofs.YtjjnidbggoaonaaDoor
