/- ParseUint of digits in base 10 or 16: the number, or none if it is too great. -/
import Derived.Test.YtjjnidbggoaonaaGreatDoorAsQ
import Derived.Test.YtjjnidbggoaonaaGreatDoorShelfB
import Derived.Lib.AtoiErrMem
import Derived.Lib.ConvBytes
import Derived.IntWalk
import Derived.Deep.LoopGhost
namespace Go.Proofs.YtjjnidbggoaonaaGreatDoor
open Go.RowKit
attribute [local irreducible] World.setCell World.alloc World.drew Calls Code.wp
attribute [local go_sem] Oper.semAt_some

/-- A digit of a base, 10 or 16. -/
def okC (b : Nat) (c : UInt8) : Bool := if b = 10 then digB c else hexB c
theorem okC_cases {b : Nat} {c : UInt8} (hb : b = 10 ∨ b = 16) (h : okC b c = true) : (48 ≤ c.toNat ∧ c.toNat ≤ 57 ∧ digV c = c.toNat - 48) ∨ (b = 16 ∧ 97 ≤ c.toNat ∧ c.toNat ≤ 102 ∧ digV c = c.toNat - 87) := by
  have hd : digB c = true → 48 ≤ c.toNat ∧ c.toNat ≤ 57 ∧ digV c = c.toNat - 48 := by
    intro h
    unfold digB at h
    rw [Bool.and_eq_true, decide_eq_true_eq, decide_eq_true_eq] at h
    have h1 := UInt8.le_iff_toNat_le.1 h.1
    have h2 := UInt8.le_iff_toNat_le.1 h.2
    exact ⟨h1, h2, by unfold digV; rw [if_pos h.2]⟩
  unfold okC at h
  split at h
  · exact .inl (hd h)
  · rename_i hn
    unfold hexB at h
    rw [Bool.or_eq_true] at h
    rcases h with h | h
    · exact .inl (hd h)
    · rw [Bool.and_eq_true, decide_eq_true_eq, decide_eq_true_eq] at h
      have h1 : 97 ≤ c.toNat := UInt8.le_iff_toNat_le.1 h.1
      have h2 : c.toNat ≤ 102 := UInt8.le_iff_toNat_le.1 h.2
      refine .inr ⟨hb.resolve_left hn, h1, h2, ?_⟩
      unfold digV
      rw [if_neg (fun h => by have : c.toNat ≤ 57 := UInt8.le_iff_toNat_le.1 h; omega)]
theorem spell_ge (b : Nat) (hb : 1 ≤ b) : ∀ (l : List UInt8) (a : Nat), a ≤ l.foldl (fun a c => a * b + digV c) a
  | [], a => Nat.le_refl _
  | c :: l, a => by
    have h1 := spell_ge b hb l (a * b + digV c)
    have h2 : a ≤ a * b := Nat.le_mul_of_pos_right a hb
    rw [List.foldl_cons]; omega
theorem spell_take (b : Nat) (hb : 1 ≤ b) (l : List UInt8) (k : Nat) : spell b (l.take k) ≤ spell b l := by
  have : spell b l = (l.drop k).foldl (fun a c => a * b + digV c) (spell b (l.take k)) := by
    unfold spell
    rw [← List.foldl_append, List.take_append_drop]
  rw [this]
  exact spell_ge b hb _ _
theorem spell_next (b : Nat) (l : List UInt8) (k : Nat) (c : UInt8) (h : l[k]? = some c) : spell b (l.take (k + 1)) = spell b (l.take k) * b + digV c := by
  obtain ⟨hk, hc⟩ := List.getElem?_eq_some_iff.1 h
  rw [List.take_succ_eq_append_getElem hk, hc]
  unfold spell
  rw [List.foldl_append]; rfl
/-- A number, or the error of one that is too great. -/
def PuV (x : Nat) (v : Value) : Prop := (x < 18446744073709551616 ∧ v = .tuple #[.int .u64 (x : Int), .nilIface]) ∨ (18446744073709551616 ≤ x ∧ v = .tuple #[.int .u64 18446744073709551615, .iface 236 (.int .i64 1)])
set_option maxHeartbeats 1000000 in
theorem lower_let (c : Nat) (h0 : 97 ≤ c) (h1 : c ≤ 102) (w : World) : Calls Tryz.prog 165 #[.int .u8 c] w fun e w' => e = .returned (.int .u8 c) ∧ w = w' := by
  obtain rfl | rfl | rfl | rfl | rfl | rfl : c = 97 ∨ c = 98 ∨ c = 99 ∨ c = 100 ∨ c = 101 ∨ c = 102 := by omega
  all_goals
    go_enter Tryz.func165, Tryz.ntmps165
    go_wp2_with fail
    go_ret
    exact ⟨rfl, rfl⟩

set_option maxRecDepth 100000 in
set_option maxHeartbeats 4000000 in
theorem pu_in (b : Nat) (hb : b = 10 ∨ b = 16) (l : List UInt8) (hl : l ≠ []) (hlen : l.length ≤ 100000) (hall : l.all (okC b) = true) (w : World) :
    Calls Tryz.prog 142 #[S l, .int .i64 b, .int .i64 64] w fun e w' => ∃ v, e = .returned v ∧ PuV (spell b l) v ∧ Below w.heap.size w w' := by
  have hs : (⟨l.toArray⟩ : ByteArray).size = l.length := by show l.toArray.size = _; simp
  have hd : (⟨l.toArray⟩ : ByteArray).data.toList = l := by simp
  have hcv := Lib.run_convert_string_bytes (P := Tryz.prog) w 9 27 5 ⟨l.toArray⟩ (u := .string) Tryz.underlying9 Tryz.underlying27 Tryz.underlying5
  have hB : ∀ j c, l[j]? = some c → (Lib.bytesWorld w 5 ⟨l.toArray⟩).cell? ⟨w.heap.size, j, none⟩ = some (.int .u8 (c.toNat : Int)) := fun j c hj => by
    have hjl := (List.getElem?_eq_some_iff.1 hj).1
    rw [Lib.bytesWorld_cell w 5 ⟨l.toArray⟩ j (by omega), hd]
    simp [List.getD, hj]
  have HBw := Lib.hid (Lib.bytesWorld_below w 5 ⟨l.toArray⟩)
  obtain ⟨W1, hW1⟩ : ∃ W1, W1 = Lib.bytesWorld w 5 ⟨l.toArray⟩ := ⟨_, rfl⟩
  rw [← hW1] at hcv hB HBw
  rw [hs] at hcv
  have HBc := Lib.hid hB; have Hall := Lib.hid hall
  have hemp : (l == []) = false := by simpa using hl
  have hmv : IntKind.u64.wrap (IntKind.u64.wrap 18446744073709551616 - 1) = 18446744073709551615 := by
    rw [IntKind.wrap_u64, IntKind.wrap_u64]
    decide
  clear hW1 hB hall hl hd hs
  rcases hb with rfl | rfl
  · go_enter Tryz.func142, Tryz.ntmps142
    go_wp2_with fail
    go_loopg [12, 13, 15, 16, 17, 101] l.length (fun g vu vn _ _ _ vi wx => ∃ (k acc : Nat) (a : Int), k + g = l.length ∧ vu = .bool false ∧ vi = .int .i64 k ∧ vn = .int .u64 a ∧ wx = W1 ∧ Hid (a = (acc : Int) ∧ acc < 18446744073709551616 ∧ spell 10 (l.take k) = acc))
    case atStart => exact ⟨0, 0, 0, by omega, rfl, rfl, rfl, rfl, Lib.hid ⟨rfl, by omega, rfl⟩⟩
    case round =>
      obtain ⟨k, acc, a, hk, rfl, rfl, rfl, rfl, hh⟩ := hrel
      obtain ⟨ha, hacc, hsp⟩ := hh.out
      clear hh
      have a0 : 0 ≤ a := by omega
      have a1 : a < 18446744073709551616 := by omega
      by_cases hkn : k < l.length
      · obtain ⟨c, hc⟩ : ∃ c, l[k]? = some c := ⟨_, List.getElem?_eq_getElem hkn⟩
        have hcell := HBc.out k c hc
        have hok : okC 10 c = true := List.all_eq_true.1 Hall.out c (List.mem_of_getElem? hc)
        have hcs := okC_cases (.inl rfl : 10 = 10 ∨ 10 = 16) hok
        have hnx := spell_next 10 l k c hc
        have htk := spell_take 10 (by omega) l (k + 1)
        rw [hsp] at hnx
        have hc256 : c.toNat < 256 := c.toNat_lt
        obtain ⟨d, hdd⟩ : ∃ d, digV c = d := ⟨_, rfl⟩
        rw [hdd] at hnx hcs
        have hkn' : (k : Int) < l.length := by omega
        clear hok hc hdd hsp
        obtain ⟨h1, h2, hdv⟩ : 48 ≤ c.toNat ∧ c.toNat ≤ 57 ∧ d = c.toNat - 48 := by omega
        clear hcs
        by_cases hcut : 1844674407370955162 ≤ acc
        · have Hf : Hid (18446744073709551616 ≤ spell 10 l) := by show _ ≤ _; omega
          have icut : 1844674407370955162 ≤ a := by omega
          clear hcut hacc ha hnx htk hdv
          go_wp2_with fail
          go_ret2
          exact ⟨_, rfl, .inr ⟨Hf.out, rfl⟩, HBw.out⟩
        · by_cases hov : 18446744073709551616 ≤ acc * 10 + d
          · have Hf : Hid (18446744073709551616 ≤ spell 10 l) := by show _ ≤ _; omega
            have icut : a < 1844674407370955162 := by omega
            have iov : 18446744073709551616 ≤ a * 10 + ((c.toNat : Int) - 48) := by omega
            have hwr : IntKind.u64.wrap (a * 10 + ((c.toNat : Int) - 48)) = a * 10 + ((c.toNat : Int) - 48) - 18446744073709551616 := by
              rw [IntKind.wrap_u64]
              omega
            clear hcut hacc hov ha hnx htk hdv
            go_wp2_with fail
            go_ret2
            exact ⟨_, rfl, .inr ⟨Hf.out, rfl⟩, HBw.out⟩
          · have HN : Hid (a * 10 + ((c.toNat : Int) - 48) = ((acc * 10 + d : Nat) : Int) ∧ acc * 10 + d < 18446744073709551616 ∧ spell 10 (l.take (k + 1)) = acc * 10 + d) := Lib.hid ⟨by omega, by omega, hnx⟩
            have icut : a < 1844674407370955162 := by omega
            have iov : a * 10 + ((c.toNat : Int) - 48) < 18446744073709551616 := by omega
            clear hcut hacc hov ha hnx htk hdv
            go_wp2_with fail
            go_roundg (l.length - (k + 1))
            case measure => omega
            case rel => exact ⟨k + 1, acc * 10 + d, a * 10 + ((c.toNat : Int) - 48), by omega, rfl, by go_num, by first | rfl | (congr 1; omega), rfl, HN⟩
      · obtain rfl : k = l.length := by omega
        have Hf : Hid (spell 10 l = acc) := by rw [← hsp, List.take_length]; exact rfl
        have Ha := Lib.hid ha; have Hacc := Lib.hid hacc
        clear ha hacc hsp hk
        go_wp2_with fail
        go_ret2
        exact ⟨_, rfl, .inl ⟨by rw [Hf.out]; exact Hacc.out, by rw [Hf.out, ← Ha.out]; rfl⟩, HBw.out⟩
  · go_enter Tryz.func142, Tryz.ntmps142
    go_wp2_with fail
    go_loopg [12, 13, 15, 16, 17, 101] l.length (fun g vu vn _ _ _ vi wx => ∃ (k acc : Nat) (a : Int), k + g = l.length ∧ vu = .bool false ∧ vi = .int .i64 k ∧ vn = .int .u64 a ∧ wx = W1 ∧ Hid (a = (acc : Int) ∧ acc < 18446744073709551616 ∧ spell 16 (l.take k) = acc))
    case atStart => exact ⟨0, 0, 0, by omega, rfl, rfl, rfl, rfl, Lib.hid ⟨rfl, by omega, rfl⟩⟩
    case round =>
      obtain ⟨k, acc, a, hk, rfl, rfl, rfl, rfl, hh⟩ := hrel
      obtain ⟨ha, hacc, hsp⟩ := hh.out
      clear hh
      have a0 : 0 ≤ a := by omega
      have a1 : a < 18446744073709551616 := by omega
      by_cases hkn : k < l.length
      · obtain ⟨c, hc⟩ : ∃ c, l[k]? = some c := ⟨_, List.getElem?_eq_getElem hkn⟩
        have hcell := HBc.out k c hc
        have hok : okC 16 c = true := List.all_eq_true.1 Hall.out c (List.mem_of_getElem? hc)
        have hcs := okC_cases (.inr rfl : 16 = 10 ∨ 16 = 16) hok
        have hnx := spell_next 16 l k c hc
        have htk := spell_take 16 (by omega) l (k + 1)
        rw [hsp] at hnx
        have hc256 : c.toNat < 256 := c.toNat_lt
        obtain ⟨d, hdd⟩ : ∃ d, digV c = d := ⟨_, rfl⟩
        rw [hdd] at hnx hcs
        have hkn' : (k : Int) < l.length := by omega
        clear hok hc hdd hsp
        rcases hcs with ⟨h1, h2, hdv⟩ | ⟨-, h1, h2, hdv⟩
        · skip
          by_cases hcut : 1152921504606846976 ≤ acc
          · have Hf : Hid (18446744073709551616 ≤ spell 16 l) := by show _ ≤ _; omega
            have icut : 1152921504606846976 ≤ a := by omega
            clear hcut hacc ha hnx htk hdv
            go_wp2_with fail
            go_ret2
            exact ⟨_, rfl, .inr ⟨Hf.out, rfl⟩, HBw.out⟩
          · by_cases hov : 18446744073709551616 ≤ acc * 16 + d
            · exfalso; omega
            · have HN : Hid (a * 16 + ((c.toNat : Int) - 48) = ((acc * 16 + d : Nat) : Int) ∧ acc * 16 + d < 18446744073709551616 ∧ spell 16 (l.take (k + 1)) = acc * 16 + d) := Lib.hid ⟨by omega, by omega, hnx⟩
              have icut : a < 1152921504606846976 := by omega
              have iov : a * 16 + ((c.toNat : Int) - 48) < 18446744073709551616 := by omega
              clear hcut hacc hov ha hnx htk hdv
              go_wp2_with fail
              go_roundg (l.length - (k + 1))
              case measure => omega
              case rel => exact ⟨k + 1, acc * 16 + d, a * 16 + ((c.toNat : Int) - 48), by omega, rfl, by go_num, by first | rfl | (congr 1; omega), rfl, HN⟩

        · skip
          by_cases hcut : 1152921504606846976 ≤ acc
          · have Hf : Hid (18446744073709551616 ≤ spell 16 l) := by show _ ≤ _; omega
            have icut : 1152921504606846976 ≤ a := by omega
            clear hcut hacc ha hnx htk hdv
            go_wp2_with (refine (lower_let c.toNat h1 h2 _).mono ?_; rintro e w' ⟨rfl, rfl⟩)
            go_ret2
            exact ⟨_, rfl, .inr ⟨Hf.out, rfl⟩, HBw.out⟩
          · by_cases hov : 18446744073709551616 ≤ acc * 16 + d
            · exfalso; omega
            · have HN : Hid (a * 16 + ((c.toNat : Int) - 87) = ((acc * 16 + d : Nat) : Int) ∧ acc * 16 + d < 18446744073709551616 ∧ spell 16 (l.take (k + 1)) = acc * 16 + d) := Lib.hid ⟨by omega, by omega, hnx⟩
              have icut : a < 1152921504606846976 := by omega
              have iov : a * 16 + ((c.toNat : Int) - 87) < 18446744073709551616 := by omega
              clear hcut hacc hov ha hnx htk hdv
              go_wp2_with (refine (lower_let c.toNat h1 h2 _).mono ?_; rintro e w' ⟨rfl, rfl⟩)
              go_roundg (l.length - (k + 1))
              case measure => omega
              case rel => exact ⟨k + 1, acc * 16 + d, a * 16 + ((c.toNat : Int) - 87), by omega, rfl, by go_num, by first | rfl | (congr 1; omega), rfl, HN⟩
      · obtain rfl : k = l.length := by omega
        have Hf : Hid (spell 16 l = acc) := by rw [← hsp, List.take_length]; exact rfl
        have Ha := Lib.hid ha; have Hacc := Lib.hid hacc
        clear ha hacc hsp hk
        go_wp2_with fail
        go_ret2
        exact ⟨_, rfl, .inl ⟨by rw [Hf.out]; exact Hacc.out, by rw [Hf.out, ← Ha.out]; rfl⟩, HBw.out⟩
end Go.Proofs.YtjjnidbggoaonaaGreatDoor
