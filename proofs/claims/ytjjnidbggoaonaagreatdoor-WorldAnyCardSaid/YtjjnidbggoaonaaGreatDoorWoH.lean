/- Bytes in base 16: two digits by ParseUint. -/
import Derived.Test.YtjjnidbggoaonaaGreatDoorZaC
import Derived.Deep.LoopGhost
namespace Go.Proofs.YtjjnidbggoaonaaGreatDoor
open Go.RowKit
attribute [local irreducible] World.setCell World.alloc World.drew Calls Code.wp
attribute [local go_sem] Oper.semAt_some

theorem or32 (c : UInt8) : bits BinOp.or IntKind.u8 (c.toNat : Int) 32 = ((c ||| 32).toNat : Int) := by
  have h : ∀ n, n < 256 → bits BinOp.or IntKind.u8 ((UInt8.ofNat n).toNat : Int) 32 = ((UInt8.ofNat n ||| 32).toNat : Int) := by decide +kernel
  have := h c.toNat c.toNat_lt
  rwa [UInt8.ofNat_toNat] at this
set_option maxHeartbeats 1000000 in
theorem lower_all (c : UInt8) (w : World) : Calls Tryz.prog 165 #[.int .u8 (c.toNat : Nat)] w fun e w' => e = .returned (.int .u8 ((c ||| 32).toNat : Nat)) ∧ w = w' := by
  go_enter Tryz.func165, Tryz.ntmps165
  go_wp2_with fail
  go_ret
  exact ⟨congrArg (fun x => Ending.returned (Value.int IntKind.u8 x)) (or32 c), rfl⟩
/-- The digit of base 16 that a byte is, great or small. -/
def dgt (c : UInt8) : Option Nat := if 48 ≤ c.toNat ∧ c.toNat ≤ 57 then some (c.toNat - 48) else if 97 ≤ (c ||| 32).toNat ∧ (c ||| 32).toNat ≤ 102 then some ((c ||| 32).toNat - 87) else none
theorem dgt_cases (c : UInt8) : (48 ≤ c.toNat ∧ c.toNat ≤ 57 ∧ dgt c = some (c.toNat - 48)) ∨ ((c.toNat < 48 ∨ 57 < c.toNat) ∧ c.toNat ≠ 95 ∧ 97 ≤ (c ||| 32).toNat ∧ (c ||| 32).toNat ≤ 102 ∧ dgt c = some ((c ||| 32).toNat - 87)) ∨
    ((c.toNat < 48 ∨ 57 < c.toNat) ∧ c.toNat ≠ 95 ∧ 103 ≤ (c ||| 32).toNat ∧ (c ||| 32).toNat ≤ 122 ∧ dgt c = none) ∨ ((c.toNat < 48 ∨ 57 < c.toNat) ∧ c.toNat ≠ 95 ∧ (c ||| 32).toNat < 97 ∧ dgt c = none) ∨ ((c.toNat < 48 ∨ 57 < c.toNat) ∧ c.toNat ≠ 95 ∧ 122 < (c ||| 32).toNat ∧ dgt c = none) ∨ (c.toNat = 95 ∧ (c ||| 32).toNat = 127 ∧ dgt c = none) := by
  have h : ∀ n, n < 256 → (fun c : UInt8 => (48 ≤ c.toNat ∧ c.toNat ≤ 57 ∧ dgt c = some (c.toNat - 48)) ∨ ((c.toNat < 48 ∨ 57 < c.toNat) ∧ c.toNat ≠ 95 ∧ 97 ≤ (c ||| 32).toNat ∧ (c ||| 32).toNat ≤ 102 ∧ dgt c = some ((c ||| 32).toNat - 87)) ∨
    ((c.toNat < 48 ∨ 57 < c.toNat) ∧ c.toNat ≠ 95 ∧ 103 ≤ (c ||| 32).toNat ∧ (c ||| 32).toNat ≤ 122 ∧ dgt c = none) ∨ ((c.toNat < 48 ∨ 57 < c.toNat) ∧ c.toNat ≠ 95 ∧ (c ||| 32).toNat < 97 ∧ dgt c = none) ∨ ((c.toNat < 48 ∨ 57 < c.toNat) ∧ c.toNat ≠ 95 ∧ 122 < (c ||| 32).toNat ∧ dgt c = none) ∨ (c.toNat = 95 ∧ (c ||| 32).toNat = 127 ∧ dgt c = none)) (UInt8.ofNat n) := by decide +kernel
  have := h c.toNat c.toNat_lt
  rwa [UInt8.ofNat_toNat] at this
def pu2 (a b : UInt8) : Option Nat := match dgt a, dgt b with
  | some x, some y => some (x * 16 + y)
  | _, _ => none
def Pu2Inv (a b : UInt8) (k acc : Nat) : Prop := (k = 0 ∧ acc = 0) ∨ (k = 1 ∧ dgt a = some acc ∧ acc < 16) ∨ (k = 2 ∧ pu2 a b = some acc ∧ acc < 256)
theorem Pu2Inv.lt {a b : UInt8} {k acc : Nat} (h : Pu2Inv a b k acc) (hk : k < 2) : acc < 16 := by
  rcases h with ⟨_, rfl⟩ | ⟨_, _, h⟩ | ⟨h, _⟩ <;> omega
theorem Pu2Inv.lt2 {a b : UInt8} {k acc : Nat} (h : Pu2Inv a b k acc) : acc < 256 := by
  rcases h with ⟨_, rfl⟩ | ⟨_, _, h⟩ | ⟨_, _, h⟩ <;> omega
theorem Pu2Inv.next {a b c : UInt8} {k acc d : Nat} (h : Pu2Inv a b k acc) (hc : [a, b][k]? = some c) (hd : dgt c = some d) (h16 : d < 16) : Pu2Inv a b (k + 1) (acc * 16 + d) := by
  rcases h with ⟨rfl, rfl⟩ | ⟨rfl, h1, h2⟩ | ⟨rfl, _⟩
  · obtain rfl : a = c := by simpa using hc
    exact .inr (.inl ⟨rfl, by simpa using hd, by omega⟩)
  · obtain rfl : b = c := by simpa using hc
    exact .inr (.inr ⟨rfl, by unfold pu2; rw [h1, hd], by omega⟩)
  · simp at hc
theorem Pu2Inv.none {a b c : UInt8} {k acc : Nat} (h : Pu2Inv a b k acc) (hc : [a, b][k]? = some c) (hd : dgt c = none) : pu2 a b = none := by
  rcases h with ⟨rfl, rfl⟩ | ⟨rfl, h1, h2⟩ | ⟨rfl, _⟩
  · obtain rfl : a = c := by simpa using hc
    unfold pu2; rw [hd]
  · obtain rfl : b = c := by simpa using hc
    unfold pu2; rw [h1, hd]
  · simp at hc
theorem Pu2Inv.fin {a b : UInt8} {acc : Nat} (h : Pu2Inv a b 2 acc) : pu2 a b = some acc := by
  rcases h with ⟨h, _⟩ | ⟨h, _⟩ | ⟨_, h, _⟩
  · omega
  · omega
  · exact h
def Pu2V (o : Option Nat) (v : Value) : Prop := (∃ x, o = some x ∧ x < 256 ∧ v = .tuple #[.int .u64 (x : Nat), .nilIface]) ∨ (o = none ∧ v = .tuple #[.int .u64 0, .iface 236 (.int .i64 2)])
set_option maxRecDepth 100000 in
set_option maxHeartbeats 4000000 in
theorem pu2_in (a b : UInt8) (w : World) :
    Calls Tryz.prog 142 #[S [a, b], .int .i64 16, .int .i64 8] w fun e w' => ∃ v, e = .returned v ∧ Pu2V (pu2 a b) v ∧ Below w.heap.size w w' := by
  obtain ⟨l, hl⟩ : ∃ l, l = [a, b] := ⟨_, rfl⟩
  have hlen : l.length = 2 := by rw [hl]; rfl
  rw [← hl]
  have hs : (⟨l.toArray⟩ : ByteArray).size = l.length := by show l.toArray.size = _; simp
  have hd : (⟨l.toArray⟩ : ByteArray).data.toList = l := by simp
  have hcv := Lib.run_convert_string_bytes (P := Tryz.prog) w 9 27 5 ⟨l.toArray⟩ (u := .string) Tryz.underlying9 Tryz.underlying27 Tryz.underlying5
  have hB : ∀ j c, l[j]? = some c → (Lib.bytesWorld w 5 ⟨l.toArray⟩).cell? ⟨w.heap.size, j, none⟩ = some (.int .u8 (c.toNat : Int)) := fun j c hj => by
    have hjl := (List.getElem?_eq_some_iff.1 hj).1
    rw [Lib.bytesWorld_cell w 5 ⟨l.toArray⟩ j (by omega), hd]
    simp [List.getD, hj]
  have HBw := Lib.hid (Lib.bytesWorld_below w 5 ⟨l.toArray⟩)
  obtain ⟨W1, hW1⟩ : ∃ W1, W1 = Lib.bytesWorld w 5 ⟨l.toArray⟩ := ⟨_, rfl⟩
  rw [← hW1] at hcv hB HBw
  rw [hs] at hcv
  have HBc := Lib.hid hB; have Hl := Lib.hid hl
  have hemp : (l == []) = false := by rw [hl]; rfl
  have hmv : IntKind.u64.wrap (IntKind.u64.wrap 256 - 1) = 255 := by
    rw [IntKind.wrap_u64, IntKind.wrap_u64]
    decide
  have Hlo := Lib.hid lower_all
  clear hW1 hB hl hd hs
  go_enter Tryz.func142, Tryz.ntmps142
  go_wp2_with fail
  go_loopg [12, 13, 15, 16, 17, 101] l.length (fun g vu vn _ _ _ vi wx => ∃ (k acc : Nat) (a' : Int), k + g = l.length ∧ vu = .bool false ∧ vi = .int .i64 k ∧ vn = .int .u64 a' ∧ wx = W1 ∧ Hid (a' = (acc : Int) ∧ Pu2Inv a b k acc))
  case atStart => exact ⟨0, 0, 0, by omega, rfl, rfl, rfl, rfl, Lib.hid ⟨rfl, .inl ⟨rfl, rfl⟩⟩⟩
  case round =>
    obtain ⟨k, acc, a', hk, rfl, rfl, rfl, rfl, hh⟩ := hrel
    obtain ⟨ha, hI⟩ := hh.out
    have HI := Lib.hid hI
    clear hh hI
    by_cases hkn : k < l.length
    · obtain ⟨c, hc⟩ : ∃ c, l[k]? = some c := ⟨_, List.getElem?_eq_getElem hkn⟩
      have hcell := HBc.out k c hc
      have hc256 : c.toNat < 256 := c.toNat_lt
      have hlo256 : (c ||| 32).toNat < 256 := (c ||| 32).toNat_lt
      have Hc : Hid ([a, b][k]? = some c) := by rw [← Hl.out]; exact hc
      have Hlc := Lib.hid (Hlo.out c)
      have ha16 := HI.out.lt (by omega)
      have hkn' : (k : Int) < l.length := by omega
      have hcs := dgt_cases c
      obtain ⟨e, he⟩ : ∃ e, (c ||| 32).toNat = e := ⟨_, rfl⟩
      rw [he] at Hlc hlo256 hcs
      obtain ⟨d, hd⟩ : ∃ d, c.toNat = d := ⟨_, rfl⟩
      rw [hd] at Hlc hcell hc256 hcs
      have a0 : 0 ≤ a' := by omega
      have a1 : a' < 16 := by omega
      clear hc he hd
      rcases hcs with ⟨h1, h2, h3⟩ | ⟨h1, h2, h3, h4, h5⟩ | ⟨h1, h2, h3, h4, h5⟩ | ⟨h1, h2, h3, h5⟩ | ⟨h1, h2, h3, h5⟩ | ⟨h1, h2, h5⟩
      · have HN : Hid (a' * 16 + ((d : Int) - 48) = ((acc * 16 + (d - 48) : Nat) : Int) ∧ Pu2Inv a b (k + 1) (acc * 16 + (d - 48))) := Lib.hid ⟨by omega, HI.out.next Hc.out h3 (by omega)⟩
        clear h3 ha ha16
        go_wp2_with fail
        go_roundg (l.length - (k + 1))
        case measure => omega
        case rel => exact ⟨k + 1, acc * 16 + (d - 48), a' * 16 + ((d : Int) - 48), by omega, rfl, by go_num, by first | rfl | (congr 1; omega), rfl, HN⟩
      · have HN : Hid (a' * 16 + ((e : Int) - 97 + 10) = ((acc * 16 + (e - 87) : Nat) : Int) ∧ Pu2Inv a b (k + 1) (acc * 16 + (e - 87))) := Lib.hid ⟨by omega, HI.out.next Hc.out h5 (by omega)⟩
        have h2' : ((d : Int) == 95) = false := by simp; omega
        clear h5 h2 ha ha16
        rcases h1 with h1 | h1
        all_goals
          go_wp2_with fail
          repeat (refine (Hlc.out _).mono ?_; rintro e1 w1 ⟨rfl, rfl⟩; go_wp2_with fail)
          go_roundg (l.length - (k + 1))
          case measure => omega
          case rel => exact ⟨k + 1, acc * 16 + (e - 87), a' * 16 + ((e : Int) - 97 + 10), by omega, rfl, by go_num, by first | rfl | (congr 1; omega), rfl, HN⟩
      · have HN := Lib.hid (HI.out.none Hc.out h5)
        have h2' : ((d : Int) == 95) = false := by simp; omega
        clear h5 h2 ha ha16
        rcases h1 with h1 | h1
        all_goals
          go_wp2_with fail
          repeat (refine (Hlc.out _).mono ?_; rintro e1 w1 ⟨rfl, rfl⟩; go_wp2_with fail)
          go_ret2
          exact ⟨_, rfl, .inr ⟨HN.out, rfl⟩, HBw.out⟩
      · have HN := Lib.hid (HI.out.none Hc.out h5)
        have h2' : ((d : Int) == 95) = false := by simp; omega
        clear h5 h2 ha ha16
        rcases h1 with h1 | h1
        all_goals
          go_wp2_with fail
          repeat (refine (Hlc.out _).mono ?_; rintro e1 w1 ⟨rfl, rfl⟩; go_wp2_with fail)
          go_ret2
          exact ⟨_, rfl, .inr ⟨HN.out, rfl⟩, HBw.out⟩
      · have HN := Lib.hid (HI.out.none Hc.out h5)
        have h2' : ((d : Int) == 95) = false := by simp; omega
        clear h5 h2 ha ha16
        rcases h1 with h1 | h1
        all_goals
          go_wp2_with fail
          repeat (refine (Hlc.out _).mono ?_; rintro e1 w1 ⟨rfl, rfl⟩; go_wp2_with fail)
          go_ret2
          exact ⟨_, rfl, .inr ⟨HN.out, rfl⟩, HBw.out⟩
      · have HN := Lib.hid (HI.out.none Hc.out h5)
        subst h1
        subst h2
        clear h5 ha ha16
        go_wp2_with fail
        repeat (refine (Hlc.out _).mono ?_; rintro e1 w1 ⟨rfl, rfl⟩; go_wp2_with fail)
        go_ret2
        exact ⟨_, rfl, .inr ⟨HN.out, rfl⟩, HBw.out⟩
    · obtain rfl : k = l.length := by omega
      have Hk : Hid (pu2 a b = some acc ∧ acc < 256) := ⟨by have := HI.out; rw [hlen] at this; exact this.fin, HI.out.lt2⟩
      have Ha := Lib.hid ha
      clear ha hk
      go_wp2_with fail
      go_ret2
      exact ⟨_, rfl, .inl ⟨acc, Hk.out.1, Hk.out.2, by rw [← Ha.out]; rfl⟩, HBw.out⟩
end Go.Proofs.YtjjnidbggoaonaaGreatDoor
