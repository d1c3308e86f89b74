/- The printer: words, numbers, bytes, labels. -/
import Derived.Test.YtjjnidbggoaonaaGreatDoorWoPb
import Derived.Lib.ItoaLen
import Derived.Deep.LoopGhost
import Derived.Test.YtjjnidbggoaonaaGreatDoorWoL
namespace Go.Proofs.YtjjnidbggoaonaaGreatDoor
open Go.RowKit
attribute [local irreducible] World.setCell World.alloc World.drew Calls Code.wp
attribute [local go_sem] Oper.semAt_some

set_option maxRecDepth 100000 in
set_option maxHeartbeats 1000000 in
theorem join1_any (q c : Nat) (m : List UInt8) (w : World) (hq : w.cell? ⟨q, 0, none⟩ = some (S m)) :
    Calls Tryz.prog 82 #[.slice (some ⟨q, 0, none⟩) 1 c, S [32]] w fun e w' => e = .returned (S m) ∧ w = w' := by
  go_enter Tryz.func82, Tryz.ntmps82
  go_wp2_with fail
  go_ret
  exact ⟨rfl, rfl⟩
set_option maxRecDepth 100000 in
set_option maxHeartbeats 1000000 in
theorem pwords_any (B p q c : Nat) (l m : List UInt8) (w : World) (h : PB B p l w) (hl : l.length + m.length ≤ 1000000) (hB : B ≤ w.heap.size) (hq : w.cell? ⟨q, 0, none⟩ = some (S m)) :
    Calls Tryz.prog 48 #[.pointer (some ⟨p, 0, none⟩), .slice (some ⟨q, 0, none⟩) 1 c] w fun e w' => e = .returned (.tuple #[]) ∧ PB B p (l ++ m) w' ∧ PK B p w w' := by
  have Hj := Lib.hid (join1_any q c m w.drew ((drew_cellE w _).trans hq))
  have Hw := Lib.hid (pwrite_any B p l m w.drew (h.below ((Below.refl _ w).drew)) hl (by simpa using hB))
  have HK : Hid (∀ w', PK B p w.drew w' → PK B p w w') := fun w' k => (PK.refl B p w).drew.trans k
  clear h hq
  go_enter Tryz.func48, Tryz.ntmps48
  go_wp2_with fail
  go_region_held3 (fun w' => True) (exact trivial) ((first
    | (refine Hj.out.mono ?_; rintro e w1 ⟨rfl, rfl⟩)
    | (refine Hw.out.mono ?_; rintro e w2 ⟨rfl, hp2, hk2⟩)))
  all_goals
    go_wp2_with fail
    first | (refine bodyPost_end (results_none rfl _ _ _) rfl ?_) | (refine bodyPost_ret (results_none rfl _ _ _) rfl ?_)
    exact ⟨rfl, hp2, HK.out _ hk2⟩
set_option maxRecDepth 100000 in
set_option maxHeartbeats 1000000 in
theorem prnum_any' (B p : Nat) (l : List UInt8) (n : Int) (w : World) (h : PB B p l w) (hl : l.length ≤ 900000) (h0 : -9223372036854775808 ≤ n) (h1 : n ≤ 9223372036854775807) (hB : B ≤ w.heap.size) (_ : HasPow w) (hlow : ∀ w', Below B w w' → HasPow w') :
    Calls Tryz.prog 49 #[.pointer (some ⟨p, 0, none⟩), .int .i64 n] w fun e w' => e = .returned (.tuple #[]) ∧ PB B p (l ++ numT n) w' ∧ PK B p w w' := by
  have hlen := Lib.itoa_length_le n h0 h1
  have Hb := Lib.hid (pbyte_any B p l 32 w h (by omega) hB)
  have HL := Lib.hid hlow
  have Hit := Lib.hid (fun w h => itoa_any n h0 h1 w h)
  clear h hlow
  go_enter Tryz.func49, Tryz.ntmps49
  go_wp2_with fail
  refine Hb.out.mono ?_
  rintro e w1 ⟨rfl, hp1, hk1⟩
  have HP1 := Lib.hid hp1; have HK1 := Lib.hid hk1
  have hs1 := hk1.size
  clear hp1 hk1
  have Hit1 := Lib.hid (Hit.out w1.drew (HL.out _ HK1.out.bel.drew))
  have Hwr : Hid (∀ w2, Below w1.drew.heap.size w1.drew w2 → Calls Tryz.prog 42 #[.pointer (some ⟨p, 0, none⟩), S (Lib.itoa n)] w2 fun e w' => e = .returned (.tuple #[.int .i64 (Lib.itoa n).length, .nilIface]) ∧ PB B p (l ++ numT n) w' ∧ PK B p w w') := fun w2 hb2 => by
    have hs2 := hb2.size
    have hd : w1.drew.heap.size = w1.heap.size := by simp
    refine (pwrite_any B p (l ++ [32]) (Lib.itoa n) w2 ((HP1.out.below ((Below.refl _ w1).drew)).below hb2) (by simp; omega) (by omega)).mono ?_
    rintro e w3 ⟨rfl, hp3, hk3⟩
    refine ⟨rfl, by rw [List.append_assoc] at hp3; exact hp3, (HK1.out.drew.trans (PK.of hb2 (by omega))).trans hk3⟩
  clear Hit HL
  go_wp2_with fail
  go_region_held3 (fun w' => True) (exact trivial) ((first
    | (refine Hit1.out.mono ?_; rintro e w2 ⟨rfl, hb2⟩)
    | (refine (Hwr.out _ hb2).mono ?_; rintro e w3 ⟨rfl, hp3, hk3⟩)))
  all_goals
    go_wp2_with fail
    first | (refine bodyPost_end (results_none rfl _ _ _) rfl ?_) | (refine bodyPost_ret (results_none rfl _ _ _) rfl ?_)
    exact ⟨rfl, hp3, hk3⟩
theorem prnum_any (w0 : World) (B p : Nat) (l : List UInt8) (n : Int) (w : World) (h : PB B p l w) (hl : l.length ≤ 900000) (h0 : -9223372036854775808 ≤ n) (h1 : n ≤ 9223372036854775807) (hpow : HasPow w0) (hw : w0.heap.size ≤ B) (hb : Below B w0 w) :
    Calls Tryz.prog 49 #[.pointer (some ⟨p, 0, none⟩), .int .i64 n] w fun e w' => e = .returned (.tuple #[]) ∧ PB B p (l ++ numT n) w' ∧ PK B p w w' := by
  have hB : B ≤ w.heap.size := Nat.le_of_lt (Nat.lt_of_le_of_lt h.ge.1 h.ge.2)
  exact prnum_any' B p l n w h hl h0 h1 hB (hpow.below (hb.mono hw)) (fun w' k => hpow.below ((hb.trans k).mono hw))
theorem hex_at16 (i : Nat) (h : i < 16) (j : Nat) (hj : j = i) : ∀ hh, ((⟨#[48, 49, 50, 51, 52, 53, 54, 55, 56, 57, 97, 98, 99, 100, 101, 102]⟩ : ByteArray)[j]'hh) = hexN i := by
  have : ∀ i, i < 16 → ∀ hh, ((⟨#[48, 49, 50, 51, 52, 53, 54, 55, 56, 57, 97, 98, 99, 100, 101, 102]⟩ : ByteArray)[i]'hh) = hexN i := by decide
  subst hj
  exact this j h
theorem and15u (c : UInt8) : bits BinOp.and IntKind.u8 (c.toNat : Int) 15 = ((c.toNat % 16 : Nat) : Int) := by
  have h : ∀ n, n < 256 → bits BinOp.and IntKind.u8 ((UInt8.ofNat n).toNat : Int) 15 = (((UInt8.ofNat n).toNat % 16 : Nat) : Int) := by decide +kernel
  have := h c.toNat c.toNat_lt
  rwa [UInt8.ofNat_toNat] at this
set_option maxRecDepth 100000 in
set_option maxHeartbeats 2000000 in
theorem phex_any (w0 : World) (B p : Nat) (l d : List UInt8) (v : Value) (w : World) (h : PB B p l w) (hl : l.length + 2 * d.length ≤ 900000) (hd : DataIn w0 v d) (hw : w0.heap.size ≤ B) (hb : Below B w0 w) :
    Calls Tryz.prog 84 #[.pointer (some ⟨p, 0, none⟩), v] w fun e w' => e = .returned (.tuple #[]) ∧ PB B p (l ++ hexT d) w' ∧ PK B p w w' := by
  have hB : B ≤ w.heap.size := Nat.le_of_lt (Nat.lt_of_le_of_lt h.ge.1 h.ge.2)
  obtain ⟨a, c, rfl, hc1, hc2⟩ := RowAt.form hd
  have HD := Lib.hid (fun w' (k : PK B p w w') => RowAt.below hd (hb.trans k.bel) hw)
  have Hb := Lib.hid (pbyte_any B p l 32 w h (by omega) hB)
  clear h hd hb
  have HB := Lib.hid hB
  go_enter Tryz.func84, Tryz.ntmps84
  go_wp2_with fail
  refine Hb.out.mono ?_
  rintro e w1 ⟨rfl, hp1, hk1⟩
  have HP1 := Lib.hid hp1; have HK1 := Lib.hid hk1
  have hs1 := hk1.size
  clear hp1 hk1 Hb
  by_cases hd0 : d = []
  · subst hd0
    have Hb2 := Lib.hid (pbyte_any B p (l ++ [32]) 45 w1 HP1.out (by simp; omega) (by omega))
    go_wp2_with fail
    refine Hb2.out.mono ?_
    rintro e w2 ⟨rfl, hp2, hk2⟩
    have HP2 := Lib.hid hp2; have HK2 := Lib.hid (HK1.out.trans hk2)
    clear hp2 hk2
    go_wp2_with fail
    go_loopg [5, 19] 0 (fun _ _ vi wx => vi = .int .i64 0 ∧ w2 = wx)
    case atStart => exact ⟨rfl, rfl⟩
    case round =>
    obtain ⟨rfl, rfl⟩ := hrel
    go_wp2_with fail
    first | (refine bodyPost_end (results_none rfl _ _ _) rfl ?_) | (refine bodyPost_ret (results_none rfl _ _ _) rfl ?_)
    exact ⟨rfl, by have := HP2.out; rw [List.append_assoc] at this; exact this, HK2.out⟩
  · have hdn : d.length ≠ 0 := by simpa using hd0
    have hdb : ((d.length : Int) == 0) = false := by simp; omega
    have hT : ∀ k, l ++ (32 :: (d.take k).flatMap hex2) = (l ++ [32]) ++ (d.take k).flatMap hex2 := fun k => by simp
    go_wp2_with fail
    go_loopg [5, 19] d.length (fun g _ vi wx => ∃ k : Nat, k + g = d.length ∧ vi = .int .i64 k ∧ Hid (PB B p ((l ++ [32]) ++ (d.take k).flatMap hex2) wx) ∧ Hid (PK B p w wx))
    case atStart => exact ⟨0, by omega, rfl, by simpa using HP1, HK1⟩
    case round =>
      obtain ⟨k, hk, rfl, HP, HK⟩ := hrel
      by_cases hlt : k < d.length
      · obtain ⟨x, hx⟩ : ∃ x, d[k]? = some x := ⟨_, List.getElem?_eq_getElem hlt⟩
        have hlt' : (k : Int) < d.length := by omega
        obtain ⟨b, rfl, -, hcell⟩ := RowAt.cells (HD.out wr HK.out) (by omega)
        have hck : wr.cell? ⟨b, k, none⟩ = some (.int .u8 (x.toNat : Nat)) := hcell k _ (by simp [hx, byteV])
        have hx256 := UInt8.toNat_lt x
        have hln : ((l ++ [32]) ++ (d.take k).flatMap hex2).length ≤ l.length + 1 + 2 * k := by
          have : ∀ q : List UInt8, (q.flatMap hex2).length = 2 * q.length := fun q => by
            induction q with
            | nil => rfl
            | cons y z ih => rw [List.flatMap_cons, List.length_append, ih]; simp [hex2]; omega
          simp only [List.length_append, this, List.length_cons, List.length_nil, List.length_take]
          omega
        have hnx : (d.take (k + 1)).flatMap hex2 = (d.take k).flatMap hex2 ++ hex2 x := by
          rw [List.take_add_one, hx]; simp
        have Hnx := Lib.hid hnx
        have hB2 : B ≤ wr.heap.size := Nat.le_trans HB.out HK.out.size
        obtain ⟨T, hTT⟩ : ∃ T, (l ++ [32]) ++ (d.take k).flatMap hex2 = T := ⟨_, rfl⟩
        have HT := Lib.hid hTT
        rw [hTT] at HP hln
        have e1 := hex_at16 (x.toNat / 16) (by omega) ((x.toNat : Int) / 16).toNat (by omega)
        have e2 := hex_at16 (x.toNat % 16) (by omega)
        have ha := and15u x
        have Hb1 : Hid (Calls Tryz.prog 43 #[.pointer (some ⟨p, 0, none⟩), .int .u8 ((hexN (x.toNat / 16)).toNat : Int)] wr.drew fun e w' => e = .returned .nilIface ∧ PB B p (T ++ [hexN (x.toNat / 16)]) w' ∧ PK B p wr w') := (pbyte_any B p T (hexN (x.toNat / 16)) wr.drew (HP.out.below ((Below.refl _ wr).drew)) (by omega) (by simpa using hB2)).mono fun e w' ⟨h1, h2, h3⟩ => ⟨h1, h2, (PK.refl B p wr).drew.trans h3⟩
        clear hx hcell hd0 hnx hTT HD
        go_wp2_with fail
        go_region_held3 (fun w' => True) (exact trivial) ((first
          | (refine Hb1.out.mono ?_; rintro e w4 ⟨rfl, hp4, hk4⟩)))
        have hs4 := hk4.size
        have Hb2 : Hid (Calls Tryz.prog 43 #[.pointer (some ⟨p, 0, none⟩), .int .u8 ((hexN (x.toNat % 16)).toNat : Int)] w4.drew fun e w' => e = .returned .nilIface ∧ PB B p ((l ++ [32]) ++ (d.take (k + 1)).flatMap hex2) w' ∧ PK B p w w') := (pbyte_any B p (T ++ [hexN (x.toNat / 16)]) (hexN (x.toNat % 16)) w4.drew (hp4.below ((Below.refl _ w4).drew)) (by simp; omega) (by simp; omega)).mono fun e w' ⟨h1, h2, h3⟩ => ⟨h1, by rw [Hnx.out, ← List.append_assoc, HT.out]; rw [List.append_assoc] at h2; exact h2, (HK.out.trans hk4).trans ((PK.refl B p w4).drew.trans h3)⟩
        clear hp4 hk4 Hb1 e1
        have e1 := hex_at16 (x.toNat % 16) (by omega) ((x.toNat : Int) % 16).toNat (by omega)
        (try simp only [Exit.then])
        go_wp2_with fail
        go_region_held3 (fun w' => True) (exact trivial) ((first
          | (refine Hb2.out.mono ?_; rintro e w5 ⟨rfl, hp5, hk5⟩)))
        have HP5 := Lib.hid hp5; have HK5 := Lib.hid hk5
        clear hp5 hk5
        (try simp only [Exit.inBlock, Exit.then])
        go_wp2_with fail
        go_roundg (d.length - (k + 1))
        case measure => omega
        case rel => exact ⟨k + 1, by omega, by go_num, HP5, HK5⟩
      · obtain rfl : k = d.length := by omega
        rw [List.take_length] at HP
        go_wp2_with fail
        first | (refine bodyPost_end (results_none rfl _ _ _) rfl ?_) | (refine bodyPost_ret (results_none rfl _ _ _) rfl ?_)
        refine ⟨rfl, ?_, HK.out⟩
        have := HP.out
        unfold hexT
        rw [if_neg hd0]
        rw [List.append_assoc] at this
        exact this
theorem run_addP {P : Program} {w : World} {t : TypeId} (l m : List UInt8) (h : l.length + m.length ≤ 9223372036854775807) : (binOp .add t (S l) (S m)).run P w = .ok (S (l ++ m)) w := by
  have e : (⟨l.toArray⟩ : ByteArray) ++ ⟨m.toArray⟩ = ⟨(l ++ m).toArray⟩ := by
    apply ByteArray.ext
    simp
  have h1 : ¬ (((⟨l.toArray⟩ : ByteArray).size + (⟨m.toArray⟩ : ByteArray).size : Nat) : Int) > IntKind.i64.max := by
    have e1 : (⟨l.toArray⟩ : ByteArray).size = l.length := by show l.toArray.size = _; simp
    have e2 : (⟨m.toArray⟩ : ByteArray).size = m.length := by show m.toArray.size = _; simp
    rw [e1, e2]
    have : IntKind.i64.max = 9223372036854775807 := rfl
    omega
  simp only [binOp_string_add, Op.stringOp, if_neg h1, e]
  rfl

theorem run_saddP {P : Program} (l m : List UInt8) (h : l.length + m.length ≤ 9223372036854775807) (w : World) : (Op.stringOp .add ⟨l.toArray⟩ ⟨m.toArray⟩).run P w = .ok (S (l ++ m)) w := by
  have := run_addP (P := P) (w := w) (t := 0) l m h
  rwa [binOp_string_add] at this
/-- The sign of a level. -/
def levC (d : Nat) : UInt8 := ([42, 48, 49, 50, 51] : List UInt8).getD d 0
theorem levT_C (d : Nat) : levT d = [levC d] := rfl
theorem lev_at (i : Nat) (h : i ≤ 4) (j : Nat) (hj : j = i) : ∀ hh, ((⟨#[42, 48, 49, 50, 51]⟩ : ByteArray)[j]'hh) = levC i := by
  have : ∀ i, i < 5 → ∀ hh, ((⟨#[42, 48, 49, 50, 51]⟩ : ByteArray)[i]'hh) = levC i := by decide
  subst hj
  exact this j (by omega)
theorem lev_cut (i : Nat) (h : i ≤ 4) : (⟨#[42, 48, 49, 50, 51]⟩ : ByteArray).extract i (i + 1) = ⟨(levT i).toArray⟩ := by
  obtain rfl | rfl | rfl | rfl | rfl : i = 0 ∨ i = 1 ∨ i = 2 ∨ i = 3 ∨ i = 4 := by omega
  all_goals (apply ByteArray.ext; rfl)
theorem lev_slice (i : Nat) (h : i ≤ 4) : ∀ w, (Instr.slice 9 (.string ⟨#[42, 48, 49, 50, 51]⟩) (some (.int .i64 (i : Int))) (some (.int .i64 ((i : Int) + 1))) none).run Tryz.prog w = .ok (S (levT i)) w := by
  obtain rfl | rfl | rfl | rfl | rfl : i = 0 ∨ i = 1 ∨ i = 2 ∨ i = 3 ∨ i = 4 := by omega
  all_goals (intro w; kernel_rfl)
set_option maxRecDepth 100000 in
set_option maxHeartbeats 4000000 in
theorem plabel_any (w0 : World) (B p : Nat) (l : List UInt8) (la : Lab) (v : Value) (w : World) (h : PB B p l w) (hl : l.length ≤ 800000) (hL : LabIn w0 v la) (hr : la.d ≤ 4 ∧ la.ps.length ≤ 12 ∧ ∀ q ∈ la.ps, q.1 ≤ 1073741824 ∧ q.2 ≤ 4) (hpow : HasPow w0) (hw : w0.heap.size ≤ B) (hb : Below B w0 w) :
    Calls Tryz.prog 83 #[.pointer (some ⟨p, 0, none⟩), v] w fun e w' => e = .returned (.tuple #[]) ∧ PB B p (l ++ labT la) w' ∧ PK B p w w' := by
  obtain ⟨s, rfl, hps⟩ := hL
  obtain ⟨a, c, rfl, hc1, hc2⟩ := RowAt.form hps
  obtain ⟨d4, hn, hq⟩ := hr
  have hge := h.ge
  have hB : B ≤ w.heap.size := by omega
  obtain ⟨xb, hxb⟩ : ∃ xb, xb = w.heap.size := ⟨_, rfl⟩
  obtain ⟨wa, hwa⟩ : ∃ wa : World, wa = w.alloc (.cells #[.int .i64 (la.d : Nat), .slice a la.ps.length c] 104) := ⟨_, rfl⟩
  have HX : Hid (Blk wa xb #[.int .i64 (la.d : Nat), .slice a la.ps.length c] 104) := by rw [hwa, hxb]; exact Blk.new _ _ _
  have HKa : Hid (PK B p w wa) := by rw [hwa]; exact (PK.refl B p w).alloc hB _
  have HPa : Hid (PB B p l wa) := by rw [hwa]; exact h.below ((Below.refl _ w).alloc (Nat.le_refl _) _)
  have Hxp : Hid (xb ≠ p) := by show _ ≠ _; omega
  have HPs := Lib.hid (fun w' (k : PK B p w w') => (RowAt.below hps (hb.trans k.bel) hw : PairsIn w' _ la.ps))
  have Hpw := Lib.hid (fun w' (k : PK B p w w') => hpow.below ((hb.trans k.bel).mono hw))
  have HBx : Hid (∀ w', PK B p w w' → B ≤ w'.heap.size) := fun w' k => Nat.le_trans hB k.size
  have Hq := Lib.hid hq
  have Hw1 := Lib.hid (pwrite_any B p l [32, 123] wa HPa.out (by simp; omega) (HBx.out _ HKa.out))
  clear h hps hpow hb hq
  go_enter Tryz.func83, Tryz.ntmps83
  go_wp2_with fail
  rw [← hwa, ← hxb]
  clear hwa hxb hge
  refine Hw1.out.mono ?_
  rintro e w1 ⟨rfl, hp1, hk1⟩
  have HP1 := Lib.hid hp1; have HK1 := Lib.hid (HKa.out.trans hk1)
  have HX1 := Lib.hid (hk1.blk HX.out Hxp.out (by decide))
  have hc := (Blk.drew HX1.out).cell
  have hlv := lev_at la.d d4 la.d rfl
  have hd0 : (0 : Int) ≤ la.d := by omega
  have hd5 : (la.d : Int) < 5 := by omega
  have Hb2 : Hid (Calls Tryz.prog 43 #[.pointer (some ⟨p, 0, none⟩), .int .u8 ((levC la.d).toNat : Int)] w1.drew fun e w' => e = .returned .nilIface ∧ PB B p ((l ++ [32, 123]) ++ levT la.d) w' ∧ PK B p w1.drew w') := pbyte_any B p (l ++ [32, 123]) (levC la.d) w1.drew (HP1.out.below ((Below.refl _ w1).drew)) (by simp; omega) (by simpa using HBx.out _ HK1.out)
  clear hp1 hk1 Hw1 HX HKa HPa
  go_wp2_with fail
  go_region_held3 (fun w' => w'.cell? ⟨xb, 0, none⟩ = some (.int .i64 (la.d : Nat))) (first | exact hc 0 | exact (hk2.blk (Blk.drew HX1.out) Hxp.out (by decide)).cell 0) ((first
    | (refine Hb2.out.mono ?_; rintro e w2 ⟨rfl, hp2, hk2⟩)))
  · have HP2 := Lib.hid hp2
    have HK2 := Lib.hid ((HK1.out.trans ((PK.refl B p w1).drew)).trans hk2)
    have HX2 := Lib.hid (hk2.blk (Blk.drew HX1.out) Hxp.out (by decide))
    have hc2x := HX2.out.cell
    clear hp2 hk2 hlv hc Hb2 HX1 HK1 HP1
    (try simp only [Exit.then])
    go_wp2_with fail
    go_loopg [5, 20] la.ps.length (fun g _ vi wx => ∃ k : Nat, k + g = la.ps.length ∧ vi = .int .i64 k ∧ Hid (PB B p (((l ++ [32, 123]) ++ levT la.d) ++ (la.ps.take k).flatMap pairT) wx) ∧ Hid (PK B p w wx))
    case atStart => exact ⟨0, by omega, rfl, by rw [List.take_zero, List.flatMap_nil, List.append_nil]; exact HP2, HK2⟩
    case round =>
      obtain ⟨k, hk, rfl, HP, HK⟩ := hrel
      by_cases hlt : k < la.ps.length
      · obtain ⟨q, hqk⟩ : ∃ q, la.ps[k]? = some q := ⟨_, List.getElem?_eq_getElem hlt⟩
        have hlt' : (k : Int) < la.ps.length := by omega
        obtain ⟨b, rfl, -, q0, q1⟩ := PairsIn.at (HPs.out wr HK.out) hqk
        obtain ⟨g1, g2⟩ := Hq.out q (List.mem_of_getElem? hqk)
        have hnx : (la.ps.take (k + 1)).flatMap pairT = (la.ps.take k).flatMap pairT ++ pairT q := by
          rw [List.take_add_one, hqk]; simp
        have Hnx := Lib.hid hnx
        have hln : (((l ++ [32, 123]) ++ levT la.d) ++ (la.ps.take k).flatMap pairT).length ≤ l.length + 1000 := by
          have e : ∀ ps : List (Nat × Nat), (∀ q ∈ ps, q.1 ≤ 1073741824 ∧ q.2 ≤ 4) → (ps.flatMap pairT).length ≤ ps.length * 30 := fun ps => by
            induction ps with
            | nil => intro _; exact Nat.zero_le _
            | cons p r ih =>
              intro hq
              have h1 := (hq p List.mem_cons_self).1
              have h2 := Lib.itoa_length_le (p.1 : Int) (by omega) (by omega)
              have h3 := ih fun x hx => hq x (List.mem_cons_of_mem _ hx)
              rw [List.flatMap_cons, List.length_append, List.length_cons, Nat.succ_mul]
              have : (pairT p).length = (Lib.itoa (p.1 : Int)).length + 3 := by unfold pairT; simp [levT_C]
              omega
          have h1 := e (la.ps.take k) (fun x hx => Hq.out x (List.mem_of_mem_take hx))
          have h2 : (la.ps.take k).length ≤ 12 := by rw [List.length_take]; omega
          simp only [List.length_append, List.length_cons, List.length_nil, levT_C]
          omega
        have hitl := Lib.itoa_length_le (q.1 : Int) (by omega) (by omega)
        obtain ⟨T, hTT⟩ : ∃ T, ((l ++ [32, 123]) ++ levT la.d) ++ (la.ps.take k).flatMap pairT = T := ⟨_, rfl⟩
        have HT := Lib.hid hTT
        rw [hTT] at HP hln
        obtain ⟨zb, hzb⟩ : ∃ zb, zb = wr.heap.size := ⟨_, rfl⟩
        obtain ⟨wz, hwz⟩ : ∃ wz : World, wz = wr.alloc (.cells #[.int .u32 (q.1 : Nat), .int .i64 (q.2 : Nat)] 144) := ⟨_, rfl⟩
        have HZ : Hid (Blk wz zb #[.int .u32 (q.1 : Nat), .int .i64 (q.2 : Nat)] 144) := by rw [hwz, hzb]; exact Blk.new _ _ _
        have HKz : Hid (PK B p w wz) := by rw [hwz]; exact HK.out.alloc hB _
        have HPz : Hid (PB B p T wz) := by rw [hwz]; exact HP.out.below ((Below.refl _ wr).alloc (Nat.le_refl _) _)
        clear hqk hnx hTT
        go_wp2_with fail
        rw [← hwz, ← hzb]
        have hz := (Blk.drew HZ.out).cell
        have hcut := lev_slice q.2 g2
        have hw2 : IntKind.i64.wrap (q.1 : Int) = (q.1 : Int) := IntWalk.i64_in _ (by omega)
        have hw1 : IntKind.i64.wrap ((q.2 : Int) + 1) = (q.2 : Int) + 1 := IntWalk.i64_in _ (by omega)
        obtain ⟨t1, ht1⟩ : ∃ t1, [32] ++ Lib.itoa (q.1 : Int) = t1 := ⟨_, rfl⟩
        obtain ⟨t2, ht2⟩ : ∃ t2, t1 ++ [58] = t2 := ⟨_, rfl⟩
        obtain ⟨t3, ht3⟩ : ∃ t3, t2 ++ levT q.2 = t3 := ⟨_, rfl⟩
        have l1 : t1.length ≤ 22 := by rw [← ht1]; simp; omega
        have l2 : t2.length ≤ 23 := by rw [← ht2]; simp; omega
        have l3 : t3.length ≤ 24 := by rw [← ht3]; simp [levT_C]; omega
        have s1 : ∀ w, (Op.stringOp .add ⟨#[32]⟩ ⟨(Lib.itoa (q.1 : Int)).toArray⟩).run Tryz.prog w = .ok (S t1) w := by rw [← ht1]; exact run_saddP [32] (Lib.itoa (q.1 : Int)) (by simp; omega)
        have s2 : ∀ w, (Op.stringOp .add ⟨t1.toArray⟩ ⟨#[58]⟩).run Tryz.prog w = .ok (S t2) w := by rw [← ht2]; exact run_saddP t1 [58] (by simp; omega)
        have s3 : ∀ w, (Op.stringOp .add ⟨t2.toArray⟩ ⟨(levT q.2).toArray⟩).run Tryz.prog w = .ok (S t3) w := by rw [← ht3]; exact run_saddP t2 (levT q.2) (by simp [levT_C]; omega)
        have e3 : t3 = pairT q := by rw [← ht3, ← ht2, ← ht1]; unfold pairT; simp
        have E3 := Lib.hid e3
        clear ht1 ht2 ht3 e3
        have hsk := HK.out.size
        have hpw : p < wr.heap.size := HP.out.ge.2
        have Hit : Hid (Calls Tryz.prog 39 #[.int .i64 (q.1 : Int)] wz.drew fun e w' => e = .returned (S (Lib.itoa (q.1 : Int))) ∧ Below wz.drew.heap.size wz.drew w') := itoa_any (q.1 : Int) (by omega) (by omega) wz.drew (Hpw.out _ HKz.out.drew)
        have Hwr : Hid (∀ w2, Below wz.drew.heap.size wz.drew w2 → Calls Tryz.prog 42 #[.pointer (some ⟨p, 0, none⟩), S t3] w2 fun e w' => e = .returned (.tuple #[.int .i64 t3.length, .nilIface]) ∧ PB B p (((l ++ [32, 123]) ++ levT la.d) ++ (la.ps.take (k + 1)).flatMap pairT) w' ∧ PK B p w w' ∧ (w'.cell? ⟨zb, 0, none⟩ = some (.int .u32 (q.1 : Nat)) ∧ w'.cell? ⟨zb, 1, none⟩ = some (.int .i64 (q.2 : Nat)))) := fun w2 hb2 => by
          have hzp : zb ≠ p := by have h2 := hzb; omega
          have hd : wz.drew.heap.size = wz.heap.size := by simp
          have hs2 := hb2.size
          have hs3 := HBx.out _ HKz.out
          refine (pwrite_any B p T t3 w2 ((HPz.out.below ((Below.refl _ wz).drew)).below hb2) (by omega) (by omega)).mono ?_
          rintro e w3 ⟨rfl, hp3, hk3⟩
          have hzk := hk3.blk (Blk.below (Blk.drew HZ.out) hb2 (Blk.drew HZ.out).lt) hzp (by decide)
          refine ⟨rfl, ?_, (HKz.out.drew.trans (PK.of hb2 (by omega))).trans hk3, hzk.cell 0, hzk.cell 1⟩
          rw [Hnx.out, ← List.append_assoc, HT.out, ← E3.out]
          exact hp3
        have Hz2 : Hid (∀ w2, Below wz.drew.heap.size wz.drew w2 → w2.cell? ⟨zb, 0, none⟩ = some (.int .u32 (q.1 : Nat)) ∧ w2.cell? ⟨zb, 1, none⟩ = some (.int .i64 (q.2 : Nat))) := fun w2 hb2 => ⟨(Blk.below (Blk.drew HZ.out) hb2 (Blk.drew HZ.out).lt).cell 0, (Blk.below (Blk.drew HZ.out) hb2 (Blk.drew HZ.out).lt).cell 1⟩
        clear hwz hzb
        go_region_held3 (fun w' => w'.cell? ⟨zb, 0, none⟩ = some (.int .u32 (q.1 : Nat)) ∧ w'.cell? ⟨zb, 1, none⟩ = some (.int .i64 (q.2 : Nat))) (first | exact hz3 | exact Hz2.out _ hb2 | exact Hz2.out _ (Below.refl _ _)) ((first
          | (refine Hit.out.mono ?_; rintro e w2 ⟨rfl, hb2⟩)
          | (refine (Hwr.out _ hb2).mono ?_; rintro e w3 ⟨rfl, hp3, hk3, hz3⟩)))
        · have HP3 := Lib.hid hp3; have HK3 := Lib.hid hk3
          clear hp3 hk3 hz s1 s2 s3 Hit Hwr Hz2 HZ HKz HPz hcut
          (try simp only [Exit.inBlock, Exit.then])
          go_wp2_with fail
          go_roundg (la.ps.length - (k + 1))
          case measure => omega
          case rel => exact ⟨k + 1, by omega, by go_num, HP3, HK3⟩
      · obtain rfl : k = la.ps.length := by omega
        rw [List.take_length] at HP
        have hln : (((l ++ [32, 123]) ++ levT la.d) ++ la.ps.flatMap pairT).length ≤ l.length + 1000 := by
          have e : ∀ ps : List (Nat × Nat), (∀ q ∈ ps, q.1 ≤ 1073741824 ∧ q.2 ≤ 4) → (ps.flatMap pairT).length ≤ ps.length * 30 := fun ps => by
            induction ps with
            | nil => intro _; exact Nat.zero_le _
            | cons p r ih =>
              intro hq
              have h1 := (hq p List.mem_cons_self).1
              have h2 := Lib.itoa_length_le (p.1 : Int) (by omega) (by omega)
              have h3 := ih fun x hx => hq x (List.mem_cons_of_mem _ hx)
              rw [List.flatMap_cons, List.length_append, List.length_cons, Nat.succ_mul]
              have : (pairT p).length = (Lib.itoa (p.1 : Int)).length + 3 := by unfold pairT; simp [levT_C]
              omega
          have h1 := e la.ps Hq.out
          simp only [List.length_append, List.length_cons, List.length_nil, levT_C]
          omega
        have Hb5 := Lib.hid (pbyte_any B p _ 125 wr HP.out (by omega) (HBx.out _ HK.out))
        go_wp2_with fail
        refine Hb5.out.mono ?_
        rintro e w5 ⟨rfl, hp5, hk5⟩
        have HP5 := Lib.hid hp5; have HK5 := Lib.hid (HK.out.trans hk5)
        clear hp5 hk5
        go_wp2_with fail
        first | (refine bodyPost_end (results_none rfl _ _ _) rfl ?_) | (refine bodyPost_ret (results_none rfl _ _ _) rfl ?_)
        refine ⟨rfl, ?_, HK5.out⟩
        have := HP5.out
        have e3 : ((l ++ [32, 123] ++ levT la.d) ++ la.ps.flatMap pairT) ++ [125] = l ++ labT la := by unfold labT; simp
        rw [e3] at this
        exact this
end Go.Proofs.YtjjnidbggoaonaaGreatDoor
