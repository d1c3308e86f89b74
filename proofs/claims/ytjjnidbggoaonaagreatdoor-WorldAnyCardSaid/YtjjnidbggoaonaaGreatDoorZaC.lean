/- The reader of a configuration's text, its small parts. -/
import Derived.Test.YtjjnidbggoaonaaGreatDoorZaB
import Derived.Test.YtjjnidbggoaonaaGreatDoorShelf
import Derived.Lib.AppendIntMem
import Derived.Deep.DeepCutAuto
import Derived.Outline
import Derived.Test.YtjjnidbggoaonaaGreatDoorZaA
import Derived.Test.YtjjnidbggoaonaaGreatDoorShelfB
import Derived.Test.YtjjnidbggoaonaaGreatDoorShelfC
import Derived.Shelf.Strings.SlTrimAscii
import Derived.Lib.AtoiErrMem
import Derived.Lib.AtoiAllCases
import Derived.Lib.ParseIntBTie
/- The library's variables as a walk wants them; the library's contracts in one form; the operations' names. -/
namespace Go.Proofs.YtjjnidbggoaonaaGreatDoor
open Go.RowKit

/-- A string value of a list of bytes. -/
abbrev S (l : List UInt8) : Value := .string ⟨l.toArray⟩

theorem grow_below (w : World) (k : Nat) (os : Array Obj) : Below w.heap.size w (Go.Sort.grow (w.drewN k) os) :=
  ⟨rfl, rfl, rfl, by simp [Go.Sort.grow], fun i hi => by
    show (w.heap ++ os)[i]? = _
    rw [Array.getElem?_append_left hi]⟩

/-- The table of powers of ten, wherever the call's own blocks begin. -/
def HasPow (w : World) : Prop := Lib.TabIs Tryz.prog w "internal/strconv.uint64pow10" .u64 Lib.pow10Tab
def HasSp (w : World) : Prop := Lib.TabIs Tryz.prog w "strings.asciiSpace" .u8 Lib.asciiSpaceTab
theorem HasPow.below {w w' : World} (h : HasPow w) (hb : Below w.heap.size w w') : HasPow w' := Lib.tabBelow_of_tabIs h w' hb
theorem HasSp.below {w w' : World} (h : HasSp w) (hb : Below w.heap.size w w') : HasSp w' := Lib.tabBelow_of_tabIs h w' hb
theorem bel_from {w0 w w' : World} (h : Below w0.heap.size w0 w) (k : Below w.heap.size w w') : Below w0.heap.size w0 w' := h.trans (k.mono h.size)

theorem itoa_any (n : Int) (h0 : -9223372036854775808 ≤ n) (h1 : n ≤ 9223372036854775807) (w : World) (hp : HasPow w) :
    Calls Tryz.prog 39 #[.int .i64 n] w fun e w' => e = .returned (S (Lib.itoa n)) ∧ Below w.heap.size w w' :=
  (Tryz.strconv_Itoa n h0 h1 w hp).mono fun _ _ ⟨h, k, os, hw⟩ => ⟨h, hw ▸ grow_below w k os⟩

/-- The names of the operations. -/
def nameText : List UInt8 := [104, 97, 108, 116, 32, 108, 105, 32, 104, 105, 32, 97, 100, 100, 32, 115, 117, 98, 32, 109, 117, 108, 32, 100, 105, 118, 32, 114, 101, 109, 32, 97, 110, 100, 32, 111, 114, 32, 120, 111, 114, 32, 115, 104, 108, 32, 115, 104, 114, 32, 115, 97, 114, 32, 115, 108, 116, 32, 115, 108, 116, 117, 32, 101, 113, 32, 97, 100, 100, 105, 32, 108, 100, 32, 108, 119, 32, 108, 98, 32, 115, 116, 32, 115, 119, 32, 115, 98, 32, 98, 101, 113, 32, 98, 110, 101, 32, 98, 108, 116, 32, 98, 108, 116, 117, 32, 106, 97, 108, 32, 106, 114, 32, 102, 97, 100, 100, 32, 102, 115, 117, 98, 32, 102, 109, 117, 108, 32, 102, 100, 105, 118, 32, 102, 109, 105, 110, 32, 102, 109, 97, 120, 32, 102, 108, 116, 32, 102, 101, 113, 32, 102, 115, 113, 114, 116, 32, 102, 116, 111, 105, 32, 105, 116, 111, 102, 32, 102, 99, 108, 97, 115, 115, 32, 116, 114, 97, 112]
def names : List (List UInt8) := [[104, 97, 108, 116], [108, 105], [104, 105], [97, 100, 100], [115, 117, 98], [109, 117, 108], [100, 105, 118], [114, 101, 109], [97, 110, 100], [111, 114], [120, 111, 114], [115, 104, 108], [115, 104, 114], [115, 97, 114], [115, 108, 116], [115, 108, 116, 117], [101, 113], [97, 100, 100, 105], [108, 100], [108, 119], [108, 98], [115, 116], [115, 119], [115, 98], [98, 101, 113], [98, 110, 101], [98, 108, 116], [98, 108, 116, 117], [106, 97, 108], [106, 114], [102, 97, 100, 100], [102, 115, 117, 98], [102, 109, 117, 108], [102, 100, 105, 118], [102, 109, 105, 110], [102, 109, 97, 120], [102, 108, 116], [102, 101, 113], [102, 115, 113, 114, 116], [102, 116, 111, 105], [105, 116, 111, 102], [102, 99, 108, 97, 115, 115], [116, 114, 97, 112]]
theorem names_len : names.length = 43 := rfl
theorem names_fields : Lib.fields nameText = names := by decide +kernel
theorem names_ascii : ∀ (j : Nat) (b : UInt8), nameText[j]? = some b → b.toNat < 128 := by
  intro j b h
  have h1 : nameText.all (fun b => decide (b.toNat < 128)) = true := by decide +kernel
  have := List.all_eq_true.1 h1 b (List.mem_of_getElem? h)
  simpa using this
def namesV : Array Value := (names.map fun l => S l).toArray
def nm (k : Nat) : List UInt8 := names.getD k []
theorem namesV_at (k : Nat) (h : k < 43) : namesV[k]? = some (S (nm k)) := by
  have hl : k < names.length := by rw [names_len]; exact h
  unfold namesV nm
  simp [hl, List.getD]
theorem fields_names (w : World) (hs : HasSp w) :
    Calls Tryz.prog 58 #[S nameText] w fun e w' => e = .returned (.slice (some ⟨w.heap.size, 0, none⟩) 43 43) ∧ w' = w.alloc (.cells namesV 9) := by
  refine (Tryz.strings_Fields_laid ⟨nameText.toArray⟩ w (by decide +kernel) (by simpa using names_ascii) hs).mono ?_
  rintro e w' ⟨rfl, rfl⟩
  have h : Lib.fields (ByteArray.mk nameText.toArray).data.toList = names := by simpa using names_fields
  rw [h]
  exact ⟨rfl, rfl⟩

end Go.Proofs.YtjjnidbggoaonaaGreatDoor
/- What the library's functions give the world's texts: Split, Cut, HasPrefix. -/
namespace Go.Proofs.YtjjnidbggoaonaaGreatDoor
open Go.RowKit
attribute [local irreducible] World.setCell World.alloc World.drew Calls Code.wp
attribute [local go_sem] Oper.semAt_some

/-- A variable that holds an error, or none. -/
def HasErr (g : Nat) (w : World) : Prop := ∃ ev, w.cell? ⟨g, 0, none⟩ = some ev ∧ (ev = .nilIface ∨ ∃ te pe, ev = .iface te pe)
theorem HasErr.below {g : Nat} {w w' : World} (h : HasErr g w) (hb : Below w.heap.size w w') : HasErr g w' := by
  obtain ⟨ev, h1, h2⟩ := h
  exact ⟨ev, by rw [hb.cell (p := ⟨g, 0, none⟩) (cell_lt h1)]; exact h1, h2⟩
/-- The cell of bytealg.MaxLen holds some number. -/
def HasMax (w : World) : Prop := ∃ m, w.cell? ⟨3, 0, none⟩ = some (.int .i64 m)
theorem HasMax.below {w w' : World} (h : HasMax w) (hb : Below w.heap.size w w') : HasMax w' := by
  obtain ⟨m, hm⟩ := h
  exact ⟨m, by rw [hb.cell (p := ⟨_, 0, none⟩) (cell_lt hm)]; exact hm⟩
/-- All that the assembler reads of the library's variables. -/
structure HasAs (w : World) : Prop where
  pow : HasPow w
  sp : HasSp w
  er : HasErr 7 w
  mx : HasMax w
theorem HasAs.below {w w' : World} (h : HasAs w) (hb : Below w.heap.size w w') : HasAs w' :=
  ⟨h.pow.below hb, h.sp.below hb, h.er.below hb, h.mx.below hb⟩
theorem sz (l : List UInt8) : (⟨l.toArray⟩ : ByteArray).size = l.length := by show l.toArray.size = _; simp
theorem dl (l : List UInt8) : (⟨l.toArray⟩ : ByteArray).data.toList = l := by simp
/-- Where a byte stands: -1, or how many are ahead of it. -/
theorem ix_any (l : List UInt8) (c : Nat) (w : World) :
    Calls Tryz.prog 60 #[S l, .int .u8 c] w fun e w' => e = .returned (.int .i64 (Lib.indexByte l (UInt8.ofNat c))) ∧ w = w' := by
  refine (Tryz.strings_IndexByte ⟨l.toArray⟩ c w).mono ?_
  rintro e w' ⟨rfl, rfl⟩
  rw [dl]
  exact ⟨by simp, rfl⟩
theorem split_any (c : UInt8) (l : List UInt8) (hl : l.length ≤ 1000000) (w : World) (h : HasMax w) :
    Calls Tryz.prog 30 #[S l, S [c]] w fun e w' => e = .returned (.slice (some ⟨w.heap.size, 0, none⟩) (partsAt c l).length (partsAt c l).length) ∧ w' = w.alloc (.cells ((partsAt c l).map S).toArray 9) := by
  obtain ⟨m, hm⟩ := h
  refine (Tryz.strings_Split ⟨l.toArray⟩ ⟨[c].toArray⟩ m w (by rw [sz]; omega) hm (by rw [sz]; exact Nat.le_refl _)).mono ?_
  rintro e w' ⟨rfl, rfl⟩
  have hd := Lib.splitB_data ⟨[c].toArray⟩ 0 (Lib.countB ⟨l.toArray⟩ ⟨[c].toArray⟩) ⟨l.toArray⟩
  have hp := split_parts c l.length l (Nat.le_refl _)
  rw [dl, dl] at hd
  have hcnt : Lib.countB ⟨l.toArray⟩ ⟨[c].toArray⟩ = Lib.count l [c] := by unfold Lib.countB; rw [dl, dl]
  rw [hcnt, hp] at hd
  have h1 := Lib.splitB_all ⟨[c].toArray⟩ (by rw [sz]; exact Nat.le_refl _) 0 _ ⟨l.toArray⟩ hcnt
  rw [hcnt]
  have h2 : (partsAt c l).length = Lib.count l [c] + 1 := by rw [← hd, List.length_map, h1]
  rw [h2, ← hd, List.map_map]
  exact ⟨rfl, rfl⟩
theorem below_dr (w : World) (n : Nat) : Below w.heap.size w (w.drewN n) := ⟨rfl, rfl, rfl, Nat.le_refl _, fun _ _ => rfl⟩
theorem cut_any (c : UInt8) (l : List UInt8) (hl : l.length ≤ 1000000) (w : World) (h : HasMax w) :
    Calls Tryz.prog 37 #[S l, S [c]] w fun e w' => e = .returned (.tuple #[S (match cutAt c l with | none => l | some p => p.1), S (match cutAt c l with | none => [] | some p => p.2), .bool (cutAt c l).isSome]) ∧ Below w.heap.size w w' := by
  obtain ⟨m, hm⟩ := h
  refine (Tryz.strings_Cut ⟨l.toArray⟩ ⟨[c].toArray⟩ m w (by rw [sz]; omega) hm).mono ?_
  rintro e w' ⟨rfl, n, rfl⟩
  rw [dl, dl, cut_eq]
  refine ⟨?_, below_dr w n⟩
  cases cutAt c l <;> rfl
theorem pre_any (l p : List UInt8) (w : World) : Calls Tryz.prog 102 #[S l, S p] w fun e w' => e = .returned (.bool (p.isPrefixOf l)) ∧ w = w' :=
  (Tryz.strings_HasPrefix ⟨l.toArray⟩ ⟨p.toArray⟩ w).mono fun e w' ⟨h1, h2⟩ => ⟨by rw [h1, dl, dl]; rfl, h2.symm⟩
end Go.Proofs.YtjjnidbggoaonaaGreatDoor
/- The reader's small functions: number, word, over, num. -/
namespace Go.Proofs.YtjjnidbggoaonaaGreatDoor
open Go.RowKit Go.Lib
attribute [local irreducible] World.setCell World.alloc World.drew Calls Code.wp
attribute [local go_sem] Oper.semAt_some

/-- All that the world's texts read of the library's variables. -/
structure HasWo (w : World) : Prop where
  base : HasAs w
  es : HasErr 6 w
theorem HasWo.below {w w' : World} (h : HasWo w) (hb : Below w.heap.size w w') : HasWo w' := ⟨h.base.below hb, h.es.below hb⟩
def numF (a : Nat) (l : List UInt8) : Nat := l.foldl (fun r c => r * 10 + (c.toNat - 48)) a
theorem numF_le : ∀ (l : List UInt8) (acc : Nat), acc ≤ numF acc l
  | [], acc => Nat.le_refl _
  | c :: l, acc => by
    have := numF_le l (acc * 10 + (c.toNat - 48))
    show acc ≤ numF (acc * 10 + (c.toNat - 48)) l
    omega
theorem parseM_ok (M : Nat) (hM : M ≤ 18446744073709551615) : ∀ (l : List UInt8) (acc : Nat), (∀ c ∈ l, 48 ≤ c.toNat ∧ c.toNat ≤ 57) → numF acc l ≤ M → parseUintM M acc l = .ok (numF acc l)
  | [], acc, _, _ => rfl
  | c :: l, acc, hd, hM2 => by
    have h1 := numF_le l (acc * 10 + (c.toNat - 48))
    have hM3 : numF (acc * 10 + (c.toNat - 48)) l ≤ M := hM2
    unfold parseUintM
    rw [if_pos (hd c (by simp)), if_neg (by omega), if_neg (by omega)]
    exact parseM_ok M hM l _ (fun d hd' => hd d (by simp [hd'])) hM3
/-- A number and an error: the error is nil just if the number is n. -/
def NumErr (k : IntKind) (n : Option Int) (v : Value) : Prop := (∃ x, n = some x ∧ v = .tuple #[.int k x, .nilIface]) ∨ n = none ∧ ∃ y t b, v = .tuple #[.int k y, .iface t (.pointer (some ⟨b, 0, none⟩))]
def endOk : Lib.NumEnd Int → Option Int
  | .ok v => some v
  | _ => none
def atoiO (l : List UInt8) : Option Int := endOk (Lib.atoiAll l)
theorem atoiO_bd {l : List UInt8} {v : Int} (h : atoiO l = some v) : -9223372036854775808 ≤ v ∧ v ≤ 9223372036854775807 := by
  unfold atoiO at h
  rcases e : Lib.atoiAll l with x | _ | _ <;> rw [e] at h <;> simp [endOk] at h
  subst h
  exact Lib.atoiAll_bounds e
theorem atoi_any (l : List UInt8) (hl : l.length ≤ 100000) (w : World) (h : HasWo w) :
    Calls Tryz.prog 129 #[S l] w fun e w' => ∃ v, e = .returned v ∧ NumErr .i64 (atoiO l) v ∧ Below w.heap.size w w' := by
  have hs : (⟨l.toArray⟩ : ByteArray).size = l.length := by show l.toArray.size = _; simp
  have hd : (⟨l.toArray⟩ : ByteArray).data.toList = l := by simp
  obtain ⟨ev, hv, he⟩ := h.es
  obtain ⟨ev', hv', he'⟩ := h.base.er
  unfold atoiO
  rcases e : Lib.atoiAll l with v | _ | _
  · refine (Any.strconv_Atoi_ok Tryz.laysC172 ⟨l.toArray⟩ (by omega) v (by rw [hd]; exact e) w).mono ?_
    rintro _ w' ⟨rfl, hw⟩
    refine ⟨_, rfl, .inl ⟨v, rfl, rfl⟩, ?_⟩
    rcases hw with rfl | ⟨t, rfl⟩
    · exact Below.refl _ _
    · exact Lib.bytesWorld_below _ _ _
  · refine (Any.strconv_Atoi_syntax Tryz.laysC172 ⟨l.toArray⟩ (by omega) (by rw [hd]; exact e) ev w hv he).mono ?_
    rintro _ w' ⟨N, rfl, _, _, hb⟩
    exact ⟨_, rfl, .inr ⟨rfl, _, _, _, rfl⟩, hb⟩
  · refine (Any.strconv_Atoi_range Tryz.laysC172 ⟨l.toArray⟩ (by omega) (by rw [hd]; exact e) ev' w hv' he').mono ?_
    rintro _ w' ⟨N, rfl, _, _, hb⟩
    exact ⟨_, rfl, .inr ⟨rfl, _, _, _, rfl⟩, hb⟩

theorem atoiO_itoa (n : Int) (h0 : 0 ≤ n) (h1 : n ≤ 9223372036854775807) : atoiO (itoa n) = some n := by
  obtain ⟨u, rfl⟩ : ∃ u : Nat, n = (u : Int) := ⟨n.toNat, by omega⟩
  have hi : itoa (u : Int) = decDigits u := by unfold itoa; rw [if_neg (by omega)]; simp
  rw [hi]
  have hd := dec_digit u
  have hne := dec_ne u
  have hp : parseMag (decDigits u) = .ok u := by
    unfold parseMag
    rw [if_neg hne, ← parseUintM_64]
    have hn : numF 0 (decDigits u) = u := num_dec u
    have := parseM_ok 18446744073709551615 (by decide) (decDigits u) 0 hd (by rw [hn]; omega)
    rw [this, hn]
  unfold atoiO
  rcases hl : decDigits u with _ | ⟨c, r⟩
  · exact absurd hl hne
  · have hc := hd c (by rw [hl]; simp)
    rw [atoiAll_plain c r (by omega) (by omega), ← hl, hp]
    unfold signless
    simp only []
    rw [if_neg (by omega)]
    rfl
theorem trimLeft_any (l : List UInt8) (w : World) : Calls Tryz.prog 86 #[S l, S [32]] w fun e w' => e = .returned (S (trimL l)) ∧ w = w' := by
  refine (Tryz.strings_TrimLeft_one ⟨l.toArray⟩ 32 (by decide) w).mono ?_
  rintro e w' ⟨rfl, rfl⟩
  rw [dl]
  exact ⟨rfl, rfl⟩
theorem trim1_any (l : List UInt8) (hl : l.length ≤ 1000000) (w : World) : Calls Tryz.prog 85 #[S l, S [32]] w fun e w' => e = .returned (S (trimS l)) ∧ Below w.heap.size w w' := by
  refine (Tryz.strings_Trim_one ⟨l.toArray⟩ 32 (by decide) w (by rw [sz]; omega)).mono ?_
  rintro e w' ⟨rfl, hw⟩
  rw [dl]
  refine ⟨rfl, ?_⟩
  rcases hw with rfl | rfl
  · exact Below.refl _ _
  · exact (Below.refl _ _).drew
end Go.Proofs.YtjjnidbggoaonaaGreatDoor
/- The reader's words and numbers. -/
namespace Go.Proofs.YtjjnidbggoaonaaGreatDoor
open Go.RowKit
attribute [local irreducible] World.setCell World.alloc World.drew Calls Code.wp
attribute [local go_sem] Oper.semAt_some

theorem numW_some {s : List UInt8} {k : Nat} (h : numW s = some k) : s = Lib.decDigits k ∧ k < 2147483648 := by
  unfold numW at h
  split at h
  · rename_i hc
    simp only [Option.some.injEq] at h
    subst h
    exact ⟨hc.2.2.2.symm, hc.2.2.1⟩
  · cases h
theorem numW_dec {k : Nat} (h : k < 2147483648) : numW (Lib.decDigits k) = some k := by
  have := numW_itoa (x := (k : Int)) ⟨by omega, by omega⟩
  rw [itoa_pos (by omega)] at this
  simpa using this
theorem numW_atoi {s : List UInt8} {k : Nat} (h : numW s = some k) : atoiO s = some (k : Int) := by
  obtain ⟨rfl, hk⟩ := numW_some h
  have := atoiO_itoa (k : Int) (by omega) (by omega)
  rw [itoa_pos (by omega)] at this
  simpa using this
theorem eql_err {w : World} (ty : TypeId) (p : Value) : (binOp .eql 92 (.iface ty p) .nilIface).run Tryz.prog w = .ok (.bool false) w := run_eql_held_nil _ _ _ _ (by kernel_rfl)
theorem eql_nil {w : World} : (binOp .eql 92 .nilIface .nilIface).run Tryz.prog w = .ok (.bool true) w := run_eql_nil_nil _ _ (by kernel_rfl)
set_option maxRecDepth 100000 in
set_option maxHeartbeats 1000000 in
theorem number_any (s : List UInt8) (hl : s.length ≤ 100000) (w : World) (h : HasWo w) :
    Calls Tryz.prog 87 #[S s] w fun e w' => ∃ n : Int, e = .returned (.tuple #[.int .i64 n, .bool (numW s).isSome]) ∧ (∀ k, numW s = some k → n = (k : Int)) ∧ Below w.heap.size w w' := by
  have H := Lib.hid h
  have Hat := Lib.hid (atoi_any s hl w h)
  clear h
  have Hno : Hid (∀ k, numW s = some k → atoiO s = some (k : Int)) := fun k hk => numW_atoi hk
  have Hsm : Hid (∀ k, numW s = some k → k < 2147483648 ∧ Lib.itoa (k : Int) = s) := fun k hk => by
    obtain ⟨h1, h2⟩ := numW_some hk
    exact ⟨h2, by rw [itoa_pos (by omega)]; simpa using h1.symm⟩
  go_enter Tryz.func87, Tryz.ntmps87
  go_wp2_with fail
  refine Hat.out.mono ?_
  rintro e w1 ⟨v, rfl, hv, hb1⟩
  have HB1 := Lib.hid hb1
  clear hb1
  rcases hv with ⟨x, hx, rfl⟩ | ⟨hx, y, t, b, rfl⟩
  · have hbd := atoiO_bd hx
    have he := fun w => eql_nil (w := w)
    have Hx := Lib.hid hx
    clear hx
    by_cases h0 : 0 ≤ x
    · by_cases h1 : x < 2147483648
      · have Hit := Lib.hid (fun w h => itoa_any x hbd.1 hbd.2 w h)
        by_cases hs : Lib.itoa x = s
        · have hn : numW s = some x.toNat := by rw [← hs]; exact numW_itoa ⟨h0, h1⟩
          have Hn := Lib.hid hn
          have hsb : (Lib.itoa x == s) = true := by simpa using hs
          clear hn hs
          go_wp2_with fail
          refine (Hit.out _ (H.out.below HB1.out).base.pow).mono ?_
          rintro e w2 ⟨rfl, hb2⟩
          have HB2 := Lib.hid (bel_from HB1.out hb2)
          clear hb2
          go_wp2_with fail
          go_ret2
          exact ⟨x, by rw [Hn.out]; rfl, (fun k hk => by rw [Hn.out] at hk; cases hk; omega), HB2.out⟩
        · have hn : numW s = none := by
            cases e : numW s with
            | none => rfl
            | some k =>
              have e1 := Hno.out k e
              rw [Hx.out] at e1
              have e2 : x = (k : Int) := Option.some.inj e1
              exact absurd (by rw [e2]; exact (Hsm.out k e).2) hs
          have Hn := Lib.hid hn
          have hsb : (Lib.itoa x == s) = false := by simpa using hs
          clear hn hs
          go_wp2_with fail
          refine (Hit.out _ (H.out.below HB1.out).base.pow).mono ?_
          rintro e w2 ⟨rfl, hb2⟩
          have HB2 := Lib.hid (bel_from HB1.out hb2)
          clear hb2
          go_wp2_with fail
          go_ret2
          exact ⟨x, by rw [Hn.out]; rfl, (fun k hk => by rw [Hn.out] at hk; cases hk), HB2.out⟩
      · have hn : numW s = none := by
          cases e : numW s with
          | none => rfl
          | some k =>
            have e1 := Hno.out k e
            rw [Hx.out] at e1
            have e2 : x = (k : Int) := Option.some.inj e1
            have := (Hsm.out k e).1
            omega
        have Hn := Lib.hid hn
        clear hn
        go_wp2_with fail
        go_ret2
        exact ⟨x, by rw [Hn.out]; rfl, (fun k hk => by rw [Hn.out] at hk; cases hk), HB1.out⟩
    · have hn : numW s = none := by
        cases e : numW s with
        | none => rfl
        | some k =>
          have e1 := Hno.out k e
          rw [Hx.out] at e1
          have e2 : x = (k : Int) := Option.some.inj e1
          omega
      have Hn := Lib.hid hn
      clear hn
      go_wp2_with fail
      go_ret2
      exact ⟨x, by rw [Hn.out]; rfl, (fun k hk => by rw [Hn.out] at hk; cases hk), HB1.out⟩
  · have hn : numW s = none := by
      cases e : numW s with
      | none => rfl
      | some k => rw [Hno.out k e] at hx; cases hx
    have Hn := Lib.hid hn
    have he := fun w => eql_err (w := w) t (.pointer (some ⟨b, 0, none⟩))
    clear hn hx
    go_wp2_with fail
    go_ret2
    exact ⟨y, by rw [Hn.out]; rfl, (fun k hk => by rw [Hn.out] at hk; cases hk), HB1.out⟩
end Go.Proofs.YtjjnidbggoaonaaGreatDoor
/- The reader: its words, its numbers, its end, its levels. -/
namespace Go.Proofs.YtjjnidbggoaonaaGreatDoor
open Go.RowKit
attribute [local irreducible] World.setCell World.alloc World.drew Calls Code.wp
attribute [local go_sem] Oper.semAt_some

/-- The library's variables hold what they should, in a world that grew from one of g0 blocks. -/
def WoIn (g0 : Nat) (w : World) : Prop := ∃ w0, HasWo w0 ∧ w0.heap.size = g0 ∧ Below g0 w0 w
theorem WoIn.has {g0 : Nat} {w : World} (h : WoIn g0 w) : HasWo w := by
  obtain ⟨w0, h1, rfl, h2⟩ := h
  exact h1.below h2
theorem WoIn.le {g0 : Nat} {w : World} (h : WoIn g0 w) : g0 ≤ w.heap.size := by
  obtain ⟨w0, h1, rfl, h2⟩ := h
  exact h2.size
theorem WoIn.kept {g0 : Nat} {w w' : World} (h : WoIn g0 w) {S : Nat → Prop} (k : Kept S w w') (hs : ∀ b, S b → g0 ≤ b) : WoIn g0 w' := by
  obtain ⟨w0, h1, rfl, h2⟩ := h
  refine ⟨w0, h1, rfl, h2.trans (k.below h2.size fun b hb hS => ?_)⟩
  have := hs b hS
  omega
theorem WoIn.start {w : World} (h : HasWo w) : WoIn w.heap.size w := ⟨w, h, rfl, Below.refl _ _⟩
/-- A reader in memory. -/
def RdW (w : World) (rb : Nat) (r : Rd) : Prop := Blk w rb #[S r.s, .bool r.bad] 122
theorem trimL_len (l : List UInt8) : (trimL l).length ≤ l.length := by
  unfold trimL
  exact List.Sublist.length_le (List.dropWhile_sublist _)
/-- What is ahead of a byte, and what is behind it. -/
def cutW (c : UInt8) (l : List UInt8) : List UInt8 := ((cutAt c l).map (·.1)).getD l
def cutR (c : UInt8) (l : List UInt8) : List UInt8 := ((cutAt c l).map (·.2)).getD []
theorem cutW_any (c : UInt8) (l : List UInt8) (hl : l.length ≤ 1000000) (w : World) (h : HasMax w) :
    Calls Tryz.prog 37 #[S l, S [c]] w fun e w' => e = .returned (.tuple #[S (cutW c l), S (cutR c l), .bool (cutAt c l).isSome]) ∧ Below w.heap.size w w' := by
  refine (cut_any c l hl w h).mono ?_
  rintro e w' ⟨rfl, hb⟩
  refine ⟨?_, hb⟩
  unfold cutW cutR
  cases cutAt c l <;> rfl
theorem word_eq (r : Rd) : r.word = (⟨cutR 32 (trimL r.s), r.bad || decide (cutW 32 (trimL r.s) = [])⟩, cutW 32 (trimL r.s)) := by
  unfold Rd.word cutW cutR
  cases cutAt 32 (trimL r.s) with
  | none => rfl
  | some p => rfl
set_option maxRecDepth 100000 in
set_option maxHeartbeats 2000000 in
theorem word_any (g0 rb : Nat) (r : Rd) (hl : r.s.length ≤ 100000) (hg : g0 ≤ rb) (w : World) (h : WoIn g0 w) (hR : RdW w rb r) :
    Calls Tryz.prog 52 #[.pointer (some ⟨rb, 0, none⟩)] w fun e w' => e = .returned (S r.word.2) ∧ RdW w' rb r.word.1 ∧ Kept (· = rb) w w' := by
  have H := Lib.hid h
  have HR := Lib.hid hR
  have hc := Blk.cell hR
  have hf := Blk.free hR
  have hlt := trimL_len r.s
  have HE := Lib.hid (word_eq r)
  have Htl := Lib.hid (fun w => trimLeft_any r.s w)
  have Hcut := Lib.hid (fun w h => cutW_any 32 (trimL r.s) (by omega) w h)
  obtain ⟨W, hW⟩ : ∃ W, cutW 32 (trimL r.s) = W := ⟨_, rfl⟩
  obtain ⟨R, hRr⟩ : ∃ R, cutR 32 (trimL r.s) = R := ⟨_, rfl⟩
  rw [hW, hRr] at Hcut HE
  obtain ⟨T, hT⟩ : ∃ T, trimL r.s = T := ⟨_, rfl⟩
  rw [hT] at Htl Hcut
  clear h hR hT hW hRr hlt
  go_enter Tryz.func52, Tryz.ntmps52
  go_wp2_with fail
  refine (Htl.out _).mono ?_
  rintro e w' ⟨rfl, rfl⟩
  have HR1 : Hid (Blk (w.setCell ⟨rb, 0, none⟩ (S T)) rb #[S T, .bool r.bad] 122) := (Blk.set HR.out 0 (S T)).cells rfl
  have HK1 : Hid (Kept (· = rb) w (w.setCell ⟨rb, 0, none⟩ (S T))) := (Kept.refl _ w).setIn rb 0 _ rfl
  have hc1 := HR1.out.cell
  go_wp2_with fail
  refine (Hcut.out _ (H.out.kept HK1.out (fun b e => by rw [e]; exact hg)).has.base.mx).mono ?_
  rintro e w2 ⟨rfl, hb2⟩
  have HR2 := Lib.hid (HR1.out.below hb2 HR1.out.lt)
  have HK2 : Hid (Kept (· = rb) w w2) := HK1.out.trans (Kept.of_below hb2)
  have hc2 := HR2.out.cell
  have hf2 := HR2.out.free
  have HR3 : Hid (Blk (w2.setCell ⟨rb, 0, none⟩ (S R)) rb #[S R, .bool r.bad] 122) := (HR2.out.set 0 (S R)).cells rfl
  have HK3 : Hid (Kept (· = rb) w (w2.setCell ⟨rb, 0, none⟩ (S R))) := HK2.out.setIn rb 0 _ rfl
  clear hb2 hc hf hc1
  by_cases h0 : W = []
  · have hb0 : (W == []) = true := by simpa using h0
    have HF : Hid (r.word = (⟨R, true⟩, W)) := by show _ = _; rw [HE.out, decide_eq_true h0, Bool.or_true]
    subst h0
    clear hb0
    go_wp2_with fail
    go_ret
    refine ⟨by rw [HF.out]; rfl, ?_, HK3.out.setIn rb 1 _ rfl⟩
    rw [HF.out]
    exact (HR3.out.set 1 (.bool true)).cells rfl
  · have hb0 : (W == []) = false := by simpa using h0
    have HF : Hid (r.word = (⟨R, r.bad⟩, W)) := by show _ = _; rw [HE.out, decide_eq_false h0, Bool.or_false]
    clear h0
    go_wp2_with fail
    go_ret
    refine ⟨by rw [HF.out]; rfl, ?_, HK3.out⟩
    rw [HF.out]
    exact HR3.out
theorem dropWhile_nil {p : UInt8 → Bool} : ∀ {l : List UInt8}, l.dropWhile p = [] ↔ l.all p = true
  | [] => by simp
  | c :: r => by
    rw [List.dropWhile_cons, List.all_cons]
    cases hp : p c
    · simp
    · simp only [if_true, Bool.true_and]
      exact dropWhile_nil
theorem trimS_nil (l : List UInt8) : trimS l = [] ↔ trimL l = [] := by
  have e : trimL l = [] ↔ l.all (· == 32) = true := dropWhile_nil
  unfold trimS
  constructor
  · intro h
    have h1 : (trimL l.reverse).reverse.all (· == 32) = true := dropWhile_nil.1 h
    rw [List.all_reverse] at h1
    have h2 : trimL l.reverse = [] := by
      cases hx : trimL l.reverse with
      | nil => rfl
      | cons c r =>
        exfalso
        have hc : (c == (32 : UInt8)) = false := by
          have h3 : ∀ (l : List UInt8) c r, l.dropWhile (· == (32 : UInt8)) = c :: r → (c == (32 : UInt8)) = false := fun l => by
            induction l with
            | nil => intro c r h; cases h
            | cons x y ih =>
              intro c r h
              rw [List.dropWhile_cons] at h
              split at h
              · exact ih c r h
              · rename_i hn; cases h; simpa using hn
          exact h3 _ c r hx
        rw [hx, List.all_cons, hc] at h1
        cases h1
    have h3 : l.reverse.all (· == 32) = true := dropWhile_nil.1 h2
    rw [List.all_reverse] at h3
    exact e.2 h3
  · intro h
    have h1 := e.1 h
    have h2 : trimL l.reverse = [] := dropWhile_nil.2 (by rw [List.all_reverse]; exact h1)
    rw [h2]; rfl
set_option maxHeartbeats 1000000 in
theorem over_any (rb : Nat) (r : Rd) (hl : r.s.length ≤ 100000) (w : World) (hR : RdW w rb r) :
    Calls Tryz.prog 54 #[.pointer (some ⟨rb, 0, none⟩)] w fun e w' => e = .returned (.bool r.over) ∧ Below w.heap.size w w' := by
  have hc := Blk.cell hR
  have Ht := Lib.hid (fun w => trim1_any r.s (by omega) w)
  have Ho : Hid (r.over = (trimS r.s == [])) := by
    show decide (trimL r.s = []) = _
    by_cases h : trimL r.s = []
    · rw [decide_eq_true h, (trimS_nil r.s).2 h]; rfl
    · rw [decide_eq_false h]
      have : trimS r.s ≠ [] := fun e => h ((trimS_nil r.s).1 e)
      symm; simpa using this
  generalize trimS r.s = T at *
  clear hR
  go_enter Tryz.func54, Tryz.ntmps54
  go_wp2_with fail
  refine (Ht.out _).mono ?_
  rintro e w1 ⟨rfl, hb1⟩
  have HB1 := Lib.hid hb1
  clear hb1
  cases hT : (T == [])
  all_goals
    have HT := Lib.hid hT
    go_wp2_with fail
    go_ret
    exact ⟨by rw [Ho.out, HT.out]; rfl, HB1.out⟩
theorem num_eq (r : Rd) : r.num = (if (numW r.word.2).isSome = true then r.word.1 else r.word.1.fail, (((numW r.word.2).getD 0 : Nat) : Int)) := by
  unfold Rd.num
  cases numW r.word.2 with
  | none => rfl
  | some k => rfl
theorem word_len (r : Rd) : r.word.2.length ≤ r.s.length ∧ r.word.1.s.length ≤ r.s.length := by
  have h0 := trimL_len r.s
  rw [word_eq]
  unfold cutW cutR
  have key : ∀ l : List UInt8, (((cutAt 32 l).map (·.1)).getD l).length ≤ l.length := fun l => by
    induction l with
    | nil => simp [cutAt]
    | cons c t ih =>
      rw [cutAt]
      split
      · simp
      · cases hx : cutAt 32 t with
        | none => simp
        | some p => rw [hx] at ih; simp at ih ⊢; omega
  have key2 : ∀ l : List UInt8, (((cutAt 32 l).map (·.2)).getD []).length ≤ l.length := fun l => by
    induction l with
    | nil => simp [cutAt]
    | cons c t ih =>
      rw [cutAt]
      split
      · simp
      · cases hx : cutAt 32 t with
        | none => simp
        | some p => rw [hx] at ih; simp at ih ⊢; omega
  have h1 := key (trimL r.s)
  have h2 := key2 (trimL r.s)
  exact ⟨by simp only; omega, by simp only; omega⟩
set_option maxRecDepth 100000 in
set_option maxHeartbeats 1000000 in
theorem rnum_any (g0 rb : Nat) (r : Rd) (hl : r.s.length ≤ 100000) (hg : g0 ≤ rb) (w : World) (h : WoIn g0 w) (hR : RdW w rb r) :
    Calls Tryz.prog 53 #[.pointer (some ⟨rb, 0, none⟩)] w fun e w' => e = .returned (.int .i64 r.num.2) ∧ RdW w' rb r.num.1 ∧ Kept (· = rb) w w' := by
  have H := Lib.hid h
  have Hw := Lib.hid (word_any g0 rb r hl hg w h hR)
  have hwl := (word_len r).1
  have HE := Lib.hid (num_eq r)
  have Hn := Lib.hid (fun w h => number_any r.word.2 (by omega) w h)
  obtain ⟨⟨r1, W⟩, hrw⟩ : ∃ p, r.word = p := ⟨_, rfl⟩
  rw [hrw] at Hw HE Hn
  simp only at Hw HE Hn
  clear h hR hwl hrw
  go_enter Tryz.func53, Tryz.ntmps53
  go_wp2_with fail
  refine Hw.out.mono ?_
  rintro e w1 ⟨rfl, hR1, hk1⟩
  have HR1 := Lib.hid hR1
  have HK1 := Lib.hid hk1
  have H1 := Lib.hid (H.out.kept hk1 (fun b e => by rw [e]; exact hg))
  clear hR1 hk1
  go_wp2_with fail
  refine (Hn.out _ H1.out.has).mono ?_
  rintro e w2 ⟨n, rfl, hn, hb2⟩
  have HR2 : Hid (RdW w2 rb r1) := Blk.below HR1.out hb2 (Blk.lt HR1.out)
  have HK2 : Hid (Kept (· = rb) w w2) := HK1.out.trans (Kept.of_below hb2)
  have hc2 := Blk.cell HR2.out
  have hf2 := Blk.free HR2.out
  clear hb2
  cases hW : numW W with
  | none =>
    have HF : Hid (r.num = (r1.fail, 0)) := by show _ = _; rw [HE.out, hW]; rfl
    clear hn hW
    go_wp2_with fail
    go_ret
    refine ⟨by rw [HF.out]; rfl, ?_, HK2.out.setIn rb 1 _ rfl⟩
    rw [HF.out]
    exact (Blk.set HR2.out 1 (.bool true)).cells rfl
  | some k =>
    obtain rfl := hn k hW
    have HF : Hid (r.num = (r1, (k : Int))) := by show _ = _; rw [HE.out, hW]; rfl
    clear hn hW
    go_wp2_with fail
    go_ret
    refine ⟨by rw [HF.out]; rfl, ?_, HK2.out⟩
    rw [HF.out]
    exact HR2.out
theorem cutW_len (c : UInt8) (l : List UInt8) : (cutW c l).length ≤ l.length ∧ (cutR c l).length ≤ l.length := by
  unfold cutW cutR
  induction l with
  | nil => simp [cutAt]
  | cons x t ih =>
    rw [cutAt]
    split
    · simp
    · cases hx : cutAt c t with
      | none => simp
      | some p => rw [hx] at ih; simp at ih ⊢; omega
end Go.Proofs.YtjjnidbggoaonaaGreatDoor
/- The reader: levels of labels; bytes. -/
namespace Go.Proofs.YtjjnidbggoaonaaGreatDoor
open Go.RowKit
attribute [local irreducible] World.setCell World.alloc World.drew Calls Code.wp
attribute [local go_sem] Oper.semAt_some

theorem index_any (s sub : List UInt8) (hs : s.length ≤ 1000000) (w : World) (h : HasMax w) : Calls Tryz.prog 96 #[S s, S sub] w fun e w' => e = .returned (.int .i64 (Lib.index s sub)) ∧ w = w' := by
  obtain ⟨m, hm⟩ := h
  refine (Any.strings_Index (P := Tryz.prog) { Tryz.lays146 with } ⟨s.toArray⟩ ⟨sub.toArray⟩ m w (by rw [sz]; omega) hm).mono ?_
  rintro e w' ⟨rfl, rfl⟩
  rw [dl, dl]
  exact ⟨rfl, rfl⟩
def levels : List UInt8 := [42, 48, 49, 50, 51]
theorem lev_index (c : UInt8) : Lib.index levels [c] = (match levOf [c] with | some k => (k : Int) | none => -1) := by
  have h : ∀ n, n < 256 → Lib.index levels [UInt8.ofNat n] = (match levOf [UInt8.ofNat n] with | some k => (k : Int) | none => -1) := by decide +kernel
  have := h c.toNat (UInt8.toNat_lt c)
  rwa [UInt8.ofNat_toNat] at this
/-- What a level leaves of the reader. -/
def Rd.lev (r : Rd) (s : List UInt8) : Rd := if (levOf s).isSome = true then r else r.fail
set_option maxRecDepth 100000 in
set_option maxHeartbeats 1000000 in
theorem level_any (g0 rb : Nat) (r : Rd) (s : List UInt8) (_ : g0 ≤ rb) (w : World) (h : WoIn g0 w) (hR : RdW w rb r) :
    Calls Tryz.prog 130 #[.pointer (some ⟨rb, 0, none⟩), S s] w fun e w' => e = .returned (.int .i64 (((levOf s).getD 0 : Nat) : Int)) ∧ RdW w' rb (r.lev s) ∧ Kept (· = rb) w w' := by
  have HR := Lib.hid hR
  have hc := Blk.cell hR
  have hf := Blk.free hR
  have Hi := Lib.hid (index_any levels s (by decide) w h.has.base.mx)
  clear h hR
  by_cases h1 : s.length = 1
  · obtain ⟨c, rfl⟩ : ∃ c, s = [c] := List.length_eq_one_iff.1 h1
    rw [lev_index] at Hi
    have hl : ((([c] : List UInt8).length : Int) != 1) = false := rfl
    cases hk : levOf [c] with
    | none =>
      have Hk := Lib.hid hk
      rw [hk] at Hi
      simp only at Hi
      have HL : Hid (r.lev [c] = r.fail) := by show _ = _; unfold Rd.lev; rw [hk]; rfl
      clear hk
      go_enter Tryz.func130, Tryz.ntmps130
      go_wp2_with fail
      refine Hi.out.mono ?_
      rintro e w' ⟨rfl, rfl⟩
      go_wp2_with fail
      go_ret
      refine ⟨rfl, ?_, (Kept.refl _ _).setIn rb 1 _ rfl⟩
      rw [HL.out]
      exact (Blk.set HR.out 1 (.bool true)).cells rfl
    | some k =>
      rw [hk] at Hi
      simp only at Hi
      have HL : Hid (r.lev [c] = r) := by show _ = _; unfold Rd.lev; rw [hk]; rfl
      have hk0 : ¬ (k : Int) < 0 := by omega
      clear hk
      go_enter Tryz.func130, Tryz.ntmps130
      go_wp2_with fail
      refine Hi.out.mono ?_
      rintro e w' ⟨rfl, rfl⟩
      go_wp2_with fail
      go_ret
      refine ⟨rfl, ?_, Kept.refl _ _⟩
      rw [HL.out]
      exact HR.out
  · have hl : ((s.length : Int) != 1) = true := by simp; omega
    have hk : levOf s = none := by
      cases s with
      | nil => rfl
      | cons c t => cases t with
        | nil => exact absurd rfl h1
        | cons d u => rfl
    have HL : Hid (r.lev s = r.fail) := by show _ = _; unfold Rd.lev; rw [hk]; rfl
    have HK : Hid ((((levOf s).getD 0 : Nat) : Int) = 0) := by show _ = _; rw [hk]; rfl
    clear hk h1
    go_enter Tryz.func130, Tryz.ntmps130
    go_wp2_with fail
    refine Hi.out.mono ?_
    rintro e w' ⟨rfl, rfl⟩
    go_wp2_with fail
    go_ret
    refine ⟨by rw [HK.out]; rfl, ?_, (Kept.refl _ _).setIn rb 1 _ rfl⟩
    rw [HL.out]
    exact (Blk.set HR.out 1 (.bool true)).cells rfl
end Go.Proofs.YtjjnidbggoaonaaGreatDoor
