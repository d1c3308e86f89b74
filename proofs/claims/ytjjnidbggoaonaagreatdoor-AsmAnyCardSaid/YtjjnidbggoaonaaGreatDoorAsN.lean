/- The assembler's numbers: ParseUint as it is called; num. -/
import Derived.Test.YtjjnidbggoaonaaGreatDoorAsV
namespace Go.Proofs.YtjjnidbggoaonaaGreatDoor
open Go.RowKit
attribute [local irreducible] World.setCell World.alloc World.drew Calls Code.wp
attribute [local go_sem] Oper.semAt_some

/-- A number, or an error. -/
def PuE (x : Nat) (v : Value) : Prop := (x < 18446744073709551616 ∧ v = .tuple #[.int .u64 (x : Int), .nilIface]) ∨ (18446744073709551616 ≤ x ∧ ∃ y t p, v = .tuple #[.int .u64 y, .iface t p])
set_option maxRecDepth 100000 in
set_option maxHeartbeats 1000000 in
theorem pu_any (b : Nat) (hb : b = 10 ∨ b = 16) (l : List UInt8) (hl : l ≠ []) (hlen : l.length ≤ 100000) (hall : l.all (okC b) = true) (w : World) (h : HasErr 7 w) :
    Calls Tryz.prog 103 #[S l, .int .i64 b, .int .i64 64] w fun e w' => ∃ v, e = .returned v ∧ PuE (spell b l) v ∧ Below w.heap.size w w' := by
  have Hin := Lib.hid (pu_in b hb l hl hlen hall w)
  have hlim : (⟨l.toArray⟩ : ByteArray).size ≤ 281474976710656 := by rw [sz]; omega
  have Hlim := Lib.hid hlim; have H := Lib.hid h
  clear h hlim hall hl hb
  go_enter Tryz.func103, Tryz.ntmps103
  go_wp2_with fail
  refine Hin.out.mono ?_
  rintro e w1 ⟨v, rfl, hv, hb1⟩
  have HB := Lib.hid hb1; clear hb1
  obtain ⟨ev', hv', he'⟩ := (H.out.below HB.out)
  have Hv' := Lib.hid hv'; have He' := Lib.hid he'
  clear hv' he'
  obtain ⟨x, hx⟩ : ∃ x, spell b l = x := ⟨_, rfl⟩
  rw [hx] at hv
  have Hx := Lib.hid hx
  clear hx
  rcases hv with ⟨h1, rfl⟩ | ⟨h1, rfl⟩
  · have H1 := Lib.hid h1
    clear h1
    go_wp2_with fail
    go_ret2
    exact ⟨_, rfl, by rw [Hx.out]; exact .inl ⟨H1.out, rfl⟩, HB.out⟩
  · have H1 := Lib.hid h1
    clear h1
    go_wp2_with fail
    refine (Any.strconv_toError_range Tryz.laysC245 _ ⟨l.toArray⟩ b 64 ev' _ Hlim.out Hv'.out He'.out).mono ?_
    rintro _ w2 ⟨M, rfl, _, _, hb⟩
    have HB2 := Lib.hid (bel_from HB.out hb); clear hb
    go_wp2_with fail
    go_ret2
    exact ⟨_, rfl, by rw [Hx.out]; exact .inr ⟨H1.out, _, _, _, rfl⟩, HB2.out⟩
theorem neq_err {w : World} (ty : TypeId) (p : Value) : (binOp .neq 92 (.iface ty p) .nilIface).run Tryz.prog w = .ok (.bool true) w := run_neq_held_nil _ _ _ _ (by kernel_rfl)
theorem neq_nil {w : World} : (binOp .neq 92 .nilIface .nilIface).run Tryz.prog w = .ok (.bool false) w := run_neq_nil_nil _ _ (by kernel_rfl)

/-- How a number's word begins. -/
theorem numParts_cases (l : List UInt8) : (∃ r, l = 45 :: r ∧ numParts l = (r, true, 10)) ∨ (∃ r, l = 48 :: 120 :: r ∧ ([45] : List UInt8).isPrefixOf l = false ∧ numParts l = (r, false, 16)) ∨ (([45] : List UInt8).isPrefixOf l = false ∧ ([48, 120] : List UInt8).isPrefixOf l = false ∧ numParts l = (l, false, 10)) := by
  unfold numParts
  split
  · exact .inl ⟨_, rfl, rfl⟩
  · exact .inr (.inl ⟨_, rfl, rfl, rfl⟩)
  · rename_i h1 h2
    refine .inr (.inr ⟨?_, ?_, rfl⟩)
    · cases l with
      | nil => rfl
      | cons c r =>
        have : c ≠ 45 := fun e => h1 r (by rw [e])
        simp [List.isPrefixOf, Ne.symm this]
    · cases l with
      | nil => rfl
      | cons c r =>
        cases r with
        | nil => simp [List.isPrefixOf]
        | cons d q =>
          by_cases e : c = 48
          · have : d ≠ 120 := fun e2 => h2 q (by rw [e, e2])
            simp [List.isPrefixOf, Ne.symm this]
          · simp [List.isPrefixOf, Ne.symm e]
/-- Digits and their base, as a number and an error. -/
def numX (D : List UInt8) (neg : Bool) (b : Nat) : Int × Nat :=
  if D = [] then (0, 10)
  else if D.all (okC b) = false then (0, 10)
  else if 18446744073709551616 ≤ spell b D ∨ (neg = true ∧ 9223372036854775808 < spell b D) ∨ (neg = false ∧ b = 10 ∧ 9223372036854775808 ≤ spell b D) then (0, 11)
  else if neg = true then (-(spell b D : Int), 0) else (sgn64 (spell b D), 0)
theorem numA_B (l : List UInt8) : numA l = numX (numParts l).1 (numParts l).2.1 (numParts l).2.2 := by
  have e : ∀ b, (if b = 10 then digB else hexB) = okC b := by
    intro b; funext c; unfold okC; split <;> rfl
  unfold numA numX
  simp only [e]
/-- Which digit it is, if any. -/
theorem digit_cases (c : UInt8) : (48 ≤ c.toNat ∧ c.toNat ≤ 57 ∧ ∀ b, okC b c = true) ∨ (97 ≤ c.toNat ∧ c.toNat ≤ 102 ∧ okC 10 c = false ∧ okC 16 c = true) ∨ ((c.toNat < 48 ∨ 57 < c.toNat) ∧ (c.toNat < 97 ∨ 102 < c.toNat) ∧ okC 10 c = false ∧ okC 16 c = false) := by
  have h : ∀ d, d < 256 → (48 ≤ d ∧ d ≤ 57 ∧ digB (UInt8.ofNat d) = true ∧ hexB (UInt8.ofNat d) = true) ∨ (97 ≤ d ∧ d ≤ 102 ∧ okC 10 (UInt8.ofNat d) = false ∧ okC 16 (UInt8.ofNat d) = true) ∨ ((d < 48 ∨ 57 < d) ∧ (d < 97 ∨ 102 < d) ∧ okC 10 (UInt8.ofNat d) = false ∧ okC 16 (UInt8.ofNat d) = false) := by decide +kernel
  have := h c.toNat (UInt8.toNat_lt c)
  rw [UInt8.ofNat_toNat] at this
  rcases this with ⟨h1, h2, h3, h4⟩ | h | h
  · exact .inl ⟨h1, h2, fun b => by unfold okC; split; exact h3; exact h4⟩
  · exact .inr (.inl h)
  · exact .inr (.inr h)
set_option maxRecDepth 100000 in
set_option maxHeartbeats 4000000 in
theorem num_any (l : List UInt8) (hlen : l.length ≤ 100000) (w : World) (h : HasAs w) :
    Calls Tryz.prog 65 #[S l] w fun e w' => e = .returned (.tuple #[.int .i64 (numA l).1, .int .i64 (numA l).2]) ∧ Below w.heap.size w w' := by
  have H := Lib.hid h; clear h
  rw [numA_B]
  have hpc := numParts_cases l
  obtain ⟨D, neg, b, hp, hbs, hDl⟩ : ∃ (D : List UInt8) (neg : Bool) (b : Nat), numParts l = (D, neg, b) ∧ (b = 10 ∨ b = 16 ∧ neg = false) ∧ D.length ≤ l.length := by
    rcases hpc with ⟨r, e, h⟩ | ⟨r, e, _, h⟩ | ⟨_, _, h⟩
    · exact ⟨_, _, _, h, .inl rfl, by rw [e]; simp⟩
    · exact ⟨_, _, _, h, .inr ⟨rfl, rfl⟩, by rw [e]; simp; omega⟩
    · exact ⟨_, _, _, h, .inl rfl, Nat.le_refl _⟩
  rw [hp] at hpc ⊢
  simp only
  clear hp
  have h45 : ([45] : List UInt8).isPrefixOf l = neg := by
    rcases hpc with ⟨r, e, h⟩ | ⟨r, _, e, h⟩ | ⟨e, _, h⟩
    · cases h; rw [e]; rfl
    · cases h; exact e
    · cases h; exact e
  have hdrop : ∀ k, k ≤ l.length → (⟨l.toArray⟩ : ByteArray).extract k l.length = ⟨(l.drop k).toArray⟩ := fun k hk => by
    apply ByteArray.ext
    simp [List.take_of_length_le]
  have H45 := Lib.hid h45; have Hbs := Lib.hid hbs; have Hpc := Lib.hid hpc; have Hdr := Lib.hid hdrop
  clear hpc hdrop hbs h45
  go_enter Tryz.func65, Tryz.ntmps65
  go_upto_if 14 with (refine (pre_any _ _ _).mono ?_; rintro e w' ⟨rfl, rfl⟩)
  rw [H45.out]
  go_cut [4, 6] (fun s4 s6 wx => s4 = S D ∧ s6 = .int .i64 b ∧ wx = w)
  case first =>
    rcases Hpc.out with ⟨r, e, h⟩ | ⟨r, e, e1, h⟩ | ⟨e1, e2, h⟩
    · cases h
      have hd1 := Hdr.out 1 (by rw [e]; simp)
      have hl1 : (1 : Int) ≤ l.length := by rw [e]; simp; omega
      have He := Lib.hid e
      have hd : l.drop 1 = D := by rw [e]; rfl
      rw [hd] at hd1
      clear e hd
      go_wp2_with fail
      go_meet
      exact ⟨rfl, rfl, rfl⟩
    · cases h
      have hd1 := Hdr.out 2 (by rw [e]; simp)
      have hl1 : (2 : Int) ≤ l.length := by rw [e]; simp; omega
      have h0x : ([48, 120] : List UInt8).isPrefixOf l = true := by rw [e]; rfl
      have hd : l.drop 2 = D := by rw [e]; rfl
      rw [hd] at hd1
      clear e hd
      go_wp2_with (refine (pre_any _ _ _).mono ?_; rintro e w' ⟨rfl, rfl⟩)
      go_meet
      exact ⟨rfl, rfl, rfl⟩
    · cases h
      go_wp2_with (refine (pre_any _ _ _).mono ?_; rintro e w' ⟨rfl, rfl⟩)
      go_meet
      exact ⟨rfl, rfl, rfl⟩
  case rest =>
  obtain ⟨rfl, rfl, rfl⟩ := hcut
  by_cases hD : D = []
  · have hf : Hid (numX D neg b = (0, 10)) := if_pos hD
    subst hD
    go_wp2_with fail
    go_ret2
    exact ⟨by rw [hf.out]; rfl, Below.refl _ _⟩
  have hemp : (D == []) = false := by simpa using hD
  have HD := Lib.hid hD
  have hcv := Lib.run_convert_string_bytes (P := Tryz.prog) wc 9 27 5 ⟨D.toArray⟩ (u := .string) Tryz.underlying9 Tryz.underlying27 Tryz.underlying5
  have hB : ∀ j c, D[j]? = some c → (Lib.bytesWorld wc 5 ⟨D.toArray⟩).cell? ⟨wc.heap.size, j, none⟩ = some (.int .u8 (c.toNat : Int)) := fun j c hj => by
    have hjl := (List.getElem?_eq_some_iff.1 hj).1
    rw [Lib.bytesWorld_cell wc 5 ⟨D.toArray⟩ j (by rw [sz]; omega), dl]
    simp [List.getD, hj]
  have HBw := Lib.hid (Lib.bytesWorld_below wc 5 ⟨D.toArray⟩)
  obtain ⟨W1, hW1⟩ : ∃ W1, W1 = Lib.bytesWorld wc 5 ⟨D.toArray⟩ := ⟨_, rfl⟩
  rw [← hW1] at hcv hB HBw
  rw [sz] at hcv
  have HBc := Lib.hid hB
  clear hW1 hB hD
  go_wp2_with fail
  go_loopg [8, 26] D.length (fun g _ vi wx => ∃ k : Nat, k + g = D.length ∧ vi = .int .i64 k ∧ wx = W1 ∧ Hid (∀ j c, j < k → D[j]? = some c → okC b c = true))
  case atStart => exact ⟨0, by omega, rfl, rfl, Lib.hid fun j c hj => absurd hj (by omega)⟩
  case round =>
    obtain ⟨k, hk, rfl, rfl, hh⟩ := hrel
    by_cases hkn : k < D.length
    · obtain ⟨c, hc⟩ : ∃ c, D[k]? = some c := ⟨_, List.getElem?_eq_getElem hkn⟩
      have hcell := HBc.out k c hc
      have hkn' : (k : Int) < D.length := by omega
      have HC := Lib.hid hc
      have Hnx : Hid (okC b c = true → ∀ j d, j < k + 1 → D[j]? = some d → okC b d = true) := fun hc1 j d hj hd => by
        by_cases e : j = k
        · subst e; rw [HC.out] at hd; cases hd; exact hc1
        · exact hh.out j d (by omega) hd
      have Hbad : Hid (okC b c = false → numX D neg b = (0, 10)) := fun hc1 => by
        unfold numX
        rw [if_neg HD.out, if_pos]
        rw [Bool.eq_false_iff]
        intro ha
        have := List.all_eq_true.1 ha c (List.mem_of_getElem? HC.out)
        rw [hc1] at this; cases this
      clear hc hh
      rcases digit_cases c with ⟨h1, h2, h3⟩ | ⟨h1, h2, h3, h4⟩ | ⟨h1, h2, h3, h4⟩
      · have H3 := Lib.hid (h3 b)
        have g1 : (48 : Int) ≤ c.toNat := by omega
        have g2 : (c.toNat : Int) ≤ 57 := by omega
        clear h3
        go_wp2_with fail
        go_roundg (D.length - (k + 1))
        case measure => omega
        case rel => exact ⟨k + 1, by omega, by go_num, rfl, Lib.hid (Hnx.out H3.out)⟩
      · have g1 : (97 : Int) ≤ c.toNat := by omega
        have g2 : (c.toNat : Int) ≤ 102 := by omega
        rcases Hbs.out with rfl | ⟨rfl, rfl⟩
        · have hf : Hid (numX D neg 10 = (0, 10)) := Hbad.out h3
          clear h3 h4
          go_wp2_with fail
          go_ret2
          exact ⟨by rw [hf.out]; rfl, HBw.out⟩
        · have H4 := Lib.hid h4
          clear h3 h4
          go_wp2_with fail
          go_roundg (D.length - (k + 1))
          case measure => omega
          case rel => exact ⟨k + 1, by omega, by go_num, rfl, Lib.hid (Hnx.out H4.out)⟩
      · have hf : Hid (numX D neg b = (0, 10)) := by
          refine Hbad.out ?_
          rcases Hbs.out with rfl | ⟨rfl, -⟩
          · exact h3
          · exact h4
        clear h3 h4 Hbad Hnx
        rcases Hbs.out with rfl | ⟨rfl, rfl⟩
        all_goals rcases h1 with h1 | h1
        all_goals rcases h2 with h2 | h2
        all_goals try (exfalso; omega)
        all_goals go_wp2_with fail
        all_goals go_ret2
        all_goals exact ⟨by rw [hf.out]; rfl, HBw.out⟩
    · obtain rfl : k = D.length := by omega
      have Hall : Hid (D.all (okC b) = true) := List.all_eq_true.2 fun c hc => by
        obtain ⟨j, hj⟩ := List.getElem?_of_mem hc
        exact hh.out j c (List.getElem?_eq_some_iff.1 hj).1 hj
      clear hh
      go_wp2_with fail
      refine (pu_any b (Hbs.out.imp id fun h => h.1) D HD.out (by omega) Hall.out _ (H.out.er.below HBw.out)).mono ?_
      rintro e w2 ⟨v, rfl, hv, hb2⟩
      have Hb2 := Lib.hid (bel_from HBw.out hb2)
      have Hn : Hid (numX D neg b = if 18446744073709551616 ≤ spell b D ∨ (neg = true ∧ 9223372036854775808 < spell b D) ∨ (neg = false ∧ b = 10 ∧ 9223372036854775808 ≤ spell b D) then (0, 11) else if neg = true then (-(spell b D : Int), 0) else (sgn64 (spell b D), 0)) := by
        show _ = _
        unfold numX; rw [if_neg HD.out, if_neg (by rw [Hall.out]; simp)]
      obtain ⟨x, hx⟩ : ∃ x, spell b D = x := ⟨_, rfl⟩
      rw [hx] at hv Hn
      clear hb2 hx
      rcases hv with ⟨hx, rfl⟩ | ⟨hx, y, t, p, rfl⟩
      · have hne := fun w => neq_nil (w := w)
        have hx0 : ¬ 18446744073709551616 ≤ x := by omega
        rcases Hbs.out with rfl | ⟨rfl, rfl⟩
        · cases neg
          · by_cases h : 9223372036854775808 ≤ x
            · have hf : Hid (numX D false 10 = (0, 11)) := by show _ = _; rw [Hn.out, if_pos (.inr (.inr ⟨rfl, rfl, h⟩))]
              have h' : (9223372036854775807 : Int) < x := by omega
              clear h hx hx0
              go_wp2_with fail
              go_ret2
              exact ⟨by rw [hf.out]; rfl, Hb2.out⟩
            · have hf : Hid (numX D false 10 = (sgn64 x, 0)) := by show _ = _; rw [Hn.out, if_neg (by simp; omega), if_neg (by simp)]
              have h' : ¬ (9223372036854775807 : Int) < x := by omega
              have hy : IntKind.i64.wrap (x : Int) = sgn64 x := by rw [IntKind.wrap_i64]; unfold sgn64; split <;> omega
              clear h hx hx0
              go_wp2_with fail
              go_ret2
              exact ⟨by rw [hf.out]; rfl, Hb2.out⟩
          · by_cases h : 9223372036854775808 < x
            · have hf : Hid (numX D true 10 = (0, 11)) := by show _ = _; rw [Hn.out, if_pos (.inr (.inl ⟨rfl, h⟩))]
              have h' : (9223372036854775808 : Int) < x := by omega
              clear h hx hx0
              go_wp2_with fail
              go_ret2
              exact ⟨by rw [hf.out]; rfl, Hb2.out⟩
            · have hf : Hid (numX D true 10 = (-(x : Int), 0)) := by show _ = _; rw [Hn.out, if_neg (by simp; omega), if_pos rfl]
              have h' : ¬ (9223372036854775808 : Int) < x := by omega
              obtain ⟨y, hy⟩ : ∃ y, IntKind.i64.wrap (x : Int) = y := ⟨_, rfl⟩
              have hy2 : IntKind.i64.wrap (-y) = -(x : Int) := by rw [← hy, IntKind.wrap_i64, IntKind.wrap_i64]; omega
              clear h hx hx0
              go_wp2_with fail
              go_ret2
              exact ⟨by rw [hf.out]; rfl, Hb2.out⟩
        · have hf : Hid (numX D false 16 = (sgn64 x, 0)) := by show _ = _; rw [Hn.out, if_neg (by simp; omega), if_neg (by simp)]
          have hy : IntKind.i64.wrap (x : Int) = sgn64 x := by rw [IntKind.wrap_i64]; unfold sgn64; split <;> omega
          clear hx hx0
          go_wp2_with fail
          go_ret2
          exact ⟨by rw [hf.out]; rfl, Hb2.out⟩
      · have hf : Hid (numX D neg b = (0, 11)) := by show _ = _; rw [Hn.out, if_pos (.inl hx)]
        have hne := fun w => neq_err (w := w) t p
        clear hx
        go_wp2_with fail
        go_ret2
        exact ⟨by rw [hf.out]; rfl, Hb2.out⟩
end Go.Proofs.YtjjnidbggoaonaaGreatDoor
