/- The assembler's small functions: blank, name. What the library's functions give it. -/
import Derived.Test.YtjjnidbggoaonaaGreatDoorAsS
import Derived.Test.YtjjnidbggoaonaaGreatDoorAsU
import Derived.Test.YtjjnidbggoaonaaGreatDoorShelf
import Derived.Test.YtjjnidbggoaonaaGreatDoorIsaT
import Derived.Shelf.Strings.SlTrimAscii
import Derived.Lib.AtoiErrMem
namespace Go.Proofs.YtjjnidbggoaonaaGreatDoor
open Go.RowKit
attribute [local irreducible] World.setCell World.alloc World.drew Calls Code.wp
attribute [local go_sem] Oper.semAt_some

/-- A variable that holds an error, or none. -/
def HasErr (g : Nat) (w : World) : Prop := ∃ ev, w.cell? ⟨g, 0, none⟩ = some ev ∧ (ev = .nilIface ∨ ∃ te pe, ev = .iface te pe)
theorem HasErr.below {g : Nat} {w w' : World} (h : HasErr g w) (hb : Below w.heap.size w w') : HasErr g w' := by
  obtain ⟨ev, h1, h2⟩ := h
  exact ⟨ev, by rw [hb.cell (p := ⟨g, 0, none⟩) (cell_lt h1)]; exact h1, h2⟩
/-- The cell of bytealg.MaxLen holds some number. -/
def HasMax (w : World) : Prop := ∃ m, w.cell? ⟨3, 0, none⟩ = some (.int .i64 m)
theorem HasMax.below {w w' : World} (h : HasMax w) (hb : Below w.heap.size w w') : HasMax w' := by
  obtain ⟨m, hm⟩ := h
  exact ⟨m, by rw [hb.cell (p := ⟨_, 0, none⟩) (cell_lt hm)]; exact hm⟩
/-- All that the assembler reads of the library's variables. -/
structure HasAs (w : World) : Prop where
  pow : HasPow w
  sp : HasSp w
  er : HasErr 7 w
  mx : HasMax w
theorem HasAs.below {w w' : World} (h : HasAs w) (hb : Below w.heap.size w w') : HasAs w' :=
  ⟨h.pow.below hb, h.sp.below hb, h.er.below hb, h.mx.below hb⟩

theorem sz (l : List UInt8) : (⟨l.toArray⟩ : ByteArray).size = l.length := by show l.toArray.size = _; simp
theorem dl (l : List UInt8) : (⟨l.toArray⟩ : ByteArray).data.toList = l := by simp
theorem ascii_bl : ∀ (j : Nat) (b : UInt8), ([32, 9] : List UInt8)[j]? = some b → b.toNat < 128 := ascii_of_all (by decide)
theorem trim_any (l : List UInt8) (hl : l.length ≤ 1000000) (w : World) :
    Calls Tryz.prog 85 #[S l, S [32, 9]] w fun e w' => e = .returned (S (trimB l)) ∧ Below w.heap.size w w' := by
  have := Any.strings_Trim_laid Tryz.lays160 (by kernel_rfl) ⟨l.toArray⟩ ⟨[32, 9].toArray⟩ w (by rw [sz]; omega) (by decide) (by rw [dl]; exact ascii_bl)
  rw [dl, dl, trimS_eq] at this
  exact this
theorem blank_any (l : List UInt8) (hl : l.length ≤ 1000000) (w : World) :
    Calls Tryz.prog 61 #[S l] w fun e w' => e = .returned (S (trimB l)) ∧ Below w.heap.size w w' := by
  have Ht := Lib.hid (fun w => trim_any l hl w)
  go_enter Tryz.func61, Tryz.ntmps61
  go_wp2_with fail
  refine (Ht.out _).mono ?_
  rintro e w' ⟨rfl, hb⟩
  go_wp2_with fail
  go_ret
  exact ⟨rfl, hb⟩
/-- Where a byte stands: -1, or how many are ahead of it. -/
theorem ix_any (l : List UInt8) (c : Nat) (w : World) :
    Calls Tryz.prog 60 #[S l, .int .u8 c] w fun e w' => e = .returned (.int .i64 (Lib.indexByte l (UInt8.ofNat c))) ∧ w = w' := by
  refine (Tryz.strings_IndexByte ⟨l.toArray⟩ c w).mono ?_
  rintro e w' ⟨rfl, rfl⟩
  rw [dl]
  exact ⟨by simp, rfl⟩
theorem split_any (c : UInt8) (l : List UInt8) (hl : l.length ≤ 1000000) (w : World) (h : HasMax w) :
    Calls Tryz.prog 30 #[S l, S [c]] w fun e w' => e = .returned (.slice (some ⟨w.heap.size, 0, none⟩) (partsAt c l).length (partsAt c l).length) ∧ w' = w.alloc (.cells ((partsAt c l).map S).toArray 9) := by
  obtain ⟨m, hm⟩ := h
  refine (Tryz.strings_Split ⟨l.toArray⟩ ⟨[c].toArray⟩ m w (by rw [sz]; omega) hm (by rw [sz]; exact Nat.le_refl _)).mono ?_
  rintro e w' ⟨rfl, rfl⟩
  have hd := Lib.splitB_data ⟨[c].toArray⟩ 0 (Lib.countB ⟨l.toArray⟩ ⟨[c].toArray⟩) ⟨l.toArray⟩
  have hp := split_parts c l.length l (Nat.le_refl _)
  rw [dl, dl] at hd
  have hcnt : Lib.countB ⟨l.toArray⟩ ⟨[c].toArray⟩ = Lib.count l [c] := by unfold Lib.countB; rw [dl, dl]
  rw [hcnt, hp] at hd
  have h1 := Lib.splitB_all ⟨[c].toArray⟩ (by rw [sz]; exact Nat.le_refl _) 0 _ ⟨l.toArray⟩ hcnt
  rw [hcnt]
  have h2 : (partsAt c l).length = Lib.count l [c] + 1 := by rw [← hd, List.length_map, h1]
  rw [h2, ← hd, List.map_map]
  exact ⟨rfl, rfl⟩
theorem below_dr (w : World) (n : Nat) : Below w.heap.size w (w.drewN n) := ⟨rfl, rfl, rfl, Nat.le_refl _, fun _ _ => rfl⟩
theorem cut_any (c : UInt8) (l : List UInt8) (hl : l.length ≤ 1000000) (w : World) (h : HasMax w) :
    Calls Tryz.prog 37 #[S l, S [c]] w fun e w' => e = .returned (.tuple #[S (match cutAt c l with | none => l | some p => p.1), S (match cutAt c l with | none => [] | some p => p.2), .bool (cutAt c l).isSome]) ∧ Below w.heap.size w w' := by
  obtain ⟨m, hm⟩ := h
  refine (Tryz.strings_Cut ⟨l.toArray⟩ ⟨[c].toArray⟩ m w (by rw [sz]; omega) hm).mono ?_
  rintro e w' ⟨rfl, n, rfl⟩
  rw [dl, dl, cut_eq]
  refine ⟨?_, below_dr w n⟩
  cases cutAt c l <;> rfl
theorem pre_any (l p : List UInt8) (w : World) : Calls Tryz.prog 102 #[S l, S p] w fun e w' => e = .returned (.bool (p.isPrefixOf l)) ∧ w = w' :=
  (Tryz.strings_HasPrefix ⟨l.toArray⟩ ⟨p.toArray⟩ w).mono fun e w' ⟨h1, h2⟩ => ⟨by rw [h1, dl, dl]; rfl, h2.symm⟩
theorem suf_any (l p : List UInt8) (hl : l.length ≤ 1000000) (w : World) : Calls Tryz.prog 106 #[S l, S p] w fun e w' => e = .returned (.bool (p.isSuffixOf l)) ∧ w = w' :=
  (Tryz.strings_HasSuffix ⟨l.toArray⟩ ⟨p.toArray⟩ w (by rw [sz]; omega)).mono fun e w' ⟨h1, h2⟩ => ⟨by rw [h1, dl, dl]; rfl, h2.symm⟩

/-- Which kind of byte it is. -/
theorem nameC_cases (c : UInt8) : (97 ≤ c.toNat ∧ c.toNat ≤ 122 ∧ nameC c = true) ∨ (48 ≤ c.toNat ∧ c.toNat ≤ 57 ∧ nameC c = true) ∨ (c.toNat = 95 ∧ nameC c = true) ∨ (nameC c = false ∧ (c.toNat < 48 ∨ 57 < c.toNat) ∧ c.toNat ≠ 95 ∧ (c.toNat < 97 ∨ 122 < c.toNat)) := by
  have h : ∀ d, d < 256 → (97 ≤ d ∧ d ≤ 122 ∧ nameC (UInt8.ofNat d) = true) ∨ (48 ≤ d ∧ d ≤ 57 ∧ nameC (UInt8.ofNat d) = true) ∨ (d = 95 ∧ nameC (UInt8.ofNat d) = true) ∨ (nameC (UInt8.ofNat d) = false ∧ (d < 48 ∨ 57 < d) ∧ d ≠ 95 ∧ (d < 97 ∨ 122 < d)) := by decide +kernel
  have := h c.toNat (UInt8.toNat_lt c)
  rwa [UInt8.ofNat_toNat] at this
theorem lowB_iff (c : UInt8) : lowB c = true ↔ 97 ≤ c.toNat ∧ c.toNat ≤ 122 := by
  unfold lowB
  rw [Bool.and_eq_true, decide_eq_true_eq, decide_eq_true_eq, UInt8.le_iff_toNat_le, UInt8.le_iff_toNat_le]
  exact Iff.rfl
set_option maxRecDepth 100000 in
set_option maxHeartbeats 2000000 in
theorem name_any (l : List UInt8) (hlen : l.length ≤ 1000000) (w : World) :
    Calls Tryz.prog 63 #[S l] w fun e w' => e = .returned (.bool (nameB l)) ∧ Below w.heap.size w w' := by
  cases l with
  | nil =>
    go_enter Tryz.func63, Tryz.ntmps63
    go_wp2_with fail
    go_ret
    exact ⟨rfl, Below.refl _ _⟩
  | cons c0 r =>
    have hi0 : ∀ w, (Instr.index 9 (S (c0 :: r)) (.int .i64 0)).run Tryz.prog w = .ok (.int .u8 (c0.toNat : Int)) w := fun w => by rw [run_index_string _ _ _ _ _ Tryz.underlying9, dif_pos ⟨by omega, by rw [sz]; simp⟩]; rfl
    obtain ⟨l, hl⟩ : ∃ l, c0 :: r = l := ⟨_, rfl⟩
    rw [hl] at hlen hi0 ⊢
    have hemp : (l == []) = false := by rw [← hl]; rfl
    have hn : Hid (nameB l = (decide (l.length ≤ 20) && (lowB c0 && l.all nameC))) := by rw [← hl]; exact rfl
    clear hl
    by_cases h20 : 20 < l.length
    · have h20' : (20 : Int) < l.length := by omega
      have hf : Hid (nameB l = false) := by show _ = _; rw [hn.out, decide_eq_false (by omega)]; rfl
      go_enter Tryz.func63, Tryz.ntmps63
      go_wp2_with fail
      go_ret
      exact ⟨by rw [hf.out]; rfl, Below.refl _ _⟩
    have h20' : ¬ (20 : Int) < l.length := by omega
    by_cases h97 : c0.toNat < 97
    · have h97' : (c0.toNat : Int) < 97 := by omega
      have hf : Hid (nameB l = false) := by show _ = _; rw [hn.out, show lowB c0 = false by rw [Bool.eq_false_iff]; intro h; have := (lowB_iff c0).1 h; omega]; simp
      go_enter Tryz.func63, Tryz.ntmps63
      go_wp2_with fail
      go_ret
      exact ⟨by rw [hf.out]; rfl, Below.refl _ _⟩
    have h97' : ¬ (c0.toNat : Int) < 97 := by omega
    by_cases h122 : 122 < c0.toNat
    · have h122' : (122 : Int) < c0.toNat := by omega
      have hf : Hid (nameB l = false) := by show _ = _; rw [hn.out, show lowB c0 = false by rw [Bool.eq_false_iff]; intro h; have := (lowB_iff c0).1 h; omega]; simp
      go_enter Tryz.func63, Tryz.ntmps63
      go_wp2_with fail
      go_ret
      exact ⟨by rw [hf.out]; rfl, Below.refl _ _⟩
    have h122' : ¬ (122 : Int) < c0.toNat := by omega
    have hn2 : Hid (nameB l = l.all nameC) := by show _ = _; rw [hn.out, (lowB_iff c0).2 ⟨by omega, by omega⟩, decide_eq_true (by omega)]; simp
    have hcv := Lib.run_convert_string_bytes (P := Tryz.prog) w 9 27 5 ⟨l.toArray⟩ (u := .string) Tryz.underlying9 Tryz.underlying27 Tryz.underlying5
    have hB : ∀ j c, l[j]? = some c → (Lib.bytesWorld w 5 ⟨l.toArray⟩).cell? ⟨w.heap.size, j, none⟩ = some (.int .u8 (c.toNat : Int)) := fun j c hj => by
      have hjl := (List.getElem?_eq_some_iff.1 hj).1
      rw [Lib.bytesWorld_cell w 5 ⟨l.toArray⟩ j (by rw [sz]; omega), dl]
      simp [List.getD, hj]
    have HBw := Lib.hid (Lib.bytesWorld_below w 5 ⟨l.toArray⟩)
    obtain ⟨W1, hW1⟩ : ∃ W1, W1 = Lib.bytesWorld w 5 ⟨l.toArray⟩ := ⟨_, rfl⟩
    rw [← hW1] at hcv hB HBw
    rw [sz] at hcv
    have HBc := Lib.hid hB
    clear hW1 hB hn h20 h97 h122
    go_enter Tryz.func63, Tryz.ntmps63
    go_wp2_with fail
    go_loopg [4, 25] l.length (fun g _ vi wx => ∃ k : Nat, k + g = l.length ∧ vi = .int .i64 k ∧ wx = W1 ∧ Hid (∀ j c, j < k → l[j]? = some c → nameC c = true))
    case atStart => exact ⟨0, by omega, rfl, rfl, Lib.hid fun j c hj => absurd hj (by omega)⟩
    case round =>
      obtain ⟨k, hk, rfl, rfl, hh⟩ := hrel
      by_cases hkn : k < l.length
      · obtain ⟨c, hc⟩ : ∃ c, l[k]? = some c := ⟨_, List.getElem?_eq_getElem hkn⟩
        have hcell := HBc.out k c hc
        have hkn' : (k : Int) < l.length := by omega
        have HC := Lib.hid hc
        have Hnx : Hid (nameC c = true → ∀ j d, j < k + 1 → l[j]? = some d → nameC d = true) := fun hc1 j d hj hd => by
          by_cases e : j = k
          · subst e; rw [HC.out] at hd; cases hd; exact hc1
          · exact hh.out j d (by omega) hd
        clear hc
        rcases nameC_cases c with ⟨h1, h2, h3⟩ | ⟨h1, h2, h3⟩ | ⟨h1, h3⟩ | ⟨h3, h1, h2, h4⟩
        · have H3 := Lib.hid h3; clear h3
          have g1 : (97 : Int) ≤ c.toNat := by omega
          have g2 : (c.toNat : Int) ≤ 122 := by omega
          go_wp2_with fail
          go_roundg (l.length - (k + 1))
          case measure => omega
          case rel => exact ⟨k + 1, by omega, by go_num, rfl, Hnx.out H3.out⟩
        · have H3 := Lib.hid h3; clear h3
          have g1 : (48 : Int) ≤ c.toNat := by omega
          have g2 : (c.toNat : Int) ≤ 57 := by omega
          go_wp2_with fail
          go_roundg (l.length - (k + 1))
          case measure => omega
          case rel => exact ⟨k + 1, by omega, by go_num, rfl, Hnx.out H3.out⟩
        · have H3 := Lib.hid h3; clear h3
          rw [h1] at hcell
          go_wp2_with fail
          go_roundg (l.length - (k + 1))
          case measure => omega
          case rel => exact ⟨k + 1, by omega, by go_num, rfl, Hnx.out H3.out⟩
        · have hf : Hid (l.all nameC = false) := by
            show _ = _
            rw [Bool.eq_false_iff]
            intro ha
            have := List.all_eq_true.1 ha c (List.mem_of_getElem? HC.out)
            rw [h3] at this; cases this
          clear h3
          have g2 : ((c.toNat : Int) != 95) = true := by simp; omega
          rcases h1 with h1 | h1
          all_goals rcases h4 with h4 | h4
          all_goals try (exfalso; omega)
          all_goals go_wp2_with fail
          all_goals go_ret
          all_goals exact ⟨by rw [hn2.out, hf.out]; rfl, HBw.out⟩
      · obtain rfl : k = l.length := by omega
        have hf : Hid (l.all nameC = true) := List.all_eq_true.2 fun c hc => by
          obtain ⟨j, hj⟩ := List.getElem?_of_mem hc
          exact hh.out j c (List.getElem?_eq_some_iff.1 hj).1 hj
        clear hh
        go_wp2_with fail
        go_ret
        exact ⟨by rw [hn2.out, hf.out]; rfl, HBw.out⟩
end Go.Proofs.YtjjnidbggoaonaaGreatDoor
