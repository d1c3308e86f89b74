/- trace.Parse: the step of a text, or none. -/
import Derived.Test.YtjjnidbggoaonaaDoorTrP
import Derived.Deep.LoopGhost
namespace Go.Proofs.YtjjnidbggoaonaaDoor
open Go.RowKit
attribute [local irreducible] World.setCell World.alloc World.drew Calls Code.wp
attribute [local go_sem] Oper.semAt_some

theorem part_size (sep : ByteArray) : ∀ (k : Nat) (s x : ByteArray), x ∈ Lib.splitB sep 0 k s → x.size ≤ s.size
  | 0, s, x, h => by rw [Lib.splitB_zero] at h; simp at h; subst h; exact Nat.le_refl _
  | k + 1, s, x, h => by
    by_cases c : Lib.indexB s sep = -1
    · rw [Lib.splitB_miss _ _ _ _ c] at h; simp at h; subst h; exact Nat.le_refl _
    · unfold Lib.splitB at h
      rw [if_neg (by simpa using c)] at h
      rcases List.mem_cons.1 h with rfl | h
      · simp [ByteArray.size_extract]; omega
      · have := part_size sep k _ x h
        rw [ByteArray.size_extract] at this
        omega
/-- A text's parts between single blanks. -/
def partsL (l : List UInt8) : List (List UInt8) := (Lib.splitB ⟨#[32]⟩ 0 (Lib.countB ⟨l.toArray⟩ ⟨#[32]⟩) ⟨l.toArray⟩).map (·.data.toList)
theorem partsL_len (l : List UInt8) : ∀ x ∈ partsL l, x.length ≤ l.length := by
  intro x hx
  obtain ⟨y, hy, rfl⟩ := List.mem_map.1 hx
  have := part_size _ _ _ y hy
  have h1 : (⟨l.toArray⟩ : ByteArray).size = l.length := by show l.toArray.size = _; simp
  have h2 : y.data.toList.length = y.size := by simp
  omega
theorem parts_vals (l : List UInt8) : (Lib.splitB ⟨#[32]⟩ 0 (Lib.countB ⟨l.toArray⟩ ⟨#[32]⟩) ⟨l.toArray⟩).map Value.string = (partsL l).map S := by
  unfold partsL
  rw [List.map_map]
  rfl
theorem split_any (l : List UInt8) (hl : l.length ≤ 1000) (w : World) (h : HasMax w) :
    Calls Tryd.prog 13 #[S l, .string ⟨#[32]⟩] w fun e w' => e = .returned (.slice (some ⟨w.heap.size, 0, none⟩) (partsL l).length (partsL l).length) ∧ w' = w.alloc (.cells ((partsL l).map S).toArray 9) := by
  obtain ⟨m, hm⟩ := h
  have hs : (⟨l.toArray⟩ : ByteArray).size = l.length := by show l.toArray.size = _; simp
  refine (Tryd.strings_Split ⟨l.toArray⟩ ⟨#[32]⟩ m w (by omega) hm (by decide)).mono ?_
  rintro e w' ⟨rfl, rfl⟩
  have h1 := Lib.splitB_all ⟨#[32]⟩ (by decide) 0 _ ⟨l.toArray⟩ rfl
  have h2 : (partsL l).length = Lib.countB ⟨l.toArray⟩ ⟨#[32]⟩ + 1 := by unfold partsL; rw [List.length_map, h1]
  rw [h2, parts_vals]
  exact ⟨rfl, rfl⟩

/-- The step that a text with these parts may be, its kind known. -/
def EvIs (l l0 l1 l2 : List UInt8) (i : Nat) : Prop := ∃ (c : Int) (t : Nat), atoiO l0 = some c ∧ uintO l1 = some (t : Int) ∧ wd i = l2 ∧ evText c t i = l
theorem uintO_nat {l : List UInt8} {v : Int} (h : uintO l = some v) : ∃ t : Nat, v = (t : Int) ∧ t < 18446744073709551616 := by
  unfold uintO at h
  rcases e : Lib.parseUintB 64 l with x | _ | _ <;> rw [e] at h <;> simp [endNat] at h
  subst h
  refine ⟨x, rfl, ?_⟩
  have hb : ∀ (l : List UInt8) (acc : Nat), acc ≤ 18446744073709551615 → Lib.parseUintM 18446744073709551615 acc l = .ok x → x ≤ 18446744073709551615 := by
    intro l
    induction l with
    | nil => intro acc h1 h2; unfold Lib.parseUintM at h2; cases h2; exact h1
    | cons c r ih =>
      intro acc h1 h2
      unfold Lib.parseUintM at h2
      split at h2
      · split at h2
        · cases h2
        · split at h2
          · cases h2
          · exact ih _ (by omega) h2
      · cases h2
  unfold Lib.parseUintB at e
  split at e
  · cases e
  · have := hb l 0 (by omega) e; omega

set_option maxRecDepth 100000 in
set_option maxHeartbeats 4000000 in
theorem parse_any (l : List UInt8) (hl : l.length ≤ 1000) (w : World) (h : HasTr w) :
    Calls Tryd.prog 7 #[S l] w fun e w' => Below w.heap.size w w' ∧
      ((∃ (l0 l1 l2 : List UInt8) (c : Int) (t i : Nat), partsL l = [l0, l1, l2] ∧ i < 7 ∧ atoiO l0 = some c ∧ uintO l1 = some (t : Int) ∧ wd i = l2 ∧ evText c t i = l ∧ e = .returned (.tuple #[.agg #[.int .i64 c, .int .u64 t, .int .i64 i], .bool true])) ∨
       (e = .returned (.tuple #[.agg #[.int .i64 0, .int .u64 0, .int .i64 0], .bool false]) ∧ ∀ l0 l1 l2, partsL l = [l0, l1, l2] → ∀ i, i < 7 → ¬ EvIs l l0 l1 l2 i)) := by
  have H := Lib.hid h; clear h
  have hll := partsL_len l
  go_enter Tryd.func7, Tryd.ntmps7
  go_wp2_with fail
  refine (split_any l hl _ (H.out.mx.below ((Below.refl _ _).alloc (Nat.le_refl _) _))).mono ?_
  rintro e w1 ⟨rfl, rfl⟩
  obtain ⟨n, hn⟩ : ∃ n, (partsL l).length = n := ⟨_, rfl⟩
  rw [hn]
  by_cases h3 : n = 3
  · subst h3
    obtain ⟨l0, l1, l2, hp⟩ : ∃ l0 l1 l2, partsL l = [l0, l1, l2] := by
      generalize partsL l = L at hn ⊢
      match L, hn with
      | [a, b, c], _ => exact ⟨a, b, c, rfl⟩
    have z0 := hll l0 (by rw [hp]; simp)
    have z1 := hll l1 (by rw [hp]; simp)
    have Hpl := Lib.hid hp
    rw [hp]
    obtain ⟨cb, hcb⟩ : ∃ cb, cb = w.heap.size := ⟨_, rfl⟩
    obtain ⟨w2, hw2⟩ : ∃ w2 : World, w2 = (w.alloc (.cells #[.int .i64 0, .int .u64 0, .int .i64 0] 24)).alloc (.cells ([l0, l1, l2].map S).toArray 9) := ⟨_, rfl⟩
    have HC : Hid (Blk w2 cb #[.int .i64 0, .int .u64 0, .int .i64 0] 24) := by rw [hw2, hcb]; exact (Blk.new _ _ _).alloc _
    have HF : Hid (Blk w2 (cb + 1) #[S l0, S l1, S l2] 9) := by rw [hw2, hcb]; have := Blk.new (w.alloc (.cells #[.int .i64 0, .int .u64 0, .int .i64 0] 24)) ([l0, l1, l2].map S).toArray 9; rw [World.size_alloc] at this; exact this
    have HB : Hid (Below w.heap.size w w2) := by rw [hw2]; exact ((Below.refl _ _).alloc (Nat.le_refl _) _).alloc (by simp) _
    try simp only [World.size_alloc]
    rw [← hw2, ← hcb]
    have Hcb : Hid (cb = w.heap.size) := hcb
    have hff := HF.out.cell
    clear hw2 hcb hn hp hll
    go_wp2_with fail
    refine (atoi_any l0 (by omega) _ (H.out.below HB.out)).mono ?_
    rintro e w3 ⟨va, rfl, hva, hb3⟩
    have HB3 := Lib.hid (bel_from HB.out hb3)
    have HF3 := Lib.hid (HF.out.below hb3 HF.out.lt)
    have HC3 := Lib.hid (HC.out.below hb3 HC.out.lt)
    have Hva := Lib.hid hva
    clear hb3 hff hva
    have hff := HF3.out.cell
    obtain ⟨a0, ea, rfl⟩ : ∃ a0 ea, va = .tuple #[.int .i64 a0, ea] := by
      rcases Hva.out with ⟨x, _, rfl⟩ | ⟨_, y, t, b, rfl⟩ <;> exact ⟨_, _, rfl⟩
    go_wp2_with fail
    refine (uint_any l1 (by omega) _ (H.out.below HB3.out)).mono ?_
    rintro e w4 ⟨vu, rfl, hvu, hb4⟩
    have HB4 := Lib.hid (bel_from HB3.out hb4)
    have HF4 := Lib.hid (HF3.out.below hb4 HF3.out.lt)
    have HC4 := Lib.hid (HC3.out.below hb4 HC3.out.lt)
    have Hvu := Lib.hid hvu
    clear hb4 hff hvu
    obtain ⟨u0, eu, rfl⟩ : ∃ u0 eu, vu = .tuple #[.int .u64 u0, eu] := by
      rcases Hvu.out with ⟨x, _, rfl⟩ | ⟨_, y, t, b, rfl⟩ <;> exact ⟨_, _, rfl⟩
    go_wp2_with fail
    refine (fields_words _ (H.out.below HB4.out).sp).mono ?_
    rintro e w5 ⟨rfl, rfl⟩
    obtain ⟨wb, hwb⟩ : ∃ wb, wb = w4.heap.size := ⟨_, rfl⟩
    obtain ⟨w5, hw5⟩ : ∃ w5 : World, w5 = w4.alloc (.cells wordsV 9) := ⟨_, rfl⟩
    rw [← hw5, ← hwb]
    have HW5 : Hid (Blk w5 wb wordsV 9) := by rw [hw5, hwb]; exact Blk.new _ _ _
    have HF5 : Hid (Blk w5 (cb + 1) #[S l0, S l1, S l2] 9) := by rw [hw5]; exact HF4.out.alloc _
    have HC5 : Hid (Blk w5 cb #[.int .i64 0, .int .u64 0, .int .i64 0] 24) := by rw [hw5]; exact HC4.out.alloc _
    have HB5 : Hid (Below w.heap.size w w5) := by rw [hw5]; exact HB4.out.alloc HB4.out.size _
    clear hw5 hwb
    have HX0 : Hid ((atoiO l0 = some a0 ∧ ea = .nilIface) ∨ (atoiO l0 = none ∧ ∃ t b, ea = .iface t (.pointer (some ⟨b, 0, none⟩)))) := by
      rcases Hva.out with ⟨x, h1, h2⟩ | ⟨h1, y, t, b, h2⟩
      · simp at h2; exact .inl ⟨by rw [h1, h2.1], h2.2⟩
      · simp at h2; exact .inr ⟨h1, t, b, h2.2⟩
    have HX1 : Hid ((uintO l1 = some u0 ∧ eu = .nilIface) ∨ (uintO l1 = none ∧ ∃ t b, eu = .iface t (.pointer (some ⟨b, 0, none⟩)))) := by
      rcases Hvu.out with ⟨x, h1, h2⟩ | ⟨h1, y, t, b, h2⟩
      · simp at h2; exact .inl ⟨by rw [h1, h2.1], h2.2⟩
      · simp at h2; exact .inr ⟨h1, t, b, h2.2⟩
    go_wp2_with fail
    go_loopg [9, 10, 11, 34] 7 (fun g _ _ _ i wx => ∃ k : Nat, k + g = 7 ∧ i = .int .i64 k ∧ (∀ j, j < k → ¬ EvIs l l0 l1 l2 j) ∧ Below w5.heap.size w5 wx)
    case atStart => exact ⟨0, rfl, rfl, fun j hj => absurd hj (by omega), Below.refl _ _⟩
    case round =>
      obtain ⟨k, hk, rfl, hno, hb⟩ := hrel
      have Hno := Lib.hid hno; have Hb := Lib.hid hb
      have hff := (HF5.out.below hb HF5.out.lt).cell
      have hww := (HW5.out.below hb HW5.out.lt).cell
      have hcc := (HC5.out.below hb HC5.out.lt).cell
      have hcf := (HC5.out.below hb HC5.out.lt).free
      have HFr := Lib.hid (HF5.out.below hb HF5.out.lt)
      have HCr := Lib.hid (HC5.out.below hb HC5.out.lt)
      have hbz := hb.size
      have hz1 := (HF5.out.below hb HF5.out.lt).lt
      have hfa := ((HF5.out.below hb HF5.out.lt).alloc (.cells #[.int .i64 a0, .int .u64 u0, .int .i64 k] 24)).cell
      clear hno hb
      by_cases hlt : k < 7
      · have hwk := hww k
        rw [wordsV_at k hlt] at hwk
        have hlt' : (k : Int) < 7 := by omega
        clear hww
        have Hgo : Hid ((¬ EvIs l l0 l1 l2 k) → ∀ j, j < k + 1 → ¬ EvIs l l0 l1 l2 j) := fun h j hj => by
          rcases Nat.lt_or_ge j k with h' | h'
          · exact Hno.out j h'
          · have : j = k := by omega
            subst this; exact h
        by_cases c1 : wd k = l2
        · rcases HX0.out with ⟨ha, rfl⟩ | ⟨ha, ta, ba, rfl⟩
          · rcases HX1.out with ⟨hu, rfl⟩ | ⟨hu, tu, bu, rfl⟩
            · obtain ⟨t, rfl, ht⟩ := uintO_nat hu
              have Hev := Lib.hid (fun w (h : HasTr w) => event_any a0 t k w h.pow h.sp (atoiO_bd ha).2 ht)
              have Ha := Lib.hid ha; have Hu := Lib.hid hu; have C1 := Lib.hid c1
              have c1b : (wd k == l2) = true := by simpa using c1
              have hna := (Blk.new wr #[.int .i64 a0, .int .u64 t, .int .i64 k] 24).cell
              have Hna := Lib.hid (Blk.new wr #[.int .i64 a0, .int .u64 t, .int .i64 k] 24)
              have HBa : Hid (Below w5.heap.size w5 (wr.alloc (.cells #[.int .i64 a0, .int .u64 t, .int .i64 k] 24))) := Hb.out.alloc Hb.out.size _
              have HTa : Hid (HasTr (wr.alloc (.cells #[.int .i64 a0, .int .u64 t, .int .i64 k] 24))) := H.out.below (bel_from HB5.out HBa.out)
              clear ha hu c1
              go_wp2_with fail
              refine (Hev.out _ HTa.out).mono ?_
              rintro e w6 ⟨rfl, hb6⟩
              have HB6 := Lib.hid (bel_from HBa.out hb6)
              have hn6 := (Hna.out.below hb6 Hna.out.lt).cell
              have HC6 := Lib.hid (HC5.out.below HB6.out HC5.out.lt)
              have hc6 := HC6.out.cell
              have hcf6 := HC6.out.free
              clear hcc hcf hna hff hfa hb6 hwk
              by_cases c2 : evText a0 t k = l
              · have c2b : (evText a0 t k == l) = true := by simpa using c2
                have C2 := Lib.hid c2
                clear c2
                go_wp2_with fail
                exact bodyPost_ret (v := .tuple #[.agg #[.int .i64 a0, .int .u64 t, .int .i64 k], .bool true]) (by simp [results, Tryd.results7, go_sem, hc6]) rfl
                  ⟨((((bel_from HB5.out HB6.out).setCell (p := ⟨cb, 0, none⟩) (Nat.le_of_eq Hcb.out.symm) _).setCell (p := ⟨cb, 1, none⟩) (Nat.le_of_eq Hcb.out.symm) _).setCell (p := ⟨cb, 2, none⟩) (Nat.le_of_eq Hcb.out.symm) _),
                    .inl ⟨l0, l1, l2, a0, t, k, Hpl.out, hlt, Ha.out, Hu.out, C1.out, C2.out, rfl⟩⟩
              · have c2b : (evText a0 t k == l) = false := by simpa using c2
                have C2 := Lib.hid c2
                clear c2
                go_wp2_with fail
                go_roundg (7 - (k + 1))
                case measure => omega
                case rel =>
                  refine ⟨k + 1, by omega, by go_num, Hgo.out (fun ⟨c, t', h1, h2, h3, h4⟩ => C2.out ?_), HB6.out⟩
                  rw [Ha.out] at h1; rw [Hu.out] at h2
                  cases h1
                  have : t' = t := by simp at h2; omega
                  subst this
                  exact h4
            · have c1b : (wd k == l2) = true := by simpa using c1
              have C1 := Lib.hid c1; have Hu := Lib.hid hu
              clear c1 hu ha
              go_wp2_with fail
              go_roundg (7 - (k + 1))
              case measure => omega
              case rel => exact ⟨k + 1, by omega, by go_num, Hgo.out (fun ⟨c, t, h1, h2, h3, h4⟩ => by rw [Hu.out] at h2; cases h2), Hb.out.alloc Hb.out.size _⟩
          · have c1b : (wd k == l2) = true := by simpa using c1
            have C1 := Lib.hid c1; have Ha := Lib.hid ha
            clear c1 ha
            go_wp2_with fail
            go_roundg (7 - (k + 1))
            case measure => omega
            case rel => exact ⟨k + 1, by omega, by go_num, Hgo.out (fun ⟨c, t, h1, h2, h3, h4⟩ => by rw [Ha.out] at h1; cases h1), Hb.out.alloc Hb.out.size _⟩
        · have c1b : (wd k == l2) = false := by simpa using c1
          have C1 := Lib.hid c1
          clear c1
          go_wp2_with fail
          go_roundg (7 - (k + 1))
          case measure => omega
          case rel => exact ⟨k + 1, by omega, by go_num, Hgo.out (fun ⟨c, t, h1, h2, h3, h4⟩ => C1.out h3), Hb.out.alloc Hb.out.size _⟩
      · obtain rfl : k = 7 := by omega
        go_wp2_with fail
        exact bodyPost_ret (v := .tuple #[.agg #[.int .i64 0, .int .u64 0, .int .i64 0], .bool false]) (by simp [results, Tryd.results7, go_sem, hcc]) rfl
          ⟨((((bel_from HB5.out Hb.out).setCell (p := ⟨cb, 0, none⟩) (Nat.le_of_eq Hcb.out.symm) _).setCell (p := ⟨cb, 1, none⟩) (Nat.le_of_eq Hcb.out.symm) _).setCell (p := ⟨cb, 2, none⟩) (Nat.le_of_eq Hcb.out.symm) _),
            .inr ⟨rfl, fun m0 m1 m2 hm i hi => by
              rw [Hpl.out] at hm
              simp only [List.cons.injEq, and_true] at hm
              obtain ⟨rfl, rfl, rfl⟩ := hm
              exact Hno.out i hi⟩⟩
  · have h3i : ¬ ((n : Int) = 3) := by omega
    have h3b : ((n : Int) != 3) = true := by simpa using h3i
    go_wp2_with fail
    have Hn := Lib.hid hn
    have H3 := Lib.hid h3
    exact bodyPost_ret (v := .tuple #[.agg #[.int .i64 0, .int .u64 0, .int .i64 0], .bool false]) (by simp [results, Tryd.results7, go_sem]) rfl
      ⟨((Below.refl _ _).alloc (Nat.le_refl _) _).alloc (by simp) _, .inr ⟨rfl, fun m0 m1 m2 hm => absurd (by rw [← Hn.out, hm]; rfl) H3.out⟩⟩
end Go.Proofs.YtjjnidbggoaonaaDoor
