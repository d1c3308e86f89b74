/- The walk of AsmBack. -/
import Derived.Test.YtjjnidbggoaonaaGreatDoorAsLi
import Derived.Test.YtjjnidbggoaonaaGreatDoorArgs
import Derived.Deep.RegionHeld3
namespace Go.Proofs.YtjjnidbggoaonaaGreatDoor
open Go.RowKit Go.ChangeShapes
attribute [local irreducible] World.setCell World.alloc World.drew Calls Code.wp
attribute [local go_sem] Oper.semAt_some

/-- ASCII bytes alone. -/
def Asc (l : List UInt8) : Prop := ∀ c ∈ l, c.toNat < 128
theorem Asc.append {l m : List UInt8} (h : Asc l) (k : Asc m) : Asc (l ++ m) := fun c hc => (List.mem_append.1 hc).elim (h c) (k c)
theorem asc_itoa (n : Int) : Asc (Lib.itoa n) := fun c hc => by have := itoa_char n c hc; omega
theorem asc_rT (n : Int) : Asc (rT n) := fun c hc => by
  unfold rT at hc
  rcases List.mem_cons.1 hc with rfl | h
  · decide
  · exact asc_itoa n c h
theorem asc_nm (k : Nat) (h : k < 43) : Asc (nm k) := by
  have : ∀ k, k < 43 → ∀ c ∈ nm k, c.toNat < 128 := by decide +kernel
  exact this k h
theorem asc_ins (x : Ins) (h : x.right = true) : Asc (insLine x) := by
  obtain ⟨⟨o0, o1⟩, _⟩ := Ins.right_spec h
  have h1 := asc_nm (x.op.toNat - 1) (by omega)
  have h2 := fun r => asc_rT r
  have h3 := asc_itoa x.imm
  have c1 : Asc [32] := by unfold Asc; decide
  have c2 : Asc [44, 32] := by unfold Asc; decide
  have c3 : Asc [40] := by unfold Asc; decide
  have c4 : Asc [41] := by unfold Asc; decide
  unfold insLine
  simp only
  repeat' split
  · exact h1
  · exact (((h1.append c1).append (h2 _)).append c2).append h3
  · exact (((((h1.append c1).append (h2 _)).append c2).append (h2 _)).append c2).append h3
  · exact (((((h1.append c1).append (h2 _)).append c2).append (h2 _)).append c2).append (h2 _)
  · exact (((h1.append c1).append (h2 _)).append c2).append (h2 _)
  · exact ((((((h1.append c1).append (h2 _)).append c2).append h3).append c3).append (h2 _)).append c4
  · exact (h1.append c1).append (h2 _)
theorem asc_hex (u : Nat) : Asc (hexD u) := fun c hc => by
  have h := List.all_eq_true.1 (hexD_all u) c hc
  have h2 : ∀ d : Nat, d < 256 → hexB (UInt8.ofNat d) = true → d < 128 := by decide +kernel
  refine h2 c.toNat (UInt8.toNat_lt c) ?_
  rwa [UInt8.ofNat_toNat]
theorem asc_line (B : Nat → Int) : Asc (lineOf B) := by
  unfold lineOf
  split
  · rename_i h; exact asc_ins _ h.1
  · exact Asc.append (by unfold Asc; decide) (asc_hex _)
theorem asc_list (B : Nat → Nat → Int) (k : Nat) : Asc (listB B k) := by
  induction k with
  | zero => intro c hc; cases hc
  | succ k ih => rw [listB_succ]; exact (ih.append (asc_line _)).append (by unfold Asc; decide)
theorem flat_eq (B : Nat → Int) (n : Nat) : (((List.range n).map fun i => eight (fun j => B (8 * i + j))).flatten : List Int) = (List.range (8 * n)).map B := by
  induction n with
  | zero => rfl
  | succ n ih =>
    rw [List.range_succ, List.map_append, List.flatten_append, ih, show 8 * (n + 1) = 8 * n + 8 by omega, List.range_add, List.map_append]
    congr 1

set_option maxRecDepth 100000 in
set_option maxHeartbeats 4000000 in
theorem back_walk (a : Option Addr) (len cap : Nat) (z : List Int) (w : World) (hz : IsRow .u8 w a len cap z) (h : HasAz w) :
    Calls Tryz.prog 9 #[.slice a len cap] w fun e w' => e = .returned (.bool true) ∧ Below w.heap.size w w' := by
  have H := Lib.hid h
  have Hfit := Lib.hid (fit24_any w h)
  clear h
  have hb : ∀ j, 0 ≤ z.getD j 0 ∧ z.getD j 0 ≤ 255 := fun j => wf_u8 (row_wf hz j)
  have hlc : len ≤ cap ∧ cap ≤ maxLen := by
    rcases hz with ⟨-, rfl, rfl, -⟩ | ⟨x, -, h1, h2, -⟩
    · exact ⟨Nat.le_refl _, Nat.zero_le _⟩
    · exact ⟨h1, h2⟩
  have hcl : len = 0 ∨ ∃ p o, a = some ⟨p, o, none⟩ ∧ p < w.heap.size ∧ ∀ j, j < len → w.cell? ⟨p, o + j, none⟩ = some (.int .u8 (z.getD j 0)) := by
    rcases hz with ⟨-, rfl, -, -⟩ | ⟨x, rfl, hl, -, hzl, hc, -⟩
    · exact .inl rfl
    · rcases Nat.eq_zero_or_pos len with h0 | h0
      · exact .inl h0
      · have hc0 := hc 0 (by omega)
        have hsp := World.cell?_spot hc0
        have hlt := cell_lt hc0
        obtain ⟨b, o, sp⟩ := x
        simp only [Addr.add_zero'] at hsp hlt
        subst hsp
        refine .inr ⟨b, o, rfl, hlt, fun j hj => ?_⟩
        have := hc j (by omega)
        rwa [Addr.add_lit] at this
  obtain ⟨B, hBe⟩ : ∃ B : Nat → Int, B = fun j => z.getD j 0 := ⟨_, rfl⟩
  have hb : ∀ j, 0 ≤ B j ∧ B j ≤ 255 := fun j => by rw [hBe]; exact hb j
  have hcl : len = 0 ∨ ∃ p o, a = some ⟨p, o, none⟩ ∧ p < w.heap.size ∧ ∀ j, j < len → w.cell? ⟨p, o + j, none⟩ = some (.int .u8 (B j)) := by rw [hBe]; exact hcl
  clear hz hBe
  obtain ⟨hlc, hcm⟩ := hlc
  by_cases h400 : 400 < len
  · have h400' : (400 : Int) < len := by omega
    go_enter Tryz.func9, Tryz.ntmps9
    go_wp2_with fail
    refine Hfit.out.mono ?_
    rintro e w1 ⟨rfl, hb1⟩
    have HB1 := Lib.hid hb1
    clear hb1
    go_wp2_with fail
    go_ret
    exact ⟨rfl, HB1.out⟩
  have h400' : ¬ (400 : Int) < len := by omega
  have Hli := Lib.hid (fun (w' : World) (hb' : Below w.heap.size w w') => list_any a len cap B hb (by omega) hlc hcm w' (H.out.below hb') (by
    rcases hcl with h0 | ⟨p, o, e, hp, hc⟩
    · exact .inl h0
    · exact .inr ⟨p, o, e, Nat.lt_of_lt_of_le hp hb'.size, fun j hj => by rw [hb'.cell (p := ⟨p, o + j, none⟩) hp]; exact hc j hj⟩))
  obtain ⟨N, hN⟩ : ∃ N, len / 8 = N := ⟨_, rfl⟩
  rw [hN] at Hli
  have hal := assemble_list (fun i j => B (8 * i + j)) N (by omega) (fun i j => hb _)
  rw [flat_eq] at hal
  have hll := listB_len (fun i j => B (8 * i + j)) N (fun i j => hb _)
  have Hasm := Lib.hid (fun w h => asm_ascii (listB (fun i j => B (8 * i + j)) N) (by omega) (asc_list _ N) w h)
  obtain ⟨T, hT⟩ : ∃ T, listB (fun i j => B (8 * i + j)) N = T := ⟨_, rfl⟩
  rw [hT] at hal Hli Hasm hll
  obtain ⟨M, hM⟩ : ∃ M, 8 * N = M := ⟨_, rfl⟩
  rw [hM] at hal
  obtain ⟨L, hL⟩ : ∃ L, (List.range M).map B = L := ⟨_, rfl⟩
  rw [hL] at hal
  have lL : L.length = M := by rw [← hL]; simp
  have HSt : Hid (∀ w', Below w.heap.size w w' → StrIn w' (.slice a M cap) L) := fun w' hb' => by
    refine ⟨a, cap, by rw [lL], ⟨by omega, hcm⟩, ?_⟩
    rcases hcl with h0 | ⟨p, o, e, hp, hc⟩
    · left; rw [← hL, show M = 0 by omega]; rfl
    · right
      refine ⟨p, o, e, Nat.lt_of_lt_of_le hp hb'.size, fun j hj => ?_⟩
      rw [lL] at hj
      rw [hb'.cell (p := ⟨p, o + j, none⟩) hp, hc j (by omega), ← hL, List.getD]
      simp [hj]
  have Hal := Lib.hid hal
  have d1 : (len : Int).tdiv 8 = (N : Int) := by rw [Int.tdiv_eq_ediv_of_nonneg (by omega)]; omega
  have d2 : IntKind.i64.wrap ((N : Int) * 8) = (M : Int) := by rw [show (N : Int) * 8 = (M : Int) by omega]; exact IntWalk.i64_in _ (by omega)
  have d3 : IntKind.i64.wrap (N : Int) = N := IntWalk.i64_in _ (by omega)
  have hsl : ∀ w, (Instr.slice 27 (.slice a len cap) none (some (.int .i64 (M : Int))) none).run Tryz.prog w = .ok (.slice a M cap) w := fun w => by
    have hh : (M : Int) ≤ cap := by omega
    go_simp
  clear hcl hb hal hT hL hll hlc hcm hM
  go_enter Tryz.func9, Tryz.ntmps9
  go_wp2_with fail
  refine Hfit.out.mono ?_
  rintro e w1 ⟨rfl, hb1⟩
  have HB1 := Lib.hid hb1
  clear hb1
  go_wp2_with fail
  refine (Hli.out _ HB1.out).mono ?_
  rintro e w2 ⟨rfl, hb2⟩
  have HB2 := Lib.hid (bel_from HB1.out hb2)
  clear hb2
  go_wp2_with fail
  refine (Hasm.out _ (H.out.below HB2.out).base).mono ?_
  rintro e w3 ⟨v, rfl, hv, hb3⟩
  rw [Hal.out] at hv ⊢
  have hv : StrIn w3 v L := hv
  have HB3 : Hid (Below w.heap.size w w3) := bel_from HB2.out hb3
  clear hb3
  obtain ⟨fb, hfb⟩ : ∃ fb, fb = w3.heap.size := ⟨_, rfl⟩
  obtain ⟨w4, hw4⟩ : ∃ w4 : World, w4 = w3.alloc (.cells #[.int .i64 0, .int .i64 0] 30) := ⟨_, rfl⟩
  have HF4 : Hid (Blk w4 fb #[.int .i64 0, .int .i64 0] 30) := by rw [hw4, hfb]; exact Blk.new _ _ _
  have HB4 : Hid (Below w.heap.size w w4) := by rw [hw4]; exact HB3.out.alloc HB3.out.size _
  have HV4 : Hid (StrIn w4 v L) := by rw [hw4]; exact hv.below ((Below.refl _ _).alloc (Nat.le_refl _) _) (Nat.le_refl _)
  obtain ⟨vx, vc, rfl, -, -⟩ := hv
  rw [lL] at HV4 ⊢
  clear lL
  go_wp2_with fail
  rw [← hw4, ← hfb]
  clear hw4 hfb
  have HSS : Hid (∀ w', Below w4.heap.size w4 w' → (w'.cell? ⟨fb, 0, none⟩ = some (.int .i64 0) ∧ w'.cell? ⟨fb, 1, none⟩ = some (.int .i64 0)) ∧ (convert 27 9 (.slice vx M vc)).run Tryz.prog w' = .ok (.string (bs L)) w' ∧ (convert 27 9 (.slice a M cap)).run Tryz.prog w' = .ok (.string (bs L)) w') := fun w' hb => by
    have h1 := HF4.out.below hb HF4.out.lt
    exact ⟨⟨h1.cell 0, h1.cell 1⟩, (HV4.out.below hb (Nat.le_refl _)).str, (HSt.out w' (bel_from HB4.out hb)).str⟩
  have Hdr : Hid (Below w4.heap.size w4 w4.drew) := (Below.refl _ w4).drew
  have hr0 := HSS.out _ (Below.refl _ w4)
  have hr1 := HSS.out _ Hdr.out
  obtain ⟨hr0a, hr0b, hr0c⟩ := hr0
  obtain ⟨hr1a, hr1b, hr1c⟩ := hr1
  obtain ⟨hr0d, hr0e⟩ := hr0a
  obtain ⟨hr1d, hr1e⟩ := hr1a
  go_region_held3 (fun w' => (w'.cell? ⟨fb, 0, none⟩ = some (.int .i64 0) ∧ w'.cell? ⟨fb, 1, none⟩ = some (.int .i64 0)) ∧ (convert 27 9 (.slice vx M vc)).run Tryz.prog w' = .ok (.string (bs L)) w' ∧ (convert 27 9 (.slice a M cap)).run Tryz.prog w' = .ok (.string (bs L)) w')
    (first | exact HSS.out _ Hdr.out)
    (fail)
  go_wp2_with fail
  go_ret
  exact ⟨rfl, HB4.out.drew⟩
end Go.Proofs.YtjjnidbggoaonaaGreatDoor
