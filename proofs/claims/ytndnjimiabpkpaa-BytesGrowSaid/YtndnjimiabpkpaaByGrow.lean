/- The walk of BytesGrow: a segment that grows keeps its bytes, one that shrinks has lost them. -/
import Derived.Test.YtndnjimiabpkpaaSgF
import Derived.Test.YtndnjimiabpkpaaStr
namespace Go.Proofs.Ytndnjimiabpkpaa
open Go.RowKit
attribute [local irreducible] World.setCell World.alloc World.drew World.setRow Calls Code.wp row

/-- A row of bytes that came in, as a source. -/
theorem isrow_bytes {w : World} {a : Option Addr} {len cap : Nat} {zs : List Int} (h : IsRow .u8 w a len cap zs) :
    ∃ B : Nat → Int, (∀ j, 0 ≤ B j ∧ B j ≤ 255) ∧ len ≤ cap ∧ cap ≤ maxLen ∧ (len = 0 ∨ ∃ b o, a = some ⟨b, o, none⟩ ∧ b < w.heap.size ∧ ∀ j, j < len → w.cell? ⟨b, o + j, none⟩ = some (.int .u8 (B j))) := by
  refine ⟨fun j => zs.getD j 0, fun j => wf_u8 (row_wf h j), ?_⟩
  rcases h with ⟨rfl, rfl, rfl, rfl⟩ | ⟨x, rfl, hl, hm, hz, hc, hw⟩
  · exact ⟨Nat.le_refl _, by unfold maxLen; omega, .inl rfl⟩
  · refine ⟨hl, hm, ?_⟩
    by_cases h0 : len = 0
    · exact .inl h0
    · right
      have hc0 := hc 0 (by omega)
      have hsp := World.cell?_spot hc0
      have hlt := cell_lt hc0
      obtain ⟨b, off, sp⟩ := x
      simp only [Addr.add_zero'] at hsp hlt
      subst hsp
      refine ⟨b, off, rfl, hlt, fun j hj => ?_⟩
      have := hc j (by omega)
      rwa [Addr.add_lit] at this

theorem run_make320 (w : World) : (Instr.makeSlice 32 (.int .i64 320) (.int .i64 320)).run Try.prog w =
    .ok (.slice (some ⟨w.heap.size, 0, none⟩) 320 320) (w.alloc (.cells (row 320 fun _ => .int .u8 0) 5)) := by
  obtain ⟨i, hi, hz, hs, hb⟩ : ∃ i, Try.prog.info? 5 = some i ∧ i.zero = some (.int .u8 0) ∧ i.size = 1 ∧ i.bytes = 1 :=
    info_parts (by kernel_rfl)
  have := run_make (P := Try.prog) w 32 5 i _ Try.underlying32 hi hz .i64 .i64 320 320 (by omega) (by omega) (by rw [hb]; omega) (by omega)
  rw [this, hs]
  rw [made_row _ (.int .u8 0) _ (by simp [Value.cells]) (fun i hi => by
    simp [Value.cells] at hi ⊢; subst hi; rfl)]
  rfl

theorem Seg.below' {w w' : World} {sb si pb db ob : Nat} {cs : Array Value} {lo : Nat} {v : Value} {L : List Int} {P : Pool} {o : Int} {x : Obj} (h : Seg (w.alloc x) sb si pb db ob cs lo v L P o) (hk : Kept (fun b => b = w.heap.size) (w.alloc x) w') (h0 : Seg w sb si pb db ob cs lo v L P o) : Seg w' sb si pb db ob cs lo v L P o := by
  have hl := h0.lp
  have hsb := h0.seg.hb.lt
  have hp := h0.pool.hp.lt; have hd := h0.pool.hd.lt; have ho := h0.pool.ho.lt
  exact ⟨h.seg.kept hk (by omega) (fun g hg => by have := (h0.seg.hv.lt g hg).2; omega), h.pool.kept hk (by omega) (by omega) (by omega), h.inn, Nat.le_trans h.lo hk.size, hl⟩

set_option maxRecDepth 100000 in
set_option maxHeartbeats 4000000 in
theorem grow_walk (a0 : Option Addr) (len cap : Nat) (zs : List Int) (cut : Int) (w : World) (hr : IsRow .u8 w a0 len cap zs) (_ : (Lit.int .i64 cut).wf = true) :
    Calls Try.prog 8 #[.slice a0 len cap, .int .i64 cut] w fun e w' => e = .returned (.bool true) ∧ Below w.heap.size w w' := by
  obtain ⟨B, hB, hlc, hcm, hsrc⟩ := isrow_bytes hr
  have HB0 := Lib.hid hB; have Hsrc := Lib.hid hsrc
  have hcm' := hcm
  unfold maxLen at hcm'
  have Hcm := Lib.hid hcm
  clear hr hB hsrc hcm
  obtain ⟨k, hk, hk4⟩ : ∃ k : Nat, cut % 4 = (k : Int) ∧ k < 4 := ⟨(cut % 4).toNat, by omega, by omega⟩
  have hand : bits .and .i64 cut 3 = (k : Int) := by rw [and3, hk]
  go_enter Try.func8, Try.ntmps8
  go_wp2_with fail
  refine (fit14_any _).mono ?_
  rintro e w0 ⟨rfl, hb0⟩
  have Hb0 := Lib.hid hb0
  clear hb0
  by_cases hlen : 256 < len
  · go_wp2_with fail
    go_ret
    exact ⟨rfl, Hb0.out⟩
  have hsz0 := Hb0.out.size
  go_wp2_with fail
  refine (new_any 20 _ (by omega) (by omega)).mono ?_
  rintro e w1 ⟨pb, db, ob, rfl, hP, l1, l2, l3, hb⟩
  have hb1 := Hb0.out.trans (hb.mono hsz0)
  have hsz := hb1.size
  have hlp : pb < w1.heap.size ∧ db < w1.heap.size ∧ ob < w1.heap.size := ⟨hP.hp.lt, hP.hd.lt, hP.ho.lt⟩
  have HB : Hid (w.heap.size ≤ pb ∧ w.heap.size ≤ db ∧ w.heap.size ≤ ob) := ⟨by omega, by omega, by omega⟩
  have HS : Hid (Seg (w1.alloc (.cells #[.slice none 0 0] 54)) w1.heap.size 0 pb db ob #[.slice none 0 0] (w1.heap.size + 1) (.slice none 0 0) [] (newPool 20) 7) :=
    ⟨seg_new w1, hP.alloc _, segIn_new 20 7 (by omega), by simp, hlp⟩
  have Hb := Lib.hid (hb1.alloc hsz (.cells #[.slice none 0 0] 54))
  clear hP hb hlp l1 l2 l3 hb1 hk
  go_wp2_with fail
  have hf1 : segR (newPool 20) [] 7 ((4 : Nat) : Int) = true := by decide
  refine (HS.out.resize 4 hf1).mono ?_
  rintro e w2 ⟨rfl, v2, L2, P2, hR2, hS2⟩
  have HR2 := Lib.hid hR2; have HS2 := Lib.hid hS2
  have Hb2 := Lib.hid (Hb.out.trans (HS.out.rs HB.out (by simp; omega) hR2.kept))
  clear hR2 hS2 hf1
  go_wp2_with fail
  have hf2 : segW L2 ((0 : Nat) : Int) len = true := by
    rw [segW_iff]; unfold segS; rw [HR2.out.len]; exact ⟨by omega, by omega, by omega, by omega⟩
  have hby : ∀ w', Kept (PS pb db ob) w2 w' → BytesIn w' a0 len B := fun w' hk => by
    rcases Hsrc.out with h0 | ⟨b, o, h1, h2, h3⟩
    · exact .inl h0
    · have hbl := Hb2.out.trans (seg_ps HB.out Hb2.out.size hk)
      exact .inr ⟨b, o, h1, fun j hj => by rw [hbl.cell (p := ⟨b, o + j, none⟩) h2]; exact h3 j hj⟩
  refine (swrite_yes _ 0 pb db ob _ _ _ L2 P2 7 0 a0 len cap B _ HS2.out.seg HS2.out.pool HS2.out.inn hf2 hby HB0.out hlc Hcm.out HS2.out.n1 HS2.out.n3).mono ?_
  rintro e w3 ⟨rfl, P3, hP3, hD3, hK3⟩
  have HS3 := Lib.hid (HS2.out.put hP3 hD3 hK3)
  have HD3 := Lib.hid hD3
  have Hb3 := Lib.hid (Hb2.out.trans (seg_ps HB.out Hb2.out.size hK3))
  clear hP3 hD3 hK3 hf2 hby
  have hleft3 : Hid (P3.left + 4 = 20) := by
    have h1 := HD3.out.left; have h2 := HR2.out.left
    have e1 : (newPool 20).left = 20 := by decide
    simp at h2; unfold Hid; omega
  have hf3 : segR P3 L2 7 k = true := by
    rw [segR_iff, HR2.out.len]; have := hleft3.out; exact ⟨by omega, by omega, by omega, by omega⟩
  have Hf3 := Lib.hid hf3; clear hf3
  go_wp2_with fail
  refine (HS3.out.resize k Hf3.out).mono ?_
  rintro e w4 ⟨rfl, v4, L4, P4, hR4, hS4⟩
  have HR4 := Lib.hid hR4; have HS4 := Lib.hid hS4
  have Hb4 := Lib.hid (Hb3.out.trans (HS3.out.rs HB.out Hb3.out.size hR4.kept))
  clear hR4 hS4
  have hf4 : segR P4 L4 7 ((5 : Nat) : Int) = true := by
    rw [segR_iff, HR4.out.len]; have h1 := hleft3.out; have h2 := HR4.out.left; have h3 := HR2.out.len; exact ⟨by omega, by omega, by omega, by omega⟩
  have Hf4 := Lib.hid hf4; clear hf4
  go_wp2_with fail
  refine (HS4.out.resize 5 Hf4.out).mono ?_
  rintro e w5 ⟨rfl, v5, L5, P5, hR5, hS5⟩
  have HR5 := Lib.hid hR5; have HS5 := Lib.hid hS5
  have Hb5 := Lib.hid (Hb4.out.trans (HS4.out.rs HB.out Hb4.out.size hR5.kept))
  clear hR5 hS5
  -- what the segment holds
  have hdata : ∀ j, j < 320 → segD P5 L5 j = if j < min len (k * 64) then B j else 0 := by
    intro j hj
    rw [HR5.out.data j (by omega), HR4.out.len]
    by_cases c : j < k * 64
    · rw [if_pos c, HR4.out.data j (by omega), HR2.out.len, if_pos (by omega), HD3.out.D j (by rw [HR2.out.len]; omega)]
      by_cases c2 : j < len
      · rw [if_pos ⟨by omega, by omega⟩, if_pos (by omega)]; rfl
      · rw [if_neg (by omega), if_neg (by omega), HR2.out.data j (by omega), if_neg (by simp)]
    · rw [if_neg c, if_neg (by omega)]
  have Hdata := Lib.hid hdata
  have hlen5 := HR5.out.len
  have Hlen5 := Lib.hid hlen5
  have hk4i : (k : Int) < 4 := by omega
  have hmk := run_make320
  clear hdata hlen5
  have hmn : min len (k * 64) = 0 ∨ (0 < len ∧ 0 < k * 64) := by omega
  rcases hmn with hm0 | ⟨hm1, hm2⟩
  · have Hm0 := Lib.hid hm0; clear hm0
    go_wp2_with (refine wpList_copy_nothing rfl (.tmp 42) (.tmp 43) 32 32 rfl 5 Try.underlying32 (by kernel_rfl) _ _ _ _ _ _ rfl rfl Hm0.out ?_)
    have HS6 : Hid (Seg (w5.alloc (.cells (row 320 fun _ => .int .u8 0) 5)) w1.heap.size 0 pb db ob (((((#[.slice none 0 0] : Array Value).setIfInBounds 0 v2).setIfInBounds 0 v4)).setIfInBounds 0 v5) (w1.heap.size + 1) v5 L5 P5 7) := HS5.out.alloc _
    have Hb6 : Hid (Below w.heap.size w (w5.alloc (.cells (row 320 fun _ => .int .u8 0) 5))) := Hb5.out.alloc Hb5.out.size _
    have HW6 : Hid (Blk (w5.alloc (.cells (row 320 fun _ => .int .u8 0) 5)) w5.heap.size (row 320 fun j => .int .u8 (if j < min len (k * 64) then B j else 0)) 5) := by
      refine Blk.cells (Blk.new w5 _ _) (row_congr fun j hj => ?_)
      rw [if_neg (by have := Hm0.out; omega)]
    generalize (w5.alloc (.cells (row 320 fun _ => .int .u8 0) 5)) = w6 at *
    clear hmk
    have hf5 : segW L5 ((0 : Nat) : Int) ((320 : Nat) : Int) = true := by rw [segW_iff]; unfold segS; rw [Hlen5.out]; decide
    have Hf5 := Lib.hid hf5; clear hf5
    go_wp2_with fail
    refine (sread_yes _ 0 pb db ob _ _ _ L5 P5 7 0 320 _ HS6.out.seg HS6.out.pool HS6.out.inn Hf5.out).mono ?_
    rintro e w7 ⟨r, rfl, hown, hb7⟩
    obtain ⟨l, hl⟩ : ∃ l : List Int, (List.range 320).map (fun j => if j < min len (k * 64) then B j else 0) = l := ⟨_, rfl⟩
    have hll : l.length = 320 := by rw [← hl]; simp
    have hown' : w7.ownsRow w6.heap.size 5 1 r l.length (bytesV l) := by
      have e : segC P5 L5 0 320 = bytesV l := by
        rw [← hl]; simp only [segC, bytesV, List.map_map]
        refine List.map_congr_left fun j hj => ?_
        have := List.mem_range.1 hj
        show Value.int .u8 (segD P5 L5 (0 + j)) = _
        rw [Nat.zero_add, Hdata.out j this]; rfl
      rw [hll, ← e]; exact hown
    have hs1 : (convert 32 9 r).run Try.prog w7 = .ok (.string (bs l)) w7 := run_str_own Try.underlying32 Try.underlying5 Try.underlying9 hown'
    have hW7 := HW6.out.below hb7 HW6.out.lt
    have hs2 : (convert 32 9 (.slice (some ⟨w5.heap.size, 0, none⟩) 320 320)).run Try.prog w7 = .ok (.string (bs l)) w7 := by
      have := run_str (P := Try.prog) (w := w7) Try.underlying32 Try.underlying5 Try.underlying9 ⟨w5.heap.size, 0, none⟩ l 320 fun j hj => ?_
      · rw [hll] at this; exact this
      rw [Addr.add_lit, Nat.zero_add, hW7.rowAt j (by omega), ← hl]
      simp [List.getD, show j < 320 by omega]
    have HS7 := Lib.hid (HS6.out.below hb7)
    have Hb7 := Lib.hid (Hb6.out.trans (hb7.mono Hb6.out.size))
    have hcnt : (if (7 : Int) = 0 then (0 : Int) else (countTo P5.O 7 P5.n : Nat)) = 5 := by
      rw [if_neg (by omega), HS7.out.inn.cnt, Hlen5.out]; rfl
    have Hcnt := Lib.hid hcnt
    clear hown hown' hl hll hW7 hb7 hcnt
    go_wp2_with fail
    refine (count_any pb db ob P5 7 _ HS7.out.pool).mono ?_
    rintro e w8 ⟨rfl, rfl⟩
    rw [Hcnt.out]
    go_wp2_with fail
    go_ret
    exact ⟨rfl, Hb7.out⟩
  · obtain ⟨bb, bo, ha, hbb, hcl⟩ := Hsrc.out.resolve_left (by omega)
    subst ha
    have hsr : ∀ j, j < min len (k * 64) → (w5.alloc (.cells (row 320 fun _ => .int .u8 0) 5)).cell? ⟨bb, bo + j, none⟩ = some (.int .u8 (B j)) := fun j hj => by
      rw [(Hb5.out.alloc Hb5.out.size _).cell (p := ⟨bb, bo + j, none⟩) hbb]; exact hcl j (by omega)
    have Hcl := Lib.hid hsr; clear hcl hsr
    go_wp2_with (refine wpList_copy_own rfl (.tmp 42) (.tmp 43) 32 32 rfl 5 Try.underlying32 (by kernel_rfl) w5.heap.size 0 _ _ ⟨bb, bo, none⟩ _ _ rfl rfl _ _ (Blk.new w5 _ _) ((List.range (min len (k * 64))).map fun j => Value.int .u8 (B j)) (by rw [List.length_map, List.length_range]) (copy_src Hcl.out) (by rw [row_size]; simp; omega) (fun v hv => by obtain ⟨j, _, rfl⟩ := List.mem_map.1 hv; rfl) ?_)
    have HS6 : Hid (Seg ((w5.alloc (.cells (row 320 fun _ => .int .u8 0) 5)).setRow w5.heap.size (((List.range (min len (k * 64))).map fun j => Value.int .u8 (B j)) ++ (row 320 fun _ => .int .u8 0).toList.drop (min len (k * 64))).toArray) w1.heap.size 0 pb db ob (((((#[.slice none 0 0] : Array Value).setIfInBounds 0 v2).setIfInBounds 0 v4)).setIfInBounds 0 v5) (w1.heap.size + 1) v5 L5 P5 7) := (HS5.out.alloc _).below' (Kept.setRow (S := fun b => b = w5.heap.size) (Kept.refl _ _) (.inr rfl) _) HS5.out
    have Hb6 : Hid (Below w.heap.size w ((w5.alloc (.cells (row 320 fun _ => .int .u8 0) 5)).setRow w5.heap.size (((List.range (min len (k * 64))).map fun j => Value.int .u8 (B j)) ++ (row 320 fun _ => .int .u8 0).toList.drop (min len (k * 64))).toArray)) := (Hb5.out.alloc Hb5.out.size _).trans ((Kept.setRow (S := fun b => b = w5.heap.size) (Kept.refl _ _) (.inr rfl) _).below (B := w.heap.size) (by have := Hb5.out.size; simp; omega) (fun i hi e => by have := Hb5.out.size; omega))
    have HW6 : Hid (Blk ((w5.alloc (.cells (row 320 fun _ => .int .u8 0) 5)).setRow w5.heap.size (((List.range (min len (k * 64))).map fun j => Value.int .u8 (B j)) ++ (row 320 fun _ => .int .u8 0).toList.drop (min len (k * 64))).toArray) w5.heap.size (row 320 fun j => .int .u8 (if j < min len (k * 64) then B j else 0)) 5) := by
      refine Blk.cells ((Blk.new w5 _ _).setRow _) ?_
      have hl : ((List.range (min len (k * 64))).map fun j => Value.int .u8 (B j)).length = min len (k * 64) := by simp
      have hs := row_splice 320 (fun _ => Value.int .u8 0) 0 _ (fun j => .int .u8 (B j)) (range_get (min len (k * 64)) B) (by rw [hl]; omega)
      rw [hl, List.take_zero, List.nil_append, Nat.zero_add] at hs
      rw [hs]
      refine row_congr fun j hj => ?_
      by_cases c : j < min len (k * 64)
      · rw [if_pos ⟨by omega, by omega⟩, if_pos c]; rfl
      · rw [if_neg (by omega), if_neg c]
    generalize ((w5.alloc (.cells (row 320 fun _ => .int .u8 0) 5)).setRow w5.heap.size (((List.range (min len (k * 64))).map fun j => Value.int .u8 (B j)) ++ (row 320 fun _ => .int .u8 0).toList.drop (min len (k * 64))).toArray) = w6 at *
    clear hmk
    have hf5 : segW L5 ((0 : Nat) : Int) ((320 : Nat) : Int) = true := by rw [segW_iff]; unfold segS; rw [Hlen5.out]; decide
    have Hf5 := Lib.hid hf5; clear hf5
    go_wp2_with fail
    refine (sread_yes _ 0 pb db ob _ _ _ L5 P5 7 0 320 _ HS6.out.seg HS6.out.pool HS6.out.inn Hf5.out).mono ?_
    rintro e w7 ⟨r, rfl, hown, hb7⟩
    obtain ⟨l, hl⟩ : ∃ l : List Int, (List.range 320).map (fun j => if j < min len (k * 64) then B j else 0) = l := ⟨_, rfl⟩
    have hll : l.length = 320 := by rw [← hl]; simp
    have hown' : w7.ownsRow w6.heap.size 5 1 r l.length (bytesV l) := by
      have e : segC P5 L5 0 320 = bytesV l := by
        rw [← hl]; simp only [segC, bytesV, List.map_map]
        refine List.map_congr_left fun j hj => ?_
        have := List.mem_range.1 hj
        show Value.int .u8 (segD P5 L5 (0 + j)) = _
        rw [Nat.zero_add, Hdata.out j this]; rfl
      rw [hll, ← e]; exact hown
    have hs1 : (convert 32 9 r).run Try.prog w7 = .ok (.string (bs l)) w7 := run_str_own Try.underlying32 Try.underlying5 Try.underlying9 hown'
    have hW7 := HW6.out.below hb7 HW6.out.lt
    have hs2 : (convert 32 9 (.slice (some ⟨w5.heap.size, 0, none⟩) 320 320)).run Try.prog w7 = .ok (.string (bs l)) w7 := by
      have := run_str (P := Try.prog) (w := w7) Try.underlying32 Try.underlying5 Try.underlying9 ⟨w5.heap.size, 0, none⟩ l 320 fun j hj => ?_
      · rw [hll] at this; exact this
      rw [Addr.add_lit, Nat.zero_add, hW7.rowAt j (by omega), ← hl]
      simp [List.getD, show j < 320 by omega]
    have HS7 := Lib.hid (HS6.out.below hb7)
    have Hb7 := Lib.hid (Hb6.out.trans (hb7.mono Hb6.out.size))
    have hcnt : (if (7 : Int) = 0 then (0 : Int) else (countTo P5.O 7 P5.n : Nat)) = 5 := by
      rw [if_neg (by omega), HS7.out.inn.cnt, Hlen5.out]; rfl
    have Hcnt := Lib.hid hcnt
    clear hown hown' hl hll hW7 hb7 hcnt
    go_wp2_with fail
    refine (count_any pb db ob P5 7 _ HS7.out.pool).mono ?_
    rintro e w8 ⟨rfl, rfl⟩
    rw [Hcnt.out]
    go_wp2_with fail
    go_ret
    exact ⟨rfl, Hb7.out⟩
end Go.Proofs.Ytndnjimiabpkpaa
