/- The walk of FramesZero: it returns true, whatever the bytes and the place. -/
import Derived.Test.YtndnjimiabpkpaaFrFit
import Derived.Test.YtndnjimiabpkpaaStr
import Derived.Test.YtndnjimiabpkpaaReg
import Derived.Outline
import Derived.Deep.DeepCutAuto
namespace Go.Proofs.Ytndnjimiabpkpaa
open Go.RowKit
attribute [local irreducible] World.setCell World.alloc World.drew World.setRow Calls Code.wp row

/-- Bytes that lie somewhere below the heap's end: the slice v holds l. -/
def StrIn (w : World) (v : Value) (l : List Int) : Prop :=
  ∃ x c, v = .slice x l.length c ∧ (l = [] ∨ ∃ b o, x = some ⟨b, o, none⟩ ∧ b < w.heap.size ∧ ∀ j, j < l.length → w.cell? ⟨b, o + j, none⟩ = some (.int .u8 (l.getD j 0)))
theorem StrIn.below {w w' : World} {v : Value} {l : List Int} (h : StrIn w v l) {B : Nat} (hb : Below B w w') (hB : w.heap.size ≤ B) : StrIn w' v l := by
  obtain ⟨x, c, rfl, h⟩ := h
  refine ⟨x, c, rfl, h.imp id ?_⟩
  rintro ⟨b, o, rfl, h1, h2⟩
  refine ⟨b, o, rfl, Nat.lt_of_lt_of_le h1 hb.size, fun j hj => ?_⟩
  rw [← h2 j hj]
  exact hb.cell (p := ⟨b, o + j, none⟩) (Nat.lt_of_lt_of_le h1 hB)
theorem StrIn.str {w : World} {v : Value} {l : List Int} (h : StrIn w v l) : (convert 32 9 v).run Try.prog w = .ok (.string (bs l)) w := by
  obtain ⟨x, c, rfl, h⟩ := h
  rcases h with rfl | ⟨b, o, rfl, _, h⟩
  · cases x
    · exact run_str_nil Try.underlying32 Try.underlying5 Try.underlying9 _ _
    · exact run_str Try.underlying32 Try.underlying5 Try.underlying9 _ [] c (fun j hj => absurd hj (by simp))
  · exact run_str Try.underlying32 Try.underlying5 Try.underlying9 _ l c (fun j hj => by rw [Addr.add_lit]; exact h j hj)
def z64 : List Int := List.replicate 64 0
theorem own_str {w : World} {base E : Nat} {v : Value} {l : List Int} (h : w.ownsRow base E 1 v l.length (bytesV l)) : StrIn w v l := by
  rcases h.2 with ⟨rfl, h0⟩ | ⟨g, cap, cur, rfl, _, hh, _⟩
  · obtain rfl : l = [] := List.eq_nil_of_length_eq_zero h0
    exact ⟨_, _, rfl, .inl rfl⟩
  · refine ⟨_, _, rfl, .inr ⟨g, 0, rfl, (Array.getElem?_eq_some_iff.1 hh).1, fun j hj => ?_⟩⟩
    rw [Nat.zero_add, h.cellAt j (by omega)]
    simp [bytesV, hj, List.getD]
theorem neq_same {P : Program} {w : World} (t : TypeId) (s : ByteArray) : (binOp .neq t (.string s) (.string s)).run P w = .ok (.bool false) w := by
  simp [binOp_string_neq]
theorem eql_same {P : Program} {w : World} (t : TypeId) (s : ByteArray) : (binOp .eql t (.string s) (.string s)).run P w = .ok (.bool true) w := by
  simp [binOp_string_eql]
theorem make64 (w : World) : (Instr.makeSlice 32 (.int .i64 64) (.int .i64 64)).run Try.prog w =
    .ok (.slice (some ⟨w.heap.size, 0, none⟩) 64 64) (w.alloc (.cells (row 64 fun _ => .int .u8 0) 5)) := by
  obtain ⟨i, hi, hz, hs, hb⟩ : ∃ i, Try.prog.info? 5 = some i ∧ i.zero = some (.int .u8 0) ∧ i.size = 1 ∧ i.bytes = 1 :=
    info_parts (by kernel_rfl)
  have := run_make (P := Try.prog) w 32 5 i _ Try.underlying32 hi hz .i64 .i64 64 64 (by omega) (by omega) (by rw [hb]; omega) (by omega)
  rw [this, hs]
  rw [made_row _ (.int .u8 0) _ (by simp [Value.cells]) (fun i hi => by
    simp [Value.cells] at hi ⊢; subst hi; rfl)]
  rfl
theorem new_str (w : World) : StrIn (w.alloc (.cells (row 64 fun _ => .int .u8 0) 5)) (.slice (some ⟨w.heap.size, 0, none⟩) 64 64) z64 := by
  refine ⟨_, 64, rfl, .inr ⟨w.heap.size, 0, rfl, by simp, fun j hj => ?_⟩⟩
  have hj' : j < 64 := by simpa [z64] using hj
  rw [Nat.zero_add, (Blk.new w _ _).rowAt j hj']
  have e : z64.getD j 0 = 0 := by unfold z64; rw [List.getD, List.getElem?_replicate, if_pos hj']; rfl
  rw [e]
theorem list_of (m : Nat) (xs : Nat → Int) : ∃ L : List Int, (List.range m).map xs = L ∧ L.length = m ∧ ∀ j, j < m → L.getD j 0 = xs j :=
  ⟨_, rfl, by simp, fun j hj => by simp [List.getD, hj]⟩
/-- The bytes that came in, as the slice's first m. -/
theorem src_bytes {w : World} {A : Option Addr} {len cap m : Nat} {z : List Int} {xs : Nat → Int} (h : IsRow .u8 w A len cap z) (hx : ∀ j, j < len → xs j = z.getD j 0) (hm : m ≤ len) :
    ∀ w', Below w.heap.size w w' → BytesIn w' A m xs := by
  intro w' hb
  rcases Nat.eq_zero_or_pos m with h0 | h0
  · exact .inl h0
  · right
    rcases h with ⟨_, rfl, _, _⟩ | ⟨x, rfl, hl, _, hz, hc, _⟩
    · omega
    · have hc0 := hc 0 (by omega)
      have hsp := World.cell?_spot hc0
      have hlt := cell_lt hc0
      obtain ⟨b, o, sp⟩ := x
      simp only [Addr.add_zero'] at hsp hlt
      subst hsp
      refine ⟨b, o, rfl, fun j hj => ?_⟩
      have := hc j (by omega)
      rw [Addr.add_lit] at this
      rw [hb.cell (p := ⟨b, o + j, none⟩) hlt, this, hx j (by omega)]
theorem src_str {w : World} {A : Option Addr} {len cap m : Nat} {z : List Int} {xs : Nat → Int} (h : IsRow .u8 w A len cap z) (hx : ∀ j, j < len → xs j = z.getD j 0) (hm : m ≤ len) {L : List Int} (_ : (List.range m).map xs = L) (hl : L.length = m) (hg : ∀ j, j < m → L.getD j 0 = xs j) (c : Nat) :
    StrIn w (.slice A m c) L := by
  refine ⟨A, c, by rw [hl], ?_⟩
  rcases Nat.eq_zero_or_pos m with h0 | h0
  · exact .inl (List.eq_nil_of_length_eq_zero (by omega))
  · right
    rcases src_bytes h hx hm w (Below.refl _ _) with h1 | ⟨b, o, rfl, hc⟩
    · omega
    · exact ⟨b, o, rfl, cell_lt (hc 0 h0), fun j hj => by rw [hc j (by omega), hg j (by omega)]⟩
/-- In the midst of the first statement of comparisons. -/
structure Z9 (w0 : World) (pb db ob : Nat) (P P' : Pool) (L : List Int) (b4 b9 b11 b21 : Option Bool) (v40 v42 v52 : Value) (w : World) : Prop where
  pool : PoolAt w pb db ob (if b4 = some true then P' else P)
  kept : Kept (PS pb db ob) w0 w
  g9 : b9 = some true → StrIn w v40 z64
  g11 : b11 = some true → StrIn w v42 z64
  g21 : b21 = some true → StrIn w v52 L

theorem alloc_D {P : Pool} (h : ∀ j, P.D j = 0) (o : Int) (j : Nat) : (P.alloc o).D j = 0 := by
  unfold Pool.alloc
  split
  · show (if _ then (0 : Int) else P.D j) = 0
    split
    · rfl
    · exact h j
  · exact h j
/-- What becomes of the pool, plainly. -/
theorem zero_plain (q m : Nat) (xs : Nat → Int) (P4 P5 P6 P7 : Pool) (h4 : ((newPool 3).alloc 1).alloc 2 = P4) (h5 : P4.write 1 q m xs = P5) (hq : m + q ≤ 64) (h6 : P5.free 1 = P6) (h7 : P6.alloc 3 = P7) :
    P4.fits 1 q m = true ∧ P5.fits 2 0 64 = true ∧ P5.fits 1 q m = true ∧ P5.cells (((2 : Int).toNat - 1) * 64 + (0 : Int).toNat) (64 : Int).toNat = bytesV z64 ∧
    P5.cells (((1 : Int).toNat - 1) * 64 + (q : Int).toNat) (m : Int).toNat = (List.range m).map (fun j => Value.int .u8 (xs j)) ∧ (P6.fits 1 q m = false ∧ P6.fits 1 0 1 = false) ∧ P6.allocRet 3 = 1 ∧
    P7.fits 1 0 64 = true ∧ P7.cells (((1 : Int).toNat - 1) * 64 + (0 : Int).toNat) (64 : Int).toNat = bytesV z64 ∧ P7.owner 1 = 3 := by
  have o1 : P4.owner 1 = 1 := by subst h4; decide
  have o2 : P4.owner 2 = 2 := by subst h4; decide
  have n4 : P4.n = 3 := by subst h4; decide
  have d4 : ∀ j, P4.D j = 0 := by subst h4; exact alloc_D (alloc_D (fun _ => rfl) 1) 2
  have f4 : P4.fits 1 q m = true := (P4.fits_iff _ _ _).2 ⟨by rw [o1]; decide, by omega, by omega, by omega, by omega⟩
  obtain ⟨O4, hO4⟩ : ∃ O, O = (((newPool 3).alloc 1).alloc 2).O := ⟨_, rfl⟩
  have e5 : P5 = ⟨3, P4.O, fun j => if q ≤ j ∧ j < q + m then xs (j - q) else 0⟩ := by
    rw [← h5, Pool.write, if_pos f4, n4]
    congr 1
    funext j
    simp [d4]
  have eO : P4.O = (((newPool 3).alloc 1).alloc 2).O := by rw [h4]
  rw [eO] at e5
  subst e5
  subst h6
  have e6 : (⟨3, (((newPool 3).alloc 1).alloc 2).O, fun j => if q ≤ j ∧ j < q + m then xs (j - q) else 0⟩ : Pool).free 1 = ⟨3, updI (((newPool 3).alloc 1).alloc 2).O 0 0, fun j => if q ≤ j ∧ j < q + m then xs (j - q) else 0⟩ := by
    rw [Pool.free, if_pos (of_decide_eq_true rfl)]; rfl
  rw [e6] at h7 ⊢
  subst h7
  have e7 : (⟨3, updI (((newPool 3).alloc 1).alloc 2).O 0 0, fun j => if q ≤ j ∧ j < q + m then xs (j - q) else 0⟩ : Pool).alloc 3 = ⟨3, updI (updI (((newPool 3).alloc 1).alloc 2).O 0 0) 0 3, fun j => if 0 ≤ j ∧ j < 64 then 0 else if q ≤ j ∧ j < q + m then xs (j - q) else 0⟩ := by
    rw [Pool.alloc, if_pos (of_decide_eq_true rfl)]; rfl
  rw [e7]
  refine ⟨f4, (Pool.fits_iff _ _ _ _).2 ⟨of_decide_eq_true rfl, by omega, by omega, by omega, by omega⟩, (Pool.fits_iff _ _ _ _).2 ⟨of_decide_eq_true rfl, by omega, by omega, by omega, by omega⟩, ?_, ?_, ⟨?_, ?_⟩, rfl,
    (Pool.fits_iff _ _ _ _).2 ⟨of_decide_eq_true rfl, by omega, by omega, by omega, by omega⟩, ?_, rfl⟩
  · unfold Pool.cells bytesV z64
    rw [List.map_replicate, List.eq_replicate_iff]
    refine ⟨by simp, fun b hb => ?_⟩
    obtain ⟨j, hj, rfl⟩ := List.mem_map.1 hb
    have hj' : j < 64 := by simpa using hj
    show Value.int .u8 (if q ≤ 64 + j ∧ 64 + j < q + m then _ else 0) = _
    rw [if_neg (by omega)]
  · unfold Pool.cells
    refine List.map_congr_left fun j hj => ?_
    have hj' : j < m := by simpa using hj
    show Value.int .u8 (if q ≤ 0 + q + j ∧ 0 + q + j < q + m then xs (0 + q + j - q) else 0) = _
    rw [if_pos (by omega), show 0 + q + j - q = j by omega]
  · unfold Pool.fits; rw [show Pool.owner _ 1 = 0 from rfl]; rfl
  · unfold Pool.fits; rw [show Pool.owner _ 1 = 0 from rfl]; rfl
  · unfold Pool.cells bytesV z64
    rw [List.map_replicate, List.eq_replicate_iff]
    refine ⟨by simp, fun b hb => ?_⟩
    obtain ⟨j, hj, rfl⟩ := List.mem_map.1 hb
    have hj' : j < 64 := by simpa using hj
    show Value.int .u8 (if 0 ≤ 0 + j ∧ 0 + j < 64 then 0 else _) = _
    rw [if_pos (by omega)]

set_option maxRecDepth 100000 in
set_option maxHeartbeats 1000000 in
theorem zero_walk (A : Option Addr) (len cap : Nat) (z : List Int) (off : Int) (w : World) (hz : IsRow .u8 w A len cap z) (_ : (Lit.int .i64 off).wf = true) :
    Calls Try.prog 4 #[.slice A len cap, .int .i64 off] w fun e w' => e = .returned (.bool true) ∧ Below w.heap.size w w' := by
  have Hz := Lib.hid hz; clear hz
  obtain ⟨f0, f1⟩ := tmod_bd off 64 (by omega)
  obtain ⟨q, hq, hq', hq64⟩ : ∃ q : Nat, off.tmod 64 % 64 = q ∧ (off.tmod 64 + 64) % 64 = q ∧ q < 64 := ⟨(off.tmod 64 % 64).toNat, by omega, by omega, by omega⟩
  obtain ⟨xs, hxs⟩ : ∃ xs : Nat → Int, ∀ j, xs j = z.getD j 0 := ⟨_, fun _ => rfl⟩
  have Hxs0 : Hid (∀ j, j < len → xs j = z.getD j 0) := fun j _ => hxs j
  have Hwf : Hid (∀ j, (Lit.int .u8 (xs j)).wf = true) := fun j => by rw [hxs]; exact row_wf Hz.out j
  clear hxs
  have hlen : len ≤ 9223372036854775807 := by
    rcases Hz.out with ⟨_, rfl, rfl, _⟩ | ⟨_, _, h, h2, _⟩
    · omega
    · unfold maxLen at h2; omega
  have hlc : len ≤ cap := by
    rcases Hz.out with ⟨_, rfl, rfl, _⟩ | ⟨_, _, h, _⟩
    · exact Nat.le_refl _
    · exact h
  go_enter Try.func4, Try.ntmps4
  go_wp2_with fail
  refine (fit06_any _).mono ?_
  rintro e w1 ⟨rfl, hb1⟩
  have Hb1 := Lib.hid hb1; clear hb1
  have hsz := Hb1.out.size
  go_upto_if 12 with fail
  go_cut [0] (fun s0 wx => ∃ m c : Nat, s0 = .slice A m c ∧ m ≤ 64 ∧ m ≤ len ∧ m ≤ c ∧ wx = w1)
  case first =>
    by_cases h64 : 64 < len
    · have h64' : (64 : Int) ≤ cap := by omega
      go_wp2_with fail
      go_meet
      exact ⟨64, cap, rfl, by omega, by omega, by omega, rfl⟩
    · go_wp2_with fail
      go_meet
      exact ⟨len, cap, rfl, by omega, by omega, by omega, rfl⟩
  case rest =>
  obtain ⟨m0, c0, rfl, hm64, hml, hmc, rfl⟩ := hcut
  go_upto_region 6 with fail
  go_cut [0, 1] (fun s0 s1 wx => s1 = .int .i64 q ∧ ∃ m c : Nat, s0 = .slice A m c ∧ m ≤ len ∧ m + q ≤ 64 ∧ wx = wc)
  case first =>
    by_cases h64 : 64 - (q : Int) < m0
    · have h65 : (64 : Int) - q ≤ c0 := by omega
      go_wp2_with fail
      · go_meet
        exact ⟨by first | rfl | rw [hq'], 64 - q, c0, rfl, by omega, by omega, rfl⟩
    · go_wp2_with fail
      go_meet
      exact ⟨by first | rfl | rw [hq'], m0, c0, rfl, by omega, by omega, rfl⟩
  case rest =>
  obtain ⟨rfl, m, c, rfl, hml', hmq, rfl⟩ := hcut
  clear hm64 hml hmc
  go_wp2_with fail
  refine (new_any 3 _ (by omega) (by omega)).mono ?_
  rintro e w2 ⟨pb, db, ob, rfl, hP, l1, l2, l3, hb⟩
  have HP := Lib.hid hP; clear hP
  have Hb := Lib.hid (Hb1.out.trans (hb.mono hsz)); clear hb
  have e1 : (newPool 3).allocRet 1 = 1 := by decide
  have e2 : ((newPool 3).alloc 1).allocRet 2 = 2 := by decide
  go_wp2_with fail
  refine (alloc_any pb db ob _ _ _ HP.out).mono ?_
  rintro e w3 ⟨rfl, hP2, hK2⟩
  have HP2 := Lib.hid hP2; have Hb2 := Lib.hid (below_ps Hb.out hK2 (by omega) (by omega) (by omega)); clear hP2 hK2
  go_wp2_with fail
  refine (alloc_any pb db ob _ _ _ HP2.out).mono ?_
  rintro e w4 ⟨rfl, hP3, hK3⟩
  have HP3 := Lib.hid hP3; have Hb3 := Lib.hid (below_ps Hb2.out hK3 (by omega) (by omega) (by omega)); clear hP3 hK3
  go_wp2_with fail
  obtain ⟨L, hL, hLl, hLg⟩ := list_of m xs
  have Hsrc := Lib.hid (src_str Hz.out Hxs0.out hml' hL hLl hLg c)
  have Hsrcb := Lib.hid (src_bytes Hz.out Hxs0.out hml')
  have Hxs : Hid (∀ j, j < m → 0 ≤ xs j ∧ xs j ≤ 255) := fun j _ => wf_u8 (Hwf.out j)
  obtain ⟨P4, hP4⟩ : ∃ P, ((newPool 3).alloc 1).alloc 2 = P := ⟨_, rfl⟩
  obtain ⟨P5, hP5⟩ : ∃ P, P4.write 1 q m xs = P := ⟨_, rfl⟩
  rw [hP4] at HP3
  obtain ⟨Hf4, Hf5, Hf6, HZ, HL0, H6, H7, Hf7, HZ7, H73⟩ := zero_plain q m xs P4 P5 _ _ hP4 hP5 hmq rfl rfl
  obtain ⟨P6, hP6⟩ : ∃ P, P5.free 1 = P := ⟨_, rfl⟩
  obtain ⟨P7, hP7⟩ : ∃ P, P6.alloc 3 = P := ⟨_, rfl⟩
  rw [hP6] at H6 H7 Hf7 HZ7 H73
  rw [hP7] at Hf7 HZ7 H73
  have Hf4 := Lib.hid Hf4; have Hf5 := Lib.hid Hf5; have Hf6 := Lib.hid Hf6; have HZ := Lib.hid HZ; have Hf7 := Lib.hid Hf7; have HZ7 := Lib.hid HZ7; have H73 := Lib.hid H73
  have H7 : Hid (P6.allocRet 3 = 1 ∧ P6.alloc 3 = P7) := ⟨H7, hP7⟩
  have H6 : Hid (P5.free 1 = P6 ∧ P6.fits 1 q m = false ∧ P6.fits 1 0 1 = false) := ⟨hP6, H6⟩
  have HP5 : Hid (P4.write 1 q m xs = P5) := hP5
  have HL : Hid (∀ (w' : World) v b, w'.ownsRow b 5 1 v (m : Int).toNat (P5.cells (((1 : Int).toNat - 1) * 64 + (q : Int).toNat) (m : Int).toNat) → w'.ownsRow b 5 1 v L.length (bytesV L)) := fun w' v b h => by
    have e : P5.cells (((1 : Int).toNat - 1) * 64 + (q : Int).toNat) (m : Int).toNat = bytesV L := by rw [HL0, ← hL]; simp [bytesV]
    rw [hLl, ← e]; exact h
  clear hP6 hP7 HL0
  clear hP5 hL hLg
  refine wp_region_rinv (by kernel_rfl) (by kernel_rfl) (by kernel_rfl)
    (fun i v => match i with | 0 => v = (.pointer (some ⟨pb, 0, none⟩)) | 1 => v = (.int .i64 1) | 2 => v = (.int .i64 q) | 3 => v = (.slice A m c) | 4 => v = .bool true | 5 => v = .bool false | 6 => v = (.bool false) | 7 => v = (.pointer (some ⟨pb, 0, none⟩)) | 8 => v = (.int .i64 2) | 10 => v = .string (bs z64) | 12 => v = .string (bs z64) | 13 => v = .bool false | 14 => v = (.bool false) | 15 => v = (.bool false) | 16 => v = (.pointer (some ⟨pb, 0, none⟩)) | 17 => v = (.int .i64 1) | 18 => v = (.int .i64 q) | 19 => v = (.slice A m c) | 20 => v = .int .i64 m | 22 => v = .string (bs L) | 23 => v = (.slice A m c) | 24 => v = .string (bs L) | 25 => v = .bool false | 26 => v = (.bool false) | _ => True)
    (fun l a wx => Z9 w4 pb db ob P4 P5 L l[4]? l[9]? l[11]? l[21]? (a.tmps.getD 40 undef) (a.tmps.getD 42 undef) (a.tmps.getD 52 undef) wx) ?_ ?_ ?_
  · exact ⟨by rw [if_neg (by simp)]; exact HP3.out.drew, (Kept.refl _ _).drew, fun h => by simp at h, fun h => by simp at h, fun h => by simp at h⟩
  · intro hu i l a wx hi hl hli hd hcl hR hW
    have hi27 : i = 0 ∨ i = 1 ∨ i = 2 ∨ i = 3 ∨ i = 4 ∨ i = 5 ∨ i = 6 ∨ i = 7 ∨ i = 8 ∨ i = 9 ∨ i = 10 ∨ i = 11 ∨ i = 12 ∨ i = 13 ∨ i = 14 ∨ i = 15 ∨ i = 16 ∨ i = 17 ∨ i = 18 ∨ i = 19 ∨ i = 20 ∨ i = 21 ∨ i = 22 ∨ i = 23 ∨ i = 24 ∨ i = 25 ∨ i = 26 := by have : i < 27 := hi; omega
    rcases hi27 with rfl | rfl | rfl | rfl | rfl | rfl | rfl | rfl | rfl | rfl | rfl | rfl | rfl | rfl | rfl | rfl | rfl | rfl | rfl | rfl | rfl | rfl | rfl | rfl | rfl | rfl | rfl
    · -- [0] move [t5]
      refine wpOp_val rfl (d := 31) rfl (wanted_plain rfl _) (ex_move (hR.was 5 rfl)) ⟨hR.put hu (by rw [hl]; decide) (d := 31) rfl (of_decide_eq_true rfl) rfl, ?_⟩
      simpa only [set_other, put_other, ne_eq, reduceCtorEq, not_false_eq_true, Nat.reduceEqDiff] using hW
    · -- [1] move [t6]
      refine wpOp_val rfl (d := 32) rfl (wanted_plain rfl _) (ex_move (hR.was 6 rfl)) ⟨hR.put hu (by rw [hl]; decide) (d := 32) rfl (of_decide_eq_true rfl) rfl, ?_⟩
      simpa only [set_other, put_other, ne_eq, reduceCtorEq, not_false_eq_true, Nat.reduceEqDiff] using hW
    · -- [2] move [t1]
      refine wpOp_val rfl (d := 33) rfl (wanted_plain rfl _) (ex_move (hR.was 1 rfl)) ⟨hR.put hu (by rw [hl]; decide) (d := 33) rfl (of_decide_eq_true rfl) rfl, ?_⟩
      simpa only [set_other, put_other, ne_eq, reduceCtorEq, not_false_eq_true, Nat.reduceEqDiff] using hW
    · -- [3] move [t0]
      refine wpOp_val rfl (d := 34) rfl (wanted_plain rfl _) (ex_move (hR.was 0 rfl)) ⟨hR.put hu (by rw [hl]; decide) (d := 34) rfl (of_decide_eq_true rfl) rfl, ?_⟩
      simpa only [set_other, put_other, ne_eq, reduceCtorEq, not_false_eq_true, Nat.reduceEqDiff] using hW
    · -- [4] call f22 [t31, t32, t33, t34]
      have hp := hW.pool
      rw [hli, if_neg (by simp)] at hp
      refine wpOp_call rfl (d := 35) rfl (wanted_plain rfl _) (ex_call (vs := #[(.pointer (some ⟨pb, 0, none⟩)), (.int .i64 1), (.int .i64 q), (.slice A m c)]) (by rw [List.map_toArray]; simp only [List.map_cons, List.map_nil, show a.eval (.tmp 31) = (.pointer (some ⟨pb, 0, none⟩)) from (hR.slot 0 31 (hd 0 rfl) rfl), show a.eval (.tmp 32) = (.int .i64 1) from (hR.slot 1 32 (hd 1 rfl) rfl), show a.eval (.tmp 33) = (.int .i64 q) from (hR.slot 2 33 (hd 2 rfl) rfl), show a.eval (.tmp 34) = (.slice A m c) from (hR.slot 3 34 (hd 3 rfl) rfl)]) (enters_fn Try.func22 (by kernel_rfl) rfl)) (R := fun v w' => v = .bool true ∧ PoolAt w' pb db ob P5 ∧ Kept (PS pb db ob) wx w') ((write_yes pb db ob P4 1 q A m c xs wx hp Hf4.out (Hsrcb.out wx (below_ps Hb3.out hW.kept (by omega) (by omega) (by omega))) Hxs.out).mono fun e w' ⟨h1, h2, h3⟩ => ⟨_, h1, rfl, HP5.out ▸ h2, h3⟩) ?_
      rintro v w' ⟨rfl, h1, h2⟩
      refine ⟨hR.put hu (by rw [hl]; decide) (d := 35) rfl (of_decide_eq_true rfl) rfl, ?_⟩
      simp only [set_other, put_other, ne_eq, not_false_eq_true, Nat.reduceEqDiff, set_self (show 4 < l.size by rw [hl]; decide)]
      have hno : ¬ (l[4]? = some true) := by rw [hli]; simp
      exact ⟨by rw [if_pos rfl]; exact h1, hW.kept.trans h2, fun h => absurd (hcl.of 4 rfl (hcl.of 6 rfl h)) hno, fun h => absurd (hcl.of 4 rfl (hcl.of 6 rfl h)) hno, fun h => absurd (hcl.of 4 rfl (hcl.of 6 rfl (hcl.of 9 rfl (hcl.of 15 rfl h)))) hno⟩
    · -- [5] unOp not 4 t35
      refine wpOp_val rfl (d := 36) rfl (wanted_plain rfl _) (ex_not (hR.slot 4 35 (hd 4 rfl) rfl)) ⟨hR.put hu (by rw [hl]; decide) (d := 36) rfl (of_decide_eq_true rfl) rfl, ?_⟩
      simpa only [set_other, put_other, ne_eq, reduceCtorEq, not_false_eq_true, Nat.reduceEqDiff] using hW
    · -- [6] move [t36]
      refine wpOp_val rfl (d := 37) rfl (wanted_plain rfl _) (ex_move (hR.slot 5 36 (hd 5 rfl) rfl)) ⟨hR.put hu (by rw [hl]; decide) (d := 37) rfl (of_decide_eq_true rfl) rfl, ?_⟩
      simpa only [set_other, put_other, ne_eq, reduceCtorEq, not_false_eq_true, Nat.reduceEqDiff] using hW
    · -- [7] move [t5]
      refine wpOp_val rfl (d := 38) rfl ((wanted_slot rfl (d := 37) rfl (hR.slot 6 37 (hd 6 rfl) rfl)).trans rfl) (ex_move (hR.was 5 rfl)) ⟨hR.put hu (by rw [hl]; decide) (d := 38) rfl (of_decide_eq_true rfl) rfl, ?_⟩
      simpa only [set_other, put_other, ne_eq, reduceCtorEq, not_false_eq_true, Nat.reduceEqDiff] using hW
    · -- [8] move [t7]
      refine wpOp_val rfl (d := 39) rfl ((wanted_slot rfl (d := 37) rfl (hR.slot 6 37 (hd 6 rfl) rfl)).trans rfl) (ex_move (hR.was 7 rfl)) ⟨hR.put hu (by rw [hl]; decide) (d := 39) rfl (of_decide_eq_true rfl) rfl, ?_⟩
      simpa only [set_other, put_other, ne_eq, reduceCtorEq, not_false_eq_true, Nat.reduceEqDiff] using hW
    · -- [9] call f23 [t38, t39, (.int .i64 0), (.int .i64 64)]
      have hp := hW.pool
      rw [(hcl.of 4 rfl (hd 6 rfl)), if_pos rfl] at hp
      refine wpOp_call rfl (d := 40) rfl ((wanted_slot rfl (d := 37) rfl (hR.slot 6 37 (hd 6 rfl) rfl)).trans rfl) (ex_call (vs := #[(.pointer (some ⟨pb, 0, none⟩)), (.int .i64 2), (.int .i64 0), (.int .i64 64)]) (by rw [List.map_toArray]; simp only [List.map_cons, List.map_nil, show a.eval (.tmp 38) = (.pointer (some ⟨pb, 0, none⟩)) from (hR.slot 7 38 (hd 7 rfl) rfl), show a.eval (.tmp 39) = (.int .i64 2) from (hR.slot 8 39 (hd 8 rfl) rfl), show a.eval (.const (.int .i64 0)) = (.int .i64 0) from rfl, show a.eval (.const (.int .i64 64)) = (.int .i64 64) from rfl]) (enters_fn Try.func23 (by kernel_rfl) rfl)) (R := fun v w' => StrIn w' v z64 ∧ Below wx.heap.size wx w') ((read_yes pb db ob P5 2 0 64 wx hp Hf5.out).mono fun e w' ⟨v, h1, h2, h3⟩ => ⟨v, h1, own_str (by rw [show z64.length = 64 from rfl]; exact HZ.out ▸ h2), h3⟩) ?_
      rintro v w' ⟨h1, h2⟩
      refine ⟨hR.put hu (by rw [hl]; decide) (d := 40) rfl (of_decide_eq_true rfl) trivial, ?_⟩
      simp only [set_other, put_other, ne_eq, not_false_eq_true, Nat.reduceEqDiff, set_self (show 9 < l.size by rw [hl]; decide), put_self (show 40 < a.tmps.size by rw [hR.size]; exact of_decide_eq_true rfl)]
      exact ⟨hW.pool.below h2, hW.kept.trans (Kept.of_below h2), fun _ => h1, fun h => (hW.g11 h).below h2 (Nat.le_refl _), fun h => (hW.g21 h).below h2 (Nat.le_refl _)⟩
    · -- [10] convert 32 9 t40
      refine wpOp_val rfl (d := 41) rfl ((wanted_slot rfl (d := 37) rfl (hR.slot 6 37 (hd 6 rfl) rfl)).trans rfl) (ex_convert rfl (hW.g9 (hd 9 rfl)).str) ⟨hR.put hu (by rw [hl]; decide) (d := 41) rfl (of_decide_eq_true rfl) rfl, ?_⟩
      simpa only [set_other, put_other, ne_eq, reduceCtorEq, not_false_eq_true, Nat.reduceEqDiff] using hW
    · -- [11] makeSlice [(.int .i64 64), (.int .i64 64)]
      refine wpOp_val rfl (d := 42) rfl ((wanted_slot rfl (d := 37) rfl (hR.slot 6 37 (hd 6 rfl) rfl)).trans rfl) (ex_makeSlice rfl rfl (make64 wx)) ⟨hR.put hu (by rw [hl]; decide) (d := 42) rfl (of_decide_eq_true rfl) trivial, ?_⟩
      simp only [set_other, put_other, ne_eq, not_false_eq_true, Nat.reduceEqDiff, set_self (show 11 < l.size by rw [hl]; decide), put_self (show 42 < a.tmps.size by rw [hR.size]; exact of_decide_eq_true rfl)]
      have hb2 := (Below.refl wx.heap.size wx).alloc (Nat.le_refl _) (.cells (row 64 fun _ => .int .u8 0) 5)
      exact ⟨hW.pool.alloc _, hW.kept.alloc _, fun h => (hW.g9 h).below hb2 (Nat.le_refl _), fun _ => new_str wx, fun h => (hW.g21 h).below hb2 (Nat.le_refl _)⟩
    · -- [12] convert 32 9 t42
      refine wpOp_val rfl (d := 43) rfl ((wanted_slot rfl (d := 37) rfl (hR.slot 6 37 (hd 6 rfl) rfl)).trans rfl) (ex_convert rfl (hW.g11 (hd 11 rfl)).str) ⟨hR.put hu (by rw [hl]; decide) (d := 43) rfl (of_decide_eq_true rfl) rfl, ?_⟩
      simpa only [set_other, put_other, ne_eq, reduceCtorEq, not_false_eq_true, Nat.reduceEqDiff] using hW
    · -- [13] binOp neq 9 t41 t43 9
      refine wpOp_val rfl (d := 44) rfl ((wanted_slot rfl (d := 37) rfl (hR.slot 6 37 (hd 6 rfl) rfl)).trans rfl) (ex_bin (hR.slot 10 41 (hd 10 rfl) rfl) (hR.slot 12 43 (hd 12 rfl) rfl) (fun w => by simp [eqGuard]) (neq_same _ _)) ⟨hR.put hu (by rw [hl]; decide) (d := 44) rfl (of_decide_eq_true rfl) rfl, ?_⟩
      simpa only [set_other, put_other, ne_eq, reduceCtorEq, not_false_eq_true, Nat.reduceEqDiff] using hW
    · -- [14] pick [t37, (.bool true), t44]
      refine wpOp_val rfl (d := 45) rfl (wanted_plain rfl _) (ex_pick_false (hR.slot 6 37 (hd 6 rfl) rfl) (hR.slot 13 44 (hd 13 rfl) rfl)) ⟨hR.put hu (by rw [hl]; decide) (d := 45) rfl (of_decide_eq_true rfl) rfl, ?_⟩
      simpa only [set_other, put_other, ne_eq, reduceCtorEq, not_false_eq_true, Nat.reduceEqDiff] using hW
    · -- [15] move [t45]
      refine wpOp_val rfl (d := 46) rfl (wanted_plain rfl _) (ex_move (hR.slot 14 45 (hd 14 rfl) rfl)) ⟨hR.put hu (by rw [hl]; decide) (d := 46) rfl (of_decide_eq_true rfl) rfl, ?_⟩
      simpa only [set_other, put_other, ne_eq, reduceCtorEq, not_false_eq_true, Nat.reduceEqDiff] using hW
    · -- [16] move [t5]
      refine wpOp_val rfl (d := 47) rfl ((wanted_slot rfl (d := 46) rfl (hR.slot 15 46 (hd 15 rfl) rfl)).trans rfl) (ex_move (hR.was 5 rfl)) ⟨hR.put hu (by rw [hl]; decide) (d := 47) rfl (of_decide_eq_true rfl) rfl, ?_⟩
      simpa only [set_other, put_other, ne_eq, reduceCtorEq, not_false_eq_true, Nat.reduceEqDiff] using hW
    · -- [17] move [t6]
      refine wpOp_val rfl (d := 48) rfl ((wanted_slot rfl (d := 46) rfl (hR.slot 15 46 (hd 15 rfl) rfl)).trans rfl) (ex_move (hR.was 6 rfl)) ⟨hR.put hu (by rw [hl]; decide) (d := 48) rfl (of_decide_eq_true rfl) rfl, ?_⟩
      simpa only [set_other, put_other, ne_eq, reduceCtorEq, not_false_eq_true, Nat.reduceEqDiff] using hW
    · -- [18] move [t1]
      refine wpOp_val rfl (d := 49) rfl ((wanted_slot rfl (d := 46) rfl (hR.slot 15 46 (hd 15 rfl) rfl)).trans rfl) (ex_move (hR.was 1 rfl)) ⟨hR.put hu (by rw [hl]; decide) (d := 49) rfl (of_decide_eq_true rfl) rfl, ?_⟩
      simpa only [set_other, put_other, ne_eq, reduceCtorEq, not_false_eq_true, Nat.reduceEqDiff] using hW
    · -- [19] move [t0]
      refine wpOp_val rfl (d := 50) rfl ((wanted_slot rfl (d := 46) rfl (hR.slot 15 46 (hd 15 rfl) rfl)).trans rfl) (ex_move (hR.was 0 rfl)) ⟨hR.put hu (by rw [hl]; decide) (d := 50) rfl (of_decide_eq_true rfl) rfl, ?_⟩
      simpa only [set_other, put_other, ne_eq, reduceCtorEq, not_false_eq_true, Nat.reduceEqDiff] using hW
    · -- [20] builtin len [t50]
      refine wpOp_val rfl (d := 51) rfl ((wanted_slot rfl (d := 46) rfl (hR.slot 15 46 (hd 15 rfl) rfl)).trans rfl) (ex_len Try.underlying32 (hR.slot 19 50 (hd 19 rfl) rfl)) ⟨hR.put hu (by rw [hl]; decide) (d := 51) rfl (of_decide_eq_true rfl) rfl, ?_⟩
      simpa only [set_other, put_other, ne_eq, reduceCtorEq, not_false_eq_true, Nat.reduceEqDiff] using hW
    · -- [21] call f23 [t47, t48, t49, t51]
      have hp := hW.pool
      rw [(hcl.of 4 rfl (hcl.of 6 rfl (hcl.of 9 rfl (hd 15 rfl)))), if_pos rfl] at hp
      refine wpOp_call rfl (d := 52) rfl ((wanted_slot rfl (d := 46) rfl (hR.slot 15 46 (hd 15 rfl) rfl)).trans rfl) (ex_call (vs := #[(.pointer (some ⟨pb, 0, none⟩)), (.int .i64 1), (.int .i64 q), (.int .i64 m)]) (by rw [List.map_toArray]; simp only [List.map_cons, List.map_nil, show a.eval (.tmp 47) = (.pointer (some ⟨pb, 0, none⟩)) from (hR.slot 16 47 (hd 16 rfl) rfl), show a.eval (.tmp 48) = (.int .i64 1) from (hR.slot 17 48 (hd 17 rfl) rfl), show a.eval (.tmp 49) = (.int .i64 q) from (hR.slot 18 49 (hd 18 rfl) rfl), show a.eval (.tmp 51) = (.int .i64 m) from (hR.slot 20 51 (hd 20 rfl) rfl)]) (enters_fn Try.func23 (by kernel_rfl) rfl)) (R := fun v w' => StrIn w' v L ∧ Below wx.heap.size wx w') ((read_yes pb db ob P5 1 q m wx hp Hf6.out).mono fun e w' ⟨v, h1, h2, h3⟩ => ⟨v, h1, own_str (HL.out w' v _ h2), h3⟩) ?_
      rintro v w' ⟨h1, h2⟩
      refine ⟨hR.put hu (by rw [hl]; decide) (d := 52) rfl (of_decide_eq_true rfl) trivial, ?_⟩
      simp only [set_other, put_other, ne_eq, not_false_eq_true, Nat.reduceEqDiff, set_self (show 21 < l.size by rw [hl]; decide), put_self (show 52 < a.tmps.size by rw [hR.size]; exact of_decide_eq_true rfl)]
      exact ⟨hW.pool.below h2, hW.kept.trans (Kept.of_below h2), fun h => (hW.g9 h).below h2 (Nat.le_refl _), fun h => (hW.g11 h).below h2 (Nat.le_refl _), fun _ => h1⟩
    · -- [22] convert 32 9 t52
      refine wpOp_val rfl (d := 53) rfl ((wanted_slot rfl (d := 46) rfl (hR.slot 15 46 (hd 15 rfl) rfl)).trans rfl) (ex_convert rfl (hW.g21 (hd 21 rfl)).str) ⟨hR.put hu (by rw [hl]; decide) (d := 53) rfl (of_decide_eq_true rfl) rfl, ?_⟩
      simpa only [set_other, put_other, ne_eq, reduceCtorEq, not_false_eq_true, Nat.reduceEqDiff] using hW
    · -- [23] move [t0]
      refine wpOp_val rfl (d := 54) rfl ((wanted_slot rfl (d := 46) rfl (hR.slot 15 46 (hd 15 rfl) rfl)).trans rfl) (ex_move (hR.was 0 rfl)) ⟨hR.put hu (by rw [hl]; decide) (d := 54) rfl (of_decide_eq_true rfl) rfl, ?_⟩
      simpa only [set_other, put_other, ne_eq, reduceCtorEq, not_false_eq_true, Nat.reduceEqDiff] using hW
    · -- [24] convert 32 9 t54
      refine wpOp_val rfl (d := 55) rfl ((wanted_slot rfl (d := 46) rfl (hR.slot 15 46 (hd 15 rfl) rfl)).trans rfl) (ex_convert (hR.slot 23 54 (hd 23 rfl) rfl) (Hsrc.out.below (below_ps Hb3.out hW.kept (by omega) (by omega) (by omega)) (Nat.le_refl _)).str) ⟨hR.put hu (by rw [hl]; decide) (d := 55) rfl (of_decide_eq_true rfl) rfl, ?_⟩
      simpa only [set_other, put_other, ne_eq, reduceCtorEq, not_false_eq_true, Nat.reduceEqDiff] using hW
    · -- [25] binOp neq 9 t53 t55 9
      refine wpOp_val rfl (d := 56) rfl ((wanted_slot rfl (d := 46) rfl (hR.slot 15 46 (hd 15 rfl) rfl)).trans rfl) (ex_bin (hR.slot 22 53 (hd 22 rfl) rfl) (hR.slot 24 55 (hd 24 rfl) rfl) (fun w => by simp [eqGuard]) (neq_same _ _)) ⟨hR.put hu (by rw [hl]; decide) (d := 56) rfl (of_decide_eq_true rfl) rfl, ?_⟩
      simpa only [set_other, put_other, ne_eq, reduceCtorEq, not_false_eq_true, Nat.reduceEqDiff] using hW
    · -- [26] pick [t46, (.bool true), t56]
      refine wpOp_val rfl (d := 57) rfl (wanted_plain rfl _) (ex_pick_false (hR.slot 15 46 (hd 15 rfl) rfl) (hR.slot 25 56 (hd 25 rfl) rfl)) ⟨hR.put hu (by rw [hl]; decide) (d := 57) rfl (of_decide_eq_true rfl) rfl, ?_⟩
      simpa only [set_other, put_other, ne_eq, reduceCtorEq, not_false_eq_true, Nat.reduceEqDiff] using hW
  · intro l a wx hl hR hW
    have hp := hW.pool
    rw [hl 4 (by decide), if_pos rfl] at hp
    have HP6 := Lib.hid hp
    have Hb6 := Lib.hid (below_ps Hb3.out hW.kept (by omega) (by omega) (by omega))
    have e57 : a.tmps.getD 57 undef = .bool false := hR.slot 26 57 (hl 26 (by decide)) rfl
    rw [hR.fold [31, 32, 33, 34, 35, 36, 37, 38, 39, 40, 41, 42, 43, 44, 45, 46, 47, 48, 49, 50, 51, 52, 53, 54, 55, 56, 57] (by kernel_rfl)]
    simp only [List.foldl, e57]
    clear hW hR hp e57 hl hP4
    generalize a.tmps.getD 31 undef = u31
    generalize a.tmps.getD 32 undef = u32
    generalize a.tmps.getD 33 undef = u33
    generalize a.tmps.getD 34 undef = u34
    generalize a.tmps.getD 35 undef = u35
    generalize a.tmps.getD 36 undef = u36
    generalize a.tmps.getD 37 undef = u37
    generalize a.tmps.getD 38 undef = u38
    generalize a.tmps.getD 39 undef = u39
    generalize a.tmps.getD 40 undef = u40
    generalize a.tmps.getD 41 undef = u41
    generalize a.tmps.getD 42 undef = u42
    generalize a.tmps.getD 43 undef = u43
    generalize a.tmps.getD 44 undef = u44
    generalize a.tmps.getD 45 undef = u45
    generalize a.tmps.getD 46 undef = u46
    generalize a.tmps.getD 47 undef = u47
    generalize a.tmps.getD 48 undef = u48
    generalize a.tmps.getD 49 undef = u49
    generalize a.tmps.getD 50 undef = u50
    generalize a.tmps.getD 51 undef = u51
    generalize a.tmps.getD 52 undef = u52
    generalize a.tmps.getD 53 undef = u53
    generalize a.tmps.getD 54 undef = u54
    generalize a.tmps.getD 55 undef = u55
    generalize a.tmps.getD 56 undef = u56
    go_simp
    clear a l
    go_wp2_with fail
    refine (free_any pb db ob _ _ _ HP6.out).mono ?_
    rintro e w5 ⟨rfl, hP7, hK7⟩
    have HP7 : Hid (PoolAt w5 pb db ob P6) := H6.out.1 ▸ hP7
    have Hb7 := Lib.hid (below_ps Hb6.out hK7 (by omega) (by omega) (by omega)); clear hP7 hK7
    go_wp2_with fail
    refine (write_no pb db ob P6 _ _ _ _ _ _ HP7.out H6.out.2.1).mono ?_
    rintro e w' ⟨rfl, rfl⟩
    go_wp2_with fail
    refine (read_no pb db ob P6 _ _ _ _ HP7.out H6.out.2.2).mono ?_
    rintro e w' ⟨rfl, rfl⟩
    go_wp2_with fail
    refine wp_region_rinv (by kernel_rfl) (by kernel_rfl) (by kernel_rfl)
      (fun i v => match i with | 0 => v = (.pointer (some ⟨pb, 0, none⟩)) | 1 => v = .int .i64 1 | 2 => v = (.int .i64 1) | 3 => v = .bool true | 4 => v = (.bool true) | 5 => v = (.pointer (some ⟨pb, 0, none⟩)) | 6 => v = (.int .i64 1) | 8 => v = .string (bs z64) | 10 => v = .string (bs z64) | 11 => v = .bool true | 12 => v = (.bool true) | 13 => v = (.bool true) | 14 => v = (.pointer (some ⟨pb, 0, none⟩)) | 15 => v = (.int .i64 1) | 16 => v = .int .u64 3 | 17 => v = .bool true | 18 => v = (.bool true) | 19 => v = (.bool true) | _ => True)
      (fun l a wx => Z9 w5 pb db ob P6 P7 L l[1]? l[7]? l[9]? (some false) (a.tmps.getD 85 undef) (a.tmps.getD 87 undef) undef wx) ?_ ?_ ?_
    · exact ⟨by rw [if_neg (by simp)]; exact HP7.out.drew, (Kept.refl _ _).drew, fun h => by simp at h, fun h => by simp at h, fun h => by cases h⟩
    · intro hu i l a wx hi hl hli hd hcl hR hW
      have hi27 : i = 0 ∨ i = 1 ∨ i = 2 ∨ i = 3 ∨ i = 4 ∨ i = 5 ∨ i = 6 ∨ i = 7 ∨ i = 8 ∨ i = 9 ∨ i = 10 ∨ i = 11 ∨ i = 12 ∨ i = 13 ∨ i = 14 ∨ i = 15 ∨ i = 16 ∨ i = 17 ∨ i = 18 ∨ i = 19 := by have : i < 20 := hi; omega
      rcases hi27 with rfl | rfl | rfl | rfl | rfl | rfl | rfl | rfl | rfl | rfl | rfl | rfl | rfl | rfl | rfl | rfl | rfl | rfl | rfl | rfl
      · -- [0] move [t5]
        refine wpOp_val rfl (d := 78) rfl (wanted_plain rfl _) (ex_move (hR.was 5 rfl)) ⟨hR.put hu (by rw [hl]; decide) (d := 78) rfl (of_decide_eq_true rfl) rfl, ?_⟩
        simpa only [set_other, put_other, ne_eq, not_false_eq_true, Nat.reduceEqDiff] using hW
      · -- [1] call f18 [t78, (.int .u64 3)]
        have hp := hW.pool
        rw [hli, if_neg (by simp)] at hp
        refine wpOp_call rfl (d := 79) rfl (wanted_plain rfl _) (ex_call (vs := #[(.pointer (some ⟨pb, 0, none⟩)), (.int .u64 3)]) (by rw [List.map_toArray]; simp only [List.map_cons, List.map_nil, show a.eval (.tmp 78) = (.pointer (some ⟨pb, 0, none⟩)) from (hR.slot 0 78 (hd 0 rfl) rfl), show a.eval (.const (.int .u64 3)) = (.int .u64 3) from rfl]) (enters_fn Try.func18 (by kernel_rfl) rfl)) (R := fun v w' => v = .int .i64 1 ∧ PoolAt w' pb db ob P7 ∧ Kept (PS pb db ob) wx w') ((alloc_any pb db ob P6 3 wx hp).mono fun e w' ⟨h1, h2, h3⟩ => ⟨_, h1, by rw [H7.out.1], H7.out.2 ▸ h2, h3⟩) ?_
        rintro v w' ⟨rfl, h1, h2⟩
        refine ⟨hR.put hu (by rw [hl]; decide) (d := 79) rfl (of_decide_eq_true rfl) rfl, ?_⟩
        simp only [set_other, put_other, ne_eq, not_false_eq_true, Nat.reduceEqDiff, set_self (show 1 < l.size by rw [hl]; decide)]
        have hno : ¬ (l[1]? = some true) := by rw [hli]; simp
        exact ⟨by rw [if_pos rfl]; exact h1, hW.kept.trans h2, fun h => absurd (hcl.of 1 rfl (hcl.of 4 rfl h)) hno, fun h => absurd (hcl.of 1 rfl (hcl.of 4 rfl h)) hno, fun h => by cases h⟩
      · -- [2] move [t6]
        refine wpOp_val rfl (d := 80) rfl (wanted_plain rfl _) (ex_move (hR.was 6 rfl)) ⟨hR.put hu (by rw [hl]; decide) (d := 80) rfl (of_decide_eq_true rfl) rfl, ?_⟩
        simpa only [set_other, put_other, ne_eq, not_false_eq_true, Nat.reduceEqDiff] using hW
      · -- [3] binOp eql 3 t79 t80 3
        refine wpOp_val rfl (d := 81) rfl (wanted_plain rfl _) (ex_bin (hR.slot 1 79 (hd 1 rfl) rfl) (hR.slot 2 80 (hd 2 rfl) rfl) (fun w => by simp [eqGuard]) (by go_simp; rfl)) ⟨hR.put hu (by rw [hl]; decide) (d := 81) rfl (of_decide_eq_true rfl) rfl, ?_⟩
        simpa only [set_other, put_other, ne_eq, not_false_eq_true, Nat.reduceEqDiff] using hW
      · -- [4] move [t81]
        refine wpOp_val rfl (d := 82) rfl (wanted_plain rfl _) (ex_move (hR.slot 3 81 (hd 3 rfl) rfl)) ⟨hR.put hu (by rw [hl]; decide) (d := 82) rfl (of_decide_eq_true rfl) rfl, ?_⟩
        simpa only [set_other, put_other, ne_eq, not_false_eq_true, Nat.reduceEqDiff] using hW
      · -- [5] move [t5]
        refine wpOp_val rfl (d := 83) rfl ((wanted_slot rfl (d := 82) rfl (hR.slot 4 82 (hd 4 rfl) rfl)).trans rfl) (ex_move (hR.was 5 rfl)) ⟨hR.put hu (by rw [hl]; decide) (d := 83) rfl (of_decide_eq_true rfl) rfl, ?_⟩
        simpa only [set_other, put_other, ne_eq, not_false_eq_true, Nat.reduceEqDiff] using hW
      · -- [6] move [t6]
        refine wpOp_val rfl (d := 84) rfl ((wanted_slot rfl (d := 82) rfl (hR.slot 4 82 (hd 4 rfl) rfl)).trans rfl) (ex_move (hR.was 6 rfl)) ⟨hR.put hu (by rw [hl]; decide) (d := 84) rfl (of_decide_eq_true rfl) rfl, ?_⟩
        simpa only [set_other, put_other, ne_eq, not_false_eq_true, Nat.reduceEqDiff] using hW
      · -- [7] call f23 [t83, t84, (.int .i64 0), (.int .i64 64)]
        have hp := hW.pool
        rw [(hcl.of 1 rfl (hd 4 rfl)), if_pos rfl] at hp
        refine wpOp_call rfl (d := 85) rfl ((wanted_slot rfl (d := 82) rfl (hR.slot 4 82 (hd 4 rfl) rfl)).trans rfl) (ex_call (vs := #[(.pointer (some ⟨pb, 0, none⟩)), (.int .i64 1), (.int .i64 0), (.int .i64 64)]) (by rw [List.map_toArray]; simp only [List.map_cons, List.map_nil, show a.eval (.tmp 83) = (.pointer (some ⟨pb, 0, none⟩)) from (hR.slot 5 83 (hd 5 rfl) rfl), show a.eval (.tmp 84) = (.int .i64 1) from (hR.slot 6 84 (hd 6 rfl) rfl), show a.eval (.const (.int .i64 0)) = (.int .i64 0) from rfl, show a.eval (.const (.int .i64 64)) = (.int .i64 64) from rfl]) (enters_fn Try.func23 (by kernel_rfl) rfl)) (R := fun v w' => StrIn w' v z64 ∧ Below wx.heap.size wx w') ((read_yes pb db ob P7 1 0 64 wx hp Hf7.out).mono fun e w' ⟨v, h1, h2, h3⟩ => ⟨v, h1, own_str (by rw [show z64.length = 64 from rfl]; exact HZ7.out ▸ h2), h3⟩) ?_
        rintro v w' ⟨h1, h2⟩
        refine ⟨hR.put hu (by rw [hl]; decide) (d := 85) rfl (of_decide_eq_true rfl) trivial, ?_⟩
        simp only [set_other, put_other, ne_eq, not_false_eq_true, Nat.reduceEqDiff, set_self (show 7 < l.size by rw [hl]; decide), put_self (show 85 < a.tmps.size by rw [hR.size]; exact of_decide_eq_true rfl)]
        exact ⟨hW.pool.below h2, hW.kept.trans (Kept.of_below h2), fun _ => h1, fun h => (hW.g11 h).below h2 (Nat.le_refl _), fun h => by cases h⟩
      · -- [8] convert 32 9 t85
        refine wpOp_val rfl (d := 86) rfl ((wanted_slot rfl (d := 82) rfl (hR.slot 4 82 (hd 4 rfl) rfl)).trans rfl) (ex_convert rfl (hW.g9 (hd 7 rfl)).str) ⟨hR.put hu (by rw [hl]; decide) (d := 86) rfl (of_decide_eq_true rfl) rfl, ?_⟩
        simpa only [set_other, put_other, ne_eq, not_false_eq_true, Nat.reduceEqDiff] using hW
      · -- [9] makeSlice [(.int .i64 64), (.int .i64 64)]
        refine wpOp_val rfl (d := 87) rfl ((wanted_slot rfl (d := 82) rfl (hR.slot 4 82 (hd 4 rfl) rfl)).trans rfl) (ex_makeSlice rfl rfl (make64 wx)) ⟨hR.put hu (by rw [hl]; decide) (d := 87) rfl (of_decide_eq_true rfl) trivial, ?_⟩
        simp only [set_other, put_other, ne_eq, not_false_eq_true, Nat.reduceEqDiff, set_self (show 9 < l.size by rw [hl]; decide), put_self (show 87 < a.tmps.size by rw [hR.size]; exact of_decide_eq_true rfl)]
        have hb2 := (Below.refl wx.heap.size wx).alloc (Nat.le_refl _) (.cells (row 64 fun _ => .int .u8 0) 5)
        exact ⟨hW.pool.alloc _, hW.kept.alloc _, fun h => (hW.g9 h).below hb2 (Nat.le_refl _), fun _ => new_str wx, fun h => by cases h⟩
      · -- [10] convert 32 9 t87
        refine wpOp_val rfl (d := 88) rfl ((wanted_slot rfl (d := 82) rfl (hR.slot 4 82 (hd 4 rfl) rfl)).trans rfl) (ex_convert rfl (hW.g11 (hd 9 rfl)).str) ⟨hR.put hu (by rw [hl]; decide) (d := 88) rfl (of_decide_eq_true rfl) rfl, ?_⟩
        simpa only [set_other, put_other, ne_eq, not_false_eq_true, Nat.reduceEqDiff] using hW
      · -- [11] binOp eql 9 t86 t88 9
        refine wpOp_val rfl (d := 89) rfl ((wanted_slot rfl (d := 82) rfl (hR.slot 4 82 (hd 4 rfl) rfl)).trans rfl) (ex_bin (hR.slot 8 86 (hd 8 rfl) rfl) (hR.slot 10 88 (hd 10 rfl) rfl) (fun w => by simp [eqGuard]) (eql_same _ _)) ⟨hR.put hu (by rw [hl]; decide) (d := 89) rfl (of_decide_eq_true rfl) rfl, ?_⟩
        simpa only [set_other, put_other, ne_eq, not_false_eq_true, Nat.reduceEqDiff] using hW
      · -- [12] pick [t82, t89, (.bool false)]
        refine wpOp_val rfl (d := 90) rfl (wanted_plain rfl _) (ex_pick_true (hR.slot 4 82 (hd 4 rfl) rfl) (hR.slot 11 89 (hd 11 rfl) rfl)) ⟨hR.put hu (by rw [hl]; decide) (d := 90) rfl (of_decide_eq_true rfl) rfl, ?_⟩
        simpa only [set_other, put_other, ne_eq, not_false_eq_true, Nat.reduceEqDiff] using hW
      · -- [13] move [t90]
        refine wpOp_val rfl (d := 91) rfl (wanted_plain rfl _) (ex_move (hR.slot 12 90 (hd 12 rfl) rfl)) ⟨hR.put hu (by rw [hl]; decide) (d := 91) rfl (of_decide_eq_true rfl) rfl, ?_⟩
        simpa only [set_other, put_other, ne_eq, not_false_eq_true, Nat.reduceEqDiff] using hW
      · -- [14] move [t5]
        refine wpOp_val rfl (d := 92) rfl ((wanted_slot rfl (d := 91) rfl (hR.slot 13 91 (hd 13 rfl) rfl)).trans rfl) (ex_move (hR.was 5 rfl)) ⟨hR.put hu (by rw [hl]; decide) (d := 92) rfl (of_decide_eq_true rfl) rfl, ?_⟩
        simpa only [set_other, put_other, ne_eq, not_false_eq_true, Nat.reduceEqDiff] using hW
      · -- [15] move [t6]
        refine wpOp_val rfl (d := 93) rfl ((wanted_slot rfl (d := 91) rfl (hR.slot 13 91 (hd 13 rfl) rfl)).trans rfl) (ex_move (hR.was 6 rfl)) ⟨hR.put hu (by rw [hl]; decide) (d := 93) rfl (of_decide_eq_true rfl) rfl, ?_⟩
        simpa only [set_other, put_other, ne_eq, not_false_eq_true, Nat.reduceEqDiff] using hW
      · -- [16] call f24 [t92, t93]
        have hp := hW.pool
        rw [(hcl.of 1 rfl (hcl.of 4 rfl (hcl.of 7 rfl (hd 13 rfl)))), if_pos rfl] at hp
        refine wpOp_call rfl (d := 94) rfl ((wanted_slot rfl (d := 91) rfl (hR.slot 13 91 (hd 13 rfl) rfl)).trans rfl) (ex_call (vs := #[(.pointer (some ⟨pb, 0, none⟩)), (.int .i64 1)]) (by rw [List.map_toArray]; simp only [List.map_cons, List.map_nil, show a.eval (.tmp 92) = (.pointer (some ⟨pb, 0, none⟩)) from (hR.slot 14 92 (hd 14 rfl) rfl), show a.eval (.tmp 93) = (.int .i64 1) from (hR.slot 15 93 (hd 15 rfl) rfl)]) (enters_fn Try.func24 (by kernel_rfl) rfl)) (R := fun v w' => v = .int .u64 3 ∧ wx = w') ((owner_any pb db ob P7 1 wx hp).mono fun e w' ⟨h1, h2⟩ => ⟨_, h1, by rw [H73.out], h2⟩) ?_
        rintro v w' ⟨rfl, rfl⟩
        refine ⟨hR.put hu (by rw [hl]; decide) (d := 94) rfl (of_decide_eq_true rfl) rfl, ?_⟩
        simpa only [set_other, put_other, ne_eq, not_false_eq_true, Nat.reduceEqDiff] using hW
      · -- [17] binOp eql 27 t94 (.int .u64 3) 27
        refine wpOp_val rfl (d := 95) rfl ((wanted_slot rfl (d := 91) rfl (hR.slot 13 91 (hd 13 rfl) rfl)).trans rfl) (ex_bin (hR.slot 16 94 (hd 16 rfl) rfl) rfl (fun w => by simp [eqGuard]) (by go_simp; rfl)) ⟨hR.put hu (by rw [hl]; decide) (d := 95) rfl (of_decide_eq_true rfl) rfl, ?_⟩
        simpa only [set_other, put_other, ne_eq, not_false_eq_true, Nat.reduceEqDiff] using hW
      · -- [18] pick [t91, t95, (.bool false)]
        refine wpOp_val rfl (d := 96) rfl (wanted_plain rfl _) (ex_pick_true (hR.slot 13 91 (hd 13 rfl) rfl) (hR.slot 17 95 (hd 17 rfl) rfl)) ⟨hR.put hu (by rw [hl]; decide) (d := 96) rfl (of_decide_eq_true rfl) rfl, ?_⟩
        simpa only [set_other, put_other, ne_eq, not_false_eq_true, Nat.reduceEqDiff] using hW
      · -- [19] assign [t96]
        refine wpOp_val rfl (d := 4) rfl (wanted_plain rfl _) (ex_assign (hR.slot 18 96 (hd 18 rfl) rfl)) ⟨hR.put hu (by rw [hl]; decide) (d := 4) rfl (of_decide_eq_true rfl) rfl, ?_⟩
        simpa only [set_other, put_other, ne_eq, not_false_eq_true, Nat.reduceEqDiff] using hW
-- END14
    · intro l a wx hl hR hW
      have Hb8 := Lib.hid (below_ps Hb7.out hW.kept (by omega) (by omega) (by omega))
      have e4 : a.tmps.getD 4 undef = .bool true := hR.slot 19 4 (hl 19 (by decide)) rfl
      rw [hR.fold [78, 79, 80, 81, 82, 83, 84, 85, 86, 87, 88, 89, 90, 91, 92, 93, 94, 95, 96, 4] (by kernel_rfl)]
      simp only [List.foldl, e4]
      clear hW hR e4 hl
      generalize a.tmps.getD 78 undef = u78
      generalize a.tmps.getD 79 undef = u79
      generalize a.tmps.getD 80 undef = u80
      generalize a.tmps.getD 81 undef = u81
      generalize a.tmps.getD 82 undef = u82
      generalize a.tmps.getD 83 undef = u83
      generalize a.tmps.getD 84 undef = u84
      generalize a.tmps.getD 85 undef = u85
      generalize a.tmps.getD 86 undef = u86
      generalize a.tmps.getD 87 undef = u87
      generalize a.tmps.getD 88 undef = u88
      generalize a.tmps.getD 89 undef = u89
      generalize a.tmps.getD 90 undef = u90
      generalize a.tmps.getD 91 undef = u91
      generalize a.tmps.getD 92 undef = u92
      generalize a.tmps.getD 93 undef = u93
      generalize a.tmps.getD 94 undef = u94
      generalize a.tmps.getD 95 undef = u95
      generalize a.tmps.getD 96 undef = u96
      go_simp
      clear a l
      go_wp2_with fail
      go_ret
      exact ⟨rfl, Hb8.out⟩
end Go.Proofs.Ytndnjimiabpkpaa
