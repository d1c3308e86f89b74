/- The contracts of package frames: Write, Read, New. -/
import Derived.Test.YtndnjimiabpkpaaFrB
namespace Go.Proofs.Ytndnjimiabpkpaa
open Go.RowKit
attribute [local irreducible] World.setCell World.alloc World.drew World.setRow Calls Code.wp row

/-- Bytes that lie somewhere: the slice a, of length m, holds B 0, B 1, .. -/
def BytesIn (w : World) (a : Option Addr) (m : Nat) (B : Nat → Int) : Prop :=
  m = 0 ∨ ∃ b o, a = some ⟨b, o, none⟩ ∧ ∀ j, j < m → w.cell? ⟨b, o + j, none⟩ = some (.int .u8 (B j))

theorem write_no (pb db ob : Nat) (P : Pool) (f off : Int) (a : Option Addr) (m c : Nat) (w : World) (hP : PoolAt w pb db ob P) (hf : P.fits f off m = false) :
    Calls Try.prog 22 #[.pointer (some ⟨pb, 0, none⟩), .int .i64 f, .int .i64 off, .slice a m c] w fun e w' => e = .returned (.bool false) ∧ w = w' := by
  have HP := Lib.hid hP; clear hP
  have Hf := Lib.hid hf; clear hf
  go_enter Try.func22, Try.ntmps22
  go_wp2_with fail
  refine (fits_any pb db ob P _ _ _ _ HP.out).mono ?_
  rintro e w' ⟨rfl, rfl⟩
  rw [Hf.out]
  go_wp2_with fail
  go_ret
  exact ⟨rfl, rfl⟩

theorem write_nil (f off : Int) (a : Option Addr) (m c : Nat) (w : World) :
    Calls Try.prog 22 #[.pointer none, .int .i64 f, .int .i64 off, .slice a m c] w fun e w' => e = .returned (.bool false) ∧ w = w' := by
  go_enter Try.func22, Try.ntmps22
  go_wp2_with fail
  refine (fits_nil _ _ _ _).mono ?_
  rintro e w' ⟨rfl, rfl⟩
  go_wp2_with fail
  go_ret
  exact ⟨rfl, rfl⟩

theorem range_get (m : Nat) (B : Nat → Int) (i : Nat) (hi : i < ((List.range m).map fun j => Value.int .u8 (B j)).length) : ((List.range m).map fun j => Value.int .u8 (B j))[i]? = some (Value.int .u8 (B i)) := by
  have h' : i < m := by simpa using hi
  simp [h']

/-- A stretch of the pool's bytes replaced. -/
theorem PoolAt.bytes {w : World} {pb db ob : Nat} {P : Pool} (h : PoolAt w pb db ob P) (o m : Nat) (B : Nat → Int) (hm : o + m ≤ P.n * 64) (hB : ∀ j, j < m → 0 ≤ B j ∧ B j ≤ 255) :
    PoolAt (w.setRow db ((row (P.n * 64) fun i => .int .u8 (P.D i)).toList.take o ++ ((List.range m).map (fun j => Value.int .u8 (B j)) ++ (row (P.n * 64) fun i => .int .u8 (P.D i)).toList.drop (o + m))).toArray) pb db ob
      ⟨P.n, P.O, fun j => if o ≤ j ∧ j < o + m then B (j - o) else P.D j⟩ := by
  have hl : ((List.range m).map (fun j => Value.int .u8 (B j))).length = m := by simp
  refine ⟨h.hp.setRow_other (fun e => h.n1 e.symm) _, ?_, h.ho.setRow_other h.n3 _, h.n1, h.n2, h.n3, h.lo, h.hi, fun i => ?_⟩
  · refine Blk.cells (h.hd.setRow _) ?_
    have hsp := row_splice (P.n * 64) (fun i => .int .u8 (P.D i)) o _ (fun j => .int .u8 (B j)) (range_get m B) (by rw [hl]; exact hm)
    rw [hl] at hsp
    rw [hsp]
    refine row_congr fun j _ => ?_
    by_cases e : o ≤ j ∧ j < o + m
    · simp [if_pos e]
    · simp [if_neg e]
  · have := h.bd i
    show 0 ≤ (if o ≤ i ∧ i < o + m then B (i - o) else P.D i) ∧ (if o ≤ i ∧ i < o + m then B (i - o) else P.D i) ≤ 255
    by_cases e : o ≤ i ∧ i < o + m
    · simp only [if_pos e]; exact hB _ (by omega)
    · simp only [if_neg e]; exact this

theorem copy_src {w : World} {b o m : Nat} {B : Nat → Int} (h : ∀ j, j < m → w.cell? ⟨b, o + j, none⟩ = some (.int .u8 (B j))) :
    ∀ (j : Nat) (v : Value), ((List.range m).map fun j => Value.int .u8 (B j))[j]? = some v → w.cell? ((⟨b, o, none⟩ : Addr).add j) = some v := by
  intro j v hv
  have hj : j < m := by
    rcases Nat.lt_or_ge j m with h' | h'
    · exact h'
    · rw [List.getElem?_eq_none (by simpa using h')] at hv; cases hv
  rw [range_get m B j (by simpa using hj)] at hv
  rw [Addr.add_lit, h j hj]; exact hv

set_option maxRecDepth 100000 in
set_option maxHeartbeats 400000 in
theorem write_yes (pb db ob : Nat) (P : Pool) (f off : Int) (a : Option Addr) (m c : Nat) (B : Nat → Int) (w : World) (hP : PoolAt w pb db ob P) (hf : P.fits f off m = true) (hb : BytesIn w a m B) (hB : ∀ j, j < m → 0 ≤ B j ∧ B j ≤ 255) :
    Calls Try.prog 22 #[.pointer (some ⟨pb, 0, none⟩), .int .i64 f, .int .i64 off, .slice a m c] w fun e w' => e = .returned (.bool true) ∧ PoolAt w' pb db ob (P.write f off m B) ∧ Kept (PS pb db ob) w w' := by
  obtain ⟨g1, g2, g3, g4, g5⟩ := (P.fits_iff f off m).1 hf
  obtain ⟨t1, t2⟩ := (P.there_iff f).1 (P.owner_there f g1)
  obtain ⟨k, rfl⟩ : ∃ k : Nat, f = (k : Int) + 1 := ⟨(f - 1).toNat, by omega⟩
  obtain ⟨q, rfl⟩ : ∃ q : Nat, off = (q : Int) := ⟨off.toNat, by omega⟩
  have hq64 : (q : Int) ≤ 64 := by omega
  have hw : P.write ((k : Int) + 1) q m B = ⟨P.n, P.O, fun j => if k * 64 + q ≤ j ∧ j < k * 64 + q + m then B (j - (k * 64 + q)) else P.D j⟩ := by
    unfold Pool.write
    rw [if_pos hf]
    have e1 : ((k : Int) + 1).toNat - 1 = k := by omega
    simp only [e1, Int.toNat_natCast]
  have hc := hP.hp.cell
  have hhi := hP.hi
  have HP := Lib.hid hP; clear hP
  have Hf := Lib.hid hf; clear hf
  have Hw := Lib.hid hw; clear hw
  have HB := Lib.hid hB; clear hB
  clear g1
  by_cases hm0 : m = 0
  · subst hm0
    go_enter Try.func22, Try.ntmps22
    go_wp2_with fail
    refine (fits_any pb db ob P _ _ _ _ HP.out).mono ?_
    rintro e w' ⟨rfl, rfl⟩
    rw [show (0 : Int) = ((0 : Nat) : Int) from rfl, Hf.out]
    go_wp2_with (refine wpList_copy_nothing rfl (.tmp 24) (.tmp 25) 32 32 rfl 5 Try.underlying32 (by kernel_rfl) _ _ _ _ _ _ rfl rfl (by simp) ?_)
    all_goals go_ret
    all_goals refine ⟨rfl, ?_, Kept.refl _ _⟩
    all_goals rw [Hw.out]
    all_goals refine ⟨HP.out.hp, HP.out.hd.cells (row_congr fun i _ => ?_), HP.out.ho, HP.out.n1, HP.out.n2, HP.out.n3, HP.out.lo, HP.out.hi, fun i => ?_⟩
    all_goals first
    | (show Value.int .u8 (P.D i) = Value.int .u8 (if k * 64 + q ≤ i ∧ i < k * 64 + q + 0 then B (i - (k * 64 + q)) else P.D i)
       rw [if_neg (by omega)])
    | (show 0 ≤ (if k * 64 + q ≤ i ∧ i < k * 64 + q + 0 then B (i - (k * 64 + q)) else P.D i) ∧ (if k * 64 + q ≤ i ∧ i < k * 64 + q + 0 then B (i - (k * 64 + q)) else P.D i) ≤ 255
       rw [if_neg (by omega)]; exact HP.out.bd i)
  · obtain ⟨bb, bo, rfl, hb'⟩ := hb.resolve_left hm0
    have Hb := Lib.hid hb'; clear hb' hb
    have hqs : (q : Int) < 64 := by omega
    have hqn : ¬ (64 = q) := by omega
    go_enter Try.func22, Try.ntmps22
    go_wp2_with fail
    refine (fits_any pb db ob P _ _ _ _ HP.out).mono ?_
    rintro e w' ⟨rfl, rfl⟩
    rw [Hf.out]
    go_wp2_with (refine wpList_copy_own rfl (.tmp 24) (.tmp 25) 32 32 rfl 5 Try.underlying32 (by kernel_rfl) db (k * 64 + q) _ _ ⟨bb, bo, none⟩ _ _ rfl rfl _ _ HP.out.hd ((List.range m).map fun j => Value.int .u8 (B j)) (by rw [List.length_map, List.length_range]; exact (Nat.min_eq_left (by omega)).symm) (copy_src Hb.out) (by rw [row_size]; simp; omega) (fun v hv => by obtain ⟨j, _, rfl⟩ := List.mem_map.1 hv; rfl) ?_)
    go_ret
    refine ⟨rfl, ?_, (Kept.refl _ _).setRow (.inr (.inr (.inl rfl))) _⟩
    rw [Hw.out]
    exact HP.out.bytes (k * 64 + q) m B (by omega) HB.out

theorem write_any (pb db ob : Nat) (P : Pool) (f off : Int) (a : Option Addr) (m c : Nat) (B : Nat → Int) (w : World) (hP : PoolAt w pb db ob P) (hb : BytesIn w a m B) (hB : ∀ j, j < m → 0 ≤ B j ∧ B j ≤ 255) :
    Calls Try.prog 22 #[.pointer (some ⟨pb, 0, none⟩), .int .i64 f, .int .i64 off, .slice a m c] w fun e w' => e = .returned (.bool (P.fits f off m)) ∧ PoolAt w' pb db ob (P.write f off m B) ∧ Kept (PS pb db ob) w w' := by
  cases hf : P.fits f off m
  · refine (write_no pb db ob P f off a m c w hP hf).mono ?_
    rintro e w' ⟨rfl, rfl⟩
    refine ⟨rfl, ?_, Kept.refl _ _⟩
    unfold Pool.write; rw [hf]; exact hP
  · exact write_yes pb db ob P f off a m c B w hP hf hb hB

theorem info5 : (Try.prog.info? 5).map (fun i => (i.zero, i.size, i.bytes)) = some (some (.int .u8 0), 1, 1) := by kernel_rfl

theorem read_no (pb db ob : Nat) (P : Pool) (f off n : Int) (w : World) (hP : PoolAt w pb db ob P) (hf : P.fits f off n = false) :
    Calls Try.prog 23 #[.pointer (some ⟨pb, 0, none⟩), .int .i64 f, .int .i64 off, .int .i64 n] w fun e w' => e = .returned (.slice none 0 0) ∧ w = w' := by
  have HP := Lib.hid hP; clear hP
  have Hf := Lib.hid hf; clear hf
  go_enter Try.func23, Try.ntmps23
  go_wp2_with fail
  refine (fits_any pb db ob P _ _ _ _ HP.out).mono ?_
  rintro e w' ⟨rfl, rfl⟩
  rw [Hf.out]
  go_wp2_with fail
  go_ret
  exact ⟨rfl, rfl⟩
theorem read_nil (f off n : Int) (w : World) :
    Calls Try.prog 23 #[.pointer none, .int .i64 f, .int .i64 off, .int .i64 n] w fun e w' => e = .returned (.slice none 0 0) ∧ w = w' := by
  go_enter Try.func23, Try.ntmps23
  go_wp2_with fail
  refine (fits_nil _ _ _ _).mono ?_
  rintro e w' ⟨rfl, rfl⟩
  go_wp2_with fail
  go_ret
  exact ⟨rfl, rfl⟩

/-- n bytes from o on, as cells. -/
def Pool.cells (P : Pool) (o n : Nat) : List Value := (List.range n).map fun j => Value.int .u8 (P.D (o + j))

set_option maxRecDepth 100000 in
set_option maxHeartbeats 400000 in
theorem read_yes (pb db ob : Nat) (P : Pool) (f off n : Int) (w : World) (hP : PoolAt w pb db ob P) (hf : P.fits f off n = true) :
    Calls Try.prog 23 #[.pointer (some ⟨pb, 0, none⟩), .int .i64 f, .int .i64 off, .int .i64 n] w fun e w' =>
      ∃ v, e = .returned v ∧ w'.ownsRow w.heap.size 5 1 v n.toNat (P.cells ((f.toNat - 1) * 64 + off.toNat) n.toNat) ∧ Below w.heap.size w w' := by
  obtain ⟨g1, g2, g3, g4, g5⟩ := (P.fits_iff f off n).1 hf
  obtain ⟨t1, t2⟩ := (P.there_iff f).1 (P.owner_there f g1)
  obtain ⟨k, rfl⟩ : ∃ k : Nat, f = (k : Int) + 1 := ⟨(f - 1).toNat, by omega⟩
  obtain ⟨q, rfl⟩ : ∃ q : Nat, off = (q : Int) := ⟨off.toNat, by omega⟩
  obtain ⟨m, rfl⟩ : ∃ m : Nat, n = (m : Int) := ⟨n.toNat, by omega⟩
  have e1 : ((k : Int) + 1).toNat - 1 = k := by omega
  rw [e1, Int.toNat_natCast, Int.toNat_natCast]
  have hq64 : (q : Int) ≤ 64 := by omega
  have hqm : (q : Int) + m ≤ 64 := by omega
  have hql : (q : Int) ≤ (q : Int) + m := by omega
  have hc := hP.hp.cell
  have hhi := hP.hi
  have hkn : k < P.n := by omega
  obtain ⟨i0, hi, hz0, hz1, hz2⟩ := info_parts info5
  have Hi := Lib.hid hi; have Hz0 := Lib.hid hz0; have Hz1 := Lib.hid hz1; have Hz2 := Lib.hid hz2
  have HP := Lib.hid hP; clear hP
  have Hf := Lib.hid hf; clear hf
  clear g1 e1 hi hz0 hz1 hz2
  have hsrc : ∀ j, j < m → w.cell? ⟨db, k * 64 + q + j, none⟩ = some (.int .u8 (P.D (k * 64 + q + j))) := fun j hj => HP.out.hd.rowAt (k * 64 + q + j) (by omega)
  have Hsrc := Lib.hid hsrc; clear hsrc
  by_cases hq : q = 64
  · have hm0 : m = 0 := by omega
    subst hm0
    subst hq
    go_enter Try.func23, Try.ntmps23
    go_wp2_with fail
    refine (fits_any pb db ob P _ _ _ _ HP.out).mono ?_
    rintro e w' ⟨rfl, rfl⟩
    rw [show (64 : Int) = ((64 : Nat) : Int) from rfl, show (0 : Int) = ((0 : Nat) : Int) from rfl, Hf.out]
    go_wp2_with (at_builtin; refine wpList_append_own _ rfl _ _ 32 rfl w.heap.size 5 i0 (.int .u8 0) 1 1 Try.underlying32 Hi.out Hz0.out Hz1.out Hz2.out rfl (by decide) _ _ _ rfl (World.ownsRow_nil _ _ _ _) ⟨db, k * 64, none⟩ 0 _ [] rfl rfl (fun j u h => by simp at h) (fun u hu => by cases hu) (by unfold maxLen; omega) (by omega) (Nat.le_refl _) ?_; intro v' w2 hown hgrow _)
    go_ret
    exact ⟨_, rfl, by simpa [Pool.cells] using hown, Below.grown (Below.refl _ _) hgrow (Nat.le_refl _) (fun k hk => by cases hk)⟩
  · have hqs : (q : Int) < 64 := by omega
    have hqn : ¬ (64 = q) := by omega
    go_enter Try.func23, Try.ntmps23
    go_wp2_with fail
    refine (fits_any pb db ob P _ _ _ _ HP.out).mono ?_
    rintro e w' ⟨rfl, rfl⟩
    rw [Hf.out]
    go_wp2_with (at_builtin; refine wpList_append_own _ rfl _ _ 32 rfl w.heap.size 5 i0 (.int .u8 0) 1 1 Try.underlying32 Hi.out Hz0.out Hz1.out Hz2.out rfl (by decide) _ _ _ rfl (World.ownsRow_nil _ _ _ _) ⟨db, k * 64 + q, none⟩ (q + m - q) _ (P.cells (k * 64 + q) (q + m - q)) rfl (by simp [Pool.cells]) (copy_src (fun j hj => Hsrc.out j (by omega))) (fun v hv => by obtain ⟨j, _, rfl⟩ := List.mem_map.1 hv; rfl) (by unfold maxLen; omega) (by omega) (Nat.le_refl _) ?_; intro v' w2 hown hgrow _)
    go_ret
    have e : q + m - q = m := by omega
    rw [e] at hown
    exact ⟨_, rfl, by simpa using hown, Below.grown (Below.refl _ _) hgrow (Nat.le_refl _) (fun k hk => by cases hk)⟩
end Go.Proofs.Ytndnjimiabpkpaa
