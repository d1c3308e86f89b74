/- The walk of BytesNums: numbers over the borders of pages are read back, and their bytes. -/
import Derived.Test.YtndnjimiabpkpaaSgF
namespace Go.Proofs.Ytndnjimiabpkpaa
open Go.RowKit
attribute [local irreducible] World.setCell World.alloc World.drew World.setRow Calls Code.wp row

theorem and_mask_u64 (x : Int) (i : Nat) (hi : i < 64) (h0 : 0 ≤ x) (h1 : x ≤ 18446744073709551615) : bits .and .u64 x ((2 : Int) ^ i - 1) = x % 2 ^ i := by
  obtain ⟨n, rfl⟩ := Int.eq_ofNat_of_zero_le h0
  have hp : 2 ^ i ≤ 2 ^ 63 := Nat.pow_le_pow_right (by omega) (by omega)
  have h63 : (2 : Nat) ^ 63 = 9223372036854775808 := by decide
  have hpos : 0 < 2 ^ i := Nat.pow_pos (by omega)
  have e1 : ((2 : Int) ^ i - 1) = ((2 ^ i - 1 : Nat) : Int) := by
    have e : ((2 ^ i : Nat) : Int) = (2 : Int) ^ i := by rw [Int.natCast_pow]; rfl
    rw [← e]; omega
  have e2 : (2 : Int) ^ i = ((2 ^ i : Nat) : Int) := by rw [Int.natCast_pow]; rfl
  rw [e1, e2]
  show IntKind.u64.wrap ((BitVec.ofInt 64 (n : Int) &&& BitVec.ofInt 64 ((2 ^ i - 1 : Nat) : Int)).toNat : Int) = _
  have hlt := Nat.mod_lt n hpos
  rw [BitVec.toNat_and, BitVec.ofInt_natCast, BitVec.ofInt_natCast, BitVec.toNat_ofNat, BitVec.toNat_ofNat, Nat.mod_eq_of_lt (by omega), Nat.mod_eq_of_lt (by omega), Nat.and_two_pow_sub_one_eq_mod, IntKind.wrap_u64, ← Int.natCast_emod]
  exact Int.emod_eq_of_lt (by omega) (by omega)
theorem pow_256 (m : Nat) : (2 : Int) ^ (8 * m) = 256 ^ m := by rw [Int.pow_mul]; rfl
theorem mask_any (x : Int) (m : Nat) (hm : m < 8) (h0 : 0 ≤ x) (h1 : x ≤ 18446744073709551615) : bits .and .u64 x (IntKind.u64.wrap (IntKind.u64.wrap (2 ^ (8 * m)) - 1)) = x % 256 ^ m := by
  have hp : 2 ^ (8 * m) ≤ 2 ^ 56 := Nat.pow_le_pow_right (by omega) (by omega)
  have h56 : (2 : Nat) ^ 56 = 72057594037927936 := by decide
  have hpos : 0 < 2 ^ (8 * m) := Nat.pow_pos (by omega)
  have e : (2 : Int) ^ (8 * m) = ((2 ^ (8 * m) : Nat) : Int) := by rw [Int.natCast_pow]; rfl
  have w1 : IntKind.u64.wrap ((2 : Int) ^ (8 * m)) = (2 : Int) ^ (8 * m) := by rw [e, IntKind.wrap_u64]; exact Int.emod_eq_of_lt (by omega) (by omega)
  have w2 : IntKind.u64.wrap ((2 : Int) ^ (8 * m) - 1) = (2 : Int) ^ (8 * m) - 1 := by rw [e, IntKind.wrap_u64]; exact Int.emod_eq_of_lt (by omega) (by omega)
  rw [w1, w2, and_mask_u64 x (8 * m) (by omega) h0 h1, pow_256]
theorem want_top (x : Int) (m : Nat) (hm : m = 8) (h0 : 0 ≤ x) (h1 : x ≤ 18446744073709551615) : x = x % 256 ^ m := by
  subst hm
  have : (256 : Int) ^ 8 = 18446744073709551616 := by decide
  rw [this]; omega
theorem want_byte (x : Int) (m k : Nat) (hk : k < m) (h0 : 0 ≤ x) : x % 256 ^ m / 2 ^ (8 * (m - 1 - k)) % 256 = byN m x k := by
  unfold byN
  rw [pow_256]
  obtain ⟨n, rfl⟩ := Int.eq_ofNat_of_zero_le h0
  have e : ∀ a : Nat, (256 : Int) ^ a = ((256 ^ a : Nat) : Int) := fun a => by rw [Int.natCast_pow]; rfl
  rw [e, e, ← Int.natCast_emod, ← Int.natCast_ediv, ← Int.natCast_ediv]
  have : n % 256 ^ m / 256 ^ (m - 1 - k) % 256 = n / 256 ^ (m - 1 - k) % 256 := by
    have hsp : 256 ^ m = 256 ^ (m - 1 - k) * 256 ^ (k + 1) := by rw [← Nat.pow_add]; congr 1; omega
    rw [hsp, Nat.mod_mul_right_div_self, Nat.mod_mod_of_dvd _ (by rw [Nat.pow_succ]; exact Nat.dvd_mul_left _ _)]
  have h2 := congrArg (fun n : Nat => (n : Int)) this
  simpa using h2
theorem put_num (x : Int) (m : Nat) (h0 : 0 ≤ x) (C : Nat → Int) (hC : ∀ j, j < m → C j = byN m x j) : beN C m = x % 256 ^ m := by
  rw [beN_congr C (byN m x) m hC, beN_byN m x h0 m (Nat.le_refl _), Nat.sub_self]
  simp

set_option maxRecDepth 100000 in
set_option maxHeartbeats 4000000 in
theorem nums_walk (x off width : Int) (w : World) (hx : (Lit.int .u64 x).wf = true) (_ : (Lit.int .i64 off).wf = true) (_ : (Lit.int .i64 width).wf = true) :
    Calls Try.prog 10 #[.int .u64 x, .int .i64 off, .int .i64 width] w fun e w' => e = .returned (.bool true) ∧ Below w.heap.size w w' := by
  obtain ⟨x0, x1⟩ := wf_u64 hx
  obtain ⟨p0, p1⟩ := tmod_bd off 180 (by omega)
  obtain ⟨q0, q1⟩ := tmod_bd width 8 (by omega)
  obtain ⟨q, hq, hq', hq180⟩ : ∃ q : Nat, off.tmod 180 % 180 = q ∧ (off.tmod 180 + 180) % 180 = q ∧ q < 180 := ⟨(off.tmod 180 % 180).toNat, by omega, by omega, by omega⟩
  obtain ⟨m', hm, hm', hm8⟩ : ∃ m : Nat, width.tmod 8 % 8 = m ∧ (width.tmod 8 + 8) % 8 = m ∧ m < 8 := ⟨(width.tmod 8 % 8).toNat, by omega, by omega, by omega⟩
  have X0 := Lib.hid x0; have X1 := Lib.hid x1
  clear x0 x1 hx
  go_enter Try.func10, Try.ntmps10
  go_wp2_with fail
  refine (fit14_any _).mono ?_
  rintro e w0 ⟨rfl, hb0⟩
  have Hb0 := Lib.hid hb0
  have hsz0 := hb0.size
  clear hb0
  go_wp2_with fail
  refine (new_any 8 _ (by omega) (by omega)).mono ?_
  rintro e w1 ⟨pb, db, ob, rfl, hP, l1, l2, l3, hb⟩
  have hb1 := Hb0.out.trans (hb.mono hsz0)
  have hsz := hb1.size
  have hlp : pb < w1.heap.size ∧ db < w1.heap.size ∧ ob < w1.heap.size := ⟨hP.hp.lt, hP.hd.lt, hP.ho.lt⟩
  have HB : Hid (w.heap.size ≤ pb ∧ w.heap.size ≤ db ∧ w.heap.size ≤ ob) := ⟨by omega, by omega, by omega⟩
  have HS : Hid (Seg (w1.alloc (.cells #[.slice none 0 0] 54)) w1.heap.size 0 pb db ob #[.slice none 0 0] (w1.heap.size + 1) (.slice none 0 0) [] (newPool 8) 1) :=
    ⟨seg_new w1, hP.alloc _, segIn_new 8 1 (by omega), by simp, hlp⟩
  have Hb := Lib.hid (hb1.alloc hsz (.cells #[.slice none 0 0] 54))
  clear hP hb hlp l1 l2 l3 hb1 hm hm' hq
  rw [hq']
  obtain ⟨m, hmm⟩ : ∃ m, m' + 1 = m := ⟨_, rfl⟩
  have hmi : (m' : Int) + 1 = (m : Int) := by omega
  rw [hmi]
  have hm1 : 1 ≤ m := by omega
  have hm9 : m ≤ 8 := by omega
  clear hmi hmm hm8 q0 q1 p0 p1 hq'
  clear m'
  go_wp2_with fail
  have hf1 : segR (newPool 8) [] 1 ((3 : Nat) : Int) = true := by decide
  refine (HS.out.resize 3 hf1).mono ?_
  rintro e w2 ⟨rfl, v2, L2, P2, hR2, hS2⟩
  have HR2 := Lib.hid hR2; have HS2 := Lib.hid hS2
  have Hb2 := Lib.hid (Hb.out.trans (HS.out.rs HB.out (by simp; omega) hR2.kept))
  have hfw : segW L2 q m = true := by
    rw [segW_iff]; unfold segS; rw [hR2.len]; exact ⟨by omega, by omega, by omega, by omega⟩
  have hfm : segM L2 q m = true := (segM_iff _ _ _).2 ⟨by omega, by omega, hfw⟩
  have Hfw := Lib.hid hfw; have Hfm := Lib.hid hfm
  clear hR2 hS2 hf1 hfw hfm
  go_wp2_with fail
  refine (HS2.out.put_yes q m x X0.out X1.out Hfm.out).mono ?_
  rintro e w3 ⟨rfl, P3, hD3, hK3, hS3⟩
  have HS3 := Lib.hid hS3; have HD3 := Lib.hid hD3
  have Hb3 := Lib.hid (Hb2.out.trans (seg_ps HB.out Hb2.out.size hK3))
  clear hS3 hD3 hK3
  go_upto_if 41 with fail
  go_cut [9] (fun s wx => s = .int .u64 (x % 256 ^ m) ∧ wx = w3)
  case first =>
    by_cases h8 : m < 8
    · have h8i : (m : Int) < 8 := by omega
      have x0 := X0.out
      have x1 := X1.out
      go_wp2_with fail
      go_meet
      exact ⟨by rw [mask_any x m h8 X0.out X1.out], rfl⟩
    · have h8i : ¬ (m : Int) < 8 := by omega
      go_wp2_with fail
      go_meet
      exact ⟨by rw [← want_top x m (by omega) X0.out X1.out], rfl⟩
  case rest =>
  obtain ⟨rfl, rfl⟩ := hcut
  have hbd : 0 ≤ x % 256 ^ m ∧ x % 256 ^ m ≤ 18446744073709551615 := by
    have hp : (0 : Int) < 256 ^ m := Int.pow_pos (by omega)
    have h1 := Int.emod_nonneg x (by omega : (256 : Int) ^ m ≠ 0)
    have h2 : x % 256 ^ m ≤ x := by rw [Int.emod_def]; have := Int.mul_nonneg (Int.le_of_lt hp) (Int.ediv_nonneg X0.out (Int.le_of_lt hp)); omega
    have := X1.out
    omega
  have hwb : ∀ k, k < m → x % 256 ^ m / 2 ^ (8 * (m - 1 - k)) % 256 = byN m x k := fun k hk => want_byte x m k hk X0.out
  have hby : ∀ j, j < m → segD P3 L2 (q + j) = byN m x j := fun j hj => by
    rw [HD3.out.D (q + j) (by rw [HR2.out.len]; omega), if_pos ⟨by omega, by omega⟩]; congr 1; omega
  have hnum := put_num x m X0.out (fun j => segD P3 L2 (q + j)) hby
  have Hwb := Lib.hid hwb; have Hby := Lib.hid hby; have Hnum := Lib.hid hnum
  generalize x % 256 ^ m = X at *
  obtain ⟨b0, b1⟩ := hbd
  clear hwb hby hnum
  go_wp2_with fail
  refine (snum_yes _ 0 pb db ob _ _ _ L2 P3 1 q m _ HS3.out.seg HS3.out.pool HS3.out.inn Hfm.out).mono ?_
  rintro e w4 ⟨rfl, hb4⟩
  rw [Hnum.out]
  have HS4 := Lib.hid (HS3.out.below hb4)
  have Hb4 := Lib.hid (Hb3.out.trans (hb4.mono Hb3.out.size))
  clear hb4
  go_wp2_with fail
  refine (sread_yes _ 0 pb db ob _ _ _ L2 P3 1 q m _ HS4.out.seg HS4.out.pool HS4.out.inn Hfw.out).mono ?_
  rintro e w5 ⟨r, rfl, hown, hb5⟩
  obtain ⟨g, gc, cur, rfl, _, _, _⟩ := hown.2.resolve_left (by rintro ⟨_, h0⟩; omega)
  have hcell : ∀ j, j < m → w5.cell? ⟨g, j, none⟩ = some (.int .u8 (byN m x j)) := fun j hj => by
    rw [hown.cellAt j (by omega)]; simp [segC, hj, Hby.out j hj]
  have Hcell := Lib.hid hcell
  have Hb5 := Lib.hid (Hb4.out.trans (hb5.mono Hb4.out.size))
  clear hcell hown hb5
  go_wp2_with fail
  go_loop [14, 15, 65] (fun _ _ i => ∃ k : Nat, k ≤ m ∧ i = .int .i64 k) (fun _ _ i => m - (intOf i).toNat)
  case atStart => exact ⟨0, by omega, rfl⟩
  case round =>
    obtain ⟨k, hk, rfl⟩ := hrel
    by_cases hlt : k < m
    · have hcl := Hcell.out k hlt
      have hw := Hwb.out k hlt
      obtain ⟨c0, c1⟩ := byN_bd m x k
      obtain ⟨y, hy⟩ : ∃ y, byN m x k = y := ⟨_, rfl⟩
      rw [hy] at hcl hw c0 c1
      obtain ⟨j, hj⟩ : ∃ j, m - 1 - k = j := ⟨_, rfl⟩
      have hji : (m : Int) - 1 - (k : Int) = (j : Int) := by omega
      have hj8 : j < 8 := by omega
      rw [hj] at hw
      have Hy := Lib.hid hy
      have ey : (y != y) = false := by simp
      clear hy hj
      go_wp2_with fail
      go_round
      case rel => exact ⟨k + 1, by omega, by go_num⟩
      case measure => simp [intOf]; omega
    · obtain rfl : k = m := by omega
      go_wp2_with fail
      go_ret
      exact ⟨by simp, Hb5.out⟩
end Go.Proofs.Ytndnjimiabpkpaa
