/- The walk of FramesBytes: it returns true, whatever the pairs and the numbers. -/
import Derived.Test.YtndnjimiabpkpaaFrFit
import Derived.Test.YtndnjimiabpkpaaStr
import Derived.BigRegion
import Derived.Deep.QuietTactic
import Derived.BigQuiet
namespace Go.Proofs.Ytndnjimiabpkpaa
open Go.RowKit
attribute [local irreducible] World.setCell World.alloc World.drew World.setRow Calls Code.wp row

/-- Pairs of ints that came in. -/
def PairsIn (w : World) (a : Option Addr) (len cap : Nat) : Prop :=
  ∃ (b off : Nat) (X Y : Nat → Int), IdxAt Try.prog 37 2 a len cap b off ∧ (0 < len → b < w.heap.size) ∧ len ≤ maxLen ∧
    ∀ j, j < len → w.cell? ⟨b, off + j * 2, none⟩ = some (.int .i64 (X j)) ∧ w.cell? ⟨b, off + j * 2 + 1, none⟩ = some (.int .i64 (Y j)) ∧ (Lit.int .i64 (X j)).wf = true ∧ (Lit.int .i64 (Y j)).wf = true

set_option maxRecDepth 100000 in
theorem pair_cells {H : Type} {enc : TypeId × Value → H} {w : World} {m : Nat} {cs : List Value} {y : DataW H × List MemPlace}
    (h : DataW.trod enc Try.prog w 0 (fun _ => true) true m 39 cs = some y) :
    ∃ (a b : Int), cs = [.int .i64 a, .int .i64 b] ∧ (Lit.int .i64 a).wf = true ∧ (Lit.int .i64 b).wf = true := by
  obtain ⟨xs, k, _, _, hl, hxl, hx⟩ := DataW.trod_array Try.underlying39 h
  have hl2 : cs.length = 2 := hl.trans (by kernel_rfl)
  have ec : Try.prog.cellsOf 3 = 1 := by kernel_rfl
  obtain ⟨c0, c1, rfl⟩ : ∃ c0 c1, cs = [c0, c1] := by
    match cs, hl2 with
    | [c0, c1], _ => exact ⟨c0, c1, rfl⟩
  have h0 := hx 0 (by omega)
  have h1 := hx 1 (by omega)
  rw [List.getElem?_eq_getElem (by omega), ec] at h0 h1
  obtain ⟨a, e0, _, w0⟩ := DataW.trod_int Try.underlying3 (show DataW.trod enc Try.prog w 0 _ true k 3 [c0] = some _ from h0)
  obtain ⟨b, e1, _, w1⟩ := DataW.trod_int Try.underlying3 (show DataW.trod enc Try.prog w 0 _ true k 3 [c1] = some _ from h1)
  simp only [List.cons.injEq, and_true] at e0 e1
  subst e0 e1
  exact ⟨a, b, rfl, w0, w1⟩

theorem pairs_in {H : Type} {enc : TypeId × Value → H} {w : World} {a : Option Addr} {len cap : Nat} {d : DataW H} {p : List MemPlace}
    (h : DataW.Trod enc Try.prog w 0 (fun _ => true) true 37 (.slice a len cap) d p) : PairsIn w a len cap := by
  obtain ⟨b, off, hix, hlt, hl, hm, hel⟩ := slice_open (n := 2) Try.underlying37 (by kernel_rfl) (by omega) (fun w => by kernel_rfl) h
  obtain ⟨f, hf⟩ := Go.Deep.choose_lt (α := Int × Int) (p := fun j x => w.cell? ⟨b, off + j * 2, none⟩ = some (.int .i64 x.1) ∧ w.cell? ⟨b, off + j * 2 + 1, none⟩ = some (.int .i64 x.2) ∧ (Lit.int .i64 x.1).wf = true ∧ (Lit.int .i64 x.2).wf = true) (n := len) (fun j hj => by
    obtain ⟨cs, _, hc, m, y, ht⟩ := hel j hj
    obtain ⟨k, p, rfl, w0, w1⟩ := pair_cells ht
    exact ⟨(k, p), hc 0 (by omega), hc 1 (by omega), w0, w1⟩)
  exact ⟨b, off, fun j => (f j).1, fun j => (f j).2, hix, hlt, by omega, hf⟩

/-- The pool's first frame holds what the array holds. -/
structure BytesI (P : Pool) (M : Nat → Int) : Prop where
  pn : P.n = 2
  o0 : P.O 0 = 1
  same : ∀ j, j < 64 → P.D j = M j

theorem BytesI.fits {P : Pool} {M : Nat → Int} (h : BytesI P M) (off n : Int) : P.fits 1 off n = (decide (0 ≤ n) && decide (n ≤ 64) && decide (0 ≤ off) && decide (off ≤ 64 - n)) := by
  have ho : P.owner 1 = 1 := by
    unfold Pool.owner
    rw [if_pos ((P.there_iff 1).2 ⟨by omega, by rw [h.pn]; omega⟩)]
    exact h.o0
  unfold Pool.fits; rw [ho]; rfl

theorem bytesI_start : BytesI ((newPool 2).alloc 1) (fun _ => 0) :=
  ⟨rfl, by decide, fun j hj => by
    have : ((newPool 2).alloc 1).D j = if firstFree (fun _ => 0) 2 * 64 ≤ j ∧ j < firstFree (fun _ => 0) 2 * 64 + 64 then 0 else 0 := rfl
    rw [this]; split <;> rfl⟩

def updM (M : Nat → Int) (k : Nat) (B : Nat → Int) : Nat → Int := fun j => if k ≤ j ∧ j < k + 2 then B (j - k) else M j
theorem BytesI.write {P : Pool} {M : Nat → Int} (h : BytesI P M) (k : Nat) (hk : k ≤ 62) (B : Nat → Int) : BytesI (P.write 1 k (2 : Nat) B) (updM M k B) := by
  have hf : P.fits 1 k (2 : Nat) = true := by rw [h.fits]; simp; omega
  unfold Pool.write
  rw [if_pos hf]
  refine ⟨h.pn, h.o0, fun j hj => ?_⟩
  show (if (Int.toNat 1 - 1) * 64 + Int.toNat k ≤ j ∧ j < (Int.toNat 1 - 1) * 64 + Int.toNat k + 2 then B (j - ((Int.toNat 1 - 1) * 64 + Int.toNat k)) else P.D j) = _
  have e : (Int.toNat 1 - 1) * 64 + Int.toNat (k : Int) = k := by simp
  rw [e]; unfold updM; rw [h.same j hj]

theorem u8_wrap (x : Int) : 0 ≤ IntKind.u8.wrap x ∧ IntKind.u8.wrap x ≤ 255 := by
  simp [IntKind.wrap, IntKind.bits, IntKind.signed]; omega

set_option maxRecDepth 100000 in
set_option maxHeartbeats 2000000 in
theorem bytes_walk (a0 : Option Addr) (len cap : Nat) (off n : Int) (w : World) (hr : PairsIn w a0 len cap) (_ : (Lit.int .i64 off).wf = true) (_ : (Lit.int .i64 n).wf = true) :
    Calls Try.prog 5 #[.slice a0 len cap, .int .i64 off, .int .i64 n] w fun e w' => e = .returned (.bool true) ∧ Below w.heap.size w w' := by
  obtain ⟨b, o, X, Y, hix, hblt, hmax, hcell⟩ := hr
  have hmax : len ≤ 9223372036854775807 := by unfold maxLen at hmax; omega
  have Hix := Lib.hid hix; clear hix
  have Hcell := Lib.hid hcell; clear hcell
  have Hblt := Lib.hid hblt; clear hblt
  go_enter Try.func5, Try.ntmps5
  go_wp2_with fail
  refine (fit06_any _).mono ?_
  rintro e w1 ⟨rfl, hb1⟩
  have Hb1 := Lib.hid hb1; clear hb1
  by_cases hlen : 100 < len
  · go_wp2_with fail
    go_ret
    exact ⟨rfl, Hb1.out⟩
  · have hsz := Hb1.out.size
    go_wp2_with fail
    refine (new_any 2 _ (by omega) (by omega)).mono ?_
    rintro e w2 ⟨pb, db, ob, rfl, hP, l1, l2, l3, hb2⟩
    have HP := Lib.hid hP; clear hP
    have Hb2 := Lib.hid (Hb1.out.trans (hb2.mono hsz)); clear hb2
    have ea : (newPool 2).allocRet 1 = 1 := by decide
    go_wp2_with fail
    refine (alloc_any pb db ob _ _ _ HP.out).mono ?_
    rintro e w3 ⟨rfl, hP3, hK3⟩
    have HP3 := Lib.hid hP3
    have Hb3 := Lib.hid (below_ps Hb2.out hK3 (by omega) (by omega) (by omega)); clear hP3 hK3
    clear HP Hb2
    have hsz3 := Hb3.out.size
    have hp1 := HP3.out.hp.lt
    have hp2 := HP3.out.hd.lt
    have hp3 := HP3.out.ho.lt
    go_wp2_with fail
    go_loopg [11, 12, 13, 14, 26] len (fun g _ _ _ _ i wx => ∃ (j : Nat) (P : Pool) (M : Nat → Int), j + g = len ∧ i = .int .i64 j ∧ PoolAt wx pb db ob P ∧ BytesI P M ∧ Blk wx w3.heap.size (row 64 fun j => .int .u8 (M j)) 38 ∧ Below w.heap.size w wx)
    case atStart => exact ⟨0, _, fun _ => 0, by omega, rfl, HP3.out.alloc _, bytesI_start, Blk.cells (Blk.new _ _ _) z64row, Hb3.out.alloc hsz3 _⟩
    case round =>
      clear HP3 Hb3
      obtain ⟨j, P, M, hj, rfl, hP, hI, hM, hb⟩ := hrel
      have HP := Lib.hid hP; clear hP
      have HI := Lib.hid hI; clear hI
      have HM := Lib.hid hM; clear hM
      have Hb := Lib.hid hb; clear hb
      by_cases hlt : j < len
      · have hix := Hix.out j hlt
        obtain ⟨hc0, hc1, _, _⟩ := Hcell.out j hlt
        have hbs := Hblt.out (by omega)
        have hc0 := (Hb.out.cell (p := ⟨b, o + j * 2, none⟩) hbs).trans hc0
        have hc1 := (Hb.out.cell (p := ⟨b, o + j * 2 + 1, none⟩) hbs).trans hc1
        clear hbs
        obtain ⟨q0, q1⟩ := tmod_bd (X j) 80 (by omega)
        obtain ⟨at_, hat⟩ : ∃ at_ : Int, (X j).tmod 80 % 80 = at_ := ⟨_, rfl⟩
        have ha0 : 0 ≤ at_ := by rw [← hat]; exact Int.emod_nonneg _ (by omega)
        have ha1 : at_ < 80 := by rw [← hat]; exact Int.emod_lt_of_pos _ (by omega)
        obtain ⟨b0, hb0⟩ : ∃ b0 : Int, Y j % 256 = b0 := ⟨_, rfl⟩
        obtain ⟨b1, hb1⟩ : ∃ b1 : Int, Y j / 256 % 256 = b1 := ⟨_, rfl⟩
        have hb00 : 0 ≤ b0 ∧ b0 ≤ 255 := by omega
        have hb11 : 0 ≤ b1 ∧ b1 ≤ 255 := by omega
        have Hb00 := Lib.hid hb00; clear hb00
        have Hb11 := Lib.hid hb11; clear hb11
        have hszr := Hb.out.size
        have hm3 := HM.out.lt
        by_cases hA : at_ < 8
        · have Hf : Hid (P.fits 1 (at_ - 8) (2 : Nat) = false) := by rw [Hid, HI.out.fits]; simp; omega
          have Hw : Hid (P.write 1 (at_ - 8) 2 (fun i => if i = 0 then b0 else b1) = P) := by unfold Hid Pool.write; rw [Hf.out]; rfl
          go_wp2_with fail
          have hB : Hid (∀ jj, jj < 2 → 0 ≤ (fun i => if i = 0 then b0 else b1) jj ∧ (fun i => if i = 0 then b0 else b1) jj ≤ 255) := fun jj _ => by
            show 0 ≤ (if jj = 0 then b0 else b1) ∧ (if jj = 0 then b0 else b1) ≤ 255
            split
            · exact Hb00.out
            · exact Hb11.out
          have HBk := Lib.hid (Blk.new (wr.alloc (.cells #[.int .i64 (X j), .int .i64 (Y j)] 39)) #[.int .u8 b0, .int .u8 b1] 5)
          rw [World.size_alloc] at HBk
          refine (write_any pb db ob P _ _ _ 2 2 (fun i => if i = 0 then b0 else b1) _ ((HP.out.alloc _).alloc _) (.inr ⟨wr.heap.size + 1, 0, rfl, fun jj hjj => ?_⟩) hB.out).mono ?_
          · rw [Nat.zero_add, HBk.out.cell jj]
            obtain rfl | rfl : jj = 0 ∨ jj = 1 := by omega
            · rfl
            · rfl
          rintro e w5 ⟨rfl, hP5, hK5⟩
          have HM5 := Lib.hid (((HM.out.alloc _).alloc _).below' hK5 (fun e => by rcases e with e | e | e <;> omega))
          have HBk5 := Lib.hid (HBk.out.below' hK5 (fun e => by have := HP.out.hp.lt; have := HP.out.hd.lt; have := HP.out.ho.lt; rcases e with e | e | e <;> omega))
          have Hb5 := Lib.hid (below_ps ((Hb.out.alloc hszr _).alloc (by simp; omega) _) hK5 (by omega) (by omega) (by omega))
          clear hK5
          have HP5 : Hid (PoolAt w5 pb db ob P) := by rw [Hw.out] at hP5; exact hP5
          clear hP5
          rw [Hf.out]
          go_wp2_with fail
          go_roundg (len - (j + 1))
          case measure => omega
          case rel => exact ⟨j + 1, P, M, by omega, by go_num, HP5.out, HI.out, HM5.out, Hb5.out⟩
        by_cases hZ : 70 < at_
        · have Hf : Hid (P.fits 1 (at_ - 8) (2 : Nat) = false) := by rw [Hid, HI.out.fits]; simp; omega
          have Hw : Hid (P.write 1 (at_ - 8) 2 (fun i => if i = 0 then b0 else b1) = P) := by unfold Hid Pool.write; rw [Hf.out]; rfl
          go_wp2_with fail
          have hB : Hid (∀ jj, jj < 2 → 0 ≤ (fun i => if i = 0 then b0 else b1) jj ∧ (fun i => if i = 0 then b0 else b1) jj ≤ 255) := fun jj _ => by
            show 0 ≤ (if jj = 0 then b0 else b1) ∧ (if jj = 0 then b0 else b1) ≤ 255
            split
            · exact Hb00.out
            · exact Hb11.out
          have HBk := Lib.hid (Blk.new (wr.alloc (.cells #[.int .i64 (X j), .int .i64 (Y j)] 39)) #[.int .u8 b0, .int .u8 b1] 5)
          rw [World.size_alloc] at HBk
          refine (write_any pb db ob P _ _ _ 2 2 (fun i => if i = 0 then b0 else b1) _ ((HP.out.alloc _).alloc _) (.inr ⟨wr.heap.size + 1, 0, rfl, fun jj hjj => ?_⟩) hB.out).mono ?_
          · rw [Nat.zero_add, HBk.out.cell jj]
            obtain rfl | rfl : jj = 0 ∨ jj = 1 := by omega
            · rfl
            · rfl
          rintro e w5 ⟨rfl, hP5, hK5⟩
          have HM5 := Lib.hid (((HM.out.alloc _).alloc _).below' hK5 (fun e => by rcases e with e | e | e <;> omega))
          have HBk5 := Lib.hid (HBk.out.below' hK5 (fun e => by have := HP.out.hp.lt; have := HP.out.hd.lt; have := HP.out.ho.lt; rcases e with e | e | e <;> omega))
          have Hb5 := Lib.hid (below_ps ((Hb.out.alloc hszr _).alloc (by simp; omega) _) hK5 (by omega) (by omega) (by omega))
          clear hK5
          have HP5 : Hid (PoolAt w5 pb db ob P) := by rw [Hw.out] at hP5; exact hP5
          clear hP5
          rw [Hf.out]
          go_wp2_with fail
          go_roundg (len - (j + 1))
          case measure => omega
          case rel => exact ⟨j + 1, P, M, by omega, by go_num, HP5.out, HI.out, HM5.out, Hb5.out⟩
        obtain ⟨k, rfl⟩ : ∃ k : Nat, at_ = (k : Int) + 8 := ⟨(at_ - 8).toNat, by omega⟩
        have hk62 : k ≤ 62 := by omega
        have hki : (k : Int) ≤ 62 := by omega
        have Hf : Hid (P.fits 1 k (2 : Nat) = true) := by rw [Hid, HI.out.fits]; simp; omega
        have HI' := Lib.hid (HI.out.write k hk62 (fun i => if i = 0 then b0 else b1))
        clear hA hZ
        go_wp2_with fail
        have hB : Hid (∀ jj, jj < 2 → 0 ≤ (fun i => if i = 0 then b0 else b1) jj ∧ (fun i => if i = 0 then b0 else b1) jj ≤ 255) := fun jj _ => by
          show 0 ≤ (if jj = 0 then b0 else b1) ∧ (if jj = 0 then b0 else b1) ≤ 255
          split
          · exact Hb00.out
          · exact Hb11.out
        have HBk := Lib.hid (Blk.new (wr.alloc (.cells #[.int .i64 (X j), .int .i64 (Y j)] 39)) #[.int .u8 b0, .int .u8 b1] 5)
        rw [World.size_alloc] at HBk
        refine (write_any pb db ob P _ _ _ 2 2 (fun i => if i = 0 then b0 else b1) _ ((HP.out.alloc _).alloc _) (.inr ⟨wr.heap.size + 1, 0, rfl, fun jj hjj => ?_⟩) hB.out).mono ?_
        · rw [Nat.zero_add, HBk.out.cell jj]
          obtain rfl | rfl : jj = 0 ∨ jj = 1 := by omega
          · rfl
          · rfl
        rintro e w5 ⟨rfl, hP5, hK5⟩
        have HM5 := Lib.hid (((HM.out.alloc _).alloc _).below' hK5 (fun e => by rcases e with e | e | e <;> omega))
        have HBk5 := Lib.hid (HBk.out.below' hK5 (fun e => by have := HP.out.hp.lt; have := HP.out.hd.lt; have := HP.out.ho.lt; rcases e with e | e | e <;> omega))
        have Hb5 := Lib.hid (below_ps ((Hb.out.alloc hszr _).alloc (by simp; omega) _) hK5 (by omega) (by omega) (by omega))
        clear hK5
        have HP5 := Lib.hid hP5; clear hP5
        rw [Hf.out]
        go_wp2_with fail
        have hmk0 := HM5.out.rowAt k (by omega)
        have hmk1 := HM5.out.rowAt (k + 1) (by omega)
        have hmf0 := HM5.out.free k
        have hmf1 := HM5.out.free (k + 1)
        have hbk0 : w5.cell? ⟨wr.heap.size + 1, 0, none⟩ = some (.int .u8 b0) := HBk5.out.cell 0
        have hbk1 : w5.cell? ⟨wr.heap.size + 1, 1, none⟩ = some (.int .u8 b1) := HBk5.out.cell 1
        have hne1 : ¬ w3.heap.size = wr.heap.size + 1 := by omega
        have hne2 : ¬ wr.heap.size + 1 = w3.heap.size := by omega
        have hk63 : (k : Int) + 1 < 64 := by omega
        have hk64 : (k : Int) < 64 := by omega
        have hk0 : (0 : Int) ≤ k := by omega
        have hk01 : (0 : Int) ≤ (k : Int) + 1 := by omega
        clear hat hb0 hb1 hc0 hc1 hix q0 q1
        go_region
        all_goals go_wp2_with fail
        all_goals go_roundg (len - (j + 1))
        case measure => omega
        case rel =>
          have hM6 := (HM5.out.set k (.int .u8 b0)).set (k + 1) (.int .u8 b1)
          rw [row_set, row_set] at hM6
          have hr : row 64 (fun i => if i = k + 1 then Value.int .u8 b1 else if i = k then Value.int .u8 b0 else Value.int .u8 (M i)) = row 64 (fun i => Value.int .u8 (updM M k (fun i => if i = 0 then b0 else b1) i)) :=
            row_congr fun i hi => by
              unfold updM
              by_cases e1 : i = k + 1
              · subst e1; simp
              · by_cases e2 : i = k
                · subst e2; simp
                · rw [if_neg e1, if_neg e2, if_neg (by omega)]
          rw [hr] at hM6
          have hK6 : Kept (fun b => b = w3.heap.size) w5 ((w5.setCell ⟨w3.heap.size, k, none⟩ (.int .u8 b0)).setCell ⟨w3.heap.size, k + 1, none⟩ (.int .u8 b1)) :=
            ((Kept.refl (fun b => b = w3.heap.size) w5).setIn _ _ _ (show w3.heap.size = _ from rfl)).setIn _ _ _ (show w3.heap.size = _ from rfl)
          have hP6 := HP5.out.kept hK6 (by show ¬ (_ = _); omega) (by show ¬ (_ = _); omega) (by show ¬ (_ = _); omega)
          have hB6 := Hb5.out.trans (hK6.below (B := w.heap.size) Hb5.out.size (fun q hq e => by omega))
          exact ⟨j + 1, _, _, by omega, by go_num, hP6.drew, HI'.out, hM6.drew, hB6.drew⟩
      · obtain rfl : j = len := by omega
        obtain ⟨f0, f1⟩ := tmod_bd off 64 (by omega)
        obtain ⟨g0, g1⟩ := tmod_bd n 64 (by omega)
        obtain ⟨q, hq, hq', hq64⟩ : ∃ q : Nat, off.tmod 64 % 64 = q ∧ (off.tmod 64 + 64) % 64 = q ∧ q < 64 := ⟨(off.tmod 64 % 64).toNat, by omega, by omega, by omega⟩
        obtain ⟨m, hm, hm', hm64⟩ : ∃ m : Nat, n.tmod 64 % 64 = m ∧ (n.tmod 64 + 64) % 64 = m ∧ m < 64 := ⟨(n.tmod 64 % 64).toNat, by omega, by omega, by omega⟩
        clear Hix Hcell
        have hq64i : (q : Int) < 64 := by omega
        have hm64i : (m : Int) < 64 := by omega
        go_wp2_with fail
        by_cases hmq : 64 - (q : Int) < m
        · have hf : P.fits 1 q m = false := by rw [HI.out.fits]; simp; omega
          refine (read_no pb db ob P _ _ _ _ HP.out hf).mono ?_
          rintro e w5 ⟨rfl, rfl⟩
          go_wp2_with fail
          go_ret
          exact ⟨rfl, Hb.out⟩
        · have hf : P.fits 1 q m = true := by rw [HI.out.fits]; simp; omega
          refine (read_yes pb db ob P _ _ _ _ HP.out hf).mono ?_
          rintro e w5 ⟨v, rfl, hown, hb5⟩
          have HM5 := Lib.hid (HM.out.below hb5 HM.out.lt)
          have hb6 := Lib.hid (Hb.out.trans (hb5.mono Hb.out.size)); clear hb5
          obtain ⟨l, hl⟩ : ∃ l : List Int, (List.range m).map (fun j => M (q + j)) = l := ⟨_, rfl⟩
          have hll : l.length = m := by rw [← hl]; simp
          have hown : w5.ownsRow wr.heap.size 5 1 v l.length (bytesV l) := by
            have e : P.cells (((1 : Int).toNat - 1) * 64 + (q : Int).toNat) (m : Int).toNat = bytesV l := by
              rw [← hl]; simp only [Pool.cells, bytesV, List.map_map]
              refine List.map_congr_left fun j hj => ?_
              have := List.mem_range.1 hj
              have e : ((1 : Int).toNat - 1) * 64 + (q : Int).toNat = q := by simp
              rw [e]
              show Value.int .u8 (P.D (q + j)) = Value.int .u8 (M (q + j))
              rw [HI.out.same (q + j) (by omega)]
            rw [hll]; rw [e, Int.toNat_natCast] at hown; exact hown
          have hs1 : ∀ w', (w' = w5 ∨ w' = w5.drew) → (convert 32 9 v).run Try.prog w' = .ok (.string (bs l)) w' := fun w' hw' => by
            have hown' : w'.ownsRow wr.heap.size 5 1 v l.length (bytesV l) := by
              rcases hw' with rfl | rfl
              · exact hown
              · exact hown.drew
            exact run_str_own Try.underlying32 Try.underlying5 Try.underlying9 hown'
          have hs2 : ∀ w', (w' = w5 ∨ w' = w5.drew) → (convert 32 9 (.slice (some ⟨w3.heap.size, q, none⟩) m (64 - q))).run Try.prog w' = .ok (.string (bs l)) w' := fun w' hw' => by
            have e : m = l.length := by omega
            have HM' : Blk w' w3.heap.size (row 64 fun j => .int .u8 (M j)) 38 := by
              rcases hw' with rfl | rfl
              · exact HM5.out
              · exact HM5.out.drew
            have := run_str (P := Try.prog) (w := w') Try.underlying32 Try.underlying5 Try.underlying9 ⟨w3.heap.size, q, none⟩ l (64 - q) fun j hj => ?_
            · rw [← e] at this; exact this
            rw [Addr.add_lit, HM'.rowAt (q + j) (by omega), ← hl]
            simp [List.getD, show j < m by omega]
          have hs1a := hs1 _ (.inl rfl)
          have hs1b := hs1 _ (.inr rfl)
          have hs2a := hs2 _ (.inl rfl)
          have hs2b := hs2 _ (.inr rfl)
          clear hs1 hs2
          clear hown hl
          have hq0 : (0 : Int) ≤ q := by omega
          have hqm : (q : Int) ≤ q + m := by omega
          have hqm2 : (q : Int) + m ≤ 64 := by omega
          have hqn : ¬ 64 = q := by omega
          go_wp2_with fail
          go_region
          all_goals go_wp2_with fail
          all_goals go_ret
          all_goals exact ⟨rfl, hb6.out.drew⟩
end Go.Proofs.Ytndnjimiabpkpaa
