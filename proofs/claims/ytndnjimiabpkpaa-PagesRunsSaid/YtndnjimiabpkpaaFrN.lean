/- The contract of frames.New; Read told at once for what fits and what doesn't. -/
import Derived.Test.YtndnjimiabpkpaaFrC
namespace Go.Proofs.Ytndnjimiabpkpaa
open Go.RowKit
attribute [local irreducible] World.setCell World.alloc World.drew World.setRow Calls Code.wp row

/-- How many bytes Read gives. -/
def Pool.readLen (P : Pool) (f off n : Int) : Nat := if P.fits f off n then n.toNat else 0

theorem read_any (pb db ob : Nat) (P : Pool) (f off n : Int) (w : World) (hP : PoolAt w pb db ob P) :
    Calls Try.prog 23 #[.pointer (some ⟨pb, 0, none⟩), .int .i64 f, .int .i64 off, .int .i64 n] w fun e w' =>
      ∃ v, e = .returned v ∧ w'.ownsRow w.heap.size 5 1 v (P.readLen f off n) (P.cells ((f.toNat - 1) * 64 + off.toNat) (P.readLen f off n)) ∧ Below w.heap.size w w' := by
  cases hf : P.fits f off n
  · refine (read_no pb db ob P f off n w hP hf).mono ?_
    rintro e w' ⟨rfl, rfl⟩
    refine ⟨_, rfl, ?_, Below.refl _ _⟩
    unfold Pool.readLen; rw [hf]; exact World.ownsRow_nil _ _ _ _
  · refine (read_yes pb db ob P f off n w hP hf).mono ?_
    rintro e w' ⟨v, rfl, h1, h2⟩
    refine ⟨_, rfl, ?_, h2⟩
    unfold Pool.readLen; rw [hf]; exact h1

theorem new_no (n : Int) (w : World) (h : n < 1 ∨ 4096 < n) :
    Calls Try.prog 17 #[.int .i64 n] w fun e w' => e = .returned (.pointer none) ∧ w = w' := by
  by_cases h1 : n < 1
  · clear h
    go_enter Try.func17, Try.ntmps17
    go_wp2
    go_ret
    exact ⟨rfl, rfl⟩
  · have h2 : 4096 < n := by omega
    clear h
    go_enter Try.func17, Try.ntmps17
    go_wp2
    go_ret
    exact ⟨rfl, rfl⟩

theorem blk_new_at (w : World) (c : Array Value) (t b : Nat) (h : b = w.heap.size) : Blk (w.alloc (.cells c t)) b c t := by subst h; exact Blk.new w c t

def newPool (n : Nat) : Pool := ⟨n, fun _ => 0, fun _ => 0⟩
theorem freeTo_zero (n : Nat) : freeTo (fun _ => 0) n = n := by
  induction n with
  | zero => rfl
  | succ n ih => unfold freeTo; rw [ih]; simp

theorem made_row (z : Array Value) (v : Value) (n : Nat) (hz : 0 < z.size) (h : ∀ i, i < z.size → z[i]! = v) : madeCells z n = row n (fun _ => v) := by
  refine row_ext (size_madeCells z n) fun i hi => ?_
  unfold madeCells
  rw [Array.getElem?_map, Array.getElem?_range, if_pos hi]
  simp only [Option.map_some]
  rw [h _ (Nat.mod_lt _ hz)]

theorem run_make94 (n : Nat) (h : n ≤ 4096) (w : World) : (Instr.makeSlice 94 (.int .i64 n) (.int .i64 n)).run Try.prog w =
    .ok (.slice (some ⟨w.heap.size, 0, none⟩) n n) (w.alloc (.cells (row (n * 64) fun _ => .int .u8 0) 38)) := by
  obtain ⟨i, hi, hz, hs, hb⟩ : ∃ i, Try.prog.info? 38 = some i ∧ i.zero = some (.agg (Array.replicate 64 (.int .u8 0))) ∧ i.size = 64 ∧ i.bytes = 64 :=
    info_parts (by kernel_rfl)
  have := run_make (P := Try.prog) w 94 38 i _ Try.underlying94 hi hz .i64 .i64 n n (by omega) (by omega) (by rw [hb]; omega) (by omega)
  rw [this, hs, Int.toNat_natCast]
  rw [made_row _ (.int .u8 0) _ (by simp [Value.cells]) (fun i hi => by
    simp [Value.cells] at hi ⊢; simp [hi])]

theorem run_make45 (n : Nat) (h : n ≤ 4096) (w : World) : (Instr.makeSlice 45 (.int .i64 n) (.int .i64 n)).run Try.prog w =
    .ok (.slice (some ⟨w.heap.size, 0, none⟩) n n) (w.alloc (.cells (row n fun _ => .int .u64 0) 27)) := by
  obtain ⟨i, hi, hz, hs, hb⟩ : ∃ i, Try.prog.info? 27 = some i ∧ i.zero = some (.int .u64 0) ∧ i.size = 1 ∧ i.bytes = 8 :=
    info_parts (by kernel_rfl)
  have := run_make (P := Try.prog) w 45 27 i _ Try.underlying45 hi hz .i64 .i64 n n (by omega) (by omega) (by rw [hb]; omega) (by omega)
  rw [this, hs, Int.toNat_natCast]
  rw [made_row _ (.int .u64 0) _ (by simp [Value.cells]) (fun i hi => by
    simp [Value.cells] at hi ⊢; subst hi; rfl), Nat.mul_one]

set_option maxHeartbeats 1000000 in
theorem new_any (n : Nat) (w : World) (h1 : 1 ≤ n) (h2 : n ≤ 4096) :
    Calls Try.prog 17 #[.int .i64 n] w fun e w' => ∃ pb db ob, e = .returned (.pointer (some ⟨pb, 0, none⟩)) ∧ PoolAt w' pb db ob (newPool n) ∧ w.heap.size ≤ pb ∧ w.heap.size ≤ db ∧ w.heap.size ≤ ob ∧ Below w.heap.size w w' := by
  have m1 := run_make94 n h2
  have m2 := run_make45 n h2
  have hi1 : (1 : Int) ≤ n := by omega
  have hi2 : (n : Int) ≤ 4096 := by omega
  go_enter Try.func17, Try.ntmps17
  go_wp2
  go_region
  all_goals go_wp2
  all_goals go_ret
  · refine ⟨w.heap.size + 1 + 1, w.heap.size, w.heap.size + 1, rfl, PoolAt.drew ⟨Blk.cells (blk_new_at _ _ _ _ (by simp)) ?_, ((blk_new_at _ _ _ _ rfl).alloc _).alloc _, (blk_new_at _ _ _ _ (by simp)).alloc _, by omega, by omega, by omega, h1, h2, fun _ => by simp [newPool]⟩, by omega, by omega, by omega, ((((Below.refl _ _).alloc (Nat.le_refl _) _).alloc (by simp) _).alloc (by simp; omega) _).drew⟩
    simp [newPool, Pool.left, freeTo_zero]
  · refine ⟨w.heap.size + 1 + 1, w.heap.size + 1, w.heap.size, rfl, PoolAt.drew ⟨Blk.cells (blk_new_at _ _ _ _ (by simp)) ?_, (blk_new_at _ _ _ _ (by simp)).alloc _, ((blk_new_at _ _ _ _ rfl).alloc _).alloc _, by omega, by omega, by omega, h1, h2, fun _ => by simp [newPool]⟩, by omega, by omega, by omega, ((((Below.refl _ _).alloc (Nat.le_refl _) _).alloc (by simp) _).alloc (by simp; omega) _).drew⟩
    simp [newPool, Pool.left, freeTo_zero]
end Go.Proofs.Ytndnjimiabpkpaa
