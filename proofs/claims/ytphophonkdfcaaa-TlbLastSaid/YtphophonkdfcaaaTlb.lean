/- The contracts of package tlb: what Find, Put, Flush and Len do to the thirteen cells of a TLB in a block of its own. -/
import Derived.Test.YtphophonkdfcaaaLib
namespace Go.Proofs.Ytphophonkdfcaaa
open Go.RowKit
attribute [local irreducible] World.setCell World.alloc World.drew Calls Code.wp

/-- What stands in the places: page, frame, may be written; which place comes next. -/
structure Pl where
  p : Nat → Int
  f : Nat → Int
  w : Nat → Bool
  n : Int
def Pl.cells (t : Pl) : Array Value := #[.int .i64 (t.p 0), .int .i64 (t.f 0), .bool (t.w 0), .int .i64 (t.p 1), .int .i64 (t.f 1), .bool (t.w 1), .int .i64 (t.p 2), .int .i64 (t.f 2), .bool (t.w 2), .int .i64 (t.p 3), .int .i64 (t.f 3), .bool (t.w 3), .int .i64 t.n]

theorem idx (t : Pl) (k : Nat) (hk : k < 4) (w : World) :
    (Instr.index 26 (.agg #[.int .i64 (t.p 0), .int .i64 (t.f 0), .bool (t.w 0), .int .i64 (t.p 1), .int .i64 (t.f 1), .bool (t.w 1), .int .i64 (t.p 2), .int .i64 (t.f 2), .bool (t.w 2), .int .i64 (t.p 3), .int .i64 (t.f 3), .bool (t.w 3)]) (.int .i64 k)).run Try.prog w = .ok (.agg #[.int .i64 (t.p k), .int .i64 (t.f k), .bool (t.w k)]) w := by
  obtain rfl | rfl | rfl | rfl : k = 0 ∨ k = 1 ∨ k = 2 ∨ k = 3 := by omega
  all_goals kernel_rfl

def Pl.hit (t : Pl) (page : Int) (wr : Bool) (k : Nat) : Bool := (t.f k != 0) && (t.p k == page) && (t.w k || !wr)
def Pl.find (t : Pl) (page : Int) (wr : Bool) : Int :=
  if t.hit page wr 0 then t.f 0 else if t.hit page wr 1 then t.f 1 else if t.hit page wr 2 then t.f 2 else if t.hit page wr 3 then t.f 3 else 0

theorem find_at (t : Pl) (page : Int) (rw : Bool) (k : Nat) (hk : k < 4) (h1 : ∀ j, j < k → t.hit page rw j = false) (h2 : t.hit page rw k = true) : t.find page rw = t.f k := by
  obtain rfl | rfl | rfl | rfl : k = 0 ∨ k = 1 ∨ k = 2 ∨ k = 3 := by omega
  · simp [Pl.find, h2]
  · simp [Pl.find, h1 0, h2]
  · simp [Pl.find, h1 0, h1 1, h2]
  · simp [Pl.find, h1 0, h1 1, h1 2, h2]

set_option maxHeartbeats 400000 in
theorem find_any (b : Nat) (t : Pl) (page : Int) (rw : Bool) (w : World) (hB : Blk w b t.cells 28) :
    Calls Try.prog 8 #[.pointer (some ⟨b, 0, none⟩), .int .i64 page, .bool rw] w fun e w' => e = .returned (.int .i64 (t.find page rw)) ∧ Below w.heap.size w w' := by
  have hc := hB.cell
  unfold Pl.cells at hc
  clear hB
  go_enter Try.func8, Try.ntmps8
  go_wp2
  go_loopw [8, 15] (fun _ i wx => ∃ k : Nat, k ≤ 4 ∧ i = .int .i64 k ∧ (∀ j, j < k → t.hit page rw j = false) ∧ Below w.heap.size w wx) (fun _ i _ => 4 - (intOf i).toNat)
  case atStart => exact ⟨0, by omega, rfl, by omega, Below.refl _ _⟩
  case round =>
    obtain ⟨k, hk, rfl, hno, hb⟩ := hrel
    by_cases hlt : k < 4
    · have hi := idx t k hlt
      have hnok : t.hit page rw k = (((t.f k != 0) && (t.p k == page)) && (t.w k || !rw)) := rfl
      have Hno := Lib.hid hno; clear hno
      have Hnok := Lib.hid hnok; clear hnok
      have Hb := Lib.hid hb; clear hb
      cases e1 : (t.f k != 0) <;> cases e2 : (t.p k == page) <;> cases e3 : t.w k <;> cases rw
      all_goals go_wp2
      all_goals first
        | (go_roundw
           case rel =>
             refine ⟨k + 1, by omega, by go_num, fun j hj => ?_, Hb.out.alloc Hb.out.size _⟩
             rcases Nat.lt_or_eq_of_le (Nat.le_of_lt_succ hj) with h | h
             · exact Hno.out j h
             · subst h; rw [Hnok.out]; simp [e1, e2, e3]
           case measure => simp [intOf]; omega)
        | (go_ret
           refine ⟨?_, Hb.out.alloc Hb.out.size _⟩
           have h1 := Hno.out
           have h2 := Hnok.out
           rw [find_at t page _ k hlt h1 (h2.trans (by simp [e1, e2, e3]))]; rfl)
    · go_wp2
      go_ret
      have : k = 4 := by omega
      subst this
      refine ⟨?_, hb⟩
      simp [Pl.find, hno 0, hno 1, hno 2, hno 3]

theorem find_nil (page : Int) (rw : Bool) (w : World) :
    Calls Try.prog 8 #[.pointer none, .int .i64 page, .bool rw] w fun e w' => e = .returned (.int .i64 0) ∧ w = w' := by
  go_enter Try.func8, Try.ntmps8
  go_wp2
  go_ret
  exact ⟨rfl, rfl⟩

/-- How many of the first k places are used. -/
def Pl.lenTo (t : Pl) : Nat → Int
  | 0 => 0
  | k + 1 => t.lenTo k + (if t.f k != 0 then 1 else 0)
theorem Pl.lenTo_bd (t : Pl) (k : Nat) : 0 ≤ t.lenTo k ∧ t.lenTo k ≤ k := by
  induction k with
  | zero => simp [Pl.lenTo]
  | succ k ih => unfold Pl.lenTo; split <;> omega

set_option maxHeartbeats 400000 in
theorem len_any (b : Nat) (t : Pl) (w : World) (hB : Blk w b t.cells 28) :
    Calls Try.prog 9 #[.pointer (some ⟨b, 0, none⟩)] w fun e w' => e = .returned (.int .i64 (t.lenTo 4)) ∧ Below w.heap.size w w' := by
  have hc := hB.cell
  unfold Pl.cells at hc
  clear hB
  go_enter Try.func9, Try.ntmps9
  go_wp2
  go_loopw [3, 5, 12] (fun n _ i wx => ∃ k : Nat, k ≤ 4 ∧ i = .int .i64 k ∧ n = .int .i64 (t.lenTo k) ∧ Below w.heap.size w wx) (fun _ _ i _ => 4 - (intOf i).toNat)
  case atStart => exact ⟨0, by omega, rfl, rfl, Below.refl _ _⟩
  case round =>
    obtain ⟨k, hk, rfl, rfl, hb⟩ := hrel
    by_cases hlt : k < 4
    · have hi := idx t k hlt
      have hl := t.lenTo_bd k
      have hs : t.lenTo (k + 1) = t.lenTo k + (if t.f k != 0 then 1 else 0) := rfl
      have Hs := Lib.hid hs; clear hs
      have Hb := Lib.hid hb; clear hb
      cases e1 : (t.f k != 0)
      all_goals go_wp2
      all_goals go_roundw
      case rel => exact ⟨k + 1, by omega, by go_num, by rw [Hs.out, e1]; simp, Hb.out.alloc Hb.out.size _⟩
      case measure => simp [intOf]; omega
      case rel => exact ⟨k + 1, by omega, by go_num, by rw [Hs.out, e1]; simp, Hb.out.alloc Hb.out.size _⟩
      case measure => simp [intOf]; omega
    · go_wp2
      go_ret
      have : k = 4 := by omega
      subst this
      exact ⟨rfl, hb⟩

theorem len_nil (w : World) :
    Calls Try.prog 9 #[.pointer none] w fun e w' => e = .returned (.int .i64 0) ∧ w = w' := by
  go_enter Try.func9, Try.ntmps9
  go_wp2
  go_ret
  exact ⟨rfl, rfl⟩

/-- The last of the first k places that knows the page; -1. -/
def Pl.atTo (t : Pl) (page : Int) : Nat → Int
  | 0 => -1
  | k + 1 => if (t.f k != 0) && (t.p k == page) then (k : Int) else t.atTo page k
theorem Pl.atTo_bd (t : Pl) (page : Int) (k : Nat) : -1 ≤ t.atTo page k ∧ t.atTo page k < k := by
  induction k with
  | zero => simp [Pl.atTo]
  | succ k ih => unfold Pl.atTo; split <;> omega
def upd {α : Type} (f : Nat → α) (k : Nat) (v : α) : Nat → α := fun j => if j = k then v else f j
def Pl.store (t : Pl) (k : Nat) (page frame : Int) (rw : Bool) (n : Int) : Pl := ⟨upd t.p k page, upd t.f k frame, upd t.w k rw, n⟩
def Pl.put (t : Pl) (page frame : Int) (rw : Bool) : Pl :=
  if frame < 1 then t else if t.atTo page 4 < 0 then t.store t.n.toNat page frame rw ((t.n + 1) % 4) else t.store (t.atTo page 4).toNat page frame rw t.n

theorem put_low (b : Nat) (page frame : Int) (rw : Bool) (w : World) (h : frame < 1) :
    Calls Try.prog 7 #[.pointer (some ⟨b, 0, none⟩), .int .i64 page, .int .i64 frame, .bool rw] w fun e w' => e = .returned (.tuple #[]) ∧ w = w' := by
  go_enter Try.func7, Try.ntmps7
  go_wp2
  refine bodyPost_ret (results_none rfl _ _ _) rfl ?_
  exact ⟨rfl, rfl⟩

theorem put_nil (page frame : Int) (rw : Bool) (w : World) :
    Calls Try.prog 7 #[.pointer none, .int .i64 page, .int .i64 frame, .bool rw] w fun e w' => e = .returned (.tuple #[]) ∧ w = w' := by
  go_enter Try.func7, Try.ntmps7
  go_wp2
  refine bodyPost_ret (results_none rfl _ _ _) rfl ?_
  exact ⟨rfl, rfl⟩

theorem flush_nil (w : World) :
    Calls Try.prog 10 #[.pointer none] w fun e w' => e = .returned (.tuple #[]) ∧ w = w' := by
  go_enter Try.func10, Try.ntmps10
  go_wp2
  go_end0
  exact ⟨rfl, rfl⟩

def Pl.zero : Pl := ⟨fun _ => 0, fun _ => 0, fun _ => false, 0⟩

set_option maxHeartbeats 400000 in
theorem flush_any (b : Nat) (t : Pl) (w : World) (hB : Blk w b t.cells 28) :
    Calls Try.prog 10 #[.pointer (some ⟨b, 0, none⟩)] w fun e w' => e = .returned (.tuple #[]) ∧ Blk w' b Pl.zero.cells 28 ∧ Kept (· = b) w w' := by
  have hc := hB.cell
  have hf := hB.free
  unfold Pl.cells at hc
  have HB := Lib.hid hB; clear hB
  go_enter Try.func10, Try.ntmps10
  go_wp2
  go_end0
  refine ⟨rfl, Blk.cells (by (repeat apply Blk.set); exact HB.out) (by simp [Pl.cells, Pl.zero]), by (repeat refine Kept.setIn ?_ _ _ _ (by exact rfl)); exact Kept.refl _ _⟩

set_option maxHeartbeats 400000 in
theorem put_any (b : Nat) (t : Pl) (page frame : Int) (rw : Bool) (w : World) (hB : Blk w b t.cells 28) (hfr0 : ¬ frame < 1) (hn0 : 0 ≤ t.n) (hn3 : t.n < 4) :
    Calls Try.prog 7 #[.pointer (some ⟨b, 0, none⟩), .int .i64 page, .int .i64 frame, .bool rw] w fun e w' => e = .returned (.tuple #[]) ∧ Blk w' b (t.put page frame rw).cells 28 ∧ Kept (· = b) w w' := by
  have hc := hB.cell
  unfold Pl.cells at hc
  have hp : t.put page frame rw = if t.atTo page 4 < 0 then t.store t.n.toNat page frame rw ((t.n + 1) % 4) else t.store (t.atTo page 4).toNat page frame rw t.n := if_neg hfr0
  have HP := Lib.hid hp; clear hp
  have HB := Lib.hid hB; clear hB
  go_enter Try.func7, Try.ntmps7
  go_wp2
  go_loopw [8, 9, 10, 21] (fun a _ _ i wx => ∃ k : Nat, k ≤ 4 ∧ i = .int .i64 k ∧ a = .int .i64 (t.atTo page k) ∧ Below w.heap.size w wx) (fun _ _ _ i _ => 4 - (intOf i).toNat)
  case atStart => exact ⟨0, by omega, rfl, rfl, Below.refl _ _⟩
  case round =>
    obtain ⟨k, hk, rfl, rfl, hb⟩ := hrel
    by_cases hlt : k < 4
    · have hi := idx t k hlt
      have hs : t.atTo page (k + 1) = if (t.f k != 0) && (t.p k == page) then (k : Int) else t.atTo page k := rfl
      have Hs := Lib.hid hs; clear hs
      have Hb := Lib.hid hb; clear hb
      cases e1 : (t.f k != 0) <;> cases e2 : (t.p k == page)
      all_goals go_wp2
      all_goals go_roundw
      case rel => exact ⟨k + 1, by omega, by go_num, by rw [Hs.out, e1]; simp, Hb.out.alloc Hb.out.size _⟩
      case measure => simp [intOf]; omega
      case rel => exact ⟨k + 1, by omega, by go_num, by rw [Hs.out, e1]; simp, Hb.out.alloc Hb.out.size _⟩
      case measure => simp [intOf]; omega
      case rel => exact ⟨k + 1, by omega, by go_num, by rw [Hs.out, e1, e2]; simp, Hb.out.alloc Hb.out.size _⟩
      case measure => simp [intOf]; omega
      case rel => exact ⟨k + 1, by omega, by go_num, by rw [Hs.out, e1, e2]; simp, Hb.out.alloc Hb.out.size _⟩
      case measure => simp [intOf]; omega
    · obtain rfl : k = 4 := by omega
      have hB1 := HB.out.below hb HB.out.lt
      have hcr := hB1.cell
      have hfr := hB1.free
      unfold Pl.cells at hcr
      clear hc
      have HB1 := Lib.hid hB1; clear hB1
      have Hb := Lib.hid hb; clear hb
      have hbd := t.atTo_bd page 4
      have hcase : t.atTo page 4 = -1 ∨ t.atTo page 4 = 0 ∨ t.atTo page 4 = 1 ∨ t.atTo page 4 = 2 ∨ t.atTo page 4 = 3 := by omega
      have hcn : t.n = 0 ∨ t.n = 1 ∨ t.n = 2 ∨ t.n = 3 := by omega
      clear hbd
      rcases hcase with h | h | h | h | h
      · rcases hcn with e | e | e | e
        all_goals go_wp2
        all_goals go_end0
        all_goals refine ⟨rfl, Blk.cells (by (repeat apply Blk.set); exact HB1.out) ?_, by (repeat refine Kept.setIn ?_ _ _ _ (by exact rfl)); exact Kept.of_below Hb.out⟩
        all_goals (rw [HP.out]; simp [Pl.cells, Pl.store, upd, h, e])
      all_goals clear hcn
      all_goals go_wp2
      all_goals go_end0
      all_goals refine ⟨rfl, Blk.cells (by (repeat apply Blk.set); exact HB1.out) ?_, by (repeat refine Kept.setIn ?_ _ _ _ (by exact rfl)); exact Kept.of_below Hb.out⟩
      all_goals (rw [HP.out]; simp [Pl.cells, Pl.store, upd, h])

end Go.Proofs.Ytphophonkdfcaaa
