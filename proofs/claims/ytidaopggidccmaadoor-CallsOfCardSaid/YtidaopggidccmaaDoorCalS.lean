/- The law's own table of calls, and its digits. -/
import Derived.Test.YtidaopggidccmaaDoorCalKinds
import Derived.Test.YtidaopggidccmaaDoorIsaT
namespace Go.Proofs.YtidaopggidccmaaDoor
open Go.RowKit
attribute [local irreducible] World.setCell World.alloc World.drew Calls Code.wp

/-- The table's cells: three strings for each call. -/
def trip (l : List Nat) : List Value := l.flatMap fun k => [S (cN k), S (dgs (cC k)), S (dgs (cR k))]
theorem trip_at : ∀ (l : List Nat) (i k : Nat), l[i]? = some k → (trip l)[3 * i]? = some (S (cN k)) ∧ (trip l)[3 * i + 1]? = some (S (dgs (cC k))) ∧ (trip l)[3 * i + 2]? = some (S (dgs (cR k)))
  | [], i, k, h => by simp at h
  | x :: l, 0, k, h => by
    obtain rfl : x = k := by simpa using h
    exact ⟨rfl, rfl, rfl⟩
  | x :: l, i + 1, k, h => by
    have h' : l[i]? = some k := by simpa using h
    obtain ⟨h0, h1, h2⟩ := trip_at l i k h'
    have e : ∀ j, (trip (x :: l))[3 * (i + 1) + j]? = (trip l)[3 * i + j]? := fun j => by
      show (S (cN x) :: S (dgs (cC x)) :: S (dgs (cR x)) :: trip l)[3 * (i + 1) + j]? = _
      rw [show 3 * (i + 1) + j = 3 * i + j + 1 + 1 + 1 by omega, List.getElem?_cons_succ, List.getElem?_cons_succ, List.getElem?_cons_succ]
    exact ⟨(e 0).trans h0, (e 1).trans h1, (e 2).trans h2⟩
def specsV : Array Value := (trip (List.range 40)).toArray
theorem specs_at (i : Nat) (hi : i < 40) : specsV[3 * i]? = some (S (cN i)) ∧ specsV[3 * i + 1]? = some (S (dgs (cC i))) ∧ specsV[3 * i + 2]? = some (S (dgs (cR i))) := by
  have h := trip_at (List.range 40) i i (List.getElem?_range hi)
  unfold specsV
  simpa using h

set_option maxRecDepth 100000 in
set_option maxHeartbeats 2000000 in
theorem specs_any (w : World) :
    Calls Tryd.prog 18 #[] w fun e w' => e = .returned (.slice (some ⟨w.heap.size, 0, none⟩) 40 40) ∧ w' = w.alloc (.cells specsV 44) := by
  go_enter Tryd.func18, Tryd.ntmps18
  go_wp2_with fail
  go_ret
  exact ⟨rfl, rfl⟩

theorem bs_dgt (x : Nat) : bs [(48 : Int) + x] = ⟨[dgt x].toArray⟩ := by
  have h := bs_list [(48 : Int) + x]
  have h2 : (bs [(48 : Int) + x]).data = #[dgt x] := by
    apply Array.toList_inj.1
    rw [h]
    have e : ((48 : Int) + x).toNat = 48 + x := by omega
    simp only [List.map_cons, List.map_nil, e]
    rfl
  rw [← h2]
set_option maxHeartbeats 1000000 in
theorem digits_any (B : Nat) (v : Value) (l : List Nat) (hl : ∀ x ∈ l, x < 10) (hlen : l.length < 1000) (w : World) (hd : Dig B w v l) :
    Calls Tryd.prog 20 #[v] w fun e w' => e = .returned (S (dgs l)) ∧ Below w.heap.size w w' := by
  obtain ⟨a, c, rfl, hd⟩ := hd
  have Hl := Lib.hid hl; clear hl
  rcases hd with ⟨rfl, rfl, rfl⟩ | ⟨b, rfl, _, hblt, hc⟩
  · go_enter Tryd.func20, Tryd.ntmps20
    go_wp2_with fail
    go_loopg [3, 5, 8] 0 (fun g s _ z wx => 0 = g ∧ s = S [] ∧ z = .int .i64 0 ∧ Below w.heap.size w wx)
    case atStart => exact ⟨rfl, rfl, rfl, Below.refl _ _⟩
    case round =>
      obtain ⟨_, rfl, rfl, hb⟩ := hrel
      have Hb := Lib.hid hb; clear hb
      go_wp2_with fail
      go_ret
      exact ⟨rfl, Hb.out⟩
  · have Hc := Lib.hid hc; clear hc
    go_enter Tryd.func20, Tryd.ntmps20
    go_wp2_with fail
    go_loopg [3, 5, 8] l.length (fun g s _ z wx => ∃ j : Nat, j + g = l.length ∧ s = S (dgs (l.take j)) ∧ z = .int .i64 j ∧ Below w.heap.size w wx)
    case atStart => exact ⟨0, by omega, rfl, rfl, Below.refl _ _⟩
    case round =>
      obtain ⟨j, hj, rfl, rfl, hb⟩ := hrel
      have Hb := Lib.hid hb; clear hb
      by_cases hlt : j < l.length
      · obtain ⟨y, hy⟩ : ∃ y, l[j] = y := ⟨_, rfl⟩
        have hcj : wr.cell? ⟨b, j, none⟩ = some (.int .i64 y) := by
          rw [Hb.out.cell (p := ⟨b, j, none⟩) hblt, Hc.out j hlt, ← hy]
          simp [List.getD, hlt]
        have hy10 : (y : Int) < 10 := by have := Hl.out y (hy ▸ List.getElem_mem hlt); omega
        have hy0 : (0 : Int) ≤ y := by omega
        have et : dgs (l.take (j + 1)) = dgs (l.take j) ++ [dgt y] := by
          rw [List.take_add_one]
          simp [hlt, hy, dgs]
        have hwu : IntKind.u8.wrap (48 + (y : Int)) = 48 + y := by
          simp [IntKind.wrap, IntKind.bits, IntKind.signed]; omega
        have hst := run_str (P := Tryd.prog) (w := wr.alloc (.cells #[.int .u8 (48 + (y : Int))] 5)) Tryd.underlying29 Tryd.underlying5 Tryd.underlying9 ⟨wr.heap.size, 0, none⟩ [48 + (y : Int)] 1 (fun j hj => by
          have : j = 0 := by simpa using hj
          subst this
          rw [Addr.add_lit, Nat.zero_add, (Blk.new wr _ _).cell]
          rfl)
        rw [bs_dgt] at hst
        have hst' : (convert 29 9 (.slice (some ⟨wr.heap.size, 0, none⟩) 1 1)).run Tryd.prog (wr.alloc (.cells #[.int .u8 (48 + (y : Int))] 5)) = .ok (.string ⟨[dgt y].toArray⟩) (wr.alloc (.cells #[.int .u8 (48 + (y : Int))] 5)) := hst
        have hll : (dgs (l.take j)).length ≤ 1000 := by simp [dgs]; omega
        have ha := run_sadd (P := Tryd.prog) (dgs (l.take j)) [dgt y] (by simp; omega)
        have Het := Lib.hid et
        clear hst et hy
        go_wp2_with fail
        go_roundg (l.length - (j + 1))
        case measure => omega
        case rel => exact ⟨j + 1, by omega, by rw [Het.out], by go_num, Hb.out.alloc Hb.out.size _⟩
      · have hjl : j = l.length := by omega
        have Hd : Hid (l.take j = l) := by unfold Hid; rw [hjl]; simp
        go_wp2_with fail
        go_ret
        exact ⟨by rw [Hd.out]; rfl, Hb.out⟩
end Go.Proofs.YtidaopggidccmaaDoor
