/- The walk of CallsNames: it returns true, whatever the two numbers; and the layer's fit. -/
import Derived.Test.YtidaopggidccmaaDoorCalOf
import Derived.Test.YtidaopggidccmaaDoorIsaF
namespace Go.Proofs.YtidaopggidccmaaDoor
open Go.RowKit
attribute [local irreducible] World.setCell World.alloc World.drew Calls Code.wp

theorem of_one (w : World) (hs : HasSp w) (hm : HasMax w) :
    Calls Tryd.prog 19 #[.int .u64 1] w fun e w' => (∃ x c y d, e = .returned (.tuple #[.agg #[.string ⟨#[99, 97, 116, 110, 101, 119]⟩, .slice x 0 c, .slice y 0 d], .bool true])) ∧ Below w.heap.size w w' := by
  have h := of_yes 0 (by omega) w hs hm
  rw [show (((0 : Nat) : Int) + 1) = 1 from rfl] at h
  refine h.mono ?_
  rintro e w' ⟨v, rfl, ⟨a, b, rfl, ⟨x, c, rfl, _⟩, ⟨y, d, rfl, _⟩⟩, hb⟩
  exact ⟨⟨x, c, y, d, rfl⟩, hb⟩

set_option maxHeartbeats 400000 in
theorem fit21_any (w : World) (hs : HasSp w) (hm : HasMax w) :
    Calls Tryd.prog 17 #[] w fun e w' => e = .returned (.bool true) ∧ Below w.heap.size w w' := by
  have Hs := Lib.hid hs; have Hm := Lib.hid hm; clear hs hm
  go_enter Tryd.func17, Tryd.ntmps17
  go_wp2_with fail
  refine (of_one _ Hs.out Hm.out).mono ?_
  rintro e w1 ⟨⟨x, c, y, d, rfl⟩, hb1⟩
  have Hb1 := Lib.hid hb1; clear hb1
  go_wp2_with fail
  go_ret
  exact ⟨rfl, Hb1.out.alloc Hb1.out.size _⟩

theorem cN_inj (i j : Nat) (hi : i < 40) (hj : j < 40) (h : cN i = cN j) : i = j := by
  have h1 : ∀ i, i < 40 → ∀ j, j < 40 → cN i = cN j → i = j := by decide +kernel
  exact h1 i hi j hj h
theorem cN_ne (i : Nat) (hi : i < 40) : cN i ≠ [] := by
  have h1 : ∀ i, i < 40 → cN i ≠ [] := by decide +kernel
  exact h1 i hi

theorem mod40 (a : Int) (h : 0 ≤ a) : ∃ i : Nat, i < 40 ∧ a.tmod 40 = i ∧ (i : Int) < 40 := by
  rw [Int.tmod_eq_emod_of_nonneg h]
  exact ⟨(a % 40).toNat, by omega, by omega, by omega⟩

set_option maxHeartbeats 1000000 in
theorem cnames_walk (a b : Int) (w : World) (ha : (Lit.int .u64 a).wf = true) (hb : (Lit.int .u64 b).wf = true) (hs : HasSp w) (hm : HasMax w) :
    Calls Tryd.prog 8 #[.int .u64 a, .int .u64 b] w fun e w' => e = .returned (.bool true) ∧ Below w.heap.size w w' := by
  have Hs := Lib.hid hs; have Hm := Lib.hid hm; clear hs hm
  obtain ⟨i, hi, ei, hi'⟩ := mod40 a (wf_u64 ha).1
  obtain ⟨j, hj, ej, hj'⟩ := mod40 b (wf_u64 hb).1
  have Hi := Lib.hid hi; have Hj := Lib.hid hj; clear hi hj ha hb
  go_enter Tryd.func8, Tryd.ntmps8
  go_wp2_with fail
  refine (fit21_any _ Hs.out Hm.out).mono ?_
  rintro e w1 ⟨rfl, hb1⟩
  have Hb1 := Lib.hid hb1; clear hb1
  go_wp2_with fail
  refine (of_yes i Hi.out _ (Hs.out.below Hb1.out) (Hm.out.below Hb1.out)).mono ?_
  rintro e w2 ⟨v, rfl, ⟨s1, s2, rfl, ⟨x1, c1, rfl, _⟩, ⟨x2, c2, rfl, _⟩⟩, hb2⟩
  have Hb2 := Lib.hid (bel_from Hb1.out hb2); clear hb2
  obtain ⟨n1, hn1⟩ : ∃ n, (cC i).length = n := ⟨_, rfl⟩
  obtain ⟨n2, hn2⟩ : ∃ n, (cR i).length = n := ⟨_, rfl⟩
  rw [hn1, hn2]
  clear hn1 hn2
  obtain ⟨sx, hx⟩ : ∃ s : ByteArray, (⟨(cN i).toArray⟩ : ByteArray) = s := ⟨_, rfl⟩
  rw [show S (cN i) = .string sx from congrArg Value.string hx]
  have Hx := Lib.hid hx; clear hx
  go_wp2_with fail
  have hb3 : Below w.heap.size w (w2.alloc (.cells #[.string sx, .slice x1 n1 c1, .slice x2 n2 c2] 41)) := Hb2.out.alloc Hb2.out.size _
  refine (of_yes j Hj.out _ (Hs.out.below hb3) (Hm.out.below hb3)).mono ?_
  rintro e w3 ⟨v, rfl, ⟨s1, s2, rfl, ⟨y1, d1, rfl, _⟩, ⟨y2, d2, rfl, _⟩⟩, hb4⟩
  have Hb4 := Lib.hid (bel_from hb3 hb4)
  have B1 : Blk w3 w2.heap.size #[.string sx, .slice x1 n1 c1, .slice x2 n2 c2] 41 := (Blk.new w2 _ _).below hb4 (by simp)
  have hc : w3.cell? ⟨w2.heap.size, 0, none⟩ = some (.string sx) := B1.cell 0
  have hlt : w2.heap.size < w3.heap.size := B1.lt
  clear hb3 hb4 B1
  obtain ⟨n1, hn1⟩ : ∃ n, (cC j).length = n := ⟨_, rfl⟩
  obtain ⟨n2, hn2⟩ : ∃ n, (cR j).length = n := ⟨_, rfl⟩
  rw [hn1, hn2]
  clear hn1 hn2
  obtain ⟨sy, hy⟩ : ∃ s : ByteArray, (⟨(cN j).toArray⟩ : ByteArray) = s := ⟨_, rfl⟩
  rw [show S (cN j) = .string sy from congrArg Value.string hy]
  have Hy := Lib.hid hy; clear hy
  have e0 : (sx.toList == []) = false := by
    rw [← Hx.out, beq_eq_false_iff_ne]
    intro e
    exact cN_ne i Hi.out (by simpa using e)
  by_cases hij : i = j
  · obtain rfl := hij
    obtain rfl : sx = sy := Hx.out.symm.trans Hy.out
    go_wp2_with fail
    go_ret
    exact ⟨rfl, Hb4.out.alloc Hb4.out.size _⟩
  · have e1 : (sx.toList == sy.toList) = false := by
      rw [← Hx.out, ← Hy.out, beq_eq_false_iff_ne]
      intro e
      have e' : cN i = cN j := by simpa using e
      exact hij (cN_inj i j Hi.out Hj.out e')
    have e2 : ((i : Int) == (j : Int)) = false := by rw [beq_eq_false_iff_ne]; omega
    have e3 : ((i : Int) + 1 == (j : Int) + 1) = false := by rw [beq_eq_false_iff_ne]; omega
    clear hij
    go_wp2_with fail
    go_ret
    exact ⟨rfl, Hb4.out.alloc Hb4.out.size _⟩
end Go.Proofs.YtidaopggidccmaaDoor
