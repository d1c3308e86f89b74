/- Labels in memory; which may be; whether one is plain. -/
import Derived.Test.YtjjnidbggoaonaaGreatDoorWoC
import Derived.Deep.LoopGhost
namespace Go.Proofs.YtjjnidbggoaonaaGreatDoor
open Go.RowKit
attribute [local irreducible] World.setCell World.alloc World.drew Calls Code.wp
attribute [local go_sem] Oper.semAt_some

/-- A pair's two cells. -/
theorem PairsIn.at {w : World} {a : Option Addr} {c : Nat} {ps : List (Nat × Nat)} (h : PairsIn w (.slice a ps.length c) ps) {k : Nat} {p : Nat × Nat} (hk : ps[k]? = some p) :
    ∃ b, a = some ⟨b, 0, none⟩ ∧ b < w.heap.size ∧ w.cell? ⟨b, k * 2, none⟩ = some (.int .u32 (p.1 : Nat)) ∧ w.cell? ⟨b, k * 2 + 1, none⟩ = some (.int .i64 (p.2 : Nat)) := by
  obtain ⟨b, rfl, hb, hc⟩ := RowAt.cells h (by have := (List.getElem?_eq_some_iff.1 hk).1; omega)
  have e0 := flat_at pairV 2 (fun _ => rfl) ps k p hk 0 (by omega)
  have e1 := flat_at pairV 2 (fun _ => rfl) ps k p hk 1 (by omega)
  exact ⟨b, rfl, hb, hc _ _ (by rw [Nat.add_zero] at e0; rw [e0]; rfl), hc _ _ (by rw [e1]; rfl)⟩
theorem pairsR_cons (d last : Nat) (p : Nat × Nat) (r : List (Nat × Nat)) : pairsR d last (p :: r) = (decide (last < p.1 ∧ p.1 ≤ 1073741824 ∧ p.2 ≤ 4 ∧ p.2 ≠ d) && pairsR d p.1 r) := rfl
theorem drop_at {α : Type} {l : List α} {k : Nat} {x : α} (h : l[k]? = some x) : l.drop k = x :: l.drop (k + 1) := by
  obtain ⟨h1, h2⟩ := List.getElem?_eq_some_iff.1 h
  rw [List.drop_eq_getElem_cons h1, h2]
set_option maxRecDepth 100000 in
set_option maxHeartbeats 4000000 in
theorem lab_right_any (l : Lab) (hd : l.d < 4294967296) (hp : ∀ p ∈ l.ps, p.1 < 4294967296 ∧ p.2 < 4294967296) (v : Value) (w : World) (h : LabIn w v l) :
    Calls Tryz.prog 76 #[v] w fun e w' => e = .returned (.bool l.right) ∧ Below w.heap.size w w' := by
  obtain ⟨s, rfl, hps⟩ := h
  obtain ⟨a, c, rfl, hc1, hc2⟩ := RowAt.form hps
  obtain ⟨d, ps⟩ := l
  simp only at hd hp hc1 hps ⊢
  have Hps := Lib.hid hps
  clear hps
  have hR : Lab.right ⟨d, ps⟩ = (decide (1 ≤ d ∧ d ≤ 4 ∧ ps.length ≤ 12) && pairsR d 0 ps) := rfl
  have HR := Lib.hid hR
  clear hR
  obtain ⟨w1, hw1⟩ : ∃ w1 : World, w1 = w.alloc (.cells #[.int .i64 (d : Nat), .slice a ps.length c] 104) := ⟨_, rfl⟩
  obtain ⟨lb, hlb⟩ : ∃ lb, lb = w.heap.size := ⟨_, rfl⟩
  have Hlb : Hid (lb = w.heap.size) := hlb
  have HL1 : Hid (Blk w1 lb #[.int .i64 (d : Nat), .slice a ps.length c] 104) := by rw [hw1, hlb]; exact Blk.new _ _ _
  have HB1 : Hid (Below w.heap.size w w1) := by rw [hw1]; exact (Below.refl _ w).alloc (Nat.le_refl _) _
  have hcl := HL1.out.cell
  rw [hw1, hlb] at hcl
  unfold maxLen at hc2
  by_cases h1 : (d : Int) < 1
  · have HF : Hid (Lab.right ⟨d, ps⟩ = false) := by show _ = _; rw [HR.out, decide_eq_false (by omega)]; rfl
    go_enter Tryz.func76, Tryz.ntmps76
    go_wp2_with fail
    rw [← hw1]
    go_ret
    exact ⟨by rw [HF.out]; rfl, HB1.out⟩
  by_cases h4 : (4 : Int) < d
  · have HF : Hid (Lab.right ⟨d, ps⟩ = false) := by show _ = _; rw [HR.out, decide_eq_false (by omega)]; rfl
    go_enter Tryz.func76, Tryz.ntmps76
    go_wp2_with fail
    rw [← hw1]
    go_ret
    exact ⟨by rw [HF.out]; rfl, HB1.out⟩
  by_cases h12 : (12 : Int) < ps.length
  · have HF : Hid (Lab.right ⟨d, ps⟩ = false) := by show _ = _; rw [HR.out, decide_eq_false (by omega)]; rfl
    go_enter Tryz.func76, Tryz.ntmps76
    go_wp2_with fail
    rw [← hw1]
    go_ret
    exact ⟨by rw [HF.out]; rfl, HB1.out⟩
  have HR2 : Hid (Lab.right ⟨d, ps⟩ = pairsR d 0 ps) := by show _ = _; rw [HR.out, decide_eq_true ⟨by omega, by omega, by omega⟩, Bool.true_and]
  have HP := Lib.hid hp
  clear hp
  go_enter Tryz.func76, Tryz.ntmps76
  go_wp2_with fail
  rw [← hw1, ← hlb]
  clear hcl hw1 hlb
  go_loopg [3, 5, 23] ps.length (fun g vl _ vi wx => ∃ (k last : Nat), k + g = ps.length ∧ vl = .int .u32 (last : Nat) ∧ vi = .int .i64 k ∧ Hid (last < 4294967296 ∧ Below w1.heap.size w1 wx ∧ pairsR d 0 ps = pairsR d last (ps.drop k)))
  case atStart => exact ⟨0, 0, by omega, rfl, rfl, Lib.hid ⟨by omega, Below.refl _ _, rfl⟩⟩
  case round =>
    obtain ⟨k, last, hk, rfl, rfl, hh⟩ := hrel
    have HBr : Hid (Below w.heap.size w wr) := bel_from HB1.out hh.out.2.1
    by_cases hkn : k < ps.length
    · have hkn' : (k : Int) < ps.length := by omega
      obtain ⟨p, hpk⟩ : ∃ p, ps[k]? = some p := ⟨_, List.getElem?_eq_getElem hkn⟩
      obtain ⟨e1, e2⟩ := HP.out p (List.mem_of_getElem? hpk)
      obtain ⟨b, rfl, hb, q0, q1⟩ := PairsIn.at Hps.out hpk
      have q0' : wr.cell? ⟨b, k * 2, none⟩ = some (.int .u32 (p.1 : Nat)) := by rw [HBr.out.cell (p := ⟨b, k * 2, none⟩) hb]; exact q0
      have q1' : wr.cell? ⟨b, k * 2 + 1, none⟩ = some (.int .i64 (p.2 : Nat)) := by rw [HBr.out.cell (p := ⟨b, k * 2 + 1, none⟩) hb]; exact q1
      have hx := (HL1.out.below hh.out.2.1 HL1.out.lt).cell
      have hx2 := ((HL1.out.below hh.out.2.1 HL1.out.lt).alloc (.cells #[.int .u32 (p.1 : Nat), .int .i64 (p.2 : Nat)] 144)).cell
      have hz : lb < wr.heap.size := (HL1.out.below hh.out.2.1 HL1.out.lt).lt
      have hst : Lab.right ⟨d, ps⟩ = (decide (last < p.1 ∧ p.1 ≤ 1073741824 ∧ p.2 ≤ 4 ∧ p.2 ≠ d) && pairsR d p.1 (ps.drop (k + 1))) := by rw [HR2.out, hh.out.2.2, drop_at hpk, pairsR_cons]
      have Hst := Lib.hid hst
      have HBl : Hid (Below w1.heap.size w1 (wr.alloc (.cells #[.int .u32 (p.1 : Nat), .int .i64 (p.2 : Nat)] 144))) := hh.out.2.1.alloc hh.out.2.1.size _
      have Hnx : Hid ((last < p.1 ∧ p.1 ≤ 1073741824 ∧ p.2 ≤ 4 ∧ p.2 ≠ d) → pairsR d 0 ps = pairsR d p.1 (ps.drop (k + 1))) := fun hc => by rw [hh.out.2.2, drop_at hpk, pairsR_cons, decide_eq_true hc, Bool.true_and]
      clear q0 q1 hpk hst hh
      obtain ⟨x, y⟩ := p
      simp only at e1 e2 q0' q1' hx2 Hst HBl Hnx
      by_cases g1 : (x : Int) ≤ last
      · have HF : Hid (Lab.right ⟨d, ps⟩ = false) := by show _ = _; rw [Hst.out, decide_eq_false (by omega)]; rfl
        go_wp2_with fail
        go_ret
        exact ⟨by rw [HF.out]; rfl, bel_from HB1.out HBl.out⟩
      by_cases g2 : (1073741824 : Int) < x
      · have HF : Hid (Lab.right ⟨d, ps⟩ = false) := by show _ = _; rw [Hst.out, decide_eq_false (by omega)]; rfl
        go_wp2_with fail
        go_ret
        exact ⟨by rw [HF.out]; rfl, bel_from HB1.out HBl.out⟩
      have g3 : ¬ (y : Int) < 0 := by omega
      by_cases g4 : (4 : Int) < y
      · have HF : Hid (Lab.right ⟨d, ps⟩ = false) := by show _ = _; rw [Hst.out, decide_eq_false (by omega)]; rfl
        go_wp2_with fail
        go_ret
        exact ⟨by rw [HF.out]; rfl, bel_from HB1.out HBl.out⟩
      by_cases g5 : y = d
      · have HF : Hid (Lab.right ⟨d, ps⟩ = false) := by show _ = _; rw [Hst.out, decide_eq_false (by omega)]; rfl
        have g5b : ((y : Int) == (d : Int)) = true := by simp; omega
        clear g5
        go_wp2_with fail
        go_ret
        exact ⟨by rw [HF.out]; rfl, bel_from HB1.out HBl.out⟩
      · have g5b : ((y : Int) == (d : Int)) = false := by simp; omega
        have HN := Lib.hid (Hnx.out ⟨by omega, by omega, by omega, g5⟩)
        clear g5
        go_wp2_with fail
        go_roundg (ps.length - (k + 1))
        case measure => omega
        case rel => exact ⟨k + 1, x, by omega, rfl, by go_num, Lib.hid ⟨e1, HBl.out, HN.out⟩⟩
    · obtain rfl : k = ps.length := by omega
      have HF : Hid (Lab.right ⟨d, ps⟩ = true) := by show _ = _; rw [HR2.out, hh.out.2.2, List.drop_length]; rfl
      clear hh
      go_wp2_with fail
      go_ret
      exact ⟨by rw [HF.out]; rfl, HBr.out⟩
end Go.Proofs.YtjjnidbggoaonaaGreatDoor
