/- TlbRuns, its plain part: what the calls make of the places; the arguments opened. -/
import Derived.Test.YtphophonkdfcaaaTlbFit
import Derived.Test.YtphophonkdfcaaaBits
import Derived.Test.YtphophonkdfcaaaArgs
namespace Go.Proofs.Ytphophonkdfcaaa
open Go.RowKit

/-- The places of the law's own list. -/
def Pl.lcells (t : Pl) : Array Value := #[.int .i64 (t.p 0), .int .i64 (t.f 0), .bool (t.w 0), .int .i64 (t.p 1), .int .i64 (t.f 1), .bool (t.w 1), .int .i64 (t.p 2), .int .i64 (t.f 2), .bool (t.w 2), .int .i64 (t.p 3), .int .i64 (t.f 3), .bool (t.w 3)]

theorem lidx (t : Pl) (k : Nat) (hk : k < 4) (w : World) :
    (Instr.index 36 (.agg #[.int .i64 (t.p 0), .int .i64 (t.f 0), .bool (t.w 0), .int .i64 (t.p 1), .int .i64 (t.f 1), .bool (t.w 1), .int .i64 (t.p 2), .int .i64 (t.f 2), .bool (t.w 2), .int .i64 (t.p 3), .int .i64 (t.f 3), .bool (t.w 3)]) (.int .i64 k)).run Try.prog w = .ok (.agg #[.int .i64 (t.p k), .int .i64 (t.f k), .bool (t.w k)]) w := by
  obtain rfl | rfl | rfl | rfl : k = 0 ∨ k = 1 ∨ k = 2 ∨ k = 3 := by omega
  all_goals kernel_rfl

/-- Frames are none or above 0, no page stands twice. -/
structure Pl.Good (t : Pl) : Prop where
  f : ∀ k, k < 4 → 0 ≤ t.f k
  u : ∀ i j, i < 4 → j < 4 → t.f i ≠ 0 → t.f j ≠ 0 → t.p i = t.p j → i = j
  n0 : 0 ≤ t.n
  n4 : t.n < 4

theorem Pl.zero_good : Pl.zero.Good := ⟨fun _ _ => Int.le_refl _, fun i j _ _ h => absurd rfl h, by decide, by decide⟩

theorem Pl.at_none (t : Pl) (page : Int) (h : t.atTo page 4 < 0) (k : Nat) (hk : k < 4) (hf : t.f k ≠ 0) : t.p k ≠ page := by
  intro e
  have hf' : (t.f k != 0) = true := by simpa using hf
  have he : (t.p k == page) = true := by simpa using e
  unfold Pl.atTo Pl.atTo Pl.atTo Pl.atTo Pl.atTo at h
  obtain rfl | rfl | rfl | rfl : k = 0 ∨ k = 1 ∨ k = 2 ∨ k = 3 := by omega
  all_goals (rw [hf', he] at h; (repeat' split at h) <;> simp_all <;> omega)

theorem Pl.at_some (t : Pl) (page : Int) (h : ¬ t.atTo page 4 < 0) : ∃ k : Nat, k < 4 ∧ t.atTo page 4 = k ∧ t.f k ≠ 0 ∧ t.p k = page := by
  unfold Pl.atTo Pl.atTo Pl.atTo Pl.atTo Pl.atTo at h ⊢
  by_cases h3 : ((t.f 3 != 0) && (t.p 3 == page)) = true
  · rw [if_pos h3]; simp at h3; exact ⟨3, by omega, rfl, h3.1, h3.2⟩
  rw [if_neg h3] at h ⊢
  by_cases h2 : ((t.f 2 != 0) && (t.p 2 == page)) = true
  · rw [if_pos h2]; simp at h2; exact ⟨2, by omega, rfl, h2.1, h2.2⟩
  rw [if_neg h2] at h ⊢
  by_cases h1 : ((t.f 1 != 0) && (t.p 1 == page)) = true
  · rw [if_pos h1]; simp at h1; exact ⟨1, by omega, rfl, h1.1, h1.2⟩
  rw [if_neg h1] at h ⊢
  by_cases h0 : ((t.f 0 != 0) && (t.p 0 == page)) = true
  · rw [if_pos h0]; simp at h0; exact ⟨0, by omega, rfl, h0.1, h0.2⟩
  rw [if_neg h0] at h
  omega

theorem Pl.Good.store_new {t : Pl} (g : t.Good) (k : Nat) (page frame : Int) (rw : Bool) (n : Int) (hn0 : 0 ≤ n) (hn4 : n < 4) (hf : 1 ≤ frame)
    (hp : ∀ j, j < 4 → j ≠ k → t.f j ≠ 0 → t.p j ≠ page) : (t.store k page frame rw n).Good := by
  refine ⟨fun j hj => ?_, fun i j hi hj h1 h2 e => ?_, hn0, hn4⟩
  · show 0 ≤ upd t.f k frame j
    unfold upd; split
    · omega
    · exact g.f j hj
  · have h1' : upd t.f k frame i ≠ 0 := h1
    have h2' : upd t.f k frame j ≠ 0 := h2
    have e' : upd t.p k page i = upd t.p k page j := e
    unfold upd at h1' h2' e'
    by_cases hik : i = k <;> by_cases hjk : j = k
    · omega
    · rw [if_pos hik, if_neg hjk] at e'; rw [if_neg hjk] at h2'
      exact absurd e'.symm (hp j hj hjk h2')
    · rw [if_neg hik, if_pos hjk] at e'; rw [if_neg hik] at h1'
      exact absurd e' (hp i hi hik h1')
    · rw [if_neg hik, if_neg hjk] at e'; rw [if_neg hik] at h1'; rw [if_neg hjk] at h2'
      exact g.u i j hi hj h1' h2' e'

theorem Pl.Good.put {t : Pl} (g : t.Good) (page frame : Int) (rw : Bool) : (t.put page frame rw).Good := by
  unfold Pl.put
  have hn0 := g.n0
  have hn4 := g.n4
  by_cases h : frame < 1
  · rw [if_pos h]; exact g
  rw [if_neg h]
  by_cases h0 : t.atTo page 4 < 0
  · rw [if_pos h0]
    exact g.store_new _ _ _ _ _ (by omega) (by omega) (by omega) (fun j hj _ hf => t.at_none page h0 j hj hf)
  · rw [if_neg h0]
    obtain ⟨k, hk, e, hf, hp⟩ := t.at_some page h0
    rw [e]
    refine g.store_new _ _ _ _ _ hn0 hn4 (by omega) (fun j hj hjk hfj hpj => hjk ?_)
    have := g.u j k hj hk hfj hf (by rw [hpj, hp])
    simpa using this

/-- The frame that the law looks for: of the last place that fits, among the first k. -/
def Pl.lastTo (t : Pl) (page : Int) (rw : Bool) : Nat → Int
  | 0 => 0
  | k + 1 => if (decide (0 < t.f k)) && (t.p k == page) && (t.w k || !rw) then t.f k else t.lastTo page rw k

theorem Pl.Good.last {t : Pl} (g : t.Good) (page : Int) (rw : Bool) : t.find page rw = t.lastTo page rw 4 := by
  have e : ∀ k, k < 4 → ((decide (0 < t.f k)) && (t.p k == page) && (t.w k || !rw)) = t.hit page rw k := by
    intro k hk
    have := g.f k hk
    unfold Pl.hit
    have : decide (0 < t.f k) = (t.f k != 0) := by rw [Bool.eq_iff_iff]; simp; omega
    rw [this]
  have one : ∀ i j, i < 4 → j < 4 → t.hit page rw i = true → t.hit page rw j = true → i = j := by
    intro i j hi hj h1 h2
    simp [Pl.hit] at h1 h2
    exact g.u i j hi hj h1.1.1 h2.1.1 (by rw [h1.1.2, h2.1.2])
  unfold Pl.find Pl.lastTo Pl.lastTo Pl.lastTo Pl.lastTo Pl.lastTo
  rw [e 0 (by omega), e 1 (by omega), e 2 (by omega), e 3 (by omega)]
  have o01 := one 0 1 (by omega) (by omega); have o02 := one 0 2 (by omega) (by omega); have o03 := one 0 3 (by omega) (by omega)
  have o12 := one 1 2 (by omega) (by omega); have o13 := one 1 3 (by omega) (by omega); have o23 := one 2 3 (by omega) (by omega)
  cases h0 : t.hit page rw 0 <;> cases h1 : t.hit page rw 1 <;> cases h2 : t.hit page rw 2 <;> cases h3 : t.hit page rw 3 <;> simp_all

/-- A call: its number of four, page, frame, to write. -/
def Pl.step (t : Pl) (m page frame : Int) (rw : Bool) : Pl :=
  if m = 2 then t else if m = 3 then (if frame % 4 = 0 then Pl.zero else t) else t.put page frame rw
def kindOf (k : Int) : Int := (k.tmod 4 + 4) % 4
theorem kindOf_four (k : Int) : kindOf k = 0 ∨ kindOf k = 1 ∨ kindOf k = 2 ∨ kindOf k = 3 := by unfold kindOf; omega

/-- Behind j of the calls. -/
def runTo (K P F : Nat → Int) (R : Nat → Bool) : Nat → Pl
  | 0 => Pl.zero
  | j + 1 => (runTo K P F R j).step (kindOf (K j)) (P j) (F j) (R j)
theorem runTo_good (K P F : Nat → Int) (R : Nat → Bool) (j : Nat) : (runTo K P F R j).Good := by
  induction j with
  | zero => exact Pl.zero_good
  | succ j ih =>
    unfold runTo Pl.step
    (repeat' split)
    · exact ih
    · exact Pl.zero_good
    · exact ih
    · exact ih.put _ _ _

theorem call_cells {H : Type} {enc : TypeId × Value → H} {w : World} {m : Nat} {cs : List Value} {y : DataW H × List MemPlace}
    (h : DataW.trod enc Try.prog w 0 (fun _ => true) true m 38 cs = some y) :
    ∃ (k p f : Int) (r : Bool), cs = [.int .i64 k, .int .i64 p, .int .i64 f, .bool r] ∧ (Lit.int .i64 k).wf = true ∧ (Lit.int .i64 p).wf = true ∧ (Lit.int .i64 f).wf = true := by
  obtain ⟨y0, y1, y2, y3, n, _, hl, h0, h1, h2, h3⟩ := Go.Joins.trod_struct4 (P := Try.prog) Try.underlying38 h
  have hl4 : cs.length = 4 := hl
  obtain ⟨c0, c1, c2, c3, rfl⟩ : ∃ c0 c1 c2 c3, cs = [c0, c1, c2, c3] := by
    match cs, hl4 with
    | [c0, c1, c2, c3], _ => exact ⟨c0, c1, c2, c3, rfl⟩
  obtain ⟨k, e0, _, w0⟩ := DataW.trod_int Try.underlying3 (show DataW.trod enc Try.prog w 0 _ true n 3 [c0] = some y0 from h0)
  obtain ⟨p, e1, _, w1⟩ := DataW.trod_int Try.underlying3 (show DataW.trod enc Try.prog w 0 _ true n 3 [c1] = some y1 from h1)
  obtain ⟨f, e2, _, w2⟩ := DataW.trod_int Try.underlying3 (show DataW.trod enc Try.prog w 0 _ true n 3 [c2] = some y2 from h2)
  obtain ⟨r, e3, _⟩ := DataW.trod_bool Try.underlying4 (show DataW.trod enc Try.prog w 0 _ true n 4 [c3] = some y3 from h3)
  simp only [List.cons.injEq, and_true] at e0 e1 e2 e3
  subst e0 e1 e2 e3
  exact ⟨k, p, f, r, rfl, w0, w1, w2⟩

/-- The calls that came in. -/
def CallsIn (w : World) (a : Option Addr) (len cap : Nat) : Prop :=
  ∃ (b off : Nat) (K P F : Nat → Int) (R : Nat → Bool), IdxAt Try.prog 33 4 a len cap b off ∧ (0 < len → b < w.heap.size) ∧ len ≤ maxLen ∧
    ∀ j, j < len → w.cell? ⟨b, off + j * 4, none⟩ = some (.int .i64 (K j)) ∧ w.cell? ⟨b, off + j * 4 + 1, none⟩ = some (.int .i64 (P j)) ∧ w.cell? ⟨b, off + j * 4 + 2, none⟩ = some (.int .i64 (F j)) ∧ w.cell? ⟨b, off + j * 4 + 3, none⟩ = some (.bool (R j)) ∧
      (Lit.int .i64 (K j)).wf = true ∧ (Lit.int .i64 (P j)).wf = true ∧ (Lit.int .i64 (F j)).wf = true

theorem calls_in {H : Type} {enc : TypeId × Value → H} {w : World} {a : Option Addr} {len cap : Nat} {d : DataW H} {p : List MemPlace}
    (h : DataW.Trod enc Try.prog w 0 (fun _ => true) true 33 (.slice a len cap) d p) : CallsIn w a len cap := by
  obtain ⟨b, off, hix, hlt, hl, hm, hel⟩ := slice_open (n := 4) Try.underlying33 (by kernel_rfl) (by omega) (fun w => by kernel_rfl) h
  obtain ⟨f, hf⟩ := Go.Deep.choose_lt (α := Int × Int × Int × Bool) (p := fun j x => w.cell? ⟨b, off + j * 4, none⟩ = some (.int .i64 x.1) ∧ w.cell? ⟨b, off + j * 4 + 1, none⟩ = some (.int .i64 x.2.1) ∧ w.cell? ⟨b, off + j * 4 + 2, none⟩ = some (.int .i64 x.2.2.1) ∧ w.cell? ⟨b, off + j * 4 + 3, none⟩ = some (.bool x.2.2.2) ∧
      (Lit.int .i64 x.1).wf = true ∧ (Lit.int .i64 x.2.1).wf = true ∧ (Lit.int .i64 x.2.2.1).wf = true) (n := len) (fun j hj => by
    obtain ⟨cs, _, hc, m, y, ht⟩ := hel j hj
    obtain ⟨k, p, f, r, rfl, w0, w1, w2⟩ := call_cells ht
    exact ⟨(k, p, f, r), hc 0 (by omega), hc 1 (by omega), hc 2 (by omega), hc 3 (by omega), w0, w1, w2⟩)
  exact ⟨b, off, fun j => (f j).1, fun j => (f j).2.1, fun j => (f j).2.2.1, fun j => (f j).2.2.2, hix, hlt, by omega, hf⟩
end Go.Proofs.Ytphophonkdfcaaa
