/- TraceThreads as its frame calls it: sixteen registers that came in by value. -/
import Derived.Test.YtjjnidbggoaonaaDoorThL
import Derived.Test.YtjjnidbggoaonaaDoorTrFr
import Derived.OpenShut
namespace Go.Proofs.YtjjnidbggoaonaaDoor
open Go.RowKit Go.ChangeShapes Go.WideShapes Go.Deep

/-- Registers that came in by value. -/
def IsRegs (v : Value) : Prop := ∃ r : Nat → Nat, v = .agg (regsA r) ∧ ∀ i, r i < 18446744073709551616
set_option maxRecDepth 100000 in
theorem open_regs {H : Type} {enc : TypeId × Value → H} {w : World} {base b0 : Nat} {r : Reach} {v : Value} {d : DataW H} {p : List MemPlace}
    (hv : Value.okWide Tryd.prog w r b0 32 v) (h : DataW.Trod enc Tryd.prog w base (fun _ => true) true 32 v d p) : IsRegs v := by
  obtain ⟨cs, rfl, hsz⟩ : ∃ cs, v = .agg cs ∧ cs.size = Tryd.prog.cellsOf 32 := by
    simp only [Value.okWide, Tryd.underlying32] at hv
    obtain ⟨cs, h1, h2, _⟩ := hv
    exact ⟨cs, h1, h2⟩
  obtain ⟨l⟩ := cs
  have hl : l.length = 16 := hsz.trans (by kernel_rfl)
  obtain ⟨fuel, hf⟩ := h
  obtain ⟨xs, m, _, _, _, hxl, hx⟩ := DataW.trod_array Tryd.underlying32 hf
  have h1 : Tryd.prog.cellsOf 22 = 1 := by kernel_rfl
  rw [h1] at hx
  have key : ∀ i, i < 16 → ∃ x : Nat, l[i]? = some (.int .u64 (x : Int)) ∧ x < 18446744073709551616 := by
    intro i hi
    have h2 : DataW.trod enc Tryd.prog w base (fun _ => true) true m 22 ((l.drop (i * 1)).take 1) = xs[i]? := hx i hi
    have h3 : (l.drop (i * 1)).take 1 = [l[i]'(by omega)] := by
      rw [Nat.mul_one, List.drop_eq_getElem_cons (by omega)]; rfl
    rw [h3, List.getElem?_eq_getElem (by omega)] at h2
    obtain ⟨n, q, _, wf⟩ := DataW.trod_int Tryd.underlying22 h2
    simp only [List.cons.injEq, and_true] at q
    have hb := wf_u64 wf
    refine ⟨n.toNat, ?_, by omega⟩
    rw [List.getElem?_eq_getElem (by omega), q, Int.toNat_of_nonneg hb.1]
  let r' : Nat → Nat := fun i => match l[i]? with | some (.int .u64 x) => if x.toNat < 18446744073709551616 then x.toNat else 0 | _ => 0
  refine ⟨r', ?_, fun i => ?_⟩
  · have hr : ∀ i, i < 16 → l[i]? = some (.int .u64 (r' i : Int)) := by
      intro i hi
      obtain ⟨x, hx, hx2⟩ := key i hi
      have : r' i = x := by show (match l[i]? with | some (.int .u64 x) => if x.toNat < 18446744073709551616 then x.toNat else 0 | _ => 0) = x; rw [hx]; simp [hx2]
      rw [this]; exact hx
    have e : l = (regsA r').toList := by
      apply List.ext_getElem?
      intro i
      rcases Nat.lt_or_ge i 16 with hi | hi
      · rw [hr i hi]
        obtain rfl | rfl | rfl | rfl | rfl | rfl | rfl | rfl | rfl | rfl | rfl | rfl | rfl | rfl | rfl | rfl : i = 0 ∨ i = 1 ∨ i = 2 ∨ i = 3 ∨ i = 4 ∨ i = 5 ∨ i = 6 ∨ i = 7 ∨ i = 8 ∨ i = 9 ∨ i = 10 ∨ i = 11 ∨ i = 12 ∨ i = 13 ∨ i = 14 ∨ i = 15 := by omega
        all_goals rfl
      · rw [List.getElem?_eq_none (by omega), List.getElem?_eq_none (by exact hi)]
    rw [e]
  · show (match l[i]? with | some (.int .u64 x) => if x.toNat < 18446744073709551616 then x.toNat else 0 | _ => 0) < _
    split
    · split
      · assumption
      · omega
    · omega
theorem threads_law (v : Value) (pc state : Int) (W : World) (hv : IsRegs v) (h1 : (Lit.int .u64 pc).wf = true) (_ : (Lit.int .i64 state).wf = true) (h : HasTr W) :
    Calls Tryd.prog 4 #[v, .int .u64 pc, .int .i64 state] W fun e w' => e = .returned (.bool true) ∧ Below W.heap.size W w' := by
  obtain ⟨r, rfl, hr⟩ := hv
  have hb := wf_u64 h1
  obtain ⟨p, rfl⟩ := Int.eq_ofNat_of_zero_le hb.1
  exact threads_walk r hr p state (by omega) W h
end Go.Proofs.YtjjnidbggoaonaaDoor
