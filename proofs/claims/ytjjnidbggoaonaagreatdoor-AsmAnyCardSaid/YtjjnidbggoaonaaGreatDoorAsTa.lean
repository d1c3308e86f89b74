/- Bytes of any slice, appended to bytes of one's own. -/
import Derived.Test.YtjjnidbggoaonaaGreatDoorAsF
namespace Go.Proofs.YtjjnidbggoaonaaGreatDoor
open Go.RowKit
attribute [local irreducible] World.setCell World.alloc World.drew Calls Code.wp

theorem run_append_strIn (w : World) (base : Nat) (ty : TypeId) (out v : Value) (m l : List Int) (hown : w.ownsRow base 5 1 out m.length (bytesV m)) (hv : StrIn w v l) (hl : m.length + l.length ≤ 100000000) (hb : base ≤ w.heap.size) :
    ∃ v' w', (Builtin.append_ #[27, 27] ty #[out, v]).run Tryz.prog w = .ok v' w' ∧ w'.ownsRow base 5 1 v' (m ++ l).length (bytesV (m ++ l)) ∧ w.grownBy w' out.ownBlock := by
  obtain ⟨i, hi, hz, hs, hby⟩ : ∃ i, Tryz.prog.info? 5 = some i ∧ i.zero = some (.int .u8 0) ∧ i.size = 1 ∧ i.bytes = 1 := info_parts (by kernel_rfl)
  obtain ⟨x, c, rfl, _, hx⟩ := hv
  have hbv : bytesV (m ++ l) = bytesV m ++ bytesV l := by simp [bytesV]
  cases x with
  | none =>
    have hl0 : l = [] := by
      rcases hx with h | ⟨b, o, e, _⟩
      · exact h
      · cases e
    subst hl0
    refine ⟨out, w, ?_, by simpa using hown, World.grownBy.refl w _⟩
    rcases hown.2 with ⟨rfl, _⟩ | ⟨g, cap, cur, rfl, _, _, hcap, _⟩
    · simp [Builtin.append_, run_underlying Tryz.underlying27, sizeOf, typeInfo, hi, Builtin.lenOf, Builtin.firstCells]
    · simp [Builtin.append_, run_underlying Tryz.underlying27, sizeOf, typeInfo, hi, Builtin.lenOf, Builtin.firstCells, hcap, storeCells]
  | some ad =>
    have hcl : ∀ j u, (bytesV l)[j]? = some u → w.cell? (ad.add j) = some u := by
      intro j u hu
      rcases hx with rfl | ⟨b, o, e, _, hc⟩
      · simp [bytesV] at hu
      · cases e
        have hj : j < l.length := by
          rcases Nat.lt_or_ge j l.length with h' | h'
          · exact h'
          · rw [List.getElem?_eq_none (by simpa [bytesV] using h')] at hu; cases hu
        rw [Addr.add_lit, hc j hj]
        simpa [bytesV, hj, List.getD] using hu
    obtain ⟨v', w', h1, h2, h3, _⟩ := run_append_own_at (P := Tryz.prog) w base 27 ty 5 i (.int .u8 0) 1 1 Tryz.underlying27 hi hz hs hby rfl (by omega) out m.length (bytesV m) hown ad l.length c (bytesV l) (by simp [bytesV]) hcl (fun v hv => by
      obtain ⟨j, _, rfl⟩ := List.mem_map.1 hv; rfl) (by unfold maxLen; omega) (by omega) hb
    exact ⟨v', w', h1, by rw [hbv, List.length_append]; exact h2, h3⟩
/-- At a plain region's list. -/
theorem wpList_append_strIn {ops : Array Oper} {rest : List Oper} {o : Oper} {a : Act} {w : World} {Q : Exit → Act → World → Prop} (hgd : o.guard = none) (s x : Operand)
    (ho : o.op = .call { callee := .builtin .append, args := #[s, x], argTypes := #[27, 27] }) (base : Nat) (out v : Value) (m l : List Int) (hs : a.eval s = out) (hx : a.eval x = v)
    (hown : w.ownsRow base 5 1 out m.length (bytesV m)) (hv : StrIn w v l) (hl : m.length + l.length ≤ 100000000) (hb : base ≤ w.heap.size)
    (h : ∀ v' w', w'.ownsRow base 5 1 v' (m ++ l).length (bytesV (m ++ l)) → w.grownBy w' out.ownBlock → wpList Tryz.prog ops Q rest (a.put o.dst v') w') : wpList Tryz.prog ops Q (o :: rest) a w := by
  obtain ⟨v', w', hr, h2, h3⟩ := run_append_strIn w base o.type out v m l hown hv hl hb
  refine wpList_plain hgd fun _ hK => ?_
  unfold Oper.wp execOp
  simp only [ho, resolve, invoke, builtin, Sem.run_bind, Sem.run_pure, Result.andThen_ok, List.map_toArray, List.map_cons, List.map_nil, hs, hx, hr]
  exact hK _ _ (h v' w' h2 h3)
end Go.Proofs.YtjjnidbggoaonaaGreatDoor
