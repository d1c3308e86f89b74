/- A frame's number appended to a segment's list, in memory. -/
import Derived.Test.YtndnjimiabpkpaaSgP
import Derived.Maps.AppendAt
namespace Go.Proofs.Ytndnjimiabpkpaa
open Go.RowKit

theorem infoInt : (Try.prog.info? 3).map (fun i => (i.zero, i.size, i.bytes)) = some (some (.int .i64 0), 1, 8) := by kernel_rfl

theorem FrIn.of_own {w : World} {lo : Nat} {v : Value} {L : List Int} {x : Int} (h : w.ownsRow lo 3 1 v (L.length + 1) (L.map (Value.int .i64) ++ [.int .i64 x])) : FrIn w lo v (L ++ [x]) := by
  obtain ⟨g, cap, cur, rfl, h1, h2, h3, h4, h5, h6⟩ := h.2.resolve_left (by rintro ⟨_, h0⟩; omega)
  refine .inr ⟨g, cap, cur, by simp, h1, h2, by simpa using h3, h4, .inl (by omega), by omega, fun j hj => ?_⟩
  have hj' : j < L.length + 1 := by simpa using hj
  have : cur.toList[j]? = (L.map (Value.int .i64) ++ [Value.int .i64 x])[j]? := by
    rw [← h6, List.getElem?_take, if_pos (by omega)]
  rw [← Array.getElem?_toList, this]
  have e : L.map (Value.int .i64) ++ [Value.int .i64 x] = (L ++ [x]).map (Value.int .i64) := by simp
  rw [e, List.getElem?_map, List.getElem?_eq_getElem hj]
  simp only [Option.map_some, List.getD, List.getElem?_eq_getElem hj, Option.getD_some]

/-- Another number behind them. -/
theorem append_fr {w : World} {lo : Nat} {v : Value} {L : List Int} (x : Int) {nb nc : Nat} (ty : TypeId) (h : FrIn w lo v L) (hlo : lo ≤ w.heap.size) (hn : w.cell? ⟨nb, 0, none⟩ = some (.int .i64 x)) (h16 : L.length ≤ 16) :
    ∃ v' w', (Builtin.append_ #[22, 22] ty #[v, .slice (some ⟨nb, 0, none⟩) 1 nc]).run Try.prog w = .ok v' w' ∧ FrIn w' lo v' (L ++ [x]) ∧ Kept (fun k => v.ownBlock = some k) w w' ∧ ∀ g, v'.ownBlock = some g → v.ownBlock = some g ∨ w.heap.size ≤ g := by
  obtain ⟨i0, hi, hz0, hz1, hz2⟩ := info_parts infoInt
  have hnews : ∀ j u, [Value.int .i64 x][j]? = some u → w.cell? ((⟨nb, 0, none⟩ : Addr).add j) = some u := by
    intro j u h
    have hj : j = 0 := by
      rcases Nat.eq_zero_or_pos j with e | e
      · exact e
      · rw [List.getElem?_eq_none (by simp; omega)] at h; cases h
    subst hj
    rw [Addr.add_lit, hn]; simpa using h
  have hown : w.ownsRow lo 3 1 v L.length (L.map (Value.int .i64)) → ∃ v' w', (Builtin.append_ #[22, 22] ty #[v, .slice (some ⟨nb, 0, none⟩) 1 nc]).run Try.prog w = .ok v' w' ∧ FrIn w' lo v' (L ++ [x]) ∧ Kept (fun k => v.ownBlock = some k) w w' ∧ ∀ g, v'.ownBlock = some g → v.ownBlock = some g ∨ w.heap.size ≤ g := by
    intro ho
    obtain ⟨v', w', hr, ho', hg, _, hb⟩ := run_append_own_at (P := Try.prog) w lo 22 ty 3 i0 (.int .i64 0) 1 8 Try.underlying22 hi hz0 hz1 hz2 rfl (by decide) v L.length _ ho ⟨nb, 0, none⟩ 1 nc [.int .i64 x] rfl hnews (fun u hu => by simp at hu; subst hu; rfl) (by unfold maxLen; omega) (by omega) hlo
    refine ⟨v', w', hr, FrIn.of_own ho', ⟨hg.os, hg.tape, hg.output, hg.size, fun k hk hs => hg.block k hk (fun e => hs e.symm)⟩, fun g hg' => ?_⟩
    rcases hb with e | e
    · exact .inl (by rw [← e]; exact hg')
    · right; rw [e] at hg'; injection hg' with hg'; omega
  rcases h with ⟨rfl, rfl⟩ | ⟨g, cap, cur, rfl, h1, h2, h3, h4, h5, h6, h7⟩
  · exact hown (World.ownsRow_nil _ _ _ _)
  · by_cases hc : cap = cur.size
    · refine hown ⟨by simp, .inr ⟨g, cap, cur, rfl, h1, h2, h3, h4, by omega, ?_⟩⟩
      refine List.ext_getElem? fun j => ?_
      rw [List.getElem?_take, List.getElem?_map]
      by_cases hj : j < L.length
      · rw [if_pos (by omega), Array.getElem?_toList, h7 j hj]
        simp [List.getD, hj]
      · rw [if_neg (by omega)]; simp [Nat.le_of_not_lt hj]
    · have hcl : cap = L.length := h5.resolve_left hc
      have holds : ∀ j u, (L.map (Value.int .i64))[j]? = some u → w.cell? ((⟨g, 0, none⟩ : Addr).add j) = some u := by
        intro j u hu
        rw [List.getElem?_map] at hu
        by_cases hj : j < L.length
        · rw [Addr.add_lit, Nat.zero_add, Blk.cell (b := g) h2, h7 j hj]
          simp [hj] at hu
          rw [← hu]; simp [List.getD, hj]
        · simp [Nat.le_of_not_lt hj] at hu
      obtain ⟨v', w', hr, ho', hg⟩ := run_append_arg_grows (P := Try.prog) w 22 ty 3 i0 (.int .i64 0) 1 8 Try.underlying22 hi hz0 hz1 hz2 rfl (by decide) ⟨g, 0, none⟩ L.length cap (L.map (Value.int .i64)) (by simp) holds ⟨nb, 0, none⟩ 1 nc [.int .i64 x] rfl hnews (by omega) (by unfold maxLen; omega) (by omega)
      have hlow : w'.ownsRow lo 3 1 v' (L.length + 1) (L.map (Value.int .i64) ++ [.int .i64 x]) :=
        ⟨ho'.1, ho'.2.imp id fun ⟨g, cap, cur, h1, h2, h3⟩ => ⟨g, cap, cur, h1, Nat.le_trans hlo h2, h3⟩⟩
      exact ⟨v', w', hr, FrIn.of_own hlow, ⟨hg.os, hg.tape, hg.output, hg.size, fun k hk _ => hg.block k hk (by simp)⟩, fun k hk => .inr (ho'.lt k hk).1⟩

theorem FrIn.cut {w : World} {lo g cap n : Nat} {L : List Int} {f : Int} (h : FrIn w lo (.slice (some ⟨g, 0, none⟩) n cap) (L ++ [f])) : FrIn w lo (.slice (some ⟨g, 0, none⟩) L.length L.length) L := by
  rcases h with ⟨h, _⟩ | ⟨g', cap', cur, e, h1, h2, h3, h4, h5, h6, h7⟩
  · cases h
  · injection e with e1 e2 e3
    injection e1 with e1; injection e1 with e1 _ _
    subst e1
    have hl : (L ++ [f]).length = L.length + 1 := by simp
    refine .inr ⟨g, L.length, cur, rfl, h1, h2, Nat.le_refl _, by omega, .inr rfl, by omega, fun j hj => ?_⟩
    rw [h7 j (by omega)]
    simp [List.getD, List.getElem?_append_left hj]

theorem ex_append1 {P : Program} {a : Act} {w w' : World} {d : Option Tmp} {t : TypeId} {p : String} {e : Array Edge} {g : Option (Nat × Bool)} {T : TypeId} {x y : Operand} {u v r : Value} (hx : a.eval x = u) (hy : a.eval y = v) (hr : (Builtin.append_ #[T, T] t #[u, v]).run P w = .ok r w') :
    (execOp a.eval ⟨d, .call { callee := .builtin .append, args := #[x, y], argTypes := #[T, T] }, t, p, e, g⟩).run P w = .ok (.value r) w' := by
  simp only [execOp, resolve, invoke, builtin, Sem.run_bind, Sem.run_pure, Result.andThen_ok, List.map_toArray, List.map_cons, List.map_nil, hx, hy, hr]
end Go.Proofs.Ytndnjimiabpkpaa
