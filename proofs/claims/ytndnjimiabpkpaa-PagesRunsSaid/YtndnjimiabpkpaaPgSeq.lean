/- Each as a value that a range statement calls; ends of a function that holds such a statement; how many pages lead somewhere. -/
import Derived.Test.YtndnjimiabpkpaaPgEach
import Derived.Test.YtndnjimiabpkpaaPgAp
import Derived.RangeFuncFrom
import Derived.RangeFuncWrites
namespace Go.Proofs.Ytndnjimiabpkpaa
open Go.RowKit Go.Shelf
attribute [local irreducible] World.setCell World.alloc World.drew World.setRow Calls Code.wp row
attribute [local go_sem] Oper.semAt_some

set_option maxRecDepth 100000 in
set_option maxHeartbeats 2000000 in
theorem each_stops (pb db ob : Nat) (P : Pool) (r o : Int) (N F : Nat → Int) (Y : Nat → Bool) (hT : Tab P r o N F Y) (n B1 B2 n₀ : Nat) (w : World) (hP : PoolAt w pb db ob P) (hlow : pb < n₀ ∧ db < n₀ ∧ ob < n₀) (hn : n₀ ≤ w.heap.size)
    (h1 : w.cell? ⟨B1, 0, none⟩ = some (.pointer (some ⟨pb, 0, none⟩))) (h2 : w.cell? ⟨B2, 0, none⟩ = some (.int .i64 r)) (hB : B1 < w.heap.size ∧ B2 < w.heap.size) :
    SeqStopsK Fence.wide n Try.prog 60 #[.pointer (some ⟨B1, 0, none⟩), .pointer (some ⟨B2, 0, none⟩)] (fun x : Nat × Int => #[.int .i64 x.1, .int .i64 x.2]) (Below n₀) (fun ys => ys = pgs F 0 4096) (fun pre => pre <+: pgs F 0 4096) (pgs F 0 4096).length w := by
  intro l J Jx W hW hJ hJx hY h0
  have hroot : N (nodeOf 0 0) = r := hT.root
  have hdd : ∀ k : Nat, (Fence.wide.depth.isSome = true → 1 ≤ k) := fun k h => by cases h
  have hp := each_in pb db ob P r o N F Y hT l n₀ (pgs F 0 4096).length J Jx hlow (fun s A B hs hg => hJ s A B none hs hg (fun _ e => by cases e)) (fun m pre x W hj hl => YieldAt.wideDepth m (hY pre x W hj hl)) 3 0 0 rfl (by simp) (by rw [hroot]; exact hT.r0) (n - 1) [] W (hP.below hW) (Nat.le_trans hn hW.size) h0 (by simp)
  rw [hroot, show 0 * 8 ^ (4 - 0) = 0 from rfl, show 8 ^ (4 - 0) = 4096 from rfl, List.nil_append, show ((0 : Nat) : Int) = 0 from rfl] at hp
  have c1 : W.cell? ⟨B1, 0, none⟩ = some (.pointer (some ⟨pb, 0, none⟩)) := (hW.cell (p := ⟨B1, 0, none⟩) hB.1).trans h1
  have c2 : W.cell? ⟨B2, 0, none⟩ = some (.int .i64 r) := (hW.cell (p := ⟨B2, 0, none⟩) hB.2).trans h2
  have Hp := Lib.hid hp
  clear hp h1 h2 hP hT hJ hJx hY h0 hroot
  refine callsIn_of_wp Try.func60 rfl trivial ?_ rfl
  simp only [Try.ntmps60, List.size_toArray, List.length_cons, List.length_nil, Nat.reduceAdd, Nat.reduceSub, Array.replicate_succ, Array.replicate_zero, List.push_toArray, List.append_toArray, List.nil_append, List.cons_append]
  gi_wp2_with (refine ⟨trivial, hdd _, ?_⟩; gi_at_call 61; refine Hp.out.mono ?_; rintro e W1 (⟨rfl, hJ1, _⟩ | ⟨rfl, q, hq, hx⟩))
  · go_end0
    exact ⟨⟨_, rfl⟩, .inl ⟨_, rfl, hJ1⟩⟩
  · go_end0
    exact ⟨⟨_, rfl⟩, .inr ⟨q, hq, by simpa using hx⟩⟩

theorem each_made (pb : Nat) (r : Int) (w : World) :
    Calls Try.prog 41 #[.pointer (some ⟨pb, 0, none⟩), .int .i64 r] w fun e w' =>
      e = .returned (.func (.func 60) #[] #[.pointer (some ⟨w.heap.size, 0, none⟩), .pointer (some ⟨w.heap.size + 1, 0, none⟩)]) ∧ w' = (w.alloc (.cells #[.pointer (some ⟨pb, 0, none⟩)] 24)).alloc (.cells #[.int .i64 r] 3) := by
  go_enter Try.func41, Try.ntmps41
  go_wp2_with fail
  go_ret
  exact ⟨rfl, rfl⟩

section
variable {P : Program} {fn : Func} {R : Ending → World → Prop} {n : Nat} {tmps : Array Value} {v : Value} {w : World}
/-- A function that holds a range over a function, opened. -/
theorem calls_of_wp_marks {f : FuncId} {c : Code} {args : Array Value} (hf : P.funcs[f]? = some fn) (hb : fn.body = some c)
    (h : c.wp P (bodyPostM Fence.wide 5 P fn R) { tmps := args ++ Array.replicate (fn.ntmps - args.size) undef, defers := [] } w) : Calls P f args w R :=
  (callsIn_wide (n := 5)).1 (callsIn_of_wp_marks hf hb trivial (wpIn_wide.2 h) rfl)
/-- .. its end, no such statement having been met. -/
theorem marks_ret0 (h : (results fn tmps).run P w = .ok v w) (hR : R (.returned v) w) : bodyPostM Fence.wide n P fn R .ret ⟨tmps, []⟩ w :=
  ⟨v, h, hR⟩
theorem marks_ret1 {D : Nat} (hK : w.heap[D]? = some (.deferred (some []))) (h : ∀ w, (results fn tmps).run P w = .ok v w) (hR : R (.returned v) (w.putObj D (.deferred none))) :
    bodyPostM Fence.wide n P fn R .ret ⟨tmps, [{ target := .collected D, args := #[] }]⟩ w :=
  ⟨by simp, .inl ⟨D, _, rfl, run_takeDeferred hK, v, h _, hR⟩⟩
end

theorem pgs_mem (F : Nat → Int) (a : Nat) : ∀ (n : Nat) (q : Nat × Int), q ∈ pgs F a n ↔ ∃ j, j < n ∧ q = (a + j, F (a + j)) ∧ F (a + j) ≠ 0
  | 0, q => by simp [pgs]
  | n + 1, q => by
    unfold pgs
    rw [List.mem_append, pgs_mem F a n q]
    constructor
    · rintro (⟨j, h1, h2, h3⟩ | h)
      · exact ⟨j, by omega, h2, h3⟩
      · by_cases c : F (a + n) = 0
        · rw [if_pos c] at h; simp at h
        · rw [if_neg c] at h; simp at h; exact ⟨n, by omega, h, c⟩
    · rintro ⟨j, h1, h2, h3⟩
      by_cases e : j = n
      · subst e; right; rw [if_neg h3]; simp [h2]
      · exact .inl ⟨j, by omega, h2, h3⟩
theorem pgs_nodup (F : Nat → Int) (a : Nat) : ∀ n : Nat, ((pgs F a n).map (fun q => (q.1 : Int))).Nodup
  | 0 => by simp [pgs]
  | n + 1 => by
    unfold pgs
    rw [List.map_append, List.nodup_append]
    refine ⟨pgs_nodup F a n, ?_, ?_⟩
    · split <;> simp
    · intro x hx y hy
      obtain ⟨q, hq, rfl⟩ := List.mem_map.1 hx
      obtain ⟨j, h1, rfl, _⟩ := (pgs_mem F a n q).1 hq
      by_cases c : F (a + n) = 0
      · rw [if_pos c] at hy; simp at hy
      · rw [if_neg c] at hy; simp at hy; subst hy; simp; omega
theorem pgs_len (F : Nat → Int) (a : Nat) : ∀ n : Nat, (pgs F a n).length ≤ n
  | 0 => by simp [pgs]
  | n + 1 => by
    have := pgs_len F a n
    unfold pgs
    rw [List.length_append]
    split <;> simp <;> omega
/-- A map that has just the pages that lead somewhere has as many. -/
theorem count_like {F : Nat → Int} {es : List (Int × Value)} (hn : (es.map (·.1)).Nodup) (h1 : ∀ q ∈ es, ∃ p : Nat, p < 4096 ∧ q.1 = (p : Int) ∧ F p ≠ 0) (h2 : ∀ p : Nat, p < 4096 → F p ≠ 0 → ∃ q ∈ es, q.1 = (p : Int)) : es.length = (pgs F 0 4096).length := by
  have hp : (es.map (·.1)).Perm ((pgs F 0 4096).map (fun q => (q.1 : Int))) := by
    refine (List.perm_ext_iff_of_nodup hn (pgs_nodup F 0 4096)).2 fun a => ?_
    constructor
    · intro ha
      obtain ⟨q, hq, rfl⟩ := List.mem_map.1 ha
      obtain ⟨p, hp, e, hF⟩ := h1 q hq
      exact List.mem_map.2 ⟨(p, F p), (pgs_mem F 0 4096 _).2 ⟨p, hp, by simp, by simpa using hF⟩, e.symm⟩
    · intro ha
      obtain ⟨q, hq, rfl⟩ := List.mem_map.1 ha
      obtain ⟨j, hj, rfl, hF⟩ := (pgs_mem F 0 4096 q).1 hq
      obtain ⟨q', hq', e⟩ := h2 j hj (by simpa using hF)
      exact List.mem_map.2 ⟨q', hq', by simpa using e⟩
  have := hp.length_eq
  simpa using this
end Go.Proofs.Ytndnjimiabpkpaa
