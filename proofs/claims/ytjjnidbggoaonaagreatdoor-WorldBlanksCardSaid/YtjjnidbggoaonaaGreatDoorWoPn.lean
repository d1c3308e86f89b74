/- What is read keeps to its bounds. -/
import Derived.Test.YtjjnidbggoaonaaGreatDoorWoPm
import Derived.Test.YtjjnidbggoaonaaGreatDoorWoPo
namespace Go.Proofs.YtjjnidbggoaonaaGreatDoor
open Go.RowKit
attribute [local irreducible] World.setCell World.alloc World.drew World.setRow Calls Code.wp

theorem i31 {x : Int} (h : N31 x) : I64 x := by obtain ⟨a, b⟩ := h; exact ⟨by omega, by omega⟩
theorem i0 : I64 0 := ⟨by omega, by omega⟩
theorem lab_bd {l : Lab} (h : l.right = true) : l.d ≤ 1000 ∧ l.ps.length ≤ 1000 ∧ ∀ q ∈ l.ps, q.1 < 4294967296 ∧ q.2 ≤ 1000 := by
  obtain ⟨⟨_, d4⟩, hn, hp⟩ := Lab.right_spec h
  exact ⟨by omega, by omega, fun q hq => by have := hp q hq; omega⟩
theorem lab0_bd : lab0.d ≤ 1000 ∧ lab0.ps.length ≤ 1000 ∧ ∀ q ∈ lab0.ps, q.1 < 4294967296 ∧ q.2 ≤ 1000 := ⟨by decide, by decide, fun q hq => by cases hq⟩
/-- What an object's kind doesn't use is nothing. -/
theorem WObj.ok.parts {o : WObj} (h : o.ok) : (I64 o.pages ∧ I64 o.names ∧ I64 o.space ∧ I64 o.pc) ∧ (o.kind = 3 ∨ o.kind = 5 ∨ o.clr = lab0) ∧ (o.kind = 4 ∨ o.maps = []) ∧ (o.kind = 2 ∨ o.data = []) := by
  have hn := h.norm
  unfold WObj.norm at hn
  by_cases c1 : o.kind = 1
  · obtain ⟨a1, a2⟩ := h.k1 c1
    rw [if_pos c1] at hn
    have e1 := congrArg WObj.space hn; have e2 := congrArg WObj.pc hn; have e3 := congrArg WObj.clr hn; have e4 := congrArg WObj.maps hn; have e5 := congrArg WObj.data hn
    simp only at e1 e2 e3 e4 e5
    exact ⟨⟨i31 a1, i31 a2, by rw [← e1]; exact i0, by rw [← e2]; exact i0⟩, .inr (.inr e3.symm), .inr e4.symm, .inr e5.symm⟩
  rw [if_neg c1] at hn
  by_cases c2 : o.kind = 2
  · have a1 := h.k2 c2
    rw [if_pos c2] at hn
    have e0 := congrArg WObj.names hn; have e1 := congrArg WObj.space hn; have e2 := congrArg WObj.pc hn; have e3 := congrArg WObj.clr hn; have e4 := congrArg WObj.maps hn
    simp only at e0 e1 e2 e3 e4
    exact ⟨⟨i31 a1, by rw [← e0]; exact i0, by rw [← e1]; exact i0, by rw [← e2]; exact i0⟩, .inr (.inr e3.symm), .inr e4.symm, .inl c2⟩
  rw [if_neg c2] at hn
  by_cases c4 : o.kind = 4
  · rw [if_pos c4] at hn
    have e0 := congrArg WObj.names hn; have e1 := congrArg WObj.space hn; have e2 := congrArg WObj.pc hn; have e3 := congrArg WObj.clr hn; have e4 := congrArg WObj.pages hn; have e5 := congrArg WObj.data hn
    simp only at e0 e1 e2 e3 e4 e5
    exact ⟨⟨by rw [← e4]; exact i0, by rw [← e0]; exact i0, by rw [← e1]; exact i0, by rw [← e2]; exact i0⟩, .inr (.inr e3.symm), .inl c4, .inr e5.symm⟩
  rw [if_neg c4] at hn
  by_cases c35 : o.kind = 3 ∨ o.kind = 5
  · obtain ⟨_, a1, a2⟩ := h.k35 c35
    rw [if_pos c35] at hn
    have e0 := congrArg WObj.names hn; have e4 := congrArg WObj.pages hn; have e5 := congrArg WObj.data hn; have e6 := congrArg WObj.maps hn
    simp only at e0 e4 e5 e6
    exact ⟨⟨by rw [← e4]; exact i0, by rw [← e0]; exact i0, i31 a1, i31 a2⟩, by rcases c35 with h | h; exact .inl h; exact .inr (.inl h), .inr e6.symm, .inr e5.symm⟩
  · rw [if_neg c35] at hn
    have e0 := congrArg WObj.names hn; have e1 := congrArg WObj.space hn; have e2 := congrArg WObj.pc hn; have e3 := congrArg WObj.clr hn; have e4 := congrArg WObj.pages hn; have e5 := congrArg WObj.data hn; have e6 := congrArg WObj.maps hn
    simp only at e0 e1 e2 e3 e4 e5 e6
    exact ⟨⟨by rw [← e4]; exact i0, by rw [← e0]; exact i0, by rw [← e1]; exact i0, by rw [← e2]; exact i0⟩, .inr (.inr e3.symm), .inr e6.symm, .inr e5.symm⟩
theorem map_bd {m : WMap} (h : m.ok) : m.bd := by
  obtain ⟨⟨a0, a1⟩, ⟨s0, s1⟩, ⟨f0, f1⟩, ⟨n0, n1⟩⟩ := h
  exact ⟨⟨by omega, by omega⟩, ⟨by omega, by omega⟩, ⟨by omega, by omega⟩, ⟨by omega, by omega⟩⟩
theorem ok_bd {o : WObj} (h : o.ok) (hd : o.data.length ≤ 100000) (hm : o.maps.length ≤ 100000) : o.bd := by
  obtain ⟨⟨a1, a2, a3, a4⟩, b, c, d⟩ := h.parts
  obtain ⟨k1, k6⟩ := h.kind
  refine ⟨⟨by omega, by omega⟩, i31 h.par, a1, a2, a3, a4, fun m hm => ?_, lab_bd h.lab, ?_, ⟨hd, hm⟩⟩
  · rcases c with c | c
    · exact map_bd (h.k4 c m hm)
    · rw [c] at hm; cases hm
  · rcases b with b | b | b
    · exact lab_bd (h.k35 (.inl b)).1
    · exact lab_bd (h.k35 (.inr b)).1
    · rw [b]; exact lab0_bd
theorem flat_mem {α : Type} (f : α → List UInt8) : ∀ {l : List α} {x : α}, x ∈ l → (f x).length ≤ (l.flatMap f).length
  | y :: l, x, h => by
    rw [List.flatMap_cons, List.length_append]
    rcases List.mem_cons.1 h with rfl | h
    · omega
    · have := flat_mem f h; omega
theorem flat_count {α : Type} (f : α → List UInt8) (hf : ∀ x, 1 ≤ (f x).length) : ∀ l : List α, l.length ≤ (l.flatMap f).length
  | [] => Nat.zero_le _
  | y :: l => by
    rw [List.flatMap_cons, List.length_append, List.length_cons]
    have := hf y; have := flat_count f hf l; omega
theorem hex_big (d : List UInt8) : d.length ≤ (hexT d).length := by
  unfold hexT
  rw [List.length_cons]
  split
  · rename_i h; rw [h]; simp
  · have : (d.flatMap hex2).length = d.length * 2 := by
      have : ∀ l : List UInt8, (l.flatMap hex2).length = l.length * 2 := fun l => by
        induction l with
        | nil => rfl
        | cons c r ih => rw [List.flatMap_cons, List.length_append, ih, List.length_cons]; show 2 + _ = _; omega
      exact this d
    omega
theorem obj_big {o : WObj} (h : o.ok) : o.data.length ≤ (objT o).length ∧ o.maps.length ≤ (objT o).length := by
  obtain ⟨_, _, c, d⟩ := h.parts
  have hT : (partT o).length ≤ (objT o).length := by unfold objT; simp only [List.length_append]; omega
  constructor
  · rcases d with d | d
    · have := hex_big o.data
      unfold partT at hT
      rw [if_neg (by rw [d]; decide), if_pos d, List.length_append] at hT
      omega
    · rw [d]; exact Nat.zero_le _
  · rcases c with c | c
    · have := flat_count mapT (fun m => by unfold mapT; simp) o.maps
      unfold partT at hT
      rw [if_neg (by rw [c]; decide), if_neg (by rw [c]; decide), if_pos c] at hT
      omega
    · rw [c]; exact Nat.zero_le _
theorem objT_le {c : WCfg} {o : WObj} (h : o ∈ c.objs) : (objT o).length + 1 ≤ (printT c).length := by
  unfold printT
  have h1 : objT o ∈ linesT c := by
    unfold linesT
    exact List.mem_cons_of_mem _ (List.mem_append_right _ (List.mem_map_of_mem h))
  have := flat_mem (fun l => l ++ [10]) h1
  simp only [List.length_append, List.length_singleton] at this
  exact this
theorem line_count (c : WCfg) : c.slots.length + c.objs.length + 1 ≤ (printT c).length := by
  unfold printT
  have := flat_count (fun l : List UInt8 => l ++ [10]) (fun l => by simp) (linesT c)
  have e : (linesT c).length = c.slots.length + c.objs.length + 1 := by unfold linesT; simp
  omega
theorem cfg_bd {c : WCfg} (h : c.ok) (hs : (printT c).length ≤ 100000) : c.bd := by
  have hl := line_count c
  refine ⟨⟨i31 h.co, i31 h.fr, i31 h.nm⟩, fun s hm => ?_, fun o ho => ?_, ⟨by omega, by omega⟩⟩
  · obtain ⟨⟨a, b⟩, c⟩ := h.sl s hm
    exact ⟨⟨by omega, by omega⟩, i31 c⟩
  · have h1 := objT_le ho
    have h2 := obj_big (h.ob o ho)
    exact ok_bd (h.ob o ho) (by omega) (by omega)
theorem ok_pr {c : WCfg} {o : WObj} (h : c.ok) (hs : (printT c).length ≤ 100000) (hr : c.right = true) (ho : o ∈ c.objs) : o.pr := by
  have h1 := objT_le ho
  have h2 := obj_big (h.ob o ho)
  unfold WCfg.right at hr
  simp only [Bool.and_eq_true, decide_eq_true_eq] at hr
  obtain ⟨j, hj⟩ := objsR_at hr.2.2.2 o ho
  exact ⟨(h.ob o ho).lab, fun hk => ((h.ob o ho).k35 hk).1, fun hk => ⟨objsR_maps hj hk, (h.ob o ho).k4 hk⟩, by omega⟩
/-! ### Five cells of a block -/
def set5 (w : World) (b : Nat) (c0 c1 c2 c3 c4 : Value) : World := ((((w.setCell ⟨b, 0, none⟩ c0).setCell ⟨b, 1, none⟩ c1).setCell ⟨b, 2, none⟩ c2).setCell ⟨b, 3, none⟩ c3).setCell ⟨b, 4, none⟩ c4
theorem set5_blk {w : World} {b ty : Nat} {x0 x1 x2 x3 x4 : Value} (h : Blk w b #[x0, x1, x2, x3, x4] ty) (c0 c1 c2 c3 c4 : Value) : Blk (set5 w b c0 c1 c2 c3 c4) b #[c0, c1, c2, c3, c4] ty :=
  (((((h.set 0 c0).set 1 c1).set 2 c2).set 3 c3).set 4 c4).cells (by simp only [List.setIfInBounds_toArray, List.set_cons_zero, List.set_cons_succ])
theorem set5_kept (w : World) (b : Nat) (c0 c1 c2 c3 c4 : Value) : Kept (· = b) w (set5 w b c0 c1 c2 c3 c4) :=
  (((((Kept.refl (· = b) w).setIn b 0 c0 rfl).setIn b 1 c1 rfl).setIn b 2 c2 rfl).setIn b 3 c3 rfl).setIn b 4 c4 rfl
theorem load_cfg (w : World) (b : Nat) (cs : Array Value) (hs : cs.size = 5) (h : Blk w b cs 57) : (loadVar 57 ⟨b, 0, none⟩).run Tryz.prog w = .ok (.agg cs) w :=
  run_loadVar_row w b 57 57 cs (0, 0) _ h Tryz.underlying57 rfl (by rw [hs]; kernel_rfl)
theorem linesOf_len (text : List UInt8) : (linesOf text).length ≤ text.length + 1 ∧ ∀ l ∈ linesOf text, l.length ≤ text.length := by
  rw [linesOf_eq]
  refine ⟨Nat.le_trans (List.length_filter_le _ _) (by rw [List.length_map]; exact partsAt_len 10 text), fun l hl => ?_⟩
  obtain ⟨q, hq, rfl⟩ := List.mem_map.1 (List.mem_filter.1 hl).1
  exact Nat.le_trans (trimS_le q) (partsAt_each 10 text q hq)
end Go.Proofs.YtjjnidbggoaonaaGreatDoor
