/- The printer: a strings.Builder that lies in a struct of its own. -/
import Derived.Test.YtjjnidbggoaonaaGreatDoorZaC
import Derived.Test.YtjjnidbggoaonaaGreatDoorZaB
import Derived.Shelf.Strings.BuilderK
namespace Go.Proofs.YtjjnidbggoaonaaGreatDoor
open Go.RowKit
theorem drew_heapE (w : World) (k : Nat) : w.drew.heap[k]? = w.heap[k]? := rfl
theorem drew_cellE (w : World) (a : Addr) : w.drew.cell? a = w.cell? a := rfl
attribute [local irreducible] World.setCell World.alloc World.drew Calls Code.wp
attribute [local go_sem] Oper.semAt_some

/-- A printer of the call's own that holds l. -/
def PB (B b : Nat) (l : List UInt8) (w : World) : Prop := Lib.IsBuilderF 113 5 B b (Lib.byteCells l) w
theorem pb_new {w : World} {b : Nat} (h : Blk w b #[.pointer none, .slice none 0 0] 113) : PB b b [] w :=
  .inl ⟨Nat.le_refl _, .slice none 0 0, h, World.ownsRowF_of (World.ownsRow_nil _ _ _ _), by simp [Value.ownBlock]⟩
theorem PB.below {B b : Nat} {l : List UInt8} {w w' : World} (h : PB B b l w) (hb : Below w.heap.size w w') : PB B b l w' := by
  have key : ∀ p, Lib.BuilderAtF 113 5 B b p (Lib.byteCells l) w → Lib.BuilderAtF 113 5 B b p (Lib.byteCells l) w' := by
    rintro p ⟨h1, v, h2, h3, h4⟩
    refine ⟨h1, v, by rw [hb.block b (Array.getElem?_eq_some_iff.1 h2).1]; exact h2, ⟨h3.1, ?_⟩, h4⟩
    rcases h3.2 with h | ⟨g, cap, cur, fz, e, hg, hh, r⟩
    · exact .inl h
    · exact .inr ⟨g, cap, cur, fz, e, hg, by rw [hb.block g (Array.getElem?_eq_some_iff.1 hh).1]; exact hh, r⟩
  exact h.elim (fun h => .inl (key _ h)) (fun h => .inr (key _ h))
theorem PB.ge {B b : Nat} {l : List UInt8} {w : World} (h : PB B b l w) : B ≤ b ∧ b < w.heap.size := h.elim (fun h => ⟨h.1, h.lt⟩) (fun h => ⟨h.1, h.lt⟩)
/-- What a printer's writing leaves as it is. -/
structure PK (B b : Nat) (w w' : World) : Prop where
  bel : Below B w w'
  oth : Lib.OthersKept 5 (some b) w w'
theorem PK.refl (B b : Nat) (w : World) : PK B b w w := ⟨Below.refl _ _, Lib.OthersKept.refl _ _ _⟩
theorem PK.trans {B b : Nat} {w w1 w2 : World} (h : PK B b w w1) (k : PK B b w1 w2) : PK B b w w2 := ⟨h.bel.trans k.bel, h.oth.trans k.oth⟩
theorem PK.of {B b : Nat} {w w' : World} (h : Below w.heap.size w w') (hB : B ≤ w.heap.size) : PK B b w w' :=
  ⟨h.mono hB, fun k o hk _ _ => by rw [h.block k (Array.getElem?_eq_some_iff.1 hk).1]; exact hk⟩
theorem PK.blk {B b : Nat} {w w' : World} (h : PK B b w w') {k ty : Nat} {cs : Array Value} (hb : Blk w k cs ty) (hk : k ≠ b) (ht : ty ≠ 5) : Blk w' k cs ty :=
  h.oth k _ hb (fun e => hk (by cases e; rfl)) (fun c fz e => ht (by cases e; rfl))
theorem PK.size {B b : Nat} {w w' : World} (h : PK B b w w') : w.heap.size ≤ w'.heap.size := h.bel.size
theorem PK.alloc {B b : Nat} {w w' : World} (h : PK B b w w') (hB : B ≤ w.heap.size) (o : Obj) : PK B b w (w'.alloc o) := ⟨h.bel.alloc (by have := h.bel.size; omega) _, h.oth.alloc _⟩
theorem PK.drew {B b : Nat} {w w' : World} (h : PK B b w w') : PK B b w w'.drew := ⟨h.bel.drew, h.oth.drew⟩
theorem PK.setNew {B b : Nat} {w w' : World} (h : PK B b w w') (k i : Nat) (v : Value) (hk : w.heap.size ≤ k) (hB : B ≤ w.heap.size) : PK B b w (w'.setCell ⟨k, i, none⟩ v) :=
  ⟨h.bel.setCell (p := ⟨k, i, none⟩) (Nat.le_trans hB hk) _, fun j o hj h1 h2 => by
    have hlt := (Array.getElem?_eq_some_iff.1 hj).1
    rw [Below.heap_setCell _ _ _ _ (by show j ≠ k; omega)]
    exact h.oth j o hj h1 h2⟩
set_option maxRecDepth 100000 in
set_option maxHeartbeats 2000000 in
theorem pcheck_any (B b : Nat) (bs : List Value) (w : World) (h : Lib.IsBuilderF 113 5 B b bs w) :
    Calls Tryz.prog 74 #[.pointer (some ⟨b, 0, none⟩)] w fun e w' => e = .returned (.tuple #[]) ∧ Lib.BuilderAtF 113 5 B b (.pointer (some ⟨b, 0, none⟩)) bs w' ∧ PK B b w w' := by
  rcases h with h | h
  · have h0 := h.cell0
    have hf := h.frozen0
    have hsh := h.shape
    have HU := Lib.hid (h.used (.pointer (some ⟨b, 0, none⟩)))
    have HB : Hid (PK B b w (w.setCell ⟨b, 0, none⟩ (.pointer (some ⟨b, 0, none⟩)))) := ⟨(Below.refl B w).setCell (p := ⟨b, 0, none⟩) h.1 _, (Lib.OthersKept.refl _ _ w).setCell ⟨b, 0, none⟩ rfl _⟩
    obtain ⟨j, hj, hjs⟩ := Option.map_eq_some_iff.1 (show (Tryz.prog.info? 90).map (·.size) = some 2 by kernel_rfl)
    have c1 : (convert 88 189 (.pointer (some ⟨b, 0, none⟩))).run Tryz.prog w = .ok (.pointer (some ⟨b, 0, none⟩)) w :=
      Lib.run_to_unsafe w ⟨b, 0, none⟩ Tryz.underlying88 Tryz.underlying189 hj (by rw [hjs]; decide) hsh (Nat.zero_lt_succ 1)
    have c2 : (convert 189 88 (.pointer (some ⟨b, 0, none⟩))).run Tryz.prog w = .ok (.pointer (some ⟨b, 0, none⟩)) w :=
      Lib.run_from_unsafe w ⟨b, 0, none⟩ Tryz.underlying189 Tryz.underlying88 hj hsh (by kernel_rfl)
    have c3 : ∀ v w, (callFunc 116 #[v]).run Tryz.prog w = .ok (.value v) w := fun v w => by
      rw [run_callFunc_extern Tryz.func116 (by kernel_rfl) (by kernel_rfl) (by kernel_rfl) (e := Extern.AbiNoEscape.same) (by kernel_rfl), Lib.run_noEscape]
      rfl
    clear h hsh hj hjs
    go_enter Tryz.func74, Tryz.ntmps74
    go_wp2_with fail
    first | (refine bodyPost_end (results_none rfl _ _ _) rfl ?_) | (refine bodyPost_ret (results_none rfl _ _ _) rfl ?_)
    exact ⟨rfl, HU.out, HB.out⟩
  · have h0 := h.cell0
    have H := Lib.hid h
    obtain ⟨j, hj, hjs⟩ := Option.map_eq_some_iff.1 (show (Tryz.prog.info? 90).map (·.size) = some 2 by kernel_rfl)
    have hn := fun w => Lib.run_neq_ptr_same (P := Tryz.prog) w ⟨b, 0, none⟩ Tryz.underlying88 hj
    clear h hjs
    go_enter Tryz.func74, Tryz.ntmps74
    go_wp2_with fail
    first | (refine bodyPost_end (results_none rfl _ _ _) rfl ?_) | (refine bodyPost_ret (results_none rfl _ _ _) rfl ?_)
    exact ⟨rfl, H.out, PK.refl _ _ _⟩
theorem info_u8 : (Tryz.prog.info? 5).map (fun i => (i.zero, i.size, i.bytes)) = some (some (.int .u8 0), 1, 1) := by kernel_rfl
set_option maxRecDepth 100000 in
set_option maxHeartbeats 2000000 in
theorem pwrite_any (B b : Nat) (l m : List UInt8) (w : World) (h : PB B b l w) (hl : l.length + m.length ≤ 1000000) (hB : B ≤ w.heap.size) :
    Calls Tryz.prog 42 #[.pointer (some ⟨b, 0, none⟩), S m] w fun e w' => e = .returned (.tuple #[.int .i64 m.length, .nilIface]) ∧ PB B b (l ++ m) w' ∧ PK B b w w' := by
  have hs : (⟨m.toArray⟩ : ByteArray).size = m.length := by show m.toArray.size = _; simp
  obtain ⟨i0, hi, hz0, hz1, hz2⟩ := info_parts info_u8
  have Hi := Lib.hid hi; have Hz0 := Lib.hid hz0; have Hz1 := Lib.hid hz1; have Hz2 := Lib.hid hz2
  have Hc := Lib.hid (pcheck_any B b (Lib.byteCells l) w h)
  clear h hi hz0 hz1 hz2
  go_enter Tryz.func42, Tryz.ntmps42
  go_wp2_with fail
  refine Hc.out.mono ?_
  rintro e w1 ⟨rfl, h1, hb1⟩
  obtain ⟨hBb, v, hbk, hown, hne⟩ := h1
  have c1 : w1.cell? ⟨b, 1, none⟩ = some v := by rw [Lib.cell_of_heap hbk]; rfl
  have hlt : b < w1.heap.size := (Array.getElem?_eq_some_iff.1 hbk).1
  have Hbk := Lib.hid hbk; have Hne := Lib.hid hne; have Hown := Lib.hid hown; have Hb1 := Lib.hid hb1; have HBb := Lib.hid hBb
  clear hbk hne hown hb1 hBb
  go_wp2_with (at_builtin; refine Lib.wpList_append_own_stringF _ rfl _ _ 27 9 rfl B 5 i0 Tryz.underlying27 Tryz.underlying9 Hi.out Hz0.out Hz1.out Hz2.out _ _ _ rfl Hown.out ⟨m.toArray⟩ rfl (by rw [Lib.byteCells_length, hs]; unfold maxLen; omega) (by rw [Lib.byteCells_length, hs]; omega) (by have := Hb1.out.bel.size; omega) ?_)
  intro v' w2 hown' hgrow _
  have hb2 : w2.heap[b]? = some (.cells #[.pointer (some ⟨b, 0, none⟩), v] 113 (0, 0)) := by
    rw [hgrow.block b hlt (fun e => Hne.out e.symm)]; exact Hbk.out
  have d0 : w2.cell? ⟨b, 0, none⟩ = some (.pointer (some ⟨b, 0, none⟩)) := by rw [Lib.cell_of_heap hb2]; rfl
  have d1 : w2.cell? ⟨b, 1, none⟩ = some v := by rw [Lib.cell_of_heap hb2]; rfl
  have f1 : w2.frozen? ⟨b, 1, none⟩ = false := Lib.frozen_of_heap hb2 1
  obtain ⟨ao, n', cap, rfl⟩ : ∃ ao n' cap, v' = .slice ao n' cap := by
    rcases hown'.2 with ⟨hv, _⟩ | ⟨g, cap, cur, fz, hv, _⟩
    · exact ⟨_, _, _, hv⟩
    · exact ⟨_, _, _, hv⟩
  have e1 : Lib.byteCells l ++ Lib.strCells ⟨m.toArray⟩ = Lib.byteCells (l ++ m) := by simp [Lib.byteCells, Lib.strCells]
  have hP : PB B b (l ++ m) (w2.setCell ⟨b, 1, none⟩ (.slice ao n' cap)) := by
    refine .inr (Lib.BuilderAtF.put HBb.out hb2 ?_ (by decide))
    have e3 : (Lib.byteCells l).length + (⟨m.toArray⟩ : ByteArray).size = (Lib.byteCells (l ++ m)).length := by rw [Lib.byteCells_length, Lib.byteCells_length, hs, List.length_append]
    rw [← e3, ← e1]
    exact hown'
  have HP := Lib.hid hP
  have HB : Hid (PK B b w (w2.setCell ⟨b, 1, none⟩ (.slice ao n' cap))) := ⟨(Hb1.out.bel.grown hgrow (by have := Hb1.out.bel.size; omega) (fun k hk => (Hown.out.lt k hk).1)).setCell (p := ⟨b, 1, none⟩) HBb.out _, (Hb1.out.oth.grown hgrow (Lib.ownsRowF_kind Hown.out)).setCell ⟨b, 1, none⟩ rfl _⟩
  clear hP hown' hgrow hb2
  go_wp2_with fail
  go_ret2
  exact ⟨rfl, HP.out, HB.out⟩
set_option maxRecDepth 100000 in
set_option maxHeartbeats 2000000 in
theorem pbyte_any (B b : Nat) (l : List UInt8) (c : UInt8) (w : World) (h : PB B b l w) (hl : l.length ≤ 1000000) (hB : B ≤ w.heap.size) :
    Calls Tryz.prog 43 #[.pointer (some ⟨b, 0, none⟩), .int .u8 (c.toNat : Int)] w fun e w' => e = .returned .nilIface ∧ PB B b (l ++ [c]) w' ∧ PK B b w w' := by
  obtain ⟨i0, hi, hz0, hz1, hz2⟩ := info_parts info_u8
  have Hi := Lib.hid hi; have Hz0 := Lib.hid hz0; have Hz1 := Lib.hid hz1; have Hz2 := Lib.hid hz2
  have Hc := Lib.hid (pcheck_any B b (Lib.byteCells l) w h)
  clear h hi hz0 hz1 hz2
  go_enter Tryz.func43, Tryz.ntmps43
  go_wp2_with fail
  refine Hc.out.mono ?_
  rintro e w1 ⟨rfl, h1, hb1⟩
  obtain ⟨hBb, v, hbk, hown, hne⟩ := h1
  have c1 : w1.cell? ⟨b, 1, none⟩ = some v := by rw [Lib.cell_of_heap hbk]; rfl
  have hlt : b < w1.heap.size := (Array.getElem?_eq_some_iff.1 hbk).1
  have Hbk := Lib.hid hbk; have Hne := Lib.hid hne; have Hown := Lib.hid hown; have Hb1 := Lib.hid hb1; have HBb := Lib.hid hBb
  clear hbk hne hown hb1 hBb
  have hnews : ∀ (j : Nat) (u : Value), [Value.int .u8 (c.toNat : Int)][j]? = some u → (w1.alloc (.cells #[.int .u8 (c.toNat : Int)] 5)).cell? ((⟨w1.heap.size, 0, none⟩ : Addr).add j) = some u := by
    intro j u h
    have hj : j = 0 := by
      rcases Nat.eq_zero_or_pos j with e | e
      · exact e
      · rw [List.getElem?_eq_none (by simp; omega)] at h; cases h
    subst hj
    rw [Addr.add_lit, (Blk.new w1 #[.int .u8 (c.toNat : Int)] 5).cell]
    simpa using h
  have Hnews := Lib.hid hnews
  clear hnews
  go_wp2_with (at_builtin; refine wpList_append_ownF _ rfl _ _ 27 rfl B 5 i0 (.int .u8 0) 1 1 Tryz.underlying27 Hi.out Hz0.out Hz1.out Hz2.out rfl (by decide) _ _ _ rfl (Hown.out.alloc _) ⟨w1.heap.size, 0, none⟩ 1 1 [.int .u8 (c.toNat : Int)] rfl rfl Hnews.out (fun u hu => by simp at hu; subst hu; rfl) (by rw [Lib.byteCells_length]; unfold maxLen; omega) (by rw [Lib.byteCells_length]; omega) (by have := Hb1.out.bel.size; rw [World.size_alloc]; omega) ?_)
  intro v' w2 hown' hgrow _
  have hb2 : w2.heap[b]? = some (.cells #[.pointer (some ⟨b, 0, none⟩), v] 113 (0, 0)) := by
    rw [hgrow.block b (by rw [World.size_alloc]; omega) (fun e => Hne.out e.symm), Lib.alloc_old w1 _ b hlt]; exact Hbk.out
  have d0 : w2.cell? ⟨b, 0, none⟩ = some (.pointer (some ⟨b, 0, none⟩)) := by rw [Lib.cell_of_heap hb2]; rfl
  have d1 : w2.cell? ⟨b, 1, none⟩ = some v := by rw [Lib.cell_of_heap hb2]; rfl
  have f1 : w2.frozen? ⟨b, 1, none⟩ = false := Lib.frozen_of_heap hb2 1
  obtain ⟨ao, n', cap, rfl⟩ : ∃ ao n' cap, v' = .slice ao n' cap := by
    rcases hown'.2 with ⟨hv, _⟩ | ⟨g, cap, cur, fz, hv, _⟩
    · exact ⟨_, _, _, hv⟩
    · exact ⟨_, _, _, hv⟩
  have e1 : Lib.byteCells l ++ [.int .u8 (c.toNat : Int)] = Lib.byteCells (l ++ [c]) := by simp [Lib.byteCells]
  have hP : PB B b (l ++ [c]) (w2.setCell ⟨b, 1, none⟩ (.slice ao n' cap)) := by
    refine .inr (Lib.BuilderAtF.put HBb.out hb2 ?_ (by decide))
    rw [e1] at hown'
    have e2 : (Lib.byteCells l).length + 1 = (Lib.byteCells (l ++ [c])).length := by rw [Lib.byteCells_length, Lib.byteCells_length, List.length_append]; rfl
    rw [e2] at hown'
    exact hown'
  have HP := Lib.hid hP
  have HB : Hid (PK B b w (w2.setCell ⟨b, 1, none⟩ (.slice ao n' cap))) := ⟨((Hb1.out.bel.alloc (by have := Hb1.out.bel.size; omega) _).grown hgrow (by have := Hb1.out.bel.size; rw [World.size_alloc]; omega) (fun k hk => (Hown.out.lt k hk).1)).setCell (p := ⟨b, 1, none⟩) HBb.out _, ((Hb1.out.oth.alloc _).grown hgrow (Lib.ownsRowF_kind (Hown.out.alloc _))).setCell ⟨b, 1, none⟩ rfl _⟩
  clear hP hown' hgrow hb2
  go_wp2_with fail
  go_ret
  exact ⟨rfl, HP.out, HB.out⟩
set_option maxRecDepth 100000 in
set_option maxHeartbeats 2000000 in
/-- What a printer holds, as a text (it holds something). -/
theorem pstr_any (B b : Nat) (l : List UInt8) (w : World) (h : PB B b l w) (h0 : l ≠ []) :
    Calls Tryz.prog 44 #[.pointer (some ⟨b, 0, none⟩)] w fun e w' => e = .returned (S l) ∧ Below B w w' := by
  obtain ⟨p, hAt⟩ : ∃ p, Lib.BuilderAtF 113 5 B b p (Lib.byteCells l) w := by
    rcases h with h | h
    · exact ⟨_, h⟩
    · exact ⟨_, h⟩
  obtain ⟨hB, v, hbk, hown, hne⟩ := hAt
  have hl0 : l.length ≠ 0 := by simpa using h0
  rw [Lib.byteCells_length] at hown
  obtain ⟨g, cap, cur, fz, rfl, hbg, hg, hfz, hnc, hcm, hcs, htake⟩ : ∃ g cap cur fz, v = .slice (some ⟨g, 0, none⟩) l.length cap ∧ B ≤ g ∧ w.heap[g]? = some (.cells cur 5 fz) ∧ fz.2 ≤ l.length * 1 ∧ l.length ≤ cap ∧ cap ≤ maxLen ∧ cur.size = cap * 1 ∧ cur.toList.take (l.length * 1) = Lib.byteCells l := by
    rcases hown.2 with ⟨_, hz⟩ | ⟨g, cap, cur, fz, hv, r⟩
    · exact absurd hz hl0
    · exact ⟨g, cap, cur, fz, hv, r⟩
  have hSh : w.drew.shape? g = some (5, cur.size) := by
    have hg' : w.drew.heap[g]? = some (.cells cur 5 fz) := (drew_heapE w g).trans hg
    simp [World.shape?, hg']
  have c1 : w.drew.cell? ⟨b, 1, none⟩ = some (.slice (some ⟨g, 0, none⟩) l.length cap) := by
    have : w.drew.heap[b]? = some (.cells #[p, .slice (some ⟨g, 0, none⟩) l.length cap] 113 (0, 0)) := (drew_heapE w b).trans hbk
    rw [Lib.cell_of_heap this]; rfl
  have hSD : (Builtin.unsafeSliceData_ #[27] 142 #[.slice (some ⟨g, 0, none⟩) l.length cap]).run Tryz.prog w.drew = .ok (.pointer (some ⟨g, 0, none⟩)) w.drew :=
    Lib.run_unsafeSliceData_row _ _ _ _ _ _ (by omega)
  have hUS : (Builtin.unsafeString_ #[142, 3] 9 #[.pointer (some ⟨g, 0, none⟩), .int .i64 l.length]).run Tryz.prog w.drew = .ok (S l) (w.drew.freeze ⟨g, 0, none⟩ l.length) := by
    refine Lib.run_unsafeString_row w.drew 142 3 9 5 Tryz.underlying142 (by kernel_rfl) g cur.size hSh l h0 (by omega) (by unfold maxLen at hcm; omega) ?_
    intro j x hx
    rw [drew_cellE]
    exact hown.cells (g := g) rfl j (.int .u8 x.toNat) (by simp [Lib.byteCells, hx])
  have HB : Hid (Below B w (w.drew.freeze ⟨g, 0, none⟩ l.length)) := Lib.below_freeze (Below.drew (Below.refl B w)) (p := ⟨g, 0, none⟩) hbg _
  clear h hbk hown hne hg hfz hnc hcm hcs htake hSh
  go_enter Tryz.func44, Tryz.ntmps44
  go_wp2_with fail
  go_region
  all_goals (go_wp2_with fail; go_ret; exact ⟨rfl, HB.out⟩)
end Go.Proofs.YtjjnidbggoaonaaGreatDoor
