/- Plans in memory; whether one is light. -/
import Derived.Test.YtjjnidbggoaonaaGreatDoorWoSe
import Derived.Deep.RegionHeld3
namespace Go.Proofs.YtjjnidbggoaonaaGreatDoor
open Go.RowKit
attribute [local irreducible] World.setCell World.alloc World.drew World.setRow Calls Code.wp
attribute [local go_sem] Oper.semAt_some

structure SeedV (w : World) (s : OSeed) (q : OSl) : Prop where
  lab : GRow w q.ls s.lab.ls.length (s.lab.ls.map (Value.int .i64))
  clr : GRow w q.lc s.clr.ls.length (s.clr.ls.map (Value.int .i64))
  data : GRow w q.vd s.data.length (s.data.map byteV)
  maps : GRow w q.vm s.maps.length (s.maps.flatMap mapV)
def seedC (s : OSeed) (q : OSl) : List Value := [.int .i64 s.kind, .int .i64 s.parent, .int .i64 s.lab.d, q.ls, .int .i64 s.clr.d, q.lc, .int .i64 s.pages, .int .i64 s.names, q.vd, q.vm, .int .i64 s.space, .int .i64 s.pc]
/-- A list of seeds. -/
def SeedsIn (w : World) (v : Value) (l : List OSeed) (Q : Nat → OSl) : Prop :=
  (∀ (j : Nat) (s : OSeed), l[j]? = some s → SeedV w s (Q j)) ∧ ∃ a c, v = .slice a l.length c ∧ l.length ≤ c ∧ c ≤ maxLen ∧
    (l.length = 0 ∨ ∃ b o, a = some ⟨b, o, none⟩ ∧ b < w.heap.size ∧ ∀ (j : Nat) (s : OSeed), l[j]? = some s → ∀ i, i < 12 → w.cell? ⟨b, o + j * 12 + i, none⟩ = (seedC s (Q j))[i]?)
def PlanIn (w : World) (v : Value) (p : WPlan) : Prop :=
  ∃ sv lv Q, v = .agg #[.int .i64 p.cores, .int .i64 p.frames, .int .i64 p.names, sv, lv] ∧ GRow w sv p.slots.length (p.slots.flatMap slotV) ∧ SeedsIn w lv p.l Q
structure OSeed.bd (s : OSeed) : Prop where
  k : I64 s.kind
  p : I64 s.parent
  pg : I64 s.pages
  nm : I64 s.names
  sp : I64 s.space
  pc : I64 s.pc
  ld : I64 s.lab.d
  cd : I64 s.clr.d
  ls : ∀ n ∈ s.lab.ls, I64 n
  cs : ∀ n ∈ s.clr.ls, I64 n
  ms : ∀ m ∈ s.maps, m.bd
  ln : s.data.length ≤ 140737488355328 ∧ s.maps.length ≤ 140737488355328
structure WPlan.bd (p : WPlan) : Prop where
  n : I64 p.cores ∧ I64 p.frames ∧ I64 p.names
  sl : ∀ s ∈ p.slots, (0 ≤ s.1 ∧ s.1 ≤ 18446744073709551615) ∧ I64 s.2
  l : ∀ s ∈ p.l, s.bd
  ln : p.slots.length ≤ 140737488355328 ∧ p.l.length ≤ 140737488355328
theorem SeedV.below {w w' : World} {s : OSeed} {q : OSl} (h : SeedV w s q) {B : Nat} (hb : Below B w w') (hB : w.heap.size ≤ B) : SeedV w' s q := ⟨h.lab.below hb hB, h.clr.below hb hB, h.data.below hb hB, h.maps.below hb hB⟩
theorem SeedsIn.below {w w' : World} {v : Value} {l : List OSeed} {Q : Nat → OSl} (h : SeedsIn w v l Q) {B : Nat} (hb : Below B w w') (hB : w.heap.size ≤ B) : SeedsIn w' v l Q := by
  obtain ⟨h1, a, c, rfl, h2, h3, h4⟩ := h
  refine ⟨fun j s hj => (h1 j s hj).below hb hB, a, c, rfl, h2, h3, h4.imp id ?_⟩
  rintro ⟨b, o, rfl, hlt, hc⟩
  exact ⟨b, o, rfl, Nat.lt_of_lt_of_le hlt hb.size, fun j s hj i hi => by rw [hb.cell (p := ⟨b, o + j * 12 + i, none⟩) (Nat.lt_of_lt_of_le hlt hB)]; exact hc j s hj i hi⟩
theorem PlanIn.below {w w' : World} {v : Value} {p : WPlan} (h : PlanIn w v p) {B : Nat} (hb : Below B w w') (hB : w.heap.size ≤ B) : PlanIn w' v p := by
  obtain ⟨sv, lv, Q, rfl, h1, h2⟩ := h
  exact ⟨sv, lv, Q, rfl, h1.below hb hB, h2.below hb hB⟩
theorem SeedsIn.at {w : World} {a : Option Addr} {c : Nat} {l : List OSeed} {Q : Nat → OSl} (h : SeedsIn w (.slice a l.length c) l Q) {k : Nat} {s : OSeed} (hk : l[k]? = some s) : ∃ b o, a = some ⟨b, o, none⟩ ∧ SeedV w s (Q k) ∧ ∀ i, i < 12 → w.cell? ⟨b, o + k * 12 + i, none⟩ = (seedC s (Q k))[i]? := by
  obtain ⟨h1, a', c', e, _, _, h4⟩ := h
  cases e
  have hlt := (List.getElem?_eq_some_iff.1 hk).1
  obtain ⟨b, o, rfl, _, hc⟩ := h4.resolve_left (by omega)
  exact ⟨b, o, rfl, h1 k s hk, hc k s hk⟩
def seedW (s : OSeed) : Nat := s.data.length + s.maps.length
theorem weight_eq (p : WPlan) : p.weight = p.slots.length + p.l.length + (p.l.map seedW).sum := rfl
theorem sum_take_next {l : List OSeed} {k : Nat} {s : OSeed} (h : l[k]? = some s) : ((l.take (k + 1)).map seedW).sum = ((l.take k).map seedW).sum + seedW s := by
  rw [List.take_add_one, h]; simp
theorem sum_take_le (l : List OSeed) (k : Nat) : ((l.take k).map seedW).sum ≤ (l.map seedW).sum := by
  conv => rhs; rw [← List.take_append_drop k l, List.map_append, List.sum_append]
  omega
set_option maxRecDepth 100000 in
set_option maxHeartbeats 4000000 in
theorem light_any (p : WPlan) (v : Value) (w : World) (h : PlanIn w v p) (hbd : p.bd) :
    Calls Tryz.prog 22 #[v] w fun e w' => e = .returned (.bool (decide (p.weight ≤ 3000))) ∧ Below w.heap.size w w' := by
  obtain ⟨sv, lv, Q, rfl, hS, hL⟩ := h
  obtain ⟨sa, sc, rfl, -, -⟩ := hS.form
  obtain ⟨h1, la, lc, rfl, hc1, hc2, h4⟩ := hL
  have hL : SeedsIn w (.slice la p.l.length lc) p.l Q := ⟨h1, la, lc, rfl, hc1, hc2, h4⟩
  clear h1 h4 hS
  obtain ⟨hl1, hl2⟩ := hbd.ln
  have HW := Lib.hid (weight_eq p)
  obtain ⟨xb, hxb⟩ : ∃ xb, xb = w.heap.size := ⟨_, rfl⟩
  obtain ⟨w1, hw1⟩ : ∃ w1 : World, w1 = w.alloc (.cells #[.int .i64 p.cores, .int .i64 p.frames, .int .i64 p.names, .slice sa p.slots.length sc, .slice la p.l.length lc] 54) := ⟨_, rfl⟩
  have HX : Hid (Blk w1 xb #[.int .i64 p.cores, .int .i64 p.frames, .int .i64 p.names, .slice sa p.slots.length sc, .slice la p.l.length lc] 54) := by rw [hw1, hxb]; exact Blk.new _ _ _
  have HB1 : Hid (Below w.heap.size w w1) := by rw [hw1]; exact (Below.refl _ w).alloc (Nat.le_refl _) _
  have HL := Lib.hid (fun w' (k : Below w.heap.size w w') => hL.below k (Nat.le_refl _))
  have Hbd := Lib.hid hbd.l
  have hw2 : IntKind.i64.wrap ((p.slots.length : Int) + p.l.length) = ((p.slots.length + p.l.length : Nat) : Int) := by rw [IntWalk.i64_in _ (by omega)]; omega
  have hcx := HX.out.cell
  clear hL hbd
  go_enter Tryz.func22, Tryz.ntmps22
  go_upto_region 1 with fail
  rw [← hw1, ← hxb]
  clear hw1 hxb
  go_wp2_with fail
  go_loopg [3, 4] p.l.length (fun g vn vi wx => ∃ (k N : Nat), k + g = p.l.length ∧ vi = .int .i64 k ∧ vn = .int .i64 N ∧ Hid (N = p.slots.length + p.l.length + ((p.l.take k).map seedW).sum) ∧ N ≤ 1000000000000000 ∧ Hid (Below w.heap.size w wx) ∧ Hid (Blk wx xb #[.int .i64 p.cores, .int .i64 p.frames, .int .i64 p.names, .slice sa p.slots.length sc, .slice la p.l.length lc] 54))
  case atStart => exact ⟨0, p.slots.length + p.l.length, by omega, rfl, rfl, Lib.hid (by simp), by omega, HB1, HX⟩
  case round =>
    obtain ⟨k, N, hk, rfl, rfl, hN, hNb, HB, HXr⟩ := hrel
    have hcr := HXr.out.cell
    clear hcx
    by_cases hn3 : N ≤ 3000
    · have hn3' : (N : Int) ≤ 3000 := by omega
      by_cases hlt : k < p.l.length
      · have hlt' : (k : Int) < p.l.length := by omega
        obtain ⟨s, hs⟩ : ∃ s, p.l[k]? = some s := ⟨_, List.getElem?_eq_getElem hlt⟩
        obtain ⟨b, o, rfl, hV, hc⟩ := (HL.out wr HB.out).at hs
        obtain ⟨da, dc, hvd, -, -⟩ := hV.data.form
        obtain ⟨ma, mc, hvm, -, -⟩ := hV.maps.form
        have q8 : wr.cell? ⟨b, o + k * 12 + 8, none⟩ = some (.slice da s.data.length dc) := by rw [hc 8 (by omega), ← hvd]; rfl
        have q9 : wr.cell? ⟨b, o + k * 12 + 9, none⟩ = some (.slice ma s.maps.length mc) := by rw [hc 9 (by omega), ← hvm]; rfl
        obtain ⟨d1, d2⟩ := (Hbd.out s (List.mem_of_getElem? hs)).ln
        have e1 : IntKind.i64.wrap ((s.data.length : Int) + s.maps.length) = (s.data.length : Int) + s.maps.length := IntWalk.i64_in _ (by omega)
        have e2 : IntKind.i64.wrap ((N : Int) + ((s.data.length : Int) + s.maps.length)) = ((N + seedW s : Nat) : Int) := by unfold seedW; rw [IntWalk.i64_in _ (by omega)]; omega
        have HNn : Hid (N + seedW s = p.slots.length + p.l.length + ((p.l.take (k + 1)).map seedW).sum) := by have := sum_take_next hs; have h2 := hN.out; show _ = _; omega
        have hsw : seedW s ≤ 281474976710656 := by unfold seedW; omega
        have q4 : wr.drew.cell? ⟨xb, 4, none⟩ = some (.slice (some ⟨b, o, none⟩) p.l.length lc) := (HXr.out.drew.cell 4).trans rfl
        have q8d : wr.drew.cell? ⟨b, o + k * 12 + 8, none⟩ = some (.slice da s.data.length dc) := (drew_cellE _ _).trans q8
        have q9d : wr.drew.cell? ⟨b, o + k * 12 + 9, none⟩ = some (.slice ma s.maps.length mc) := (drew_cellE _ _).trans q9
        have HXd := Lib.hid HXr.out.drew
        have HBd := Lib.hid HB.out.drew
        clear hc hs hV hvd hvm
        go_upto_region 5 with fail
        first
        | go_region_held3 (fun w' => w'.cell? ⟨xb, 4, none⟩ = some (.slice (some ⟨b, o, none⟩) p.l.length lc) ∧ w'.cell? ⟨b, o + k * 12 + 8, none⟩ = some (.slice da s.data.length dc) ∧ w'.cell? ⟨b, o + k * 12 + 9, none⟩ = some (.slice ma s.maps.length mc))
            (exact ⟨q4, q8d, q9d⟩) (fail)
        | fail
        all_goals
          go_wp2_with fail
          go_roundg (p.l.length - (k + 1))
          case measure => omega
          case rel => exact ⟨k + 1, N + seedW s, by omega, by go_num, rfl, HNn, by omega, HBd, HXd⟩
      · obtain rfl : k = p.l.length := by omega
        rw [List.take_length] at hN
        have Hd : Hid (decide (p.weight ≤ 3000) = true) := by show _ = _; rw [HW.out, ← hN.out]; exact decide_eq_true hn3
        go_wp2_with fail
        go_ret
        exact ⟨by rw [Hd.out]; first | rfl | exact congrArg (fun b => Ending.returned (Value.bool b)) (decide_eq_true (by omega)), HB.out⟩
    · have hn3' : ¬ (N : Int) ≤ 3000 := by omega
      have Hd : Hid (decide (p.weight ≤ 3000) = false) := by
        show _ = _
        have hle := sum_take_le p.l k
        have h2 := hN.out
        rw [HW.out]; exact decide_eq_false (by omega)
      by_cases hlt : k < p.l.length
      · have hlt' : (k : Int) < p.l.length := by omega
        go_wp2_with fail
        go_ret
        exact ⟨by rw [Hd.out]; first | rfl | exact congrArg (fun b => Ending.returned (Value.bool b)) (decide_eq_false (by omega)), HB.out⟩
      · obtain rfl : k = p.l.length := by omega
        go_wp2_with fail
        go_ret
        exact ⟨by rw [Hd.out]; first | rfl | exact congrArg (fun b => Ending.returned (Value.bool b)) (decide_eq_false (by omega)), HB.out⟩
end Go.Proofs.YtjjnidbggoaonaaGreatDoor
