/- The reader's objects. -/
import Derived.Test.YtjjnidbggoaonaaGreatDoorWoK
import Derived.Test.YtjjnidbggoaonaaGreatDoorWoI
import Derived.Test.YtjjnidbggoaonaaGreatDoorWoOn
import Derived.Test.YtjjnidbggoaonaaGreatDoorZaA
namespace Go.Proofs.YtjjnidbggoaonaaGreatDoor
open Go.RowKit
theorem drew_heapR (w : World) (k : Nat) : w.drew.heap[k]? = w.heap[k]? := rfl
attribute [local irreducible] World.setCell World.alloc World.drew World.setRow Calls Code.wp
attribute [local go_sem] Oper.semAt_some

theorem num_len (r : Rd) : r.num.1.s.length ≤ r.s.length := by
  have := (word_len r).2
  unfold Rd.num
  split <;> exact this
theorem hex_len (r : Rd) : r.hex.1.s.length ≤ r.s.length := by
  have := (word_len r).2
  unfold Rd.hex
  split
  · exact this
  · split <;> exact this
theorem one_len (r : Rd) : r.one.1.s.length ≤ r.s.length := by
  have := (word_len r).2
  unfold Rd.one
  split <;> exact this
theorem label_len (r : Rd) : r.label.1.s.length ≤ r.s.length := by
  have h1 := trimL_len r.s
  unfold Rd.label
  split
  · exact Nat.zero_le _
  · rename_i inn rest e
    have h2 := congrArg List.length (cutAt_spec 125 _ _ _ e)
    rw [List.length_append, List.length_cons] at h2
    have h3 : rest.length ≤ r.s.length := by omega
    split
    · split
      · split <;> exact h3
      · exact h3
    · exact h3
/-- The maps so far. -/
structure MapsSt (r0 : Rd) (G g : Nat) (rj : Rd) (ms : List WMap) : Prop where
  fst : (Rd.maps G r0).1 = (Rd.maps g rj).1
  snd : rj.bad = false → (Rd.maps G r0).2 = ms ++ (Rd.maps g rj).2
  pt : rj.bad = true ∨ pot rj.s ≤ g
  len : ms.length + g ≤ G
  sl : rj.s.length ≤ r0.s.length
theorem MapsSt.fin {r0 rj : Rd} {G g : Nat} {ms : List WMap} (h : MapsSt r0 G g rj ms) (e : rj.over = true ∨ rj.bad = true) : (Rd.maps G r0).1 = rj ∧ (rj.bad = false → (Rd.maps G r0).2 = ms) := by
  have h1 : Rd.maps g rj = (rj, []) := by
    cases g with
    | zero => rfl
    | succ g => unfold Rd.maps; rw [if_pos e]
  refine ⟨by rw [h.fst, h1], fun hb => by rw [h.snd hb, h1, List.append_nil]⟩
theorem MapsSt.next {r0 rj : Rd} {G g : Nat} {ms : List WMap} (h : MapsSt r0 G g rj ms) (ho : rj.over = false) (hb : rj.bad = false) : ∃ g', g = g' + 1 ∧ ∀ m, (rj.one.1.bad = false → m = rj.one.2) → MapsSt r0 G g' rj.one.1 (ms ++ [m]) := by
  have hp : pot rj.s ≤ g := h.pt.resolve_left (by rw [hb]; decide)
  have h0 : trimL rj.s ≠ [] := by
    intro e
    unfold Rd.over at ho
    rw [e] at ho
    simp at ho
  have hp1 : 0 < pot rj.s := by unfold pot; rw [if_neg h0]; omega
  obtain ⟨g', rfl⟩ : ∃ g', g = g' + 1 := ⟨g - 1, by omega⟩
  have hm : Rd.maps (g' + 1) rj = ((Rd.maps g' rj.one.1).1, rj.one.2 :: (Rd.maps g' rj.one.1).2) := by
    conv => lhs; unfold Rd.maps
    rw [if_neg (by rw [ho, hb]; decide)]
  refine ⟨g', rfl, fun m hmm => ⟨by rw [h.fst, hm], fun hb' => ?_, ?_, ?_, Nat.le_trans (one_len rj) h.sl⟩⟩
  · rw [h.snd hb, hm, hmm hb']; simp
  · cases e : rj.one.1.bad with
    | true => exact .inl rfl
    | false =>
      have := (one_pot e).2.2
      right; omega
  · have := h.len
    rw [List.length_append, List.length_singleton]; omega
theorem MapsSt.begin (r : Rd) : MapsSt r (r.s.length + 1) (r.s.length + 1) r [] := ⟨rfl, fun _ => rfl, .inr (pot_le _), by simp, Nat.le_refl _⟩
theorem tame_blk {w : World} {b ty : Nat} {cs : Array Value} (h : Blk w b cs ty) (ht : ty ≠ 144 ∧ ty ≠ 157 ∧ ty ≠ 5) : Tame w (· = b) := fun b' cs' ty' fz e hh => by
  subst e
  unfold Blk at h
  rw [h] at hh
  simp only [Option.some.injEq, Obj.cells.injEq] at hh
  rw [← hh.2.1]
  exact ht
theorem info_map : (Tryz.prog.info? 157).map (fun i => (i.zero, i.size, i.bytes)) = some (some (.agg #[.int .i64 0, .int .u64 0, .int .i64 0, .int .i64 0, .bool false]), 5, 40) := by kernel_rfl
/-- Twelve cells of a block are written. -/
def set12 (w : World) (b : Nat) (c0 c1 c2 c3 c4 c5 c6 c7 c8 c9 c10 c11 : Value) : World :=
  (((((((((((w.setCell ⟨b, 0, none⟩ c0).setCell ⟨b, 1, none⟩ c1).setCell ⟨b, 2, none⟩ c2).setCell ⟨b, 3, none⟩ c3).setCell ⟨b, 4, none⟩ c4).setCell ⟨b, 5, none⟩ c5).setCell ⟨b, 6, none⟩ c6).setCell ⟨b, 7, none⟩ c7).setCell ⟨b, 8, none⟩ c8).setCell ⟨b, 9, none⟩ c9).setCell ⟨b, 10, none⟩ c10).setCell ⟨b, 11, none⟩ c11
set_option maxHeartbeats 2000000 in
theorem set12_blk {w : World} {b ty : Nat} {x0 x1 x2 x3 x4 x5 x6 x7 x8 x9 x10 x11 : Value} (h : Blk w b #[x0, x1, x2, x3, x4, x5, x6, x7, x8, x9, x10, x11] ty) (c0 c1 c2 c3 c4 c5 c6 c7 c8 c9 c10 c11 : Value) :
    Blk (set12 w b c0 c1 c2 c3 c4 c5 c6 c7 c8 c9 c10 c11) b #[c0, c1, c2, c3, c4, c5, c6, c7, c8, c9, c10, c11] ty :=
  ((((((((((((h.set 0 c0).set 1 c1).set 2 c2).set 3 c3).set 4 c4).set 5 c5).set 6 c6).set 7 c7).set 8 c8).set 9 c9).set 10 c10).set 11 c11).cells (by simp only [List.setIfInBounds_toArray, List.set_cons_zero, List.set_cons_succ])
theorem set12_kept (w : World) (b : Nat) (c0 c1 c2 c3 c4 c5 c6 c7 c8 c9 c10 c11 : Value) : Kept (· = b) w (set12 w b c0 c1 c2 c3 c4 c5 c6 c7 c8 c9 c10 c11) :=
  ((((((((((((Kept.refl (· = b) w).setIn b 0 c0 rfl).setIn b 1 c1 rfl).setIn b 2 c2 rfl).setIn b 3 c3 rfl).setIn b 4 c4 rfl).setIn b 5 c5 rfl).setIn b 6 c6 rfl).setIn b 7 c7 rfl).setIn b 8 c8 rfl).setIn b 9 c9 rfl).setIn b 10 c10 rfl).setIn b 11 c11 rfl
set_option maxRecDepth 100000 in
set_option maxHeartbeats 8000000 in
theorem robj_any (g0 rb : Nat) (r : Rd) (k : Nat) (hl : r.s.length ≤ 100000) (hg : g0 ≤ rb) (w : World) (h : WoIn g0 w) (hR : RdW w rb r) :
    Calls Tryz.prog 55 #[.pointer (some ⟨rb, 0, none⟩), .int .i64 (k : Nat)] w fun e w' => ∃ (o : WObj) (ls lc vd vm : Value), e = .returned (.agg #[.int .i64 (k : Nat), .int .i64 o.parent, .int .i64 (o.lab.d : Nat), ls, .int .i64 (o.clr.d : Nat), lc, .int .i64 o.pages, .int .i64 o.names, vd, vm, .int .i64 o.space, .int .i64 o.pc]) ∧ ObjV w' o ls lc vd vm ∧ o.kind = (k : Nat) ∧ ((r.object k).1.bad = false → o = (r.object k).2) ∧ RdW w' rb (r.object k).1 ∧ Kept (· = rb) w w' := by
  have H := Lib.hid h
  have hrb : rb < w.heap.size := Blk.lt hR
  obtain ⟨wa, hwa⟩ : ∃ wa : World, wa = w.alloc (.cells #[.int .i64 0, .int .i64 0, .int .i64 0, .slice none 0 0, .int .i64 0, .slice none 0 0, .int .i64 0, .int .i64 0, .slice none 0 0, .slice none 0 0, .int .i64 0, .int .i64 0] 107) := ⟨_, rfl⟩
  obtain ⟨xb, hxb⟩ : ∃ xb, xb = w.heap.size := ⟨_, rfl⟩
  have HX : Hid (Blk wa xb #[.int .i64 0, .int .i64 0, .int .i64 0, .slice none 0 0, .int .i64 0, .slice none 0 0, .int .i64 0, .int .i64 0, .slice none 0 0, .slice none 0 0, .int .i64 0, .int .i64 0] 107) := by rw [hwa, hxb]; exact Blk.new _ _ _
  have HRa : Hid (RdW wa rb r) := by rw [hwa]; exact Blk.alloc hR _
  have HKa : Hid (Kept (· = rb) w wa) := by rw [hwa]; exact (Kept.refl _ w).alloc _
  have Hxb := Lib.hid hxb
  have Hrx : Hid (rb < xb) := by rw [hxb]; exact hrb
  have HW : Hid (∀ w', Kept (· = rb) w w' → WoIn g0 w') := fun w' q => H.out.kept q (fun b e => by rw [e]; exact hg)
  have HObj : Hid (∀ p l, r.num = p → p.1.label = l → r.object k = (
    if k = 1 then (l.1.num.1.num.1, { obj0 k with parent := p.2, lab := l.2, pages := l.1.num.2, names := l.1.num.1.num.2 })
    else if k = 2 then (l.1.num.1.hex.1, { obj0 k with parent := p.2, lab := l.2, pages := l.1.num.2, data := l.1.num.1.hex.2 })
    else if k = 4 then ((Rd.maps (l.1.s.length + 1) l.1).1, { obj0 k with parent := p.2, lab := l.2, maps := (Rd.maps (l.1.s.length + 1) l.1).2 })
    else if k = 3 ∨ k = 5 then (l.1.label.1.num.1.num.1, { obj0 k with parent := p.2, lab := l.2, clr := l.1.label.2, space := l.1.label.1.num.2, pc := l.1.label.1.num.1.num.2 })
    else (l.1, { obj0 k with parent := p.2, lab := l.2 }))) := fun p l e1 e2 => by
    subst e1; subst e2; rfl
  have Hn1 := Lib.hid (rnum_any g0 rb r hl hg wa (HW.out _ HKa.out) HRa.out)
  have hl1 := num_len r
  obtain ⟨⟨r1, par⟩, hr1⟩ : ∃ p, r.num = p := ⟨_, rfl⟩
  rw [hr1] at Hn1 hl1
  simp only at Hn1 hl1
  have Hlb := Lib.hid (fun w' (q : Kept (· = rb) w w') hR' => rlabel_any g0 rb r1 (by omega) hg w' (HW.out _ q) hR')
  have hl2 := label_len r1
  obtain ⟨⟨r2, lab⟩, hr2⟩ : ∃ p, r1.label = p := ⟨_, rfl⟩
  rw [hr2] at Hlb hl2
  simp only at Hlb hl2
  have hOk := HObj.out _ _ hr1 hr2
  simp only at hOk
  have HOk := Lib.hid hOk
  clear hOk
  clear hR hr1 hr2 h HObj
  go_enter Tryz.func55, Tryz.ntmps55
  go_upto_region 1 with fail
  rw [← hwa, ← hxb]
  clear hwa hxb
  go_wp2_with fail
  refine Hn1.out.mono ?_
  rintro e w1 ⟨rfl, hR1, hk1⟩
  have HR1 := Lib.hid hR1
  have HK1 : Hid (Kept (· = rb) w w1) := HKa.out.trans hk1
  have HX1 := Lib.hid (HX.out.below' hk1 (by have := Hrx.out; omega))
  clear hR1 hk1 HX HRa HKa Hn1
  go_wp2_with fail
  refine (Hlb.out _ HK1.out HR1.out).mono ?_
  rintro e w2 ⟨lv, l, rfl, hlv, hleq, hR2, hk2⟩
  obtain ⟨ls, rfl, hps⟩ := hlv
  obtain ⟨la, lc, rfl, -, -⟩ := RowAt.form hps
  have HR2 := Lib.hid hR2
  have HK2 : Hid (Kept (· = rb) w w2) := HK1.out.trans hk2
  have HX2 := Lib.hid (HX1.out.below' hk2 (by have := Hrx.out; omega))
  have HLq := Lib.hid hleq
  obtain ⟨wb, hwb⟩ : ∃ wb : World, wb = w2.alloc (.cells #[.int .i64 (k : Nat), .int .i64 par, .int .i64 (l.d : Nat), .slice la l.ps.length lc, .int .i64 0, .slice none 0 0, .int .i64 0, .int .i64 0, .slice none 0 0, .slice none 0 0, .int .i64 0, .int .i64 0] 107) := ⟨_, rfl⟩
  obtain ⟨ob, hob⟩ : ∃ ob, ob = w2.heap.size := ⟨_, rfl⟩
  have HB2 : Hid (Blk wb ob #[.int .i64 (k : Nat), .int .i64 par, .int .i64 (l.d : Nat), .slice la l.ps.length lc, .int .i64 0, .slice none 0 0, .int .i64 0, .int .i64 0, .slice none 0 0, .slice none 0 0, .int .i64 0, .int .i64 0] 107) := by rw [hwb, hob]; exact Blk.new _ _ _
  have HRb : Hid (RdW wb rb r2) := by rw [hwb]; exact Blk.alloc HR2.out _
  have HKb : Hid (Kept (· = rb) w wb) := by rw [hwb]; exact HK2.out.alloc _
  have HXb : Hid (Blk wb xb #[.int .i64 0, .int .i64 0, .int .i64 0, .slice none 0 0, .int .i64 0, .slice none 0 0, .int .i64 0, .int .i64 0, .slice none 0 0, .slice none 0 0, .int .i64 0, .int .i64 0] 107) := by rw [hwb]; exact HX2.out.alloc _
  have HPb : Hid (PairsIn wb (.slice la l.ps.length lc) l.ps) := by rw [hwb]; exact RowAt.below hps ((Below.refl _ w2).alloc (Nat.le_refl _) _) (Nat.le_refl _)
  have Hxo : Hid (xb < ob) := by rw [hob]; exact HX2.out.lt
  have Hsx : Hid (w.heap.size ≤ xb) := Nat.le_of_eq Hxb.out.symm
  have hlr2 : r2.s.length ≤ 100000 := by omega
  clear hR2 hk2 hps hleq HR2 HK2 HX2 HR1 HK1 HX1 Hlb
  go_upto_region 2 with fail
  rw [← hwb, ← hob]
  have Hwb := Lib.hid hob
  clear hwb hob
  go_upto_block 0 with fail
  go_cut [1, 6, 11, 12] (fun _ _ _ _ wx => ∃ (o : WObj) (ls lc vd vm : Value), Hid (Blk wx ob #[.int .i64 (k : Nat), .int .i64 o.parent, .int .i64 (o.lab.d : Nat), ls, .int .i64 (o.clr.d : Nat), lc, .int .i64 o.pages, .int .i64 o.names, vd, vm, .int .i64 o.space, .int .i64 o.pc] 107) ∧ Hid (ObjV wx o ls lc vd vm) ∧ Hid (o.kind = (k : Nat) ∧ ((r.object k).1.bad = false → o = (r.object k).2)) ∧ Hid (RdW wx rb (r.object k).1) ∧ Hid (Kept (· = rb) w wx) ∧ Hid (Blk wx xb #[.int .i64 0, .int .i64 0, .int .i64 0, .slice none 0 0, .int .i64 0, .slice none 0 0, .int .i64 0, .int .i64 0, .slice none 0 0, .slice none 0 0, .int .i64 0, .int .i64 0] 107))
  case first =>
    have Hro : Hid (rb ≠ ob) := by have h1 := Hrx.out; have h2 := Hxo.out; show _ ≠ _; omega
    have Hso : Hid (w.heap.size ≤ ob) := by have h1 := Hsx.out; have h2 := Hxo.out; show _ ≤ _; omega
    have HQb : Hid (Kept (· = rb) wb wb) := Kept.refl _ _
    by_cases k1 : k = 1
    · have k1b : ((k : Int) == 1) = true := by simp [k1]
      rw [if_pos k1] at HOk
      have Hn4 := Lib.hid (rnum_any g0 rb r2 hlr2 hg wb (HW.out _ HKb.out) HRb.out)
      have hln4 := num_len r2
      have Hm4 : Hid (r2.num.1.bad = false → r2.bad = false) := fun h => (num_pot h).1
      obtain ⟨⟨r4, x4⟩, e4⟩ : ∃ p, r2.num = p := ⟨_, rfl⟩
      rw [e4] at Hn4 hln4 Hm4 HOk
      simp only at Hn4 hln4 Hm4 HOk
      clear e4
      go_wp2_with fail
      refine Hn4.out.mono ?_
      rintro e w4 ⟨rfl, hR4, hk4⟩
      have HR4 := Lib.hid hR4
      have HK4 : Hid (Kept (· = rb) w w4) := HKb.out.trans hk4
      have HQ4 : Hid (Kept (· = rb) wb w4) := HQb.out.trans hk4
      have HB4 := Lib.hid (HB2.out.below' hk4 (Ne.symm Hro.out))
      have HX4 := Lib.hid (HXb.out.below' hk4 (Ne.symm (Nat.ne_of_lt Hrx.out)))
      have hlr4 : r4.s.length ≤ 100000 := by omega
      clear hR4 hk4 Hn4
      have Hn5 := Lib.hid (rnum_any g0 rb r4 hlr4 hg w4 (HW.out _ HK4.out) HR4.out)
      have hln5 := num_len r4
      have Hm5 : Hid (r4.num.1.bad = false → r4.bad = false) := fun h => (num_pot h).1
      obtain ⟨⟨r5, x5⟩, e5⟩ : ∃ p, r4.num = p := ⟨_, rfl⟩
      rw [e5] at Hn5 hln5 Hm5 HOk
      simp only at Hn5 hln5 Hm5 HOk
      clear e5
      go_wp2_with fail
      refine Hn5.out.mono ?_
      rintro e w5 ⟨rfl, hR5, hk5⟩
      have HR5 := Lib.hid hR5
      have HK5 : Hid (Kept (· = rb) w w5) := HK4.out.trans hk5
      have HQ5 : Hid (Kept (· = rb) wb w5) := HQ4.out.trans hk5
      have HB5 := Lib.hid (HB4.out.below' hk5 (Ne.symm Hro.out))
      have HX5 := Lib.hid (HX4.out.below' hk5 (Ne.symm (Nat.ne_of_lt Hrx.out)))
      have hlr5 : r5.s.length ≤ 100000 := by omega
      clear hR5 hk5 Hn5
      have HBf : Hid (Blk ((w5.setCell ⟨ob, 6, none⟩ (.int .i64 x4)).setCell ⟨ob, 7, none⟩ (.int .i64 x5)) ob #[.int .i64 (k : Nat), .int .i64 par, .int .i64 (l.d : Nat), .slice la l.ps.length lc, .int .i64 0, .slice none 0 0, .int .i64 x4, .int .i64 x5, .slice none 0 0, .slice none 0 0, .int .i64 0, .int .i64 0] 107) := (((HB5.out.set 6 (.int .i64 x4)).set 7 (.int .i64 x5))).cells (by simp only [List.setIfInBounds_toArray, List.set_cons_zero, List.set_cons_succ])
      have Hke : Hid (Kept (· = ob) w5 ((w5.setCell ⟨ob, 6, none⟩ (.int .i64 x4)).setCell ⟨ob, 7, none⟩ (.int .i64 x5))) := (((Kept.refl (· = ob) w5).setIn ob 6 (.int .i64 x4) rfl).setIn ob 7 (.int .i64 x5) rfl)
      have HTo := Lib.hid (tame_blk HB5.out (by decide))
      have HTr := Lib.hid (tame_blk HRb.out (by decide))
      have HVf : Hid (ObjV ((w5.setCell ⟨ob, 6, none⟩ (.int .i64 x4)).setCell ⟨ob, 7, none⟩ (.int .i64 x5)) ({ obj0 k with parent := par, lab := l, pages := x4, names := x5 }) (.slice la l.ps.length lc) (.slice none 0 0) (.slice none 0 0) (.slice none 0 0)) := ⟨PairsIn.tame (PairsIn.tame HPb.out HQ5.out HTr.out) Hke.out HTo.out, RowAt.nil _ _, RowAt.nil _ _, RowAt.nil _ _⟩
      have HRf : Hid (RdW ((w5.setCell ⟨ob, 6, none⟩ (.int .i64 x4)).setCell ⟨ob, 7, none⟩ (.int .i64 x5)) rb r5) := Blk.below' HR5.out Hke.out Hro.out
      have HXf := Lib.hid (HX5.out.below' Hke.out (Nat.ne_of_lt Hxo.out))
      have HKf : Hid (Kept (· = rb) w ((w5.setCell ⟨ob, 6, none⟩ (.int .i64 x4)).setCell ⟨ob, 7, none⟩ (.int .i64 x5))) := ((HK5.out.setNew ob 6 (.int .i64 x4) Hso.out).setNew ob 7 (.int .i64 x5) Hso.out)
      have hbc := HB5.out.cell
      have hbf := HB5.out.free
      have HEq : Hid ((r.object k).1.bad = false → ({ obj0 k with parent := par, lab := l, pages := x4, names := x5 } : WObj) = (r.object k).2) := fun hb => by
        rw [HOk.out] at hb ⊢
        simp only at hb
        have h2 := Hm4.out (Hm5.out hb)
        rw [HLq.out h2]
      rw [HOk.out] at HEq
      simp only at HEq
      clear HTo HTr Hke
      go_wp2_with fail
      go_meet
      exact ⟨({ obj0 k with parent := par, lab := l, pages := x4, names := x5 }), _, _, _, _, HBf, HVf, Lib.hid ⟨rfl, by rw [HOk.out]; exact HEq.out⟩, by rw [HOk.out]; exact HRf, HKf, HXf⟩
    have k1b : ((k : Int) == 1) = false := by simp; omega
    by_cases k2 : k = 2
    · have k2b : ((k : Int) == 2) = true := by simp [k2]
      rw [if_neg k1, if_pos k2] at HOk
      have Hn4 := Lib.hid (rnum_any g0 rb r2 hlr2 hg wb (HW.out _ HKb.out) HRb.out)
      have hln4 := num_len r2
      have Hm4 : Hid (r2.num.1.bad = false → r2.bad = false) := fun h => (num_pot h).1
      obtain ⟨⟨r4, x4⟩, e4⟩ : ∃ p, r2.num = p := ⟨_, rfl⟩
      rw [e4] at Hn4 hln4 Hm4 HOk
      simp only at Hn4 hln4 Hm4 HOk
      clear e4
      go_wp2_with fail
      refine Hn4.out.mono ?_
      rintro e w4 ⟨rfl, hR4, hk4⟩
      have HR4 := Lib.hid hR4
      have HK4 : Hid (Kept (· = rb) w w4) := HKb.out.trans hk4
      have HQ4 : Hid (Kept (· = rb) wb w4) := HQb.out.trans hk4
      have HB4 := Lib.hid (HB2.out.below' hk4 (Ne.symm Hro.out))
      have HX4 := Lib.hid (HXb.out.below' hk4 (Ne.symm (Nat.ne_of_lt Hrx.out)))
      have hlr4 : r4.s.length ≤ 100000 := by omega
      clear hR4 hk4 Hn4
      have Hn5 := Lib.hid (rhex_any g0 rb r4 hlr4 hg w4 (HW.out _ HK4.out) HR4.out)
      have hln5 := hex_len r4
      have Hm5 : Hid (r4.hex.1.bad = false → r4.bad = false) := fun h => (hex_pot h).1
      obtain ⟨⟨r5, x5⟩, e5⟩ : ∃ p, r4.hex = p := ⟨_, rfl⟩
      rw [e5] at Hn5 hln5 Hm5 HOk
      simp only at Hn5 hln5 Hm5 HOk
      clear e5
      go_wp2_with fail
      refine Hn5.out.mono ?_
      rintro e w5 ⟨dv, rfl, hdv, hR5, hk5⟩
      obtain ⟨da, dc, rfl, -, -⟩ := RowAt.form hdv
      have HD5 := Lib.hid hdv
      have HR5 := Lib.hid hR5
      have HK5 : Hid (Kept (· = rb) w w5) := HK4.out.trans hk5
      have HQ5 : Hid (Kept (· = rb) wb w5) := HQ4.out.trans hk5
      have HB5 := Lib.hid (HB4.out.below' hk5 (Ne.symm Hro.out))
      have HX5 := Lib.hid (HX4.out.below' hk5 (Ne.symm (Nat.ne_of_lt Hrx.out)))
      have hlr5 : r5.s.length ≤ 100000 := by omega
      clear hR5 hk5 Hn5 hdv
      have HBf : Hid (Blk ((w5.setCell ⟨ob, 6, none⟩ (.int .i64 x4)).setCell ⟨ob, 8, none⟩ (.slice da x5.length dc)) ob #[.int .i64 (k : Nat), .int .i64 par, .int .i64 (l.d : Nat), .slice la l.ps.length lc, .int .i64 0, .slice none 0 0, .int .i64 x4, .int .i64 0, .slice da x5.length dc, .slice none 0 0, .int .i64 0, .int .i64 0] 107) := (((HB5.out.set 6 (.int .i64 x4)).set 8 (.slice da x5.length dc))).cells (by simp only [List.setIfInBounds_toArray, List.set_cons_zero, List.set_cons_succ])
      have Hke : Hid (Kept (· = ob) w5 ((w5.setCell ⟨ob, 6, none⟩ (.int .i64 x4)).setCell ⟨ob, 8, none⟩ (.slice da x5.length dc))) := (((Kept.refl (· = ob) w5).setIn ob 6 (.int .i64 x4) rfl).setIn ob 8 (.slice da x5.length dc) rfl)
      have HTo := Lib.hid (tame_blk HB5.out (by decide))
      have HTr := Lib.hid (tame_blk HRb.out (by decide))
      have HVf : Hid (ObjV ((w5.setCell ⟨ob, 6, none⟩ (.int .i64 x4)).setCell ⟨ob, 8, none⟩ (.slice da x5.length dc)) ({ obj0 k with parent := par, lab := l, pages := x4, data := x5 }) (.slice la l.ps.length lc) (.slice none 0 0) (.slice da x5.length dc) (.slice none 0 0)) := ⟨PairsIn.tame (PairsIn.tame HPb.out HQ5.out HTr.out) Hke.out HTo.out, RowAt.nil _ _, DataIn.tame HD5.out Hke.out HTo.out, RowAt.nil _ _⟩
      have HRf : Hid (RdW ((w5.setCell ⟨ob, 6, none⟩ (.int .i64 x4)).setCell ⟨ob, 8, none⟩ (.slice da x5.length dc)) rb r5) := Blk.below' HR5.out Hke.out Hro.out
      have HXf := Lib.hid (HX5.out.below' Hke.out (Nat.ne_of_lt Hxo.out))
      have HKf : Hid (Kept (· = rb) w ((w5.setCell ⟨ob, 6, none⟩ (.int .i64 x4)).setCell ⟨ob, 8, none⟩ (.slice da x5.length dc))) := ((HK5.out.setNew ob 6 (.int .i64 x4) Hso.out).setNew ob 8 (.slice da x5.length dc) Hso.out)
      have hbc := HB5.out.cell
      have hbf := HB5.out.free
      have HEq : Hid ((r.object k).1.bad = false → ({ obj0 k with parent := par, lab := l, pages := x4, data := x5 } : WObj) = (r.object k).2) := fun hb => by
        rw [HOk.out] at hb ⊢
        simp only at hb
        have h2 := Hm4.out (Hm5.out hb)
        rw [HLq.out h2]
      rw [HOk.out] at HEq
      simp only at HEq
      clear HTo HTr Hke
      go_wp2_with fail
      go_meet
      exact ⟨({ obj0 k with parent := par, lab := l, pages := x4, data := x5 }), _, _, _, _, HBf, HVf, Lib.hid ⟨rfl, by rw [HOk.out]; exact HEq.out⟩, by rw [HOk.out]; exact HRf, HKf, HXf⟩
    have k2b : ((k : Int) == 2) = false := by simp; omega
    by_cases k4 : k = 4
    · have k4b : ((k : Int) == 4) = true := by simp [k4]
      rw [if_neg k1, if_neg k2, if_pos k4] at HOk
      clear k1 k2 k4
      obtain ⟨G, hG⟩ : ∃ G, r2.s.length + 1 = G := ⟨_, rfl⟩
      have HSt0 : Hid (MapsSt r2 G G r2 []) := by rw [← hG]; exact Lib.hid (MapsSt.begin r2)
      have hGl : G ≤ 100001 := by omega
      rw [hG] at HOk
      obtain ⟨i0, hi0, hz0, hz1, hz2⟩ := info_parts info_map
      have Hi0 := Lib.hid hi0; have Hz0 := Lib.hid hz0; have Hz1 := Lib.hid hz1; have Hz2 := Lib.hid hz2
      clear hi0 hz0 hz1 hz2 hG
      go_wp2_with fail
      go_loopg [] G (fun g wx => ∃ (rj : Rd) (ms : List WMap) (A : Value), Hid (MapsSt r2 G g rj ms) ∧ Hid (Blk wx ob #[.int .i64 (k : Nat), .int .i64 par, .int .i64 (l.d : Nat), .slice la l.ps.length lc, .int .i64 0, .slice none 0 0, .int .i64 0, .int .i64 0, .slice none 0 0, A, .int .i64 0, .int .i64 0] 107) ∧ Hid (wx.ownsRow (ob + 1) 157 5 A ms.length (ms.flatMap mapV)) ∧ Hid (PairsIn wx (.slice la l.ps.length lc) l.ps) ∧ Hid (RdW wx rb rj) ∧ Hid (Blk wx xb #[.int .i64 0, .int .i64 0, .int .i64 0, .slice none 0 0, .int .i64 0, .slice none 0 0, .int .i64 0, .int .i64 0, .slice none 0 0, .slice none 0 0, .int .i64 0, .int .i64 0] 107) ∧ Hid (Kept (· = rb) w wx))
      case atStart => exact ⟨r2, [], .slice none 0 0, HSt0, HB2, Lib.hid (World.ownsRow_nil _ _ _ _), HPb, HRb, HXb, HKb⟩
      case round =>
        rename Nat => g
        obtain ⟨rj, ms, A, HS, HB, HA, HP, HR, HXr, HK⟩ := hrel
        have hsl := HS.out.sl
        have hml := HS.out.len
        have Hov := Lib.hid (over_any rb rj (by omega) wr HR.out)
        have HEnd : Hid (∀ w3, Below wr.heap.size wr w3 → (rj.over = true ∨ rj.bad = true) → ∃ (o : WObj) (ls lc0 vd vm : Value), Hid (Blk w3 ob #[.int .i64 (k : Nat), .int .i64 o.parent, .int .i64 (o.lab.d : Nat), ls, .int .i64 (o.clr.d : Nat), lc0, .int .i64 o.pages, .int .i64 o.names, vd, vm, .int .i64 o.space, .int .i64 o.pc] 107) ∧ Hid (ObjV w3 o ls lc0 vd vm) ∧ Hid (o.kind = (k : Nat) ∧ ((r.object k).1.bad = false → o = (r.object k).2)) ∧ Hid (RdW w3 rb (r.object k).1) ∧ Hid (Kept (· = rb) w w3) ∧ Hid (Blk w3 xb #[.int .i64 0, .int .i64 0, .int .i64 0, .slice none 0 0, .int .i64 0, .slice none 0 0, .int .i64 0, .int .i64 0, .slice none 0 0, .slice none 0 0, .int .i64 0, .int .i64 0] 107)) := fun w3 hb3 hob => by
          obtain ⟨f1, f2⟩ := HS.out.fin hob
          have e1 : (r.object k).1 = rj := by rw [HOk.out]; exact f1
          have e2 : rj.bad = false → ({ obj0 k with parent := par, lab := l, maps := ms } : WObj) = (r.object k).2 := fun hb => by
            have h2 : r2.bad = false := by
              have h3 : (Rd.maps G r2).1.bad = false := by rw [f1]; exact hb
              exact (maps_pot G r2 h3).1
            rw [HOk.out]
            simp only
            rw [HLq.out h2, f2 hb]
          refine ⟨{ obj0 k with parent := par, lab := l, maps := ms }, _, _, _, _, Lib.hid (HB.out.below hb3 HB.out.lt), Lib.hid ⟨RowAt.below HP.out hb3 (Nat.le_refl _), RowAt.nil _ _, RowAt.nil _ _, RowAt.own (row_kept HA.out (T := fun _ => False) (Kept.of_below hb3) (fun _ _ h => h))⟩, Lib.hid ⟨rfl, ?_⟩, ?_, Lib.hid (HK.out.trans (Kept.of_below hb3)), Lib.hid (HXr.out.below hb3 HXr.out.lt)⟩
          · rw [e1]; exact e2
          · rw [e1]; exact Lib.hid (Blk.below HR.out hb3 (Blk.lt HR.out))
        cases ho : rj.over with
        | true =>
          rw [ho] at Hov
          have HE := Lib.hid (fun w3 h3 => HEnd.out w3 h3 (.inl ho))
          clear ho HEnd
          go_wp2_with fail
          refine Hov.out.mono ?_
          rintro e w3 ⟨rfl, hb3⟩
          have HE3 := HE.out w3 hb3
          go_wp2_with fail
          go_meet
          exact HE3
        | false =>
          rw [ho] at Hov
          cases hbd : rj.bad with
          | true =>
            have HE := Lib.hid (fun w3 h3 => HEnd.out w3 h3 (.inr hbd))
            clear ho HEnd
            go_wp2_with fail
            refine Hov.out.mono ?_
            rintro e w3 ⟨rfl, hb3⟩
            have HE3 := HE.out w3 hb3
            have hcr : w3.cell? ⟨rb, 1, none⟩ = some (.bool true) := by rw [(Blk.below HR.out hb3 (Blk.lt HR.out)).cell 1, hbd]; rfl
            clear hbd
            go_wp2_with fail
            go_meet
            exact HE3
          | false =>
            obtain ⟨g', hg', hnx⟩ := HS.out.next ho hbd
            have Hnx := Lib.hid hnx
            clear ho HEnd hnx
            go_wp2_with fail
            refine Hov.out.mono ?_
            rintro e w3 ⟨rfl, hb3⟩
            have hcr : w3.cell? ⟨rb, 1, none⟩ = some (.bool false) := by rw [(Blk.below HR.out hb3 (Blk.lt HR.out)).cell 1, hbd]; rfl
            have HR3 : Hid (RdW w3 rb rj) := Blk.below HR.out hb3 (Blk.lt HR.out)
            have HK3 : Hid (Kept (· = rb) w w3) := HK.out.trans (Kept.of_below hb3)
            have HB3 := Lib.hid (HB.out.below hb3 HB.out.lt)
            have HX3 := Lib.hid (HXr.out.below hb3 HXr.out.lt)
            have HP3 : Hid (PairsIn w3 (.slice la l.ps.length lc) l.ps) := RowAt.below HP.out hb3 (Nat.le_refl _)
            have HA3 := Lib.hid (row_kept HA.out (T := fun _ => False) (Kept.of_below hb3) (fun _ _ h => h))
            clear hbd hb3 HB HA HP HR HXr HK Hov
            go_upto_region 9 with fail
            have hA2 : w3.drew.cell? ⟨ob, 9, none⟩ = some A := (HB3.out.drew.cell 9).trans rfl
            have hA2' : w3.cell? ⟨ob, 9, none⟩ = some A := (HB3.out.cell 9).trans rfl
            have Hone : Hid (Calls Tryz.prog 90 #[.pointer (some ⟨rb, 0, none⟩)] w3.drew fun e w' => ∃ v, e = .returned v ∧ ∃ m : WMap, v = .agg #[.int .i64 m.at_, .int .u64 m.seg, .int .i64 m.from_, .int .i64 m.n, .bool m.wr] ∧ (rj.one.1.bad = false → m = rj.one.2) ∧ RdW w' rb rj.one.1 ∧ Kept (· = rb) w3.drew w') := by
              refine (rone_any g0 rb rj (by omega) hg w3.drew (HW.out _ HK3.out.drew) HR3.out.drew).mono ?_
              rintro e w' ⟨m, rfl, h1, h2, h3⟩
              exact ⟨_, rfl, m, rfl, h1, h2, h3⟩
            have Honez : Hid (∀ wz, wz = w3.drew → Calls Tryz.prog 90 #[.pointer (some ⟨rb, 0, none⟩)] wz fun e w' => ∃ v, e = .returned v ∧ ∃ m : WMap, v = .agg #[.int .i64 m.at_, .int .u64 m.seg, .int .i64 m.from_, .int .i64 m.n, .bool m.wr] ∧ (rj.one.1.bad = false → m = rj.one.2) ∧ RdW w' rb rj.one.1 ∧ Kept (· = rb) w3.drew w') := fun wz e => by rw [e]; exact Hone.out
            have hty : ∀ b' cs ty fz, A.ownBlock = some b' → w3.heap[b']? = some (.cells cs ty fz) → ty = 157 ∧ ob + 1 ≤ b' := fun b' cs ty fz e hh => by
              obtain ⟨cur, h1, h2⟩ := row_type HA3.out e
              rw [h1] at hh
              simp at hh
              exact ⟨hh.2.1.symm, h2⟩
            have Hty := Lib.hid hty
            have HG9 : Hid (∀ w9 w5' (m : WMap), Kept (· = rb) w3.drew w9 → RdW w9 rb rj.one.1 → (w9.alloc (.cells #[.int .i64 m.at_, .int .u64 m.seg, .int .i64 m.from_, .int .i64 m.n, .bool m.wr] 157)).grownBy w5' A.ownBlock → Blk w5' ob #[.int .i64 (k : Nat), .int .i64 par, .int .i64 (l.d : Nat), .slice la l.ps.length lc, .int .i64 0, .slice none 0 0, .int .i64 0, .int .i64 0, .slice none 0 0, A, .int .i64 0, .int .i64 0] 107 ∧ Blk w5' xb #[.int .i64 0, .int .i64 0, .int .i64 0, .slice none 0 0, .int .i64 0, .slice none 0 0, .int .i64 0, .int .i64 0, .slice none 0 0, .slice none 0 0, .int .i64 0, .int .i64 0] 107 ∧ RdW w5' rb rj.one.1 ∧ PairsIn w5' (.slice la l.ps.length lc) l.ps ∧ Kept (· = rb) w w5') := fun w9 w5' m hk9 hr9 hg5 => by
              have hk5 := kept_grown hg5
              have hno : ∀ {b' cs ty}, Blk w3 b' cs ty → ty ≠ 157 → A.ownBlock = some b' → False := fun {b' cs ty} hb hne e => hne (Hty.out b' cs ty _ e hb).1
              refine ⟨((HB3.out.drew.below' hk9 (Ne.symm Hro.out)).alloc _).below' hk5 (hno HB3.out (by decide)), ((HX3.out.drew.below' hk9 (Nat.ne_of_gt Hrx.out)).alloc _).below' hk5 (hno HX3.out (by decide)), (Blk.alloc hr9 _).below' hk5 (hno HR3.out (by decide)), ?_, ?_⟩
              · have h1 : PairsIn w3.drew (.slice la l.ps.length lc) l.ps := RowAt.below HP3.out ((Below.refl _ w3).drew) (Nat.le_refl _)
                have h2 := PairsIn.tame h1 hk9 (tame_blk HR3.out.drew (by decide))
                have h3 : PairsIn (w9.alloc (.cells #[.int .i64 m.at_, .int .u64 m.seg, .int .i64 m.from_, .int .i64 m.n, .bool m.wr] 157)) (.slice la l.ps.length lc) l.ps := RowAt.below h2 ((Below.refl _ w9).alloc (Nat.le_refl _) _) (Nat.le_refl _)
                refine RowAt.kept h3 hk5 (fun b' cs fz e hh => ?_)
                obtain ⟨cur, hc3, -⟩ := row_type HA3.out e
                have hlt : b' < w3.heap.size := (Array.getElem?_eq_some_iff.1 hc3).1
                have hne : b' ≠ rb := fun e' => by
                  have := HR3.out
                  unfold RdW Blk at this
                  rw [e', this] at hc3
                  simp at hc3
                have h9 : w9.heap[b']? = some (.cells cur 157 (0, 0)) := by
                  rw [hk9.block b' (by simpa using hlt) hne, drew_heapR]; exact hc3
                have h9s : b' < w9.heap.size := (Array.getElem?_eq_some_iff.1 h9).1
                rw [((Below.refl _ w9).alloc (Nat.le_refl _) (.cells #[.int .i64 m.at_, .int .u64 m.seg, .int .i64 m.from_, .int .i64 m.n, .bool m.wr] 157)).block b' h9s, h9] at hh
                simp at hh
              · refine ((HK3.out.drew.trans hk9).alloc _).then hk5 (fun b' hb' e => ?_)
                have h1 := (Hty.out b' _ _ _ e (row_type HA3.out e).choose_spec.1).2
                have h2 := Hso.out
                omega
            have hAr : Hid (∀ b', A.ownBlock = some b' → ¬ b' = rb) := fun b' e h => by
              obtain ⟨cur, h1, h2⟩ := row_type HA3.out e
              have h3 := Hrx.out; have h4 := Hxo.out
              omega
            have h1c : Hid (∀ m : WMap, ∀ u ∈ [Value.int .i64 m.at_, .int .u64 m.seg, .int .i64 m.from_, .int .i64 m.n, .bool m.wr], u.oneCell' = true) := fun m u hu => by
              simp at hu
              rcases hu with rfl | rfl | rfl | rfl | rfl <;> rfl
            have hobs : Hid (∀ w9, Kept (· = rb) w3.drew w9 → ob + 1 ≤ w9.heap.size + 1) := fun w9 q => by
              have h1 := q.size
              have h2 := HB3.out.lt
              rw [drew_size] at h1
              omega
            clear hty hcr
            first
            | go_region_law (first
              | (refine step_call (by rfl) (ex_call (vs := #[.pointer (some ⟨rb, 0, none⟩)]) (by simp [Act.eval, Act.put]) (enters_fn Tryz.func90 (by kernel_rfl) rfl)) (Honez.out _ (by first | rfl | exact drew_eq w3)) ?_; rintro v w9 ⟨m, rfl, hm9, hr9, hk9⟩; have hA3 : w9.cell? ⟨ob, 9, none⟩ = some A := ((HB3.out.drew.below' hk9 (Ne.symm Hro.out)).cell 9).trans rfl; have hA4 : (w9.alloc (.cells #[.int .i64 m.at_, .int .u64 m.seg, .int .i64 m.from_, .int .i64 m.n, .bool m.wr] 157)).cell? ⟨ob, 9, none⟩ = some A := (((HB3.out.drew.below' hk9 (Ne.symm Hro.out)).alloc _).cell 9).trans rfl)
              | (refine step_append_lies _ (by rfl) (.tmp 42) (.tmp 45) 99 (by rfl) (ob + 1) 157 i0 _ 5 40 Tryz.underlying99 Hi0.out Hz0.out Hz1.out Hz2.out rfl (by decide) A ms.length (ms.flatMap mapV) (by simp [Act.eval]) (row_kept HA3.out ((((Kept.refl (· = rb) w3).drew).trans hk9).alloc _) (hAr.out)) ⟨w9.heap.size, 0, none⟩ 1 1 [.int .i64 m.at_, .int .u64 m.seg, .int .i64 m.from_, .int .i64 m.n, .bool m.wr] (by simp [Act.eval]) rfl (World.news_of_block (Blk.new w9 #[.int .i64 m.at_, .int .u64 m.seg, .int .i64 m.from_, .int .i64 m.n, .bool m.wr] 157)) (h1c.out m) (by omega) (by unfold maxLen; omega) (by omega) (by rw [World.size_alloc]; exact hobs.out w9 hk9) _ rfl ?_; intro g5 cap w5' hown5 hgrow5 _ _; have hA5 : w5'.cell? ⟨ob, 9, none⟩ = some A := ((HG9.out w9 w5' m hk9 hr9 hgrow5).1.cell 9).trans rfl; have hf5 : w5'.frozen? ⟨ob, 9, none⟩ = false := (HG9.out w9 w5' m hk9 hr9 hgrow5).1.free 9))
            | fail
            all_goals
              obtain ⟨hB5, hX5, hR5, hP5, hK5⟩ := HG9.out w9 w5' m hk9 hr9 hgrow5
              have hgo : g5 ≠ ob := fun e => by
                obtain ⟨cur, hh, -⟩ := row_type (b := g5) hown5 rfl
                rw [e] at hh
                unfold Blk at hB5
                rw [hB5] at hh
                simp at hh
              have HBn : Hid (Blk (w5'.setCell ⟨ob, 9, none⟩ (.slice (some ⟨g5, 0, none⟩) (ms.length + 1) cap)) ob #[.int .i64 (k : Nat), .int .i64 par, .int .i64 (l.d : Nat), .slice la l.ps.length lc, .int .i64 0, .slice none 0 0, .int .i64 0, .int .i64 0, .slice none 0 0, .slice (some ⟨g5, 0, none⟩) (ms.length + 1) cap, .int .i64 0, .int .i64 0] 107) := (hB5.set 9 _).cells (by simp only [List.setIfInBounds_toArray, List.set_cons_zero, List.set_cons_succ])
              have Hse : Hid (Kept (· = ob) w5' (w5'.setCell ⟨ob, 9, none⟩ (.slice (some ⟨g5, 0, none⟩) (ms.length + 1) cap))) := (Kept.refl (· = ob) w5').setIn ob 9 _ rfl
              have HXn := Lib.hid (hX5.below' Hse.out (Nat.ne_of_lt Hxo.out))
              have HRn : Hid (RdW (w5'.setCell ⟨ob, 9, none⟩ (.slice (some ⟨g5, 0, none⟩) (ms.length + 1) cap)) rb rj.one.1) := Blk.below' hR5 Hse.out Hro.out
              have HPn := Lib.hid (PairsIn.tame hP5 Hse.out (tame_blk hB5 (by decide)))
              have HKn : Hid (Kept (· = rb) w (w5'.setCell ⟨ob, 9, none⟩ (.slice (some ⟨g5, 0, none⟩) (ms.length + 1) cap))) := hK5.setNew ob 9 _ Hso.out
              have HAn : Hid ((w5'.setCell ⟨ob, 9, none⟩ (.slice (some ⟨g5, 0, none⟩) (ms.length + 1) cap)).ownsRow (ob + 1) 157 5 (.slice (some ⟨g5, 0, none⟩) (ms.length + 1) cap) (ms ++ [m]).length ((ms ++ [m]).flatMap mapV)) := by
                have h1 := row_kept hown5 Hse.out (fun b e h => hgo (by cases e; exact h))
                rw [List.length_append, List.flatMap_append]
                exact h1
              have HMn := Lib.hid hm9
              clear hB5 hX5 hR5 hP5 hK5 hgrow5 hown5 hk9 hr9 hA3 hA4 hA5 hf5 hm9
              have HSn := Lib.hid (Hnx.out m HMn.out)
              (try simp only [Exit.inBlock, Exit.then])
              go_wp2_with fail
              go_roundg g'
              case measure => omega
              case rel => exact ⟨rj.one.1, ms ++ [m], _, HSn, HBn, HAn, HPn, HRn, HXn, HKn⟩
    have k4b : ((k : Int) == 4) = false := by simp; omega
    by_cases k35 : k = 3 ∨ k = 5
    · rw [if_neg k1, if_neg k2, if_neg k4, if_pos k35] at HOk
      have hk : ((k : Int) == 3) = true ∨ (((k : Int) == 3) = false ∧ ((k : Int) == 5) = true) := by
        rcases Decidable.em (k = 3) with h | h
        · exact .inl (by simp [h])
        · exact .inr ⟨by simp; omega, by simp; omega⟩
      clear k35
      rcases hk with k3 | ⟨k3, k5⟩
      all_goals
        have Hn4 := Lib.hid (rlabel_any g0 rb r2 hlr2 hg wb (HW.out _ HKb.out) HRb.out)
        have hln4 := label_len r2
        have Hm4 : Hid (r2.label.1.bad = false → r2.bad = false) := fun h => (label_pot h).1
        obtain ⟨⟨r4, x4⟩, e4⟩ : ∃ p, r2.label = p := ⟨_, rfl⟩
        rw [e4] at Hn4 hln4 Hm4 HOk
        simp only at Hn4 hln4 Hm4 HOk
        clear e4
        go_wp2_with fail
        refine Hn4.out.mono ?_
        rintro e w4 ⟨cv, c, rfl, hcv, hceq, hR4, hk4⟩
        obtain ⟨cs, rfl, hcp⟩ := hcv
        obtain ⟨ca, cc, rfl, -, -⟩ := RowAt.form hcp
        have HC4 : Hid (PairsIn w4 (.slice ca c.ps.length cc) c.ps) := hcp
        have HCq4 := Lib.hid hceq
        have HR4 := Lib.hid hR4
        have HK4 : Hid (Kept (· = rb) w w4) := HKb.out.trans hk4
        have HQ4 : Hid (Kept (· = rb) wb w4) := HQb.out.trans hk4
        have HB4 := Lib.hid (HB2.out.below' hk4 (Ne.symm Hro.out))
        have HX4 := Lib.hid (HXb.out.below' hk4 (Ne.symm (Nat.ne_of_lt Hrx.out)))
        have hlr4 : r4.s.length ≤ 100000 := by omega
        clear hR4 hk4 Hn4 hcp hceq
        have Hn5 := Lib.hid (rnum_any g0 rb r4 hlr4 hg w4 (HW.out _ HK4.out) HR4.out)
        have hln5 := num_len r4
        have Hm5 : Hid (r4.num.1.bad = false → r4.bad = false) := fun h => (num_pot h).1
        obtain ⟨⟨r5, x5⟩, e5⟩ : ∃ p, r4.num = p := ⟨_, rfl⟩
        rw [e5] at Hn5 hln5 Hm5 HOk
        simp only at Hn5 hln5 Hm5 HOk
        clear e5
        go_wp2_with fail
        refine Hn5.out.mono ?_
        rintro e w5 ⟨rfl, hR5, hk5⟩
        have HR5 := Lib.hid hR5
        have HK5 : Hid (Kept (· = rb) w w5) := HK4.out.trans hk5
        have HQ5 : Hid (Kept (· = rb) wb w5) := HQ4.out.trans hk5
        have HB5 := Lib.hid (HB4.out.below' hk5 (Ne.symm Hro.out))
        have HX5 := Lib.hid (HX4.out.below' hk5 (Ne.symm (Nat.ne_of_lt Hrx.out)))
        have hlr5 : r5.s.length ≤ 100000 := by omega
        have HKc4 : Hid (Kept (· = rb) w4 w5) := hk5
        clear hR5 hk5 Hn5
        have Hn6 := Lib.hid (rnum_any g0 rb r5 hlr5 hg w5 (HW.out _ HK5.out) HR5.out)
        have hln6 := num_len r5
        have Hm6 : Hid (r5.num.1.bad = false → r5.bad = false) := fun h => (num_pot h).1
        obtain ⟨⟨r6, x6⟩, e6⟩ : ∃ p, r5.num = p := ⟨_, rfl⟩
        rw [e6] at Hn6 hln6 Hm6 HOk
        simp only at Hn6 hln6 Hm6 HOk
        clear e6
        go_wp2_with fail
        refine Hn6.out.mono ?_
        rintro e w6 ⟨rfl, hR6, hk6⟩
        have HR6 := Lib.hid hR6
        have HK6 : Hid (Kept (· = rb) w w6) := HK5.out.trans hk6
        have HQ6 : Hid (Kept (· = rb) wb w6) := HQ5.out.trans hk6
        have HB6 := Lib.hid (HB5.out.below' hk6 (Ne.symm Hro.out))
        have HX6 := Lib.hid (HX5.out.below' hk6 (Ne.symm (Nat.ne_of_lt Hrx.out)))
        have hlr6 : r6.s.length ≤ 100000 := by omega
        have HKc5 : Hid (Kept (· = rb) w4 w6) := HKc4.out.trans hk6
        clear hR6 hk6 Hn6
        have HKc : Hid (Kept (· = rb) w4 w6) := HKc5.out
        have HBf : Hid (Blk ((((w6.setCell ⟨ob, 4, none⟩ (.int .i64 (c.d : Nat))).setCell ⟨ob, 5, none⟩ (.slice ca c.ps.length cc)).setCell ⟨ob, 10, none⟩ (.int .i64 x5)).setCell ⟨ob, 11, none⟩ (.int .i64 x6)) ob #[.int .i64 (k : Nat), .int .i64 par, .int .i64 (l.d : Nat), .slice la l.ps.length lc, .int .i64 (c.d : Nat), .slice ca c.ps.length cc, .int .i64 0, .int .i64 0, .slice none 0 0, .slice none 0 0, .int .i64 x5, .int .i64 x6] 107) := (((((HB6.out.set 4 (.int .i64 (c.d : Nat))).set 5 (.slice ca c.ps.length cc)).set 10 (.int .i64 x5)).set 11 (.int .i64 x6))).cells (by simp only [List.setIfInBounds_toArray, List.set_cons_zero, List.set_cons_succ])
        have Hke : Hid (Kept (· = ob) w6 ((((w6.setCell ⟨ob, 4, none⟩ (.int .i64 (c.d : Nat))).setCell ⟨ob, 5, none⟩ (.slice ca c.ps.length cc)).setCell ⟨ob, 10, none⟩ (.int .i64 x5)).setCell ⟨ob, 11, none⟩ (.int .i64 x6))) := (((((Kept.refl (· = ob) w6).setIn ob 4 (.int .i64 (c.d : Nat)) rfl).setIn ob 5 (.slice ca c.ps.length cc) rfl).setIn ob 10 (.int .i64 x5) rfl).setIn ob 11 (.int .i64 x6) rfl)
        have HTo := Lib.hid (tame_blk HB6.out (by decide))
        have HTr := Lib.hid (tame_blk HRb.out (by decide))
        have HVf : Hid (ObjV ((((w6.setCell ⟨ob, 4, none⟩ (.int .i64 (c.d : Nat))).setCell ⟨ob, 5, none⟩ (.slice ca c.ps.length cc)).setCell ⟨ob, 10, none⟩ (.int .i64 x5)).setCell ⟨ob, 11, none⟩ (.int .i64 x6)) ({ obj0 k with parent := par, lab := l, clr := c, space := x5, pc := x6 }) (.slice la l.ps.length lc) (.slice ca c.ps.length cc) (.slice none 0 0) (.slice none 0 0)) := ⟨PairsIn.tame (PairsIn.tame HPb.out HQ6.out HTr.out) Hke.out HTo.out, PairsIn.tame (PairsIn.tame HC4.out (HKc.out) (tame_blk HR4.out (by decide))) Hke.out HTo.out, RowAt.nil _ _, RowAt.nil _ _⟩
        have HRf : Hid (RdW ((((w6.setCell ⟨ob, 4, none⟩ (.int .i64 (c.d : Nat))).setCell ⟨ob, 5, none⟩ (.slice ca c.ps.length cc)).setCell ⟨ob, 10, none⟩ (.int .i64 x5)).setCell ⟨ob, 11, none⟩ (.int .i64 x6)) rb r6) := Blk.below' HR6.out Hke.out Hro.out
        have HXf := Lib.hid (HX6.out.below' Hke.out (Nat.ne_of_lt Hxo.out))
        have HKf : Hid (Kept (· = rb) w ((((w6.setCell ⟨ob, 4, none⟩ (.int .i64 (c.d : Nat))).setCell ⟨ob, 5, none⟩ (.slice ca c.ps.length cc)).setCell ⟨ob, 10, none⟩ (.int .i64 x5)).setCell ⟨ob, 11, none⟩ (.int .i64 x6))) := ((((HK6.out.setNew ob 4 (.int .i64 (c.d : Nat)) Hso.out).setNew ob 5 (.slice ca c.ps.length cc) Hso.out).setNew ob 10 (.int .i64 x5) Hso.out).setNew ob 11 (.int .i64 x6) Hso.out)
        have hbc := HB6.out.cell
        have hbf := HB6.out.free
        have HEq : Hid ((r.object k).1.bad = false → ({ obj0 k with parent := par, lab := l, clr := c, space := x5, pc := x6 } : WObj) = (r.object k).2) := fun hb => by
          rw [HOk.out] at hb ⊢
          simp only at hb
          have h4 := Hm5.out (Hm6.out hb)
          have h2 := Hm4.out h4
          rw [HLq.out h2]
          rw [HCq4.out h4]
        rw [HOk.out] at HEq
        simp only at HEq
        clear HTo HTr Hke
        go_wp2_with fail
        go_meet
        exact ⟨({ obj0 k with parent := par, lab := l, clr := c, space := x5, pc := x6 }), _, _, _, _, HBf, HVf, Lib.hid ⟨rfl, by rw [HOk.out]; exact HEq.out⟩, by rw [HOk.out]; exact HRf, HKf, HXf⟩
    have k3b : ((k : Int) == 3) = false := by simp; omega
    have k5b : ((k : Int) == 5) = false := by simp; omega
    rw [if_neg k1, if_neg k2, if_neg k4, if_neg k35] at HOk
    have HV0 : Hid (ObjV wb { obj0 k with parent := par, lab := l } (.slice la l.ps.length lc) (.slice none 0 0) (.slice none 0 0) (.slice none 0 0)) := ⟨HPb.out, RowAt.nil _ _, RowAt.nil _ _, RowAt.nil _ _⟩
    have HEq : Hid ((r.object k).1.bad = false → ({ obj0 k with parent := par, lab := l } : WObj) = (r.object k).2) := fun hb => by
      rw [HOk.out] at hb ⊢
      simp only at hb
      rw [HLq.out hb]
    rw [HOk.out] at HEq
    simp only at HEq
    go_wp2_with fail
    go_meet
    exact ⟨{ obj0 k with parent := par, lab := l }, _, _, _, _, HB2, HV0, Lib.hid ⟨rfl, by rw [HOk.out]; exact HEq.out⟩, by rw [HOk.out]; exact HRb, HKb, HXb⟩
  case rest =>
  rename World => w9
  obtain ⟨o, ls', lc', vd, vm, HB, HV, HO, HR, HK, HXx⟩ := hcut
  obtain ⟨a1, c1, hf1, -, -⟩ := RowAt.form HV.out.lab
  obtain ⟨a2, c2, hf2, -, -⟩ := RowAt.form HV.out.clr
  obtain ⟨a3, c3, hf3, -, -⟩ := RowAt.form HV.out.data
  obtain ⟨a4, c4, hf4, -, -⟩ := RowAt.form HV.out.maps
  subst hf1; subst hf2; subst hf3; subst hf4
  have hc := HB.out.cell
  have hcx := HXx.out.cell
  have hfx := HXx.out.free
  have hxo : xb ≠ ob := by have := Hxo.out; omega
  have hrx : rb ≠ xb := by have := Hrx.out; omega
  have hF := set12_blk HXx.out (.int .i64 (k : Nat)) (.int .i64 o.parent) (.int .i64 (o.lab.d : Nat)) (.slice a1 o.lab.ps.length c1) (.int .i64 (o.clr.d : Nat)) (.slice a2 o.clr.ps.length c2) (.int .i64 o.pages) (.int .i64 o.names) (.slice a3 o.data.length c3) (.slice a4 o.maps.length c4) (.int .i64 o.space) (.int .i64 o.pc)
  have hKs := set12_kept w9 xb (.int .i64 (k : Nat)) (.int .i64 o.parent) (.int .i64 (o.lab.d : Nat)) (.slice a1 o.lab.ps.length c1) (.int .i64 (o.clr.d : Nat)) (.slice a2 o.clr.ps.length c2) (.int .i64 o.pages) (.int .i64 o.names) (.slice a3 o.data.length c3) (.slice a4 o.maps.length c4) (.int .i64 o.space) (.int .i64 o.pc)
  have HVf := Lib.hid (HV.out.tame hKs (tame_blk HXx.out (by decide)))
  have HRf := Lib.hid (Blk.below' HR.out hKs hrx)
  have HKf := Lib.hid (HK.out.then hKs (fun b hb e => by have := Hsx.out; omega))
  have HF := Lib.hid hF
  clear hF hKs
  unfold set12 at HVf HRf HKf HF
  go_wp2_with fail
  refine bodyPost_ret (results_cell_row rfl _ _ xb _ _ (0, 0) _ rfl HF.out Tryz.underlying107 rfl (by kernel_rfl)) rfl ?_
  exact ⟨o, _, _, _, _, rfl, HVf.out, HO.out.1, HO.out.2, HRf.out, HKf.out⟩
end Go.Proofs.YtjjnidbggoaonaaGreatDoor
