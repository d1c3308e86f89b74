/- A plan's configuration. -/
import Derived.Test.YtjjnidbggoaonaaGreatDoorWoPl2
namespace Go.Proofs.YtjjnidbggoaonaaGreatDoor
open Go.RowKit
attribute [local irreducible] World.setCell World.alloc World.drew World.setRow Calls Code.wp
attribute [local go_sem] Oper.semAt_some

theorem info_slot2 : (Tryz.prog.info? 110).map (fun i => (i.zero, i.size, i.bytes)) = some (some (.agg #[.int .u64 0, .int .i64 0]), 2, 16) := by kernel_rfl
theorem info_obj2 : (Tryz.prog.info? 107).map (fun i => (i.zero, i.size, i.bytes)) = some (some (.agg #[.int .i64 0, .int .i64 0, .int .i64 0, .slice none 0 0, .int .i64 0, .slice none 0 0, .int .i64 0, .int .i64 0, .slice none 0 0, .slice none 0 0, .int .i64 0, .int .i64 0]), 12, 160) := by kernel_rfl
/-- A list, appended to nothing: a step of a drawn region. -/
theorem step_gappend {w : World} {ops : Array Oper} {o : Oper} {a : Act} {K : Act → World → Prop} {Q : Exit → Act → World → Prop} {Z : Prop} (hgd : o.guard = none) (x : Operand) (T E : TypeId)
    (ho : o.op = .call { callee := .builtin .append, args := #[.const (.slice none 0 0), x], argTypes := #[T, T] }) (i : TypeInfo) (z : Value) (size bytes : Nat) (ht : Tryz.prog.underlying T = some (.slice E)) (hi : Tryz.prog.info? E = some i) (hz : i.zero = some z) (hs : i.size = size) (hby : i.bytes = bytes) (hzs : z.cells.size = size) (h0 : 0 < size) {v : Value} (hx : a.eval x = v) {n : Nat} {cells : List Value} (h : GRow w v n cells) (hl : cells.length = n * size) (h1 : ∀ u ∈ cells, u.oneCell' = true) (hn : n ≤ 100000) (hb8 : bytes ≤ 1000) (base : Nat) (hbase : base ≤ w.heap.size)
    (hk : ∀ A c w', w'.ownsRow base E size (.slice A n c) n cells → Below w.heap.size w w' → K (a.put o.dst (.slice A n c)) w') :
    if Region.wanted o (yielded ops a.tmps) = true then Oper.wp Tryz.prog o a w K Q else Z := by
  have hw : Region.wanted o (yielded ops a.tmps) = true := by simp [Region.wanted, hgd]
  rw [if_pos hw]
  obtain ⟨v', w', hr, h2, h3⟩ := gappend_nil (w := w) T E o.type i z size bytes ht hi hz hs hby hzs h0 h hl h1 hn hb8 base hbase
  obtain ⟨A, c, rfl, -, -⟩ := RowAt.form (RowAt.own h2)
  have hec : a.eval (.const (.slice none 0 0)) = .slice none 0 0 := rfl
  unfold Oper.wp execOp
  simp only [ho, resolve, invoke, builtin, Sem.run_bind, Sem.run_pure, Result.andThen_ok, List.map_toArray, List.map_cons, List.map_nil, hec, hx, hr]
  exact hk A c w' h2 h3
theorem step_gappend' {w : World} {ops : Array Oper} {o : Oper} {a : Act} {K : Act → World → Prop} {Q : Exit → Act → World → Prop} {Z : Prop} (hgd : o.guard = none) (x : Operand) (T E : TypeId)
    (ho : o.op = .call { callee := .builtin .append, args := #[.const (.slice none 0 0), x], argTypes := #[T, T] }) (i : TypeInfo) (z : Value) (size bytes : Nat) (ht : Tryz.prog.underlying T = some (.slice E)) (hi : Tryz.prog.info? E = some i) (hz : i.zero = some z) (hs : i.size = size) (hby : i.bytes = bytes) (hzs : z.cells.size = size) (h0 : 0 < size) {v : Value} (hx : a.eval x = v) (w0 : World) (hw0 : w = w0) {n : Nat} {cells : List Value} (h : GRow w0 v n cells) (hl : cells.length = n * size) (h1 : ∀ u ∈ cells, u.oneCell' = true) (hn : n ≤ 100000) (hb8 : bytes ≤ 1000) (base : Nat) (hbase : base ≤ w0.heap.size)
    (hk : ∀ A c w', w'.ownsRow base E size (.slice A n c) n cells → Below w0.heap.size w0 w' → K (a.put o.dst (.slice A n c)) w') :
    if Region.wanted o (yielded ops a.tmps) = true then Oper.wp Tryz.prog o a w K Q else Z := by
  subst hw0
  exact step_gappend hgd x T E ho i z size bytes ht hi hz hs hby hzs h0 hx h hl h1 hn hb8 base hbase hk
theorem wpList_gappend {w : World} {ops : Array Oper} {rest : List Oper} {o : Oper} {a : Act} {Q : Exit → Act → World → Prop} (hgd : o.guard = none) (x : Operand) (T E : TypeId)
    (ho : o.op = .call { callee := .builtin .append, args := #[.const (.slice none 0 0), x], argTypes := #[T, T] }) (i : TypeInfo) (z : Value) (size bytes : Nat) (ht : Tryz.prog.underlying T = some (.slice E)) (hi : Tryz.prog.info? E = some i) (hz : i.zero = some z) (hs : i.size = size) (hby : i.bytes = bytes) (hzs : z.cells.size = size) (h0 : 0 < size) {v : Value} (hx : a.eval x = v) {n : Nat} {cells : List Value} (h : GRow w v n cells) (hl : cells.length = n * size) (h1 : ∀ u ∈ cells, u.oneCell' = true) (hn : n ≤ 100000) (hb8 : bytes ≤ 1000) (base : Nat) (hbase : base ≤ w.heap.size)
    (hk : ∀ A c w', w'.ownsRow base E size (.slice A n c) n cells → Below w.heap.size w w' → wpList Tryz.prog ops Q rest (a.put o.dst (.slice A n c)) w') : wpList Tryz.prog ops Q (o :: rest) a w :=
  wpList_plain hgd fun _ hK => by
    obtain ⟨v', w', hr, h2, h3⟩ := gappend_nil (w := w) T E o.type i z size bytes ht hi hz hs hby hzs h0 h hl h1 hn hb8 base hbase
    obtain ⟨A, c, rfl, -, -⟩ := RowAt.form (RowAt.own h2)
    have hec : a.eval (.const (.slice none 0 0)) = .slice none 0 0 := rfl
    unfold Oper.wp execOp
    simp only [ho, resolve, invoke, builtin, Sem.run_bind, Sem.run_pure, Result.andThen_ok, List.map_toArray, List.map_cons, List.map_nil, hec, hx, hr]
    exact hK _ _ (hk A c w' h2 h3)
def OkTyO (ty : TypeId) : Prop := ty ≠ 57 ∧ ty ≠ 9 ∧ ty ≠ 110 ∧ ty ≠ 144 ∧ ty ≠ 157 ∧ ty ≠ 5
theorem PMem.trO {w wx w' : World} {cb xb : Nat} {lv : Value} {LS0 : List (List UInt8)} {x y z : Int} {sv ov : Value} {ss : List (Int × Int)} {os : List WObj} (h : PMem w wx cb xb lv LS0 x y z sv ov ss os) {ob : Nat} {cs : Array Value} {ty : TypeId} (hb : Blk wx ob cs ty) (ht : OkTyO ty) (hg : w.heap.size ≤ ob) (ho : ∀ b, ov.ownBlock = some b → b ≠ ob) (k : Kept (· = ob) wx w') : PMem w w' cb xb lv LS0 x y z sv ov ss os := by
  obtain ⟨sl, h1, h2, h3⟩ := h.objs
  have hT := blk_T hb
  exact ⟨blk_far h.cfg k hT ht.1, blk_far h.zero k hT ht.1, rowat_far h.lines k hT ht.2.1, row_far h.slots k hT ht.2.2.1, ⟨sl, h1, fun j o s hj hs => objv_far (h2 j o s hj hs) k hT ht.2.2.2, row_kept h3 k (fun b hb' e => ho b hb' e)⟩, h.kept.then k (fun i hi e => by omega)⟩
theorem slot_one (l : List (Int × Int)) : ∀ u ∈ l.flatMap slotV, u.oneCell' = true := fun u hu => by
  obtain ⟨s, _, h⟩ := List.mem_flatMap.1 hu
  simp [slotV] at h
  rcases h with rfl | rfl <;> rfl
theorem map_one (l : List WMap) : ∀ u ∈ l.flatMap mapV, u.oneCell' = true := fun u hu => by
  obtain ⟨s, _, h⟩ := List.mem_flatMap.1 hu
  simp [mapV] at h
  rcases h with rfl | rfl | rfl | rfl | rfl <;> rfl
theorem mem_sum_le : ∀ {l : List OSeed} {s : OSeed}, s ∈ l → seedW s ≤ (l.map seedW).sum
  | x :: l, s, h => by
    rw [List.map_cons, List.sum_cons]
    rcases List.mem_cons.1 h with rfl | h
    · omega
    · have := mem_sum_le h; omega
theorem bytes_oneG (l : List UInt8) : ∀ v ∈ l.map byteV, v.oneCell' = true := fun v hv => by obtain ⟨j, _, rfl⟩ := List.mem_map.1 hv; rfl
theorem slot_len (l : List (Int × Int)) : (l.flatMap slotV).length = l.length * 2 := by
  induction l with
  | nil => rfl
  | cons s r ih => rw [List.flatMap_cons, List.length_append, ih, List.length_cons]; show 2 + _ = _; omega
theorem map_len (l : List WMap) : (l.flatMap mapV).length = l.length * 5 := by
  induction l with
  | nil => rfl
  | cons s r ih => rw [List.flatMap_cons, List.length_append, ih, List.length_cons]; show 5 + _ = _; omega
set_option maxRecDepth 100000 in
set_option maxHeartbeats 8000000 in
theorem config_any (p : WPlan) (v : Value) (w : World) (h : PlanIn w v p) (hbd : p.bd) (hw8 : p.weight ≤ 3000) :
    Calls Tryz.prog 23 #[v] w fun e w' => ∃ sa sl sc oa ol oc, e = .returned (.agg #[.int .i64 p.cores, .int .i64 p.frames, .int .i64 p.names, .slice sa sl sc, .slice oa ol oc]) ∧ CfgIn w' (.agg #[.int .i64 p.cores, .int .i64 p.frames, .int .i64 p.names, .slice sa sl sc, .slice oa ol oc]) p.cfg ∧ Below w.heap.size w w' := by
  obtain ⟨sv, lv, Q, rfl, hS, hL0⟩ := h
  obtain ⟨sa, sc, rfl, -, -⟩ := hS.form
  obtain ⟨h1, la, lc, rfl, hc1, hc2, h4⟩ := hL0
  have hL : SeedsIn w (.slice la p.l.length lc) p.l Q := ⟨h1, la, lc, rfl, hc1, hc2, h4⟩
  clear h1 h4
  have hwq := weight_eq p
  have hl1 : p.slots.length ≤ 3000 := by omega
  have hl2 : p.l.length ≤ 3000 := by omega
  have hsl : ∀ s ∈ p.l, s.data.length ≤ 3000 ∧ s.maps.length ≤ 3000 := fun s hs => by
    have h1 : seedW s ≤ (p.l.map seedW).sum := mem_sum_le hs
    have h2 : seedW s = s.data.length + s.maps.length := rfl
    omega
  obtain ⟨xb, hxb⟩ : ∃ xb, xb = w.heap.size := ⟨_, rfl⟩
  obtain ⟨w1, hw1⟩ : ∃ w1 : World, w1 = (w.alloc (.cells #[.int .i64 p.cores, .int .i64 p.frames, .int .i64 p.names, .slice sa p.slots.length sc, .slice la p.l.length lc] 54)).alloc (.cells #[.int .i64 0, .int .i64 0, .int .i64 0, .slice none 0 0, .slice none 0 0] 57) := ⟨_, rfl⟩
  have HX : Hid (Blk w1 xb #[.int .i64 p.cores, .int .i64 p.frames, .int .i64 p.names, .slice sa p.slots.length sc, .slice la p.l.length lc] 54) := by rw [hw1, hxb]; exact (Blk.new _ _ _).alloc _
  have HZ : Hid (Blk w1 (xb + 1) #[.int .i64 0, .int .i64 0, .int .i64 0, .slice none 0 0, .slice none 0 0] 57) := by
    rw [hw1, hxb]
    have := Blk.new (w.alloc (.cells #[.int .i64 p.cores, .int .i64 p.frames, .int .i64 p.names, .slice sa p.slots.length sc, .slice la p.l.length lc] 54)) #[.int .i64 0, .int .i64 0, .int .i64 0, .slice none 0 0, .slice none 0 0] 57
    rw [World.size_alloc] at this
    exact this
  have HB1 : Hid (Below w.heap.size w w1) := by rw [hw1]; exact ((Below.refl _ w).alloc (Nat.le_refl _) _).alloc (by rw [World.size_alloc]; omega) _
  have HS := Lib.hid (fun w' (k : Below w.heap.size w w') => hS.below k (Nat.le_refl _))
  have HL := Lib.hid (fun w' (k : Below w.heap.size w w') => hL.below k (Nat.le_refl _))
  have Hbd := Lib.hid hbd.l
  have Hsl := Lib.hid hsl
  obtain ⟨i0, hi0, hz0, hz1, hz2⟩ := info_parts info_slot2
  have Hi0 := Lib.hid hi0; have Hz0 := Lib.hid hz0; have Hz1 := Lib.hid hz1; have Hz2 := Lib.hid hz2
  have HSS : Hid (∀ w', Below w1.heap.size w1 w' → w'.cell? ⟨xb, 0, none⟩ = some (.int .i64 p.cores) ∧ w'.cell? ⟨xb, 1, none⟩ = some (.int .i64 p.frames) ∧ w'.cell? ⟨xb, 2, none⟩ = some (.int .i64 p.names) ∧ w'.cell? ⟨xb, 3, none⟩ = some (.slice sa p.slots.length sc)) := fun w' k => by
    have h1 := Blk.below HX.out k HX.out.lt
    exact ⟨h1.cell 0, h1.cell 1, h1.cell 2, h1.cell 3⟩
  have HBd : Hid (Below w1.heap.size w1 w1.drew) := (Below.refl _ w1).drew
  have Hx1 : Hid (xb + 1 < w1.heap.size) := HZ.out.lt
  have Hxb := Lib.hid hxb
  have hsd : w1.heap.size ≤ w1.drew.heap.size := by simp
  have HBz : Hid (Below w1.heap.size w1 (w1.alloc (.cells #[.int .i64 0, .int .i64 0, .int .i64 0, .slice none 0 0, .slice none 0 0] 57)).drew) := ((Below.refl _ w1).alloc (Nat.le_refl _) _).drew
  have hz9 : HB1.out.size = HB1.out.size := rfl
  -- the block of the configuration, in either order
  have HFin : Hid (∀ (wq : World) (cb : Nat) (A : Option Addr) (c : Nat), Below w1.heap.size w1 wq → Blk wq cb #[.int .i64 0, .int .i64 0, .int .i64 0, .slice none 0 0, .slice none 0 0] 57 → w1.heap.size ≤ cb → wq.ownsRow w.heap.size 110 2 (.slice A p.slots.length c) p.slots.length (p.slots.flatMap slotV) →
      Below w1.heap.size w1 (set5 wq cb (.int .i64 p.cores) (.int .i64 p.frames) (.int .i64 p.names) (.slice A p.slots.length c) (.slice none 0 0)) ∧ PMem w (set5 wq cb (.int .i64 p.cores) (.int .i64 p.frames) (.int .i64 p.names) (.slice A p.slots.length c) (.slice none 0 0)) cb (xb + 1) (.slice none 0 0) [] p.cores p.frames p.names (.slice A p.slots.length c) (.slice none 0 0) p.slots []) := fun wq cb A c hb hblk hcb hrow => by
    have k5 := set5_kept wq cb (.int .i64 p.cores) (.int .i64 p.frames) (.int .i64 p.names) (.slice A p.slots.length c) (.slice none 0 0)
    have hB : Below w1.heap.size w1 (set5 wq cb (.int .i64 p.cores) (.int .i64 p.frames) (.int .i64 p.names) (.slice A p.slots.length c) (.slice none 0 0)) := ((Kept.of_below (S := fun _ => False) hb).then k5 (fun i hi e => by omega)).below (Nat.le_refl _) (fun _ _ f => f)
    have hne : xb + 1 ≠ cb := by have := Hx1.out; omega
    exact ⟨hB, set5_blk hblk _ _ _ _ _, Blk.below HZ.out hB HZ.out.lt, RowAt.nil _ _, row_far hrow k5 (blk_T hblk) (by decide), ⟨[], rfl, fun j o s hj => by simp at hj, World.ownsRow_nil _ _ _ _⟩, Kept.of_below (bel_from HB1.out hB)⟩
  have HNew : Hid (∀ (wq : World) (cb : Nat) (A : Option Addr) (c : Nat), Below w1.heap.size w1 wq → Blk wq cb #[.int .i64 p.cores, .int .i64 p.frames, .int .i64 p.names, .slice A p.slots.length c, .slice none 0 0] 57 → w1.heap.size ≤ cb → wq.ownsRow w.heap.size 110 2 (.slice A p.slots.length c) p.slots.length (p.slots.flatMap slotV) →
      Below w1.heap.size w1 wq ∧ PMem w wq cb (xb + 1) (.slice none 0 0) [] p.cores p.frames p.names (.slice A p.slots.length c) (.slice none 0 0) p.slots []) := fun wq cb A c hb hblk hcb hrow =>
    ⟨hb, hblk, Blk.below HZ.out hb HZ.out.lt, RowAt.nil _ _, hrow, ⟨[], rfl, fun j o s hj => by simp at hj, World.ownsRow_nil _ _ _ _⟩, Kept.of_below (bel_from HB1.out hb)⟩
  unfold set5 at HFin
  clear hS hL hbd hsl hi0 hz0 hz1 hz2 hz9
  go_enter Tryz.func23, Tryz.ntmps23
  go_upto_region 1 with fail
  rw [← hw1, ← hxb]
  clear hw1 hxb
  have hx0 := HSS.out _ HBd.out
  obtain ⟨hx0a, hx0b, hx0c, hx0d⟩ := hx0
  go_cut [3] (fun v wx => ∃ (cb : Nat) (A : Option Addr) (c : Nat), v = .pointer (some ⟨cb, 0, none⟩) ∧ Hid (w1.heap.size ≤ cb) ∧ Hid (Below w1.heap.size w1 wx) ∧ Hid (PMem w wx cb (xb + 1) (.slice none 0 0) [] p.cores p.frames p.names (.slice A p.slots.length c) (.slice none 0 0) p.slots []))
  case first =>
    first
    | go_region_held3 (fun w' => w'.cell? ⟨xb, 0, none⟩ = some (.int .i64 p.cores) ∧ w'.cell? ⟨xb, 1, none⟩ = some (.int .i64 p.frames) ∧ w'.cell? ⟨xb, 2, none⟩ = some (.int .i64 p.names) ∧ w'.cell? ⟨xb, 3, none⟩ = some (.slice sa p.slots.length sc))
        (first | exact HSS.out _ HBd.out | exact HSS.out _ hba | exact HSS.out _ HBz.out | exact HSS.out _ hbb | exact HSS.out _ (Below.alloc hba hba.size _) | exact HSS.out _ hfa.1 | exact HSS.out _ hfb.1)
        ((first
          | (refine step_gappend (by rfl) (.tmp 14) 51 110 (by rfl) i0 _ 2 16 Tryz.underlying51 Hi0.out Hz0.out Hz1.out Hz2.out rfl (by decide) rfl (HS.out _ (bel_from HB1.out HBd.out)) (slot_len _) (slot_one _) (by omega) (by omega) w.heap.size (bel_from HB1.out HBd.out).size ?_; intro A c wa howna hbA; have hba := bel_from HBd.out hbA; have hzA := Blk.new wa #[.int .i64 0, .int .i64 0, .int .i64 0, .slice none 0 0, .slice none 0 0] 57; have hzc := hzA.cell; have hzf := hzA.free; have hfa := HFin.out _ _ A c (hba.alloc hba.size _) hzA hba.size (howna.alloc _); have hfn := HNew.out (wa.alloc (.cells #[.int .i64 p.cores, .int .i64 p.frames, .int .i64 p.names, .slice A p.slots.length c, .slice none 0 0] 57)) wa.heap.size A c (hba.alloc hba.size _) (Blk.new _ _ _) hba.size (howna.alloc _))
          | (refine step_gappend (by rfl) (.tmp 14) 51 110 (by rfl) i0 _ 2 16 Tryz.underlying51 Hi0.out Hz0.out Hz1.out Hz2.out rfl (by decide) rfl (HS.out _ (bel_from HB1.out HBz.out)) (slot_len _) (slot_one _) (by omega) (by omega) w.heap.size (bel_from HB1.out HBz.out).size ?_; intro A c wb hownb hbB; have hbb := bel_from HBz.out hbB; have hzB := Blk.below (Blk.new w1 #[.int .i64 0, .int .i64 0, .int .i64 0, .slice none 0 0, .slice none 0 0] 57).drew hbB (Blk.new w1 #[.int .i64 0, .int .i64 0, .int .i64 0, .slice none 0 0, .slice none 0 0] 57).drew.lt; have hzc := hzB.cell; have hzf := hzB.free; have hfb := HFin.out _ _ A c hbb hzB (Nat.le_refl _) hownb)
          | fail))
    | fail
    all_goals
      go_wp2_with fail
      go_meet
      first
      | exact ⟨_, A, c, rfl, Lib.hid hba.size, Lib.hid hfn.1, Lib.hid hfn.2⟩
      | exact ⟨_, A, c, rfl, Lib.hid hba.size, Lib.hid hfa.1, Lib.hid hfa.2⟩
      | exact ⟨_, A, c, rfl, Lib.hid (Nat.le_refl _), Lib.hid hfb.1, Lib.hid hfb.2⟩
  case rest =>
  rename World => w2
  obtain ⟨cb, A, c, rfl, Hcb, HB2, HM2⟩ := hcut
  have HX2 := Lib.hid (Blk.below HX.out HB2.out HX.out.lt)
  have hcx := HX2.out.cell
  have Hcz : Hid (cb ≠ xb + 1) := by have h1 := Hcb.out; have h2 := Hx1.out; show _ ≠ _; omega
  have Hcg : Hid (w.heap.size ≤ cb) := Nat.le_trans HB1.out.size Hcb.out
  obtain ⟨i1, hi1, hy0, hy1, hy2⟩ := info_parts info_obj2
  have Hi1 := Lib.hid hi1; have Hy0 := Lib.hid hy0; have Hy1 := Lib.hid hy1; have Hy2 := Lib.hid hy2
  clear hi1 hy0 hy1 hy2 HFin HNew HSS HBd HBz hsd
  go_wp2_with fail
  clear hcx
  go_loopg [5, 6, 20] p.l.length (fun g _ _ vi wx => ∃ (k : Nat) (ov : Value), k + g = p.l.length ∧ vi = .int .i64 k ∧ Hid (PMem w wx cb (xb + 1) (.slice none 0 0) [] p.cores p.frames p.names (.slice A p.slots.length c) ov p.slots ((p.l.take k).map OSeed.obj)))
  case atStart => exact ⟨0, .slice none 0 0, by omega, rfl, HM2⟩
  case round =>
    obtain ⟨k, ov, hk, rfl, HM⟩ := hrel
    obtain ⟨sl, hsl, hsv, hso⟩ := HM.out.objs
    obtain ⟨oa, oc, rfl, -, -⟩ := RowAt.form (RowAt.own hso)
    by_cases hlt : k < p.l.length
    · have hlt' : (k : Int) < p.l.length := by omega
      obtain ⟨s, hs⟩ : ∃ s, p.l[k]? = some s := ⟨_, List.getElem?_eq_getElem hlt⟩
      obtain ⟨b, o, rfl, hV, hc⟩ := (HL.out wr HM.out.bel).at hs
      obtain ⟨l1, m1, hf1, -, -⟩ := hV.lab.form
      obtain ⟨l2, m2, hf2, -, -⟩ := hV.clr.form
      obtain ⟨l3, m3, hf3, -, -⟩ := hV.data.form
      obtain ⟨l4, m4, hf4, -, -⟩ := hV.maps.form
      have q0 : wr.cell? ⟨b, o + k * 12, none⟩ = some (.int .i64 s.kind) := by have := hc 0 (by omega); rw [Nat.add_zero] at this; rw [this]; rfl
      have q1 : wr.cell? ⟨b, o + k * 12 + 1, none⟩ = some (.int .i64 s.parent) := by rw [hc 1 (by omega)]; rfl
      have q2 : wr.cell? ⟨b, o + k * 12 + 2, none⟩ = some (.int .i64 s.lab.d) := by rw [hc 2 (by omega)]; rfl
      have q3 : wr.cell? ⟨b, o + k * 12 + 3, none⟩ = some (.slice l1 s.lab.ls.length m1) := by rw [hc 3 (by omega), ← hf1]; rfl
      have q4 : wr.cell? ⟨b, o + k * 12 + 4, none⟩ = some (.int .i64 s.clr.d) := by rw [hc 4 (by omega)]; rfl
      have q5 : wr.cell? ⟨b, o + k * 12 + 5, none⟩ = some (.slice l2 s.clr.ls.length m2) := by rw [hc 5 (by omega), ← hf2]; rfl
      have q6 : wr.cell? ⟨b, o + k * 12 + 6, none⟩ = some (.int .i64 s.pages) := by rw [hc 6 (by omega)]; rfl
      have q7 : wr.cell? ⟨b, o + k * 12 + 7, none⟩ = some (.int .i64 s.names) := by rw [hc 7 (by omega)]; rfl
      have q8 : wr.cell? ⟨b, o + k * 12 + 8, none⟩ = some (.slice l3 s.data.length m3) := by rw [hc 8 (by omega), ← hf3]; rfl
      have q9 : wr.cell? ⟨b, o + k * 12 + 9, none⟩ = some (.slice l4 s.maps.length m4) := by rw [hc 9 (by omega), ← hf4]; rfl
      have q10 : wr.cell? ⟨b, o + k * 12 + 10, none⟩ = some (.int .i64 s.space) := by rw [hc 10 (by omega)]; rfl
      have q11 : wr.cell? ⟨b, o + k * 12 + 11, none⟩ = some (.int .i64 s.pc) := by rw [hc 11 (by omega)]; rfl
      have hsm := List.mem_of_getElem? hs
      have Hsb := Lib.hid (Hbd.out s hsm)
      obtain ⟨hd3, hm3⟩ := Hsl.out s hsm
      have Htk : Hid ((p.l.take (k + 1)).map OSeed.obj = (p.l.take k).map OSeed.obj ++ [s.obj]) := by
        show _ = _
        rw [List.take_add_one, hs]; simp
      obtain ⟨sb, hsb⟩ : ∃ sb, sb = wr.heap.size := ⟨_, rfl⟩
      obtain ⟨w3, hw3⟩ : ∃ w3 : World, w3 = wr.alloc (.cells #[.int .i64 s.kind, .int .i64 s.parent, .int .i64 s.lab.d, .slice l1 s.lab.ls.length m1, .int .i64 s.clr.d, .slice l2 s.clr.ls.length m2, .int .i64 s.pages, .int .i64 s.names, .slice l3 s.data.length m3, .slice l4 s.maps.length m4, .int .i64 s.space, .int .i64 s.pc] 101) := ⟨_, rfl⟩
      have HSb : Hid (Blk w3 sb #[.int .i64 s.kind, .int .i64 s.parent, .int .i64 s.lab.d, .slice l1 s.lab.ls.length m1, .int .i64 s.clr.d, .slice l2 s.clr.ls.length m2, .int .i64 s.pages, .int .i64 s.names, .slice l3 s.data.length m3, .slice l4 s.maps.length m4, .int .i64 s.space, .int .i64 s.pc] 101) := by rw [hw3, hsb]; exact Blk.new _ _ _
      have HM3 : Hid (PMem w w3 cb (xb + 1) (.slice none 0 0) [] p.cores p.frames p.names (.slice A p.slots.length c) (.slice oa ((p.l.take k).map OSeed.obj).length oc) p.slots ((p.l.take k).map OSeed.obj)) := by rw [hw3]; exact HM.out.below ((Below.refl _ wr).alloc (Nat.le_refl _) _)
      have HV3 : Hid (∀ w', Below w3.heap.size w3 w' → GRow w' (.slice l1 s.lab.ls.length m1) s.lab.ls.length (s.lab.ls.map (Value.int .i64)) ∧ GRow w' (.slice l2 s.clr.ls.length m2) s.clr.ls.length (s.clr.ls.map (Value.int .i64)) ∧ GRow w' (.slice l3 s.data.length m3) s.data.length (s.data.map byteV) ∧ GRow w' (.slice l4 s.maps.length m4) s.maps.length (s.maps.flatMap mapV)) := fun w' kb => by
        rw [← hf1, ← hf2, ← hf3, ← hf4]
        have hb3 : Below wr.heap.size wr w' := by
          have := (Below.refl wr.heap.size wr).alloc (Nat.le_refl _) (.cells #[.int .i64 s.kind, .int .i64 s.parent, .int .i64 s.lab.d, .slice l1 s.lab.ls.length m1, .int .i64 s.clr.d, .slice l2 s.clr.ls.length m2, .int .i64 s.pages, .int .i64 s.names, .slice l3 s.data.length m3, .slice l4 s.maps.length m4, .int .i64 s.space, .int .i64 s.pc] 101)
          rw [← hw3] at this
          exact bel_from this kb
        have hv' := hV.below hb3 (Nat.le_refl _)
        exact ⟨hv'.lab, hv'.clr, hv'.data, hv'.maps⟩
      have Hsg : Hid (w.heap.size ≤ sb) := by rw [hsb]; exact HM.out.kept.size
      clear hc hs hV hf1 hf2 hf3 hf4 hsm hsl hsv hso HM
      go_upto_region 5 with fail
      rw [← hw3, ← hsb]
      clear hw3 hsb q0 q1 q2 q3 q4 q5 q6 q7 q8 q9 q10 q11
      have Hsl2 : Hid (∀ w', Below w3.heap.size w3 w' → Blk w' sb #[.int .i64 s.kind, .int .i64 s.parent, .int .i64 s.lab.d, .slice l1 s.lab.ls.length m1, .int .i64 s.clr.d, .slice l2 s.clr.ls.length m2, .int .i64 s.pages, .int .i64 s.names, .slice l3 s.data.length m3, .slice l4 s.maps.length m4, .int .i64 s.space, .int .i64 s.pc] 101) := fun w' kb => Blk.below HSb.out kb HSb.out.lt
      have HSk : Hid (∀ w', Blk w' sb #[.int .i64 s.kind, .int .i64 s.parent, .int .i64 s.lab.d, .slice l1 s.lab.ls.length m1, .int .i64 s.clr.d, .slice l2 s.clr.ls.length m2, .int .i64 s.pages, .int .i64 s.names, .slice l3 s.data.length m3, .slice l4 s.maps.length m4, .int .i64 s.space, .int .i64 s.pc] 101 → w'.cell? ⟨sb, 0, none⟩ = some (.int .i64 s.kind) ∧ w'.cell? ⟨sb, 1, none⟩ = some (.int .i64 s.parent) ∧ w'.cell? ⟨sb, 2, none⟩ = some (.int .i64 s.lab.d) ∧ w'.cell? ⟨sb, 3, none⟩ = some (.slice l1 s.lab.ls.length m1)) := fun w' hb => ⟨hb.cell 0, hb.cell 1, hb.cell 2, hb.cell 3⟩
      have Hlab : Hid (∀ w', Below w3.heap.size w3 w' → Calls Tryz.prog 45 #[.agg #[.int .i64 s.lab.d, .slice l1 s.lab.ls.length m1]] w' fun e w'' => ∃ a c, e = .returned (.agg #[.int .i64 (s.lab.lab.d : Nat), .slice a s.lab.lab.ps.length c]) ∧ PairsIn w'' (.slice a s.lab.lab.ps.length c) s.lab.lab.ps ∧ Below w'.heap.size w' w'') := fun w' kb => lseed_any s.lab _ w' (HV3.out w' kb).1 Hsb.out.ls
      have Hcla : Hid (∀ w', Below w3.heap.size w3 w' → Calls Tryz.prog 45 #[.agg #[.int .i64 s.clr.d, .slice l2 s.clr.ls.length m2]] w' fun e w'' => ∃ a c, e = .returned (.agg #[.int .i64 (s.clr.lab.d : Nat), .slice a s.clr.lab.ps.length c]) ∧ PairsIn w'' (.slice a s.clr.lab.ps.length c) s.clr.lab.ps ∧ Below w'.heap.size w' w'') := fun w' kb => lseed_any s.clr _ w' (HV3.out w' kb).2.1 Hsb.out.cs
      have HB3d : Hid (Below w3.heap.size w3 w3.drew) := (Below.refl _ w3).drew
      have HB3z : Hid (Below w3.heap.size w3 (w3.alloc (.cells #[.int .i64 0, .int .i64 0, .int .i64 0, .slice none 0 0, .int .i64 0, .slice none 0 0, .int .i64 0, .int .i64 0, .slice none 0 0, .slice none 0 0, .int .i64 0, .int .i64 0] 107)).drew) := ((Below.refl _ w3).alloc (Nat.le_refl _) _).drew
      have hs0 := HSk.out _ (Hsl2.out _ HB3d.out)
      obtain ⟨hs0a, hs0b, hs0c, hs0d⟩ := hs0
      -- the object's block, in either order
      have HStr : Hid (∀ (wq : World) (ob : Nat) (a : Option Addr) (c : Nat), Below w3.heap.size w3 wq → Blk wq ob #[.int .i64 0, .int .i64 0, .int .i64 0, .slice none 0 0, .int .i64 0, .slice none 0 0, .int .i64 0, .int .i64 0, .slice none 0 0, .slice none 0 0, .int .i64 0, .int .i64 0] 107 → w3.heap.size ≤ ob → PairsIn wq (.slice a s.lab.lab.ps.length c) s.lab.lab.ps →
          Below w3.heap.size w3 (set12 wq ob (.int .i64 s.kind) (.int .i64 s.parent) (.int .i64 (s.lab.lab.d : Nat)) (.slice a s.lab.lab.ps.length c) (.int .i64 0) (.slice none 0 0) (.int .i64 0) (.int .i64 0) (.slice none 0 0) (.slice none 0 0) (.int .i64 0) (.int .i64 0)) ∧ Blk (set12 wq ob (.int .i64 s.kind) (.int .i64 s.parent) (.int .i64 (s.lab.lab.d : Nat)) (.slice a s.lab.lab.ps.length c) (.int .i64 0) (.slice none 0 0) (.int .i64 0) (.int .i64 0) (.slice none 0 0) (.slice none 0 0) (.int .i64 0) (.int .i64 0)) ob #[.int .i64 s.kind, .int .i64 s.parent, .int .i64 (s.lab.lab.d : Nat), .slice a s.lab.lab.ps.length c, .int .i64 0, .slice none 0 0, .int .i64 0, .int .i64 0, .slice none 0 0, .slice none 0 0, .int .i64 0, .int .i64 0] 107 ∧ PairsIn (set12 wq ob (.int .i64 s.kind) (.int .i64 s.parent) (.int .i64 (s.lab.lab.d : Nat)) (.slice a s.lab.lab.ps.length c) (.int .i64 0) (.slice none 0 0) (.int .i64 0) (.int .i64 0) (.slice none 0 0) (.slice none 0 0) (.int .i64 0) (.int .i64 0)) (.slice a s.lab.lab.ps.length c) s.lab.lab.ps) := fun wq ob a c hb hblk hob hp => by
        have k12 := set12_kept wq ob (.int .i64 s.kind) (.int .i64 s.parent) (.int .i64 (s.lab.lab.d : Nat)) (.slice a s.lab.lab.ps.length c) (.int .i64 0) (.slice none 0 0) (.int .i64 0) (.int .i64 0) (.slice none 0 0) (.slice none 0 0) (.int .i64 0) (.int .i64 0)
        exact ⟨((Kept.of_below (S := fun _ => False) hb).then k12 (fun i hi e => by omega)).below (Nat.le_refl _) (fun _ _ f => f), set12_blk hblk (.int .i64 s.kind) (.int .i64 s.parent) (.int .i64 (s.lab.lab.d : Nat)) (.slice a s.lab.lab.ps.length c) (.int .i64 0) (.slice none 0 0) (.int .i64 0) (.int .i64 0) (.slice none 0 0) (.slice none 0 0) (.int .i64 0) (.int .i64 0), rowat_far hp k12 (blk_T hblk) (by decide)⟩
      unfold set12 at HStr
      go_cut [6] (fun v wx => ∃ (ob : Nat) (a : Option Addr) (c : Nat), v = .pointer (some ⟨ob, 0, none⟩) ∧ Hid (w3.heap.size ≤ ob) ∧ Hid (Below w3.heap.size w3 wx) ∧ Hid (Blk wx ob #[.int .i64 s.kind, .int .i64 s.parent, .int .i64 (s.lab.lab.d : Nat), .slice a s.lab.lab.ps.length c, .int .i64 0, .slice none 0 0, .int .i64 0, .int .i64 0, .slice none 0 0, .slice none 0 0, .int .i64 0, .int .i64 0] 107) ∧ Hid (PairsIn wx (.slice a s.lab.lab.ps.length c) s.lab.lab.ps))
      case first =>
        first
        | go_region_held3 (fun w' => w'.cell? ⟨sb, 0, none⟩ = some (.int .i64 s.kind) ∧ w'.cell? ⟨sb, 1, none⟩ = some (.int .i64 s.parent) ∧ w'.cell? ⟨sb, 2, none⟩ = some (.int .i64 s.lab.d) ∧ w'.cell? ⟨sb, 3, none⟩ = some (.slice l1 s.lab.ls.length m1))
            (first | exact HSk.out _ (Hsl2.out _ HB3d.out) | exact HSk.out _ (Hsl2.out _ hba) | exact HSk.out _ (Hsl2.out _ HB3z.out) | exact HSk.out _ (Hsl2.out _ hbb) | exact HSk.out _ (Hsl2.out _ (Below.alloc hba hba.size _)) | exact HSk.out _ (Hsl2.out _ hfa.1) | exact HSk.out _ (Hsl2.out _ hfb.1))
            ((first
              | (refine (Hlab.out _ HB3d.out).mono ?_; rintro e wa ⟨a, c, rfl, hpa, hbA⟩; have hba := bel_from HB3d.out hbA; have hzA := Blk.new wa #[.int .i64 0, .int .i64 0, .int .i64 0, .slice none 0 0, .int .i64 0, .slice none 0 0, .int .i64 0, .int .i64 0, .slice none 0 0, .slice none 0 0, .int .i64 0, .int .i64 0] 107; have hzc := hzA.cell; have hzf := hzA.free; have hfa := HStr.out _ _ a c (hba.alloc hba.size _) hzA hba.size (RowAt.below hpa ((Below.refl _ wa).alloc (Nat.le_refl _) _) (Nat.le_refl _)); have hnB : Below w3.heap.size w3 (wa.alloc (.cells #[.int .i64 s.kind, .int .i64 s.parent, .int .i64 (s.lab.lab.d : Nat), .slice a s.lab.lab.ps.length c, .int .i64 0, .slice none 0 0, .int .i64 0, .int .i64 0, .slice none 0 0, .slice none 0 0, .int .i64 0, .int .i64 0] 107)) := hba.alloc hba.size _; have hnK : Blk (wa.alloc (.cells #[.int .i64 s.kind, .int .i64 s.parent, .int .i64 (s.lab.lab.d : Nat), .slice a s.lab.lab.ps.length c, .int .i64 0, .slice none 0 0, .int .i64 0, .int .i64 0, .slice none 0 0, .slice none 0 0, .int .i64 0, .int .i64 0] 107)) wa.heap.size #[.int .i64 s.kind, .int .i64 s.parent, .int .i64 (s.lab.lab.d : Nat), .slice a s.lab.lab.ps.length c, .int .i64 0, .slice none 0 0, .int .i64 0, .int .i64 0, .slice none 0 0, .slice none 0 0, .int .i64 0, .int .i64 0] 107 := Blk.new _ _ _; have hnP : PairsIn (wa.alloc (.cells #[.int .i64 s.kind, .int .i64 s.parent, .int .i64 (s.lab.lab.d : Nat), .slice a s.lab.lab.ps.length c, .int .i64 0, .slice none 0 0, .int .i64 0, .int .i64 0, .slice none 0 0, .slice none 0 0, .int .i64 0, .int .i64 0] 107)) (.slice a s.lab.lab.ps.length c) s.lab.lab.ps := RowAt.below hpa ((Below.refl _ wa).alloc (Nat.le_refl _) _) (Nat.le_refl _))
              | (refine (Hlab.out _ HB3z.out).mono ?_; rintro e wb ⟨a, c, rfl, hpb, hbB⟩; have hbb := bel_from HB3z.out hbB; have hzB := Blk.below (Blk.new w3 #[.int .i64 0, .int .i64 0, .int .i64 0, .slice none 0 0, .int .i64 0, .slice none 0 0, .int .i64 0, .int .i64 0, .slice none 0 0, .slice none 0 0, .int .i64 0, .int .i64 0] 107).drew hbB (Blk.new w3 #[.int .i64 0, .int .i64 0, .int .i64 0, .slice none 0 0, .int .i64 0, .slice none 0 0, .int .i64 0, .int .i64 0, .slice none 0 0, .slice none 0 0, .int .i64 0, .int .i64 0] 107).drew.lt; have hzc := hzB.cell; have hzf := hzB.free; have hfb := HStr.out _ _ a c hbb hzB (Nat.le_refl _) hpb)
              | fail))
        | fail
        all_goals
          go_wp2_with fail
          go_meet
          first
          | exact ⟨_, a, c, rfl, Lib.hid hba.size, Lib.hid hnB, Lib.hid hnK, Lib.hid hnP⟩
          | exact ⟨_, a, c, rfl, Lib.hid hba.size, Lib.hid hfa.1, Lib.hid hfa.2.1, Lib.hid hfa.2.2⟩
          | exact ⟨_, a, c, rfl, Lib.hid (Nat.le_refl _), Lib.hid hfb.1, Lib.hid hfb.2.1, Lib.hid hfb.2.2⟩
      case rest =>
      rename World => w4
      obtain ⟨ob, a, c5, rfl, Hob, HB4, HO4, HP4⟩ := hcut
      have HM4 := Lib.hid (HM3.out.below HB4.out)
      have HSb4 := Lib.hid (Hsl2.out _ HB4.out)
      have Hos : Hid (ob ≠ sb) := by have h1 := HSb.out.lt; have h2 := Hob.out; show _ ≠ _; omega
      have Hog : Hid (w.heap.size ≤ ob) := Nat.le_trans HM3.out.kept.size Hob.out
      have Hov : Hid (∀ b', (Value.slice oa ((p.l.take k).map OSeed.obj).length oc).ownBlock = some b' → b' ≠ ob) := fun b' hb' e => by
        obtain ⟨sl3, -, -, h3⟩ := HM3.out.objs
        obtain ⟨cur, h4, -⟩ := row_type h3 hb'
        have h5 := (Array.getElem?_eq_some_iff.1 h4).1
        have h6 := Hob.out
        omega
      clear HStr HSk Hlab hs0a hs0b hs0c hs0d HB3z HM3
      have hcS := HSb4.out.cell
      go_upto_block 2 with fail
      go_cut [23, 33] (fun _ _ wx => ∃ (o' : WObj) (q : OSl), Hid (o' = s.obj) ∧ Hid (Blk wx ob #[.int .i64 o'.kind, .int .i64 o'.parent, .int .i64 (o'.lab.d : Nat), q.ls, .int .i64 (o'.clr.d : Nat), q.lc, .int .i64 o'.pages, .int .i64 o'.names, q.vd, q.vm, .int .i64 o'.space, .int .i64 o'.pc] 107) ∧ Hid (ObjV wx o' q.ls q.lc q.vd q.vm) ∧ Hid (PMem w wx cb (xb + 1) (.slice none 0 0) [] p.cores p.frames p.names (.slice A p.slots.length c) (.slice oa ((p.l.take k).map OSeed.obj).length oc) p.slots ((p.l.take k).map OSeed.obj)))
      case first =>
        have hO := HO4.out.cell
        have hF := HO4.out.free
        have hOd := HO4.out.drew.cell
        have hFd := HO4.out.drew.free
        have hcSd := HSb4.out.drew.cell
        have hos := Hos.out
        have hso := Ne.symm Hos.out
        have HB4d : Hid (Below w3.heap.size w3 w4.drew) := HB4.out.drew
        by_cases k1 : s.kind = 1
        · have k1b : (s.kind == 1) = true := by simp [k1]
          have HEq : Hid (({ obj0 s.kind with parent := s.parent, lab := s.lab.lab, pages := s.pages, names := s.names } : WObj) = s.obj) := by show _ = _; unfold OSeed.obj; simp only; rw [if_pos k1]
          have hke : Kept (· = ob) w4 ((w4.setCell ⟨ob, 6, none⟩ (.int .i64 s.pages)).setCell ⟨ob, 7, none⟩ (.int .i64 s.names)) := (((Kept.refl (· = ob) w4).setIn ob 6 (.int .i64 s.pages) rfl).setIn ob 7 (.int .i64 s.names) rfl)
          have hBf : Blk ((w4.setCell ⟨ob, 6, none⟩ (.int .i64 s.pages)).setCell ⟨ob, 7, none⟩ (.int .i64 s.names)) ob #[.int .i64 s.kind, .int .i64 s.parent, .int .i64 (s.lab.lab.d : Nat), .slice a s.lab.lab.ps.length c5, .int .i64 0, .slice none 0 0, .int .i64 s.pages, .int .i64 s.names, .slice none 0 0, .slice none 0 0, .int .i64 0, .int .i64 0] 107 := (((HO4.out.set 6 (.int .i64 s.pages)).set 7 (.int .i64 s.names))).cells (by simp only [List.setIfInBounds_toArray, List.set_cons_zero, List.set_cons_succ])
          have hVf : ObjV ((w4.setCell ⟨ob, 6, none⟩ (.int .i64 s.pages)).setCell ⟨ob, 7, none⟩ (.int .i64 s.names)) ({ obj0 s.kind with parent := s.parent, lab := s.lab.lab, pages := s.pages, names := s.names }) (.slice a s.lab.lab.ps.length c5) (.slice none 0 0) (.slice none 0 0) (.slice none 0 0) := ⟨rowat_far HP4.out hke (blk_T HO4.out) (by decide), RowAt.nil _ _, RowAt.nil _ _, RowAt.nil _ _⟩
          have hMf := PMem.trO HM4.out HO4.out (by unfold OkTyO; decide) Hog.out Hov.out hke
          have hBd := Blk.drew hBf
          have hVd := ObjV.below hVf ((Below.refl _ _).drew) (Nat.le_refl _)
          have hMd := hMf.below ((Below.refl _ _).drew)
          have HA1 := Lib.hid hBf; have HA2 := Lib.hid hVf; have HA3 := Lib.hid hMf; have HA4 := Lib.hid hBd; have HA5 := Lib.hid hVd; have HA6 := Lib.hid hMd
          clear hke hBf hVf hMf hBd hVd hMd k1
          go_upto_region 8 with fail
          go_region
          all_goals
            go_wp2_with fail
            go_meet
            first
            | exact ⟨_, ⟨.slice a s.lab.lab.ps.length c5, .slice none 0 0, .slice none 0 0, .slice none 0 0⟩, HEq, HA1, HA2, HA3⟩
            | exact ⟨_, ⟨.slice a s.lab.lab.ps.length c5, .slice none 0 0, .slice none 0 0, .slice none 0 0⟩, HEq, HA4, HA5, HA6⟩
        have k1b : (s.kind == 1) = false := by simpa using k1
        by_cases k2 : s.kind = 2
        · have k2b : (s.kind == 2) = true := by simp [k2]
          have HEq : Hid (({ obj0 s.kind with parent := s.parent, lab := s.lab.lab, pages := s.pages, data := s.data } : WObj) = s.obj) := by show _ = _; unfold OSeed.obj; simp only; rw [if_neg k1, if_pos k2]
          obtain ⟨iu, hu0, hu1, hu2, hu3⟩ := info_parts info5
          have Hu0 := Lib.hid hu0; have Hu1 := Lib.hid hu1; have Hu2 := Lib.hid hu2; have Hu3 := Lib.hid hu3
          clear hu0 hu1 hu2 hu3 k1 k2
          go_upto_region 10 with fail
          first
          | go_region_law (refine step_gappend' (by rfl) (.tmp 47) 27 5 (by rfl) iu _ 1 1 Tryz.underlying27 Hu0.out Hu1.out Hu2.out Hu3.out rfl (by decide) (by first | rfl | simp [Act.eval] | simp [Act.eval, Act.put]) w4.drew (by first | rfl | exact drew_eq w4) (HV3.out _ HB4d.out).2.2.1 (by simp) (bytes_oneG _) (by omega) (by omega) 0 (Nat.zero_le _) ?_; intro dA dc w5 hown5 hb5; have hS5 := (Blk.below HSb4.out.drew hb5 HSb4.out.drew.lt).cell; have hO5b := Blk.below HO4.out.drew hb5 HO4.out.drew.lt; have hO5 := hO5b.cell; have hF5 := hO5b.free)
          | fail
          all_goals
            have hP5 : PairsIn w5 (.slice a s.lab.lab.ps.length c5) s.lab.lab.ps := RowAt.below (RowAt.below HP4.out ((Below.refl _ w4).drew) (Nat.le_refl _) : PairsIn w4.drew _ _) hb5 (Nat.le_refl _)
            have hM5 := (HM4.out.below ((Below.refl _ w4).drew)).below hb5
            have hke : Kept (· = ob) w5 ((w5.setCell ⟨ob, 6, none⟩ (.int .i64 s.pages)).setCell ⟨ob, 8, none⟩ (.slice dA s.data.length dc)) := (((Kept.refl (· = ob) w5).setIn ob 6 (.int .i64 s.pages) rfl).setIn ob 8 (.slice dA s.data.length dc) rfl)
            have hBf : Blk ((w5.setCell ⟨ob, 6, none⟩ (.int .i64 s.pages)).setCell ⟨ob, 8, none⟩ (.slice dA s.data.length dc)) ob #[.int .i64 s.kind, .int .i64 s.parent, .int .i64 (s.lab.lab.d : Nat), .slice a s.lab.lab.ps.length c5, .int .i64 0, .slice none 0 0, .int .i64 s.pages, .int .i64 0, .slice dA s.data.length dc, .slice none 0 0, .int .i64 0, .int .i64 0] 107 := (((hO5b.set 6 (.int .i64 s.pages)).set 8 (.slice dA s.data.length dc))).cells (by simp only [List.setIfInBounds_toArray, List.set_cons_zero, List.set_cons_succ])
            have hVf : ObjV ((w5.setCell ⟨ob, 6, none⟩ (.int .i64 s.pages)).setCell ⟨ob, 8, none⟩ (.slice dA s.data.length dc)) ({ obj0 s.kind with parent := s.parent, lab := s.lab.lab, pages := s.pages, data := s.data }) (.slice a s.lab.lab.ps.length c5) (.slice none 0 0) (.slice dA s.data.length dc) (.slice none 0 0) := ⟨rowat_far hP5 hke (blk_T hO5b) (by decide), RowAt.nil _ _, rowat_far (RowAt.own hown5) hke (blk_T hO5b) (by decide), RowAt.nil _ _⟩
            have hMf := PMem.trO hM5 hO5b (by unfold OkTyO; decide) Hog.out Hov.out hke
            have hBd := Blk.drew hBf
            have hVd := ObjV.below hVf ((Below.refl _ _).drew) (Nat.le_refl _)
            have hMd := hMf.below ((Below.refl _ _).drew)
            go_wp2_with fail
            go_meet
            first
            | exact ⟨_, ⟨.slice a s.lab.lab.ps.length c5, .slice none 0 0, .slice dA s.data.length dc, .slice none 0 0⟩, HEq, Lib.hid hBf, Lib.hid hVf, Lib.hid hMf⟩
            | exact ⟨_, ⟨.slice a s.lab.lab.ps.length c5, .slice none 0 0, .slice dA s.data.length dc, .slice none 0 0⟩, HEq, Lib.hid hBd, Lib.hid hVd, Lib.hid hMd⟩
        have k2b : (s.kind == 2) = false := by simpa using k2
        by_cases k4 : s.kind = 4
        · have k4b : (s.kind == 4) = true := by simp [k4]
          have HEq : Hid (({ obj0 s.kind with parent := s.parent, lab := s.lab.lab, maps := s.maps } : WObj) = s.obj) := by show _ = _; unfold OSeed.obj; simp only; rw [if_neg k1, if_neg k2, if_pos k4]
          obtain ⟨iu, hu0, hu1, hu2, hu3⟩ := info_parts info_map
          have Hu0 := Lib.hid hu0; have Hu1 := Lib.hid hu1; have Hu2 := Lib.hid hu2; have Hu3 := Lib.hid hu3
          clear hu0 hu1 hu2 hu3 k1 k2 k4
          go_wp2_with (at_builtin; refine wpList_gappend rfl _ 99 157 rfl iu _ 5 40 Tryz.underlying99 Hu0.out Hu1.out Hu2.out Hu3.out rfl (by decide) rfl (HV3.out _ HB4.out).2.2.2 (map_len _) (map_one _) (by omega) (by omega) 0 (Nat.zero_le _) ?_; intro dA dc w5 hown5 hb5; have hO5b := Blk.below HO4.out hb5 HO4.out.lt; have hO5 := hO5b.cell; have hF5 := hO5b.free)
          have hP5 : PairsIn w5 (.slice a s.lab.lab.ps.length c5) s.lab.lab.ps := RowAt.below HP4.out hb5 (Nat.le_refl _)
          have hM5 := HM4.out.below hb5
          have hke : Kept (· = ob) w5 (w5.setCell ⟨ob, 9, none⟩ (.slice dA s.maps.length dc)) := ((Kept.refl (· = ob) w5).setIn ob 9 (.slice dA s.maps.length dc) rfl)
          have hBf : Blk (w5.setCell ⟨ob, 9, none⟩ (.slice dA s.maps.length dc)) ob #[.int .i64 s.kind, .int .i64 s.parent, .int .i64 (s.lab.lab.d : Nat), .slice a s.lab.lab.ps.length c5, .int .i64 0, .slice none 0 0, .int .i64 0, .int .i64 0, .slice none 0 0, .slice dA s.maps.length dc, .int .i64 0, .int .i64 0] 107 := ((hO5b.set 9 (.slice dA s.maps.length dc))).cells (by simp only [List.setIfInBounds_toArray, List.set_cons_zero, List.set_cons_succ])
          have hVf : ObjV (w5.setCell ⟨ob, 9, none⟩ (.slice dA s.maps.length dc)) ({ obj0 s.kind with parent := s.parent, lab := s.lab.lab, maps := s.maps }) (.slice a s.lab.lab.ps.length c5) (.slice none 0 0) (.slice none 0 0) (.slice dA s.maps.length dc) := ⟨rowat_far hP5 hke (blk_T hO5b) (by decide), RowAt.nil _ _, RowAt.nil _ _, rowat_far (RowAt.own hown5) hke (blk_T hO5b) (by decide)⟩
          have hMf := PMem.trO hM5 hO5b (by unfold OkTyO; decide) Hog.out Hov.out hke
          have hBd := Blk.drew hBf
          have hVd := ObjV.below hVf ((Below.refl _ _).drew) (Nat.le_refl _)
          have hMd := hMf.below ((Below.refl _ _).drew)
          go_meet
          first
          | exact ⟨_, ⟨.slice a s.lab.lab.ps.length c5, .slice none 0 0, .slice none 0 0, .slice dA s.maps.length dc⟩, HEq, Lib.hid hBf, Lib.hid hVf, Lib.hid hMf⟩
          | exact ⟨_, ⟨.slice a s.lab.lab.ps.length c5, .slice none 0 0, .slice none 0 0, .slice dA s.maps.length dc⟩, HEq, Lib.hid hBd, Lib.hid hVd, Lib.hid hMd⟩
        have k4b : (s.kind == 4) = false := by simpa using k4
        by_cases k35 : s.kind = 3 ∨ s.kind = 5
        · have HEq : Hid (({ obj0 s.kind with parent := s.parent, lab := s.lab.lab, clr := s.clr.lab, space := s.space, pc := s.pc } : WObj) = s.obj) := by show _ = _; unfold OSeed.obj; simp only; rw [if_neg k1, if_neg k2, if_neg k4, if_pos k35]
          have hk : (s.kind == 3) = true ∨ ((s.kind == 3) = false ∧ (s.kind == 5) = true) := by
            rcases Decidable.em (s.kind = 3) with h | h
            · exact .inl (by simp [h])
            · exact .inr ⟨by simpa using h, by rcases k35 with h' | h'; exact absurd h' h; simp [h']⟩
          have HSk : Hid (∀ w', Blk w' sb #[.int .i64 s.kind, .int .i64 s.parent, .int .i64 s.lab.d, .slice l1 s.lab.ls.length m1, .int .i64 s.clr.d, .slice l2 s.clr.ls.length m2, .int .i64 s.pages, .int .i64 s.names, .slice l3 s.data.length m3, .slice l4 s.maps.length m4, .int .i64 s.space, .int .i64 s.pc] 101 → w'.cell? ⟨sb, 4, none⟩ = some (.int .i64 s.clr.d) ∧ w'.cell? ⟨sb, 5, none⟩ = some (.slice l2 s.clr.ls.length m2) ∧ w'.cell? ⟨sb, 10, none⟩ = some (.int .i64 s.space) ∧ w'.cell? ⟨sb, 11, none⟩ = some (.int .i64 s.pc)) := fun w' hb => ⟨hb.cell 4, hb.cell 5, hb.cell 10, hb.cell 11⟩
          clear k1 k2 k4 k35
          rcases hk with k3 | ⟨k3, k5⟩
          all_goals
            go_upto_region 15 with fail
            first
            | go_region_held3 (fun w' => w'.cell? ⟨sb, 4, none⟩ = some (.int .i64 s.clr.d) ∧ w'.cell? ⟨sb, 5, none⟩ = some (.slice l2 s.clr.ls.length m2) ∧ w'.cell? ⟨sb, 10, none⟩ = some (.int .i64 s.space) ∧ w'.cell? ⟨sb, 11, none⟩ = some (.int .i64 s.pc))
                (first | exact HSk.out _ HSb4.out.drew | exact HSk.out _ hS5 | exact HSk.out _ hS6 | exact HSk.out _ hS7 | exact HSk.out _ hS8)
                ((first
                  | (refine (Hcla.out _ HB4d.out).mono ?_; rintro e w5 ⟨ca, cc, rfl, hcp, hb5⟩; have hS5 := Blk.below HSb4.out.drew hb5 HSb4.out.drew.lt; have hO5b := Blk.below HO4.out.drew hb5 HO4.out.drew.lt; have hO5 := hO5b.cell; have hF5 := hO5b.free; have hS6 := (hS5.set_other (a := ⟨ob, 4, none⟩) Hos.out (.int .i64 (s.clr.lab.d : Nat))).set_other (a := ⟨ob, 5, none⟩) Hos.out (.slice ca s.clr.lab.ps.length cc); have hS7 := hS6.set_other (a := ⟨ob, 8 + 2, none⟩) Hos.out (.int .i64 s.space); have hS8 := hS7.set_other (a := ⟨ob, 8 + 3, none⟩) Hos.out (.int .i64 s.pc))
                  | fail))
            | fail
            all_goals
              have hP5 : PairsIn w5 (.slice a s.lab.lab.ps.length c5) s.lab.lab.ps := RowAt.below (RowAt.below HP4.out ((Below.refl _ w4).drew) (Nat.le_refl _) : PairsIn w4.drew _ _) hb5 (Nat.le_refl _)
              have hM5 := (HM4.out.below ((Below.refl _ w4).drew)).below hb5
              have hke : Kept (· = ob) w5 ((((w5.setCell ⟨ob, 4, none⟩ (.int .i64 (s.clr.lab.d : Nat))).setCell ⟨ob, 5, none⟩ (.slice ca s.clr.lab.ps.length cc)).setCell ⟨ob, 10, none⟩ (.int .i64 s.space)).setCell ⟨ob, 11, none⟩ (.int .i64 s.pc)) := (((((Kept.refl (· = ob) w5).setIn ob 4 (.int .i64 (s.clr.lab.d : Nat)) rfl).setIn ob 5 (.slice ca s.clr.lab.ps.length cc) rfl).setIn ob 10 (.int .i64 s.space) rfl).setIn ob 11 (.int .i64 s.pc) rfl)
              have hBf : Blk ((((w5.setCell ⟨ob, 4, none⟩ (.int .i64 (s.clr.lab.d : Nat))).setCell ⟨ob, 5, none⟩ (.slice ca s.clr.lab.ps.length cc)).setCell ⟨ob, 10, none⟩ (.int .i64 s.space)).setCell ⟨ob, 11, none⟩ (.int .i64 s.pc)) ob #[.int .i64 s.kind, .int .i64 s.parent, .int .i64 (s.lab.lab.d : Nat), .slice a s.lab.lab.ps.length c5, .int .i64 (s.clr.lab.d : Nat), .slice ca s.clr.lab.ps.length cc, .int .i64 0, .int .i64 0, .slice none 0 0, .slice none 0 0, .int .i64 s.space, .int .i64 s.pc] 107 := (((((hO5b.set 4 (.int .i64 (s.clr.lab.d : Nat))).set 5 (.slice ca s.clr.lab.ps.length cc)).set 10 (.int .i64 s.space)).set 11 (.int .i64 s.pc))).cells (by simp only [List.setIfInBounds_toArray, List.set_cons_zero, List.set_cons_succ])
              have hVf : ObjV ((((w5.setCell ⟨ob, 4, none⟩ (.int .i64 (s.clr.lab.d : Nat))).setCell ⟨ob, 5, none⟩ (.slice ca s.clr.lab.ps.length cc)).setCell ⟨ob, 10, none⟩ (.int .i64 s.space)).setCell ⟨ob, 11, none⟩ (.int .i64 s.pc)) ({ obj0 s.kind with parent := s.parent, lab := s.lab.lab, clr := s.clr.lab, space := s.space, pc := s.pc }) (.slice a s.lab.lab.ps.length c5) (.slice ca s.clr.lab.ps.length cc) (.slice none 0 0) (.slice none 0 0) := ⟨rowat_far hP5 hke (blk_T hO5b) (by decide), rowat_far hcp hke (blk_T hO5b) (by decide), RowAt.nil _ _, RowAt.nil _ _⟩
              have hMf := PMem.trO hM5 hO5b (by unfold OkTyO; decide) Hog.out Hov.out hke
              have hBd := Blk.drew hBf
              have hVd := ObjV.below hVf ((Below.refl _ _).drew) (Nat.le_refl _)
              have hMd := hMf.below ((Below.refl _ _).drew)
              go_wp2_with fail
              go_meet
              first
              | exact ⟨_, ⟨.slice a s.lab.lab.ps.length c5, .slice ca s.clr.lab.ps.length cc, .slice none 0 0, .slice none 0 0⟩, HEq, Lib.hid hBf, Lib.hid hVf, Lib.hid hMf⟩
              | exact ⟨_, ⟨.slice a s.lab.lab.ps.length c5, .slice ca s.clr.lab.ps.length cc, .slice none 0 0, .slice none 0 0⟩, HEq, Lib.hid hBd, Lib.hid hVd, Lib.hid hMd⟩
        · have k3b : (s.kind == 3) = false := by simp; exact fun h => k35 (.inl h)
          have k5b : (s.kind == 5) = false := by simp; exact fun h => k35 (.inr h)
          have HEq : Hid (({ obj0 s.kind with parent := s.parent, lab := s.lab.lab } : WObj) = s.obj) := by show _ = _; unfold OSeed.obj; simp only; rw [if_neg k1, if_neg k2, if_neg k4, if_neg k35]
          have HVf : Hid (ObjV w4 { obj0 s.kind with parent := s.parent, lab := s.lab.lab } (.slice a s.lab.lab.ps.length c5) (.slice none 0 0) (.slice none 0 0) (.slice none 0 0)) := ⟨HP4.out, RowAt.nil _ _, RowAt.nil _ _, RowAt.nil _ _⟩
          clear k1 k2 k4 k35
          go_wp2_with fail
          go_meet
          exact ⟨_, ⟨.slice a s.lab.lab.ps.length c5, .slice none 0 0, .slice none 0 0, .slice none 0 0⟩, HEq, HO4, HVf, HM4⟩
      case rest =>
      rename World => w5
      obtain ⟨o', q, HEq, HO5, HV5, HM5⟩ := hcut
      obtain ⟨a1, c1, hf1, -, -⟩ := RowAt.form HV5.out.lab
      obtain ⟨a2, c2, hf2, -, -⟩ := RowAt.form HV5.out.clr
      obtain ⟨a3, c3, hf3, -, -⟩ := RowAt.form HV5.out.data
      obtain ⟨a4, c4, hf4, -, -⟩ := RowAt.form HV5.out.maps
      rw [hf1, hf2, hf3, hf4] at HO5 HV5
      clear hf1 hf2 hf3 hf4
      obtain ⟨sl5, g1, g2, g3⟩ := HM5.out.objs
      have hlk : ((p.l.take k).map OSeed.obj).length ≤ 3000 := by rw [List.length_map, List.length_take]; omega
      obtain ⟨OS, hOS⟩ : ∃ OS, (p.l.take k).map OSeed.obj = OS := ⟨_, rfl⟩
      rw [hOS] at HM5 Htk hlk g1 g2 g3
      have hO5 := HO5.out.cell
      have hC5 : w5.cell? ⟨cb, 4, none⟩ = some (.slice oa OS.length oc) := (HM5.out.cfg.cell 4).trans rfl
      clear hcS HM4 HO4 HP4 HSb4 Hov Hos HB4 Hob HV3 Hsl2 Hcla HSb hOS
      have hOC := HM5.out.cfg.cell
      have h1cO : Hid (∀ u ∈ [Value.int .i64 o'.kind, Value.int .i64 o'.parent, Value.int .i64 (o'.lab.d : Nat), Value.slice a1 o'.lab.ps.length c1, Value.int .i64 (o'.clr.d : Nat), Value.slice a2 o'.clr.ps.length c2, Value.int .i64 o'.pages, Value.int .i64 o'.names, Value.slice a3 o'.data.length c3, Value.slice a4 o'.maps.length c4, Value.int .i64 o'.space, Value.int .i64 o'.pc], u.oneCell' = true) := fun u hu => by
        simp at hu
        rcases hu with rfl | rfl | rfl | rfl | rfl | rfl | rfl | rfl | rfl | rfl | rfl | rfl <;> rfl
      go_wp2_with (at_builtin; refine wpList_append_lies _ rfl _ _ 55 rfl w.heap.size 107 i1 _ 12 160 Tryz.underlying55 Hi1.out Hy0.out Hy1.out Hy2.out rfl (by decide) _ OS.length (objsC OS sl5) rfl (g3.alloc _) ⟨w5.heap.size, 0, none⟩ 1 1 [.int .i64 o'.kind, .int .i64 o'.parent, .int .i64 (o'.lab.d : Nat), .slice a1 o'.lab.ps.length c1, .int .i64 (o'.clr.d : Nat), .slice a2 o'.clr.ps.length c2, .int .i64 o'.pages, .int .i64 o'.names, .slice a3 o'.data.length c3, .slice a4 o'.maps.length c4, .int .i64 o'.space, .int .i64 o'.pc] rfl rfl (World.news_of_block (Blk.new w5 #[.int .i64 o'.kind, .int .i64 o'.parent, .int .i64 (o'.lab.d : Nat), .slice a1 o'.lab.ps.length c1, .int .i64 (o'.clr.d : Nat), .slice a2 o'.clr.ps.length c2, .int .i64 o'.pages, .int .i64 o'.names, .slice a3 o'.data.length c3, .slice a4 o'.maps.length c4, .int .i64 o'.space, .int .i64 o'.pc] 107)) h1cO.out (by omega) (by unfold maxLen; omega) (by omega) (by rw [World.size_alloc]; have := HM5.out.kept.size; omega) _ rfl ?_; intro g6 cap w6 hown6 hgrow6 _ _; have hadd := (HM5.out.below ((Below.refl _ w5).alloc (Nat.le_refl _) (.cells #[.int .i64 o'.kind, .int .i64 o'.parent, .int .i64 (o'.lab.d : Nat), .slice a1 o'.lab.ps.length c1, .int .i64 (o'.clr.d : Nat), .slice a2 o'.clr.ps.length c2, .int .i64 o'.pages, .int .i64 o'.names, .slice a3 o'.data.length c3, .slice a4 o'.maps.length c4, .int .i64 o'.space, .int .i64 o'.pc] 107))).addObj (o := o') (q := ⟨.slice a1 o'.lab.ps.length c1, .slice a2 o'.clr.ps.length c2, .slice a3 o'.data.length c3, .slice a4 o'.maps.length c4⟩) Hcz.out Hcg.out (HV5.out.below ((Below.refl _ w5).alloc (Nat.le_refl _) _) (Nat.le_refl _)) g1 (fun j o'' s'' hj hs'' => (g2 j o'' s'' hj hs'').below ((Below.refl _ w5).alloc (Nat.le_refl _) _) (Nat.le_refl _)) (g3.alloc _) hgrow6 (by rw [List.length_append, objsC_snoc o' _ OS sl5 g1]; exact hown6); have hC6 : w6.cell? ⟨cb, 4, none⟩ = some (.slice oa OS.length oc) := (hadd.2.cell 4).trans rfl; have hF6 : w6.frozen? ⟨cb, 4, none⟩ = false := hadd.2.free 4)
      have HMn := Lib.hid hadd.1
      rw [HEq.out, ← Htk.out] at HMn
      clear hadd hC6 hF6 hown6 hgrow6 g1 g2 g3
      go_roundg (p.l.length - (k + 1))
      case measure => omega
      case rel => exact ⟨k + 1, _, by omega, by go_num, HMn⟩
    · obtain rfl : k = p.l.length := by omega
      rw [List.take_length, List.length_map] at HM
      have hcc := HM.out.cfg.cell
      have hcz := HM.out.zero.cell
      have hfz := HM.out.zero.free
      have hF := set5_blk HM.out.zero (.int .i64 p.cores) (.int .i64 p.frames) (.int .i64 p.names) (.slice A p.slots.length c) (.slice oa p.l.length oc)
      have hKs := set5_kept wr (xb + 1) (.int .i64 p.cores) (.int .i64 p.frames) (.int .i64 p.names) (.slice A p.slots.length c) (.slice oa p.l.length oc)
      have HVf : Hid (CfgIn (set5 wr (xb + 1) (.int .i64 p.cores) (.int .i64 p.frames) (.int .i64 p.names) (.slice A p.slots.length c) (.slice oa p.l.length oc)) (.agg #[.int .i64 p.cores, .int .i64 p.frames, .int .i64 p.names, .slice A p.slots.length c, .slice oa p.l.length oc]) p.cfg) := by
        obtain ⟨sv', ov', e, h1, h2⟩ := HM.out.value
        have hT := blk_T HM.out.zero
        obtain ⟨ss, g1, g2, g3⟩ := h2
        exact ⟨sv', ov', e, rowat_far h1 hKs hT (by decide), ss, g1, fun j o s hj hs => objv_far (g2 j o s hj hs) hKs hT (by decide), rowat_far g3 hKs hT (by decide)⟩
      have HBf : Hid (Below w.heap.size w (set5 wr (xb + 1) (.int .i64 p.cores) (.int .i64 p.frames) (.int .i64 p.names) (.slice A p.slots.length c) (.slice oa p.l.length oc))) := (HM.out.kept.then hKs (fun i hi e => by have := Hxb.out; omega)).below (Nat.le_refl _) (fun _ _ f => f)
      have HF := Lib.hid hF
      unfold set5 at HVf HBf HF
      clear hF hKs hsl hsv hso
      go_wp2_with fail
      first
      | refine bodyPost_ret (results_cell_row rfl _ _ (xb + 1) _ _ (0, 0) _ rfl HF.out Tryz.underlying57 rfl (by kernel_rfl)) rfl ?_
      | refine bodyPost_end (results_cell_row rfl _ _ (xb + 1) _ _ (0, 0) _ rfl HF.out Tryz.underlying57 rfl (by kernel_rfl)) rfl ?_
      exact ⟨_, _, _, _, _, _, rfl, HVf.out, HBf.out⟩
end Go.Proofs.YtjjnidbggoaonaaGreatDoor
