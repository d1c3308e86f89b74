/- Lists and configurations in memory. -/
import Derived.Test.YtjjnidbggoaonaaGreatDoorZaC
import Derived.RegionTactic
namespace Go.Proofs.YtjjnidbggoaonaaGreatDoor
open Go.RowKit

/-- A list in memory: n elements, their cells one behind the other, from the beginning of a block of elements of a type. -/
def RowAt (w : World) (ty : TypeId) (v : Value) (n : Nat) (cells : List Value) : Prop :=
  ∃ a c, v = .slice a n c ∧ n ≤ c ∧ c ≤ maxLen ∧ (n = 0 ∨ ∃ b cs fz, a = some ⟨b, 0, none⟩ ∧ w.heap[b]? = some (.cells cs ty fz) ∧ ∀ (j : Nat) (u : Value), cells[j]? = some u → cs[j]? = some u)
theorem RowAt.below {w w' : World} {ty n : Nat} {v : Value} {cells : List Value} (h : RowAt w ty v n cells) {B : Nat} (hb : Below B w w') (hB : w.heap.size ≤ B) : RowAt w' ty v n cells := by
  obtain ⟨a, c, rfl, h1, h2, h3⟩ := h
  refine ⟨a, c, rfl, h1, h2, h3.imp id ?_⟩
  rintro ⟨b, cs, fz, rfl, hh, hc⟩
  exact ⟨b, cs, fz, rfl, by rw [hb.block b (Nat.lt_of_lt_of_le (Array.getElem?_eq_some_iff.1 hh).1 hB)]; exact hh, hc⟩
theorem RowAt.kept {w w' : World} {ty n : Nat} {v : Value} {cells : List Value} (h : RowAt w ty v n cells) {S : Nat → Prop} (k : Kept S w w') (hs : ∀ b cs fz, S b → w.heap[b]? = some (.cells cs ty fz) → False) : RowAt w' ty v n cells := by
  obtain ⟨a, c, rfl, h1, h2, h3⟩ := h
  refine ⟨a, c, rfl, h1, h2, h3.imp id ?_⟩
  rintro ⟨b, cs, fz, rfl, hh, hc⟩
  exact ⟨b, cs, fz, rfl, by rw [k.block b (Array.getElem?_eq_some_iff.1 hh).1 (fun q => hs b cs fz q hh)]; exact hh, hc⟩
theorem RowAt.nil (w : World) (ty : TypeId) : RowAt w ty (.slice none 0 0) 0 [] := ⟨none, 0, rfl, Nat.le_refl _, Nat.zero_le _, .inl rfl⟩
theorem RowAt.own {w : World} {base ty size n : Nat} {v : Value} {cells : List Value} (h : w.ownsRow base ty size v n cells) : RowAt w ty v n cells := by
  rcases h.2 with ⟨rfl, rfl⟩ | ⟨g, cap, cur, rfl, _, hh, h3, h4, h5, h6⟩
  · exact ⟨_, _, rfl, Nat.le_refl _, Nat.zero_le _, .inl rfl⟩
  · refine ⟨_, _, rfl, h3, h4, .inr ⟨g, cur, _, rfl, hh, fun j u hu => ?_⟩⟩
    have hj := (List.getElem?_eq_some_iff.1 hu).1
    rw [← hu]
    have e := h.cellAt j (by have := h.1; omega)
    simp only [World.cell?, hh] at e
    simpa using e
/-- The block, and its cells, of a list that is not empty. -/
theorem RowAt.cells {w : World} {ty n : Nat} {a : Option Addr} {c : Nat} {cells : List Value} (h : RowAt w ty (.slice a n c) n cells) (hn : 0 < n) : ∃ b, a = some ⟨b, 0, none⟩ ∧ b < w.heap.size ∧ ∀ (j : Nat) (u : Value), cells[j]? = some u → w.cell? ⟨b, j, none⟩ = some u := by
  obtain ⟨a', c', e, _, _, h3⟩ := h
  cases e
  rcases h3 with h3 | ⟨b, cs, fz, rfl, hh, hc⟩
  · omega
  · exact ⟨b, rfl, (Array.getElem?_eq_some_iff.1 hh).1, fun j u hu => by simp only [World.cell?, hh]; simpa using hc j u hu⟩
theorem RowAt.form {w : World} {ty n : Nat} {v : Value} {cells : List Value} (h : RowAt w ty v n cells) : ∃ a c, v = .slice a n c ∧ n ≤ c ∧ c ≤ maxLen := by
  obtain ⟨a, c, e, h1, h2, _⟩ := h
  exact ⟨a, c, e, h1, h2⟩
theorem flat_at {α : Type} (f : α → List Value) (s : Nat) (hf : ∀ x, (f x).length = s) : ∀ (l : List α) (k : Nat) (x : α), l[k]? = some x → ∀ i, i < s → (l.flatMap f)[k * s + i]? = (f x)[i]?
  | [], k, x, h, i, hi => by simp at h
  | y :: l, 0, x, h, i, hi => by
    obtain rfl : y = x := by simpa using h
    rw [List.flatMap_cons, Nat.zero_mul, Nat.zero_add, List.getElem?_append_left (by rw [hf]; exact hi)]
  | y :: l, k + 1, x, h, i, hi => by
    have ih := flat_at f s hf l k x (by simpa using h) i hi
    rw [List.flatMap_cons, List.getElem?_append_right (by rw [hf, Nat.succ_mul]; omega), hf, ← ih]
    congr 1
    rw [Nat.succ_mul]; omega

def pairV (p : Nat × Nat) : List Value := [.int .u32 (p.1 : Nat), .int .i64 (p.2 : Nat)]
def mapV (m : WMap) : List Value := [.int .i64 m.at_, .int .u64 m.seg, .int .i64 m.from_, .int .i64 m.n, .bool m.wr]
def slotV (s : Int × Int) : List Value := [.int .u64 s.1, .int .i64 s.2]
def byteV (c : UInt8) : Value := .int .u8 (c.toNat : Nat)
def PairsIn (w : World) (v : Value) (ps : List (Nat × Nat)) : Prop := RowAt w 144 v ps.length (ps.flatMap pairV)
def MapsIn (w : World) (v : Value) (ms : List WMap) : Prop := RowAt w 157 v ms.length (ms.flatMap mapV)
def SlotsIn (w : World) (v : Value) (ss : List (Int × Int)) : Prop := RowAt w 110 v ss.length (ss.flatMap slotV)
def DataIn (w : World) (v : Value) (d : List UInt8) : Prop := RowAt w 5 v d.length (d.map byteV)
/-- A label's value. -/
def LabIn (w : World) (v : Value) (l : Lab) : Prop := ∃ s, v = .agg #[.int .i64 (l.d : Nat), s] ∧ PairsIn w s l.ps
/-- An object's cells. -/
structure ObjV (w : World) (o : WObj) (ls lc vd vm : Value) : Prop where
  lab : PairsIn w ls o.lab.ps
  clr : PairsIn w lc o.clr.ps
  data : DataIn w vd o.data
  maps : MapsIn w vm o.maps
def objC (o : WObj) (ls lc vd vm : Value) : List Value := [.int .i64 o.kind, .int .i64 o.parent, .int .i64 (o.lab.d : Nat), ls, .int .i64 (o.clr.d : Nat), lc, .int .i64 o.pages, .int .i64 o.names, vd, vm, .int .i64 o.space, .int .i64 o.pc]
/-- The four slices of an object. -/
structure OSl where
  (ls lc vd vm : Value)
def objsC : List WObj → List OSl → List Value
  | o :: os, s :: ss => objC o s.ls s.lc s.vd s.vm ++ objsC os ss
  | _, _ => []
def ObjsIn (w : World) (v : Value) (os : List WObj) : Prop := ∃ ss : List OSl, ss.length = os.length ∧ (∀ (j : Nat) (o : WObj) (s : OSl), os[j]? = some o → ss[j]? = some s → ObjV w o s.ls s.lc s.vd s.vm) ∧ RowAt w 107 v os.length (objsC os ss)
/-- A configuration's value. -/
def CfgIn (w : World) (v : Value) (c : WCfg) : Prop := ∃ sv ov, v = .agg #[.int .i64 c.cores, .int .i64 c.frames, .int .i64 c.names, sv, ov] ∧ SlotsIn w sv c.slots ∧ ObjsIn w ov c.objs
/-- No list of pairs, maps or bytes lies in these blocks. -/
def Tame (w : World) (S : Nat → Prop) : Prop := ∀ b cs ty fz, S b → w.heap[b]? = some (.cells cs ty fz) → ty ≠ 144 ∧ ty ≠ 157 ∧ ty ≠ 5
theorem LabIn.below {w w' : World} {v : Value} {l : Lab} (h : LabIn w v l) {B : Nat} (hb : Below B w w') (hB : w.heap.size ≤ B) : LabIn w' v l := by
  obtain ⟨s, rfl, h1⟩ := h
  exact ⟨s, rfl, h1.below hb hB⟩
theorem PairsIn.tame {w w' : World} {v : Value} {ps : List (Nat × Nat)} (h : PairsIn w v ps) {S : Nat → Prop} (k : Kept S w w') (ht : Tame w S) : PairsIn w' v ps := RowAt.kept h k (fun b cs fz hs hh => (ht b cs _ fz hs hh).1 rfl)
theorem LabIn.tame {w w' : World} {v : Value} {l : Lab} (h : LabIn w v l) {S : Nat → Prop} (k : Kept S w w') (ht : Tame w S) : LabIn w' v l := by
  obtain ⟨s, rfl, h1⟩ := h
  exact ⟨s, rfl, h1.tame k ht⟩
theorem MapsIn.tame {w w' : World} {v : Value} {ps : List WMap} (h : MapsIn w v ps) {S : Nat → Prop} (k : Kept S w w') (ht : Tame w S) : MapsIn w' v ps := RowAt.kept h k (fun b cs fz hs hh => (ht b cs _ fz hs hh).2.1 rfl)
theorem DataIn.tame {w w' : World} {v : Value} {ps : List UInt8} (h : DataIn w v ps) {S : Nat → Prop} (k : Kept S w w') (ht : Tame w S) : DataIn w' v ps := RowAt.kept h k (fun b cs fz hs hh => (ht b cs _ fz hs hh).2.2 rfl)
theorem ObjV.tame {w w' : World} {o : WObj} {ls lc vd vm : Value} (h : ObjV w o ls lc vd vm) {S : Nat → Prop} (k : Kept S w w') (ht : Tame w S) : ObjV w' o ls lc vd vm := ⟨h.lab.tame k ht, h.clr.tame k ht, h.data.tame k ht, h.maps.tame k ht⟩
theorem ObjV.below {w w' : World} {o : WObj} {ls lc vd vm : Value} (h : ObjV w o ls lc vd vm) {B : Nat} (hb : Below B w w') (hB : w.heap.size ≤ B) : ObjV w' o ls lc vd vm := ⟨RowAt.below h.lab hb hB, RowAt.below h.clr hb hB, RowAt.below h.data hb hB, RowAt.below h.maps hb hB⟩
theorem ObjsIn.below {w w' : World} {v : Value} {os : List WObj} (h : ObjsIn w v os) {B : Nat} (hb : Below B w w') (hB : w.heap.size ≤ B) : ObjsIn w' v os := by
  obtain ⟨ss, h1, h2, h3⟩ := h
  exact ⟨ss, h1, fun j o s hj hs => (h2 j o s hj hs).below hb hB, RowAt.below h3 hb hB⟩
theorem CfgIn.below {w w' : World} {v : Value} {c : WCfg} (h : CfgIn w v c) {B : Nat} (hb : Below B w w') (hB : w.heap.size ≤ B) : CfgIn w' v c := by
  obtain ⟨sv, ov, rfl, h1, h2⟩ := h
  exact ⟨sv, ov, rfl, RowAt.below h1 hb hB, h2.below hb hB⟩
theorem objsC_at : ∀ (os : List WObj) (ss : List OSl), ss.length = os.length → ∀ (k : Nat) (o : WObj) (s : OSl), os[k]? = some o → ss[k]? = some s → ∀ i, i < 12 → (objsC os ss)[k * 12 + i]? = (objC o s.ls s.lc s.vd s.vm)[i]?
  | [], _, _, k, o, s, h, _, i, hi => by simp at h
  | x :: os, [], e, k, o, s, h, _, i, hi => by simp at e
  | x :: os, y :: ss, e, 0, o, s, h, h2, i, hi => by
    obtain rfl : x = o := by simpa using h
    obtain rfl : y = s := by simpa using h2
    show (objC x y.ls y.lc y.vd y.vm ++ objsC os ss)[0 * 12 + i]? = _
    rw [Nat.zero_mul, Nat.zero_add, List.getElem?_append_left (by exact hi)]
  | x :: os, y :: ss, e, k + 1, o, s, h, h2, i, hi => by
    have ih := objsC_at os ss (by simpa using e) k o s (by simpa using h) (by simpa using h2) i hi
    show (objC x y.ls y.lc y.vd y.vm ++ objsC os ss)[(k + 1) * 12 + i]? = _
    rw [List.getElem?_append_right (by show 12 ≤ _; omega), ← ih]
    show (objsC os ss)[(k + 1) * 12 + i - 12]? = _
    congr 1; omega
theorem objsC_snoc (o : WObj) (s : OSl) : ∀ (os : List WObj) (ss : List OSl), ss.length = os.length → objsC (os ++ [o]) (ss ++ [s]) = objsC os ss ++ objC o s.ls s.lc s.vd s.vm
  | [], [], _ => by simp [objsC]
  | [], y :: ss, e => by simp at e
  | x :: os, [], e => by simp at e
  | x :: os, y :: ss, e => by
    show objC x y.ls y.lc y.vd y.vm ++ objsC (os ++ [o]) (ss ++ [s]) = _
    rw [objsC_snoc o s os ss (by simpa using e)]
    show _ = (objC x y.ls y.lc y.vd y.vm ++ objsC os ss) ++ _
    rw [List.append_assoc]
theorem objsC_len : ∀ (os : List WObj) (ss : List OSl), ss.length = os.length → (objsC os ss).length = os.length * 12
  | [], [], _ => rfl
  | [], y :: ss, e => by simp at e
  | x :: os, [], e => by simp at e
  | x :: os, y :: ss, e => by
    show (objC x y.ls y.lc y.vd y.vm ++ objsC os ss).length = _
    rw [List.length_append, objsC_len os ss (by simpa using e)]
    show 12 + _ = _
    simp only [List.length_cons]; omega

/-! ### Rows of one's own; steps of regions -/
theorem row_kept {w w' : World} {T : Nat → Prop} {base e size n : Nat} {v : Value} {xs : List Value} (h : w.ownsRow base e size v n xs) (k : Kept T w w') (hs : ∀ b, v.ownBlock = some b → ¬ T b) : w'.ownsRow base e size v n xs := by
  refine ⟨h.1, ?_⟩
  rcases h.2 with h | ⟨g, cap, cur, rfl, hb, hg, r⟩
  · exact .inl h
  · exact .inr ⟨g, cap, cur, rfl, hb, by rw [k.block g (Array.getElem?_eq_some_iff.1 hg).1 (hs g rfl)]; exact hg, r⟩
theorem row_base {w : World} {base base' e size n : Nat} {v : Value} {xs : List Value} (h : w.ownsRow base e size v n xs) (hb : base' ≤ base) : w.ownsRow base' e size v n xs := by
  refine ⟨h.1, ?_⟩
  rcases h.2 with h | ⟨g, cap, cur, rfl, h1, r⟩
  · exact .inl h
  · exact .inr ⟨g, cap, cur, rfl, Nat.le_trans hb h1, r⟩
theorem row_type {w : World} {base e size n : Nat} {v : Value} {xs : List Value} (h : w.ownsRow base e size v n xs) {b : Nat} (hb : v.ownBlock = some b) : ∃ cur, w.heap[b]? = some (.cells cur e (0, 0)) ∧ base ≤ b := by
  rcases h.2 with ⟨rfl, _⟩ | ⟨g, cap, cur, rfl, hg, hh, r⟩
  · cases hb
  · cases hb; exact ⟨cur, hh, hg⟩
theorem kept_grown {w w' : World} {row : Option Nat} (h : w.grownBy w' row) : Kept (fun b => row = some b) w w' := ⟨h.os, h.tape, h.output, h.size, fun k hk hs => h.block k hk (fun e => hs e.symm)⟩
theorem step_call {P : Program} {ops : Array Oper} {o : Oper} {a : Act} {w : World} {K : Act → World → Prop} {Q : Exit → Act → World → Prop} {E : Prop} {f : FuncId} {args : Array Value} {R : Value → World → Prop} (hgd : o.guard = none) (hr : (execOp a.eval o).run P w = .ok (.enter f args) w)
    (hc : Calls P f args w fun e w' => ∃ v, e = .returned v ∧ R v w') (hk : ∀ v w', R v w' → K (a.put o.dst v) w') : if Region.wanted o (yielded ops a.tmps) = true then Oper.wp P o a w K Q else E := by
  have hw : Region.wanted o (yielded ops a.tmps) = true := by simp [Region.wanted, hgd]
  rw [if_pos hw]
  simp only [Oper.wp, hr, Oper.upon]
  refine hc.mono ?_
  rintro e w' ⟨v, rfl, h⟩
  exact hk v w' h
theorem ext_take (l : List UInt8) (i : Nat) : (⟨l.toArray⟩ : ByteArray).extract 0 i = ⟨(l.take i).toArray⟩ := by
  apply ByteArray.ext
  simp
theorem ext_drop (l : List UInt8) (i : Nat) : (⟨l.toArray⟩ : ByteArray).extract i l.length = ⟨(l.drop i).toArray⟩ := by
  apply ByteArray.ext
  simp [List.take_of_length_le]
theorem info_str : (Tryz.prog.info? 9).map (fun i => (i.zero, i.size, i.bytes)) = some (some (.string ByteArray.empty), 1, 16) := by kernel_rfl
theorem step_callG {P : Program} {ops : Array Oper} {o : Oper} {a : Act} {w : World} {K : Act → World → Prop} {Q : Exit → Act → World → Prop} {E : Prop} {f : FuncId} {args : Array Value} {R : Value → World → Prop} (hw : Region.wanted o (yielded ops a.tmps) = true) (hr : (execOp a.eval o).run P w = .ok (.enter f args) w)
    (hc : Calls P f args w fun e w' => ∃ v, e = .returned v ∧ R v w') (hk : ∀ v w', R v w' → K (a.put o.dst v) w') : if Region.wanted o (yielded ops a.tmps) = true then Oper.wp P o a w K Q else E := by
  rw [if_pos hw]
  simp only [Oper.wp, hr, Oper.upon]
  refine hc.mono ?_
  rintro e w' ⟨v, rfl, h⟩
  exact hk v w' h
end Go.Proofs.YtjjnidbggoaonaaGreatDoor
