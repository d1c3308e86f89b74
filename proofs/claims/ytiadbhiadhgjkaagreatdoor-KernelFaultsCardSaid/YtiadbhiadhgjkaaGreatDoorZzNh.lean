/- Of the proof of this claim: a joined text. -/
import Derived.Test.YtiadbhiadhgjkaaGreatDoorZzWoPt
import Derived.Test.YtiadbhiadhgjkaaGreatDoorZzNf
import Derived.Test.YtiadbhiadhgjkaaGreatDoorZzLib
import Derived.OrdersHeld
import Derived.Deep.RegionHeld
namespace Go.Proofs.YtiadbhiadhgjkaaGreatDoor
open Go.RowKit
def obOk (o : Ob) : Bool := o.maps.all (fun m => m.fits) && decide (o.maps.length <= 1000000)
def AllOk (K : Km) : Prop := ∀ n s, K.obj n = some s -> obOk s = true
theorem AllOk.kok {K : Km} (h : AllOk K) : KOk K := by
 have h2 : ∀ n s, K.obj n = some s -> (∀ m ∈ s.maps, m.fits = true) /\ s.maps.length <= 1000000 := fun n s hs => by
  have := h n s hs;unfold obOk at this;simpa using this
 exact ⟨fun n o ho => (h2 n o ho).1, fun n s hs => (h2 n s hs).2⟩
theorem AllOk.set {K : Km} (h : AllOk K) {o : Ob} (ho : obOk o = true) : AllOk (K.set o) := fun n s hs => by
 unfold Km.set at hs;simp only at hs;by_cases e : n = o.name
 ·rw [if_pos e] at hs; cases hs; exact ho
 ·rw [if_neg e] at hs; exact h n s hs
theorem AllOk.place {K K' : Km} {h x : Ob} {kind : Int} {l : Lab} {n count : Int} (hK : AllOk K) (hh : obOk h = true) (e : K.place h kind l n count = .ok K' x) : AllOk K' /\ x.maps = [] := by
 obtain ⟨a1, a2, a3, a4, a5, rfl, rfl⟩ := place_spec e;refine ⟨?_, rfl⟩;exact (hK.set (o := newOb h kind l n count) rfl).set (o := homeOb h kind n count) hh
theorem ok_nil {o : Ob} (h : o.maps = []) : obOk o = true := by unfold obOk; rw [h]; rfl
theorem AllOk.bootOne {K K' : Km} {made made' : List Int} {o : WObj} (hK : AllOk K) (e : bootOne K made o = some (K', made')) : AllOk K' := by
 unfold Go.Proofs.YtiadbhiadhgjkaaGreatDoor.bootOne at e;split at e
 ·split at e
  ·cases e
  ·rename_i h hh
   split at e
   ·split at e
    ·rename_i K1 x hp
     obtain ⟨h1, h2⟩ := hK.place (hK _ _ hh) hp;simp only [Option.some.injEq, Prod.mk.injEq] at e;obtain ⟨rfl, -⟩ := e;split
     ·exact h1.set (ok_nil h2)
     ·split
      ·exact h1
      ·exact h1
    ·cases e
   ·cases e
 ·cases e
theorem AllOk.bootAll : ∀ {os : List WObj} {K K' : Km} {made made' : List Int}, AllOk K -> bootAll K made os = some (K', made') -> AllOk K'
 | [], K, K', made, made', h, e => by
  unfold Go.Proofs.YtiadbhiadhgjkaaGreatDoor.bootAll at e; cases e; exact h
 | o :: os, K, K', made, made', h, e => by
  unfold Go.Proofs.YtiadbhiadhgjkaaGreatDoor.bootAll at e;split at e
  ·rename_i K1 m1 h1
   exact AllOk.bootAll (h.bootOne h1) e
  ·cases e
def goodMaps (made : List Int) (os : List WObj) : Bool := os.all fun o => o.maps.all fun m => (mapFill made m).fits
theorem AllOk.fillOne {K K' : Km} {made : List Int} {cores : Int} {i : Nat} {o : WObj} (hK : AllOk K) (hg : (o.maps.all fun m => (mapFill made m).fits) = true) (e : fillOne K made cores i o = some K') : AllOk K' := by
 unfold Go.Proofs.YtiadbhiadhgjkaaGreatDoor.fillOne at e;split at e
 ·cases e
 ·rename_i x hx
  split at e
  ·rename_i hc
   simp only [Option.some.injEq] at e;subst e;have hxo := hK _ _ hx;split
   ·rename_i hk
    refine hK.set ?_;unfold obOk at hxo ⊢;simp only [Bool.and_eq_true, List.all_append, List.all_map, decide_eq_true_eq] at hxo ⊢;refine ⟨⟨hxo.1, by simpa [Function.comp_def] using hg⟩, ?_⟩;rw [Bool.and_eq_true] at hc;have hf := hc.2;unfold fillOk at hf;simp [hk] at hf;simp;omega
   ·split
    ·exact hK.set hxo
    ·exact hK
  ·cases e
theorem AllOk.fillAll : ∀ {os : List WObj} {K K' : Km} {made : List Int} {cores : Int} {i : Nat}, AllOk K -> goodMaps made os = true -> fillAll K made cores i os = some K' -> AllOk K'
 | [], K, K', made, cores, i, h, hg, e => by
  unfold Go.Proofs.YtiadbhiadhgjkaaGreatDoor.fillAll at e; cases e; exact h
 | o :: os, K, K', made, cores, i, h, hg, e => by
  unfold goodMaps at hg;rw [List.all_cons, Bool.and_eq_true] at hg;unfold Go.Proofs.YtiadbhiadhgjkaaGreatDoor.fillAll at e;split at e
  ·rename_i K1 h1
   exact AllOk.fillAll (h.fillOne hg.1 h1) hg.2 e
  ·cases e
theorem newK_kok {c : WCfg} {K : Km} (h : newK c = some K) (hg : ∀ K1 made, bootAll (km0 c) [1] c.objs = some (K1, made) -> goodMaps made c.objs = true) : KOk K := by
 obtain ⟨hr, K1, made, K2, h1, h2, h3, rfl⟩ := newK_spec h
 have h0 : AllOk (km0 c) := fun n s hs => by
  unfold km0 at hs;simp only at hs;split at hs
  ·cases hs; rfl
  ·cases hs
 have hB := AllOk.fillAll (h0.bootAll h1) (hg _ _ h1) h2;exact AllOk.kok (K := startK K2 c made) hB
theorem kidsT_mem {K : Km} : ∀ {l : List Int} {os : List Ob}, K.kidsT l = some os -> ∀ o ∈ os, ∃ n, K.obj n = some o
 | [], os, h, o, ho => by cases h; cases ho
 | n :: r, os, h, o, ho => by
  unfold Km.kidsT at h
  cases e : K.obj n with
  | none => rw [e] at h; cases h
  | some x =>
   rw [e] at h
   cases e2 : K.kidsT r with
   | none => rw [e2] at h; cases h
   | some t =>
    rw [e2] at h;simp only [Option.map_some, Option.some.injEq] at h;subst h;rcases List.mem_cons.1 ho with rfl | ho
    ·exact ⟨n, e⟩
    ·exact kidsT_mem e2 o ho
theorem threadsT_mem {K : Km} {c on : Int} {l : List Ob} (h : K.threadsT c on = some l) : ∀ o ∈ l, ∃ n, K.obj n = some o := fun o ho => by
 unfold Km.threadsT at h
 cases hc : K.obj c with
 | none => rw [hc] at h; cases h; cases ho
 | some x =>
  rw [hc] at h;simp only at h;split at h
  ·split at h
   ·cases hk : K.kidsT x.kids with
    | none => rw [hk] at h; cases h
    | some os =>
     rw [hk] at h;simp only [Option.map_some, Option.some.injEq] at h;subst h;exact kidsT_mem hk o (List.mem_filter.1 ho).1
   ·cases h
  ·cases h; cases ho
theorem whoseT_mem {K : Km} {i : Nat} {o : Ob} (h : K.whoseT i = some (some o)) : ∃ n, K.obj n = some o := by
 unfold Km.whoseT at h;split at h
 ·cases h
 ·cases h
 ·rename_i x l hl
  simp only [Option.some.injEq] at h;exact threadsT_mem hl o (List.mem_of_getElem? h)
theorem AllOk.obj {K K' : Km} (h : AllOk K) (e : K'.obj = K.obj) : AllOk K' := fun n s hs => h n s (by rw [<- e]; exact hs)
theorem AllOk.userT {K K' : Km} {o : Ob} {x : Int} (h : AllOk K) (ho : obOk o = true) (e : K.userT o = some (K', x)) : AllOk K' := by
 unfold Km.userT at e
 cases hi : insNext K o with
 | none => rw [hi] at e; cases e
 | some p =>
  rw [hi] at e;simp only [Option.map_some, Option.some.injEq] at e;have hw : ∀ t, obOk (o.wTh t) = true := fun t => ho
  split at e
  ·cases e; exact h.set (hw _)
  ·split at e
   ·cases e; exact h.set (hw _)
   ·split at e
    ·cases e; exact h.set (hw _)
    ·cases e; exact h.set (hw _)
theorem AllOk.pickT {mic : Km -> Ob -> Option (Km × Int)} {wt : Km -> Ob -> Nat -> Option (Km × Int)} (hm : ∀ K K' o x, AllOk K -> obOk o = true -> mic K o = some (K', x) -> AllOk K') (hw : ∀ K K' o i x, AllOk K -> obOk o = true -> wt K o i = some (K', x) -> AllOk K')
  {K K' : Km} {i : Nat} {ev : Ev} (h : AllOk K) (e : K.pickT mic wt i = some (K', ev)) : AllOk K' := by
 have hp : AllOk (K.picked i) := h.obj rfl;have hn : ∀ Q : Km, AllOk Q -> AllOk (Q.nextTurn i) := fun Q hQ => hQ.obj rfl
 unfold Km.pickT at e;split at e
 ·cases e
 ·cases e; exact hn _ hp
 ·rename_i o ho
  obtain ⟨n, hno⟩ := whoseT_mem ho;have hob := hp _ _ hno;split at e
  ·cases e
  ·rename_i p hd
   split at e
   ·cases e
    refine hn _ ?_;unfold doT at hd;split at hd
    ·exact hm _ _ _ _ hp hob hd
    ·split at hd
     ·exact hw _ _ _ _ _ hp hob hd
     ·split at hd
      ·exact hp.userT hob hd
      ·cases hd; exact hp
   ·cases e
def goodLab (l : Lab) : Prop := l.right = true /\ labOne.leq l.rest = true
theorem codeU_len (ls : List Line) : ((codeU ls).take 576).length <= 576 := by rw [List.length_take]; omega
theorem worldP_len : ∀ (l : List ProgK) (n : Int), (worldP n l).length = 3 * l.length
 | [], _ => rfl
 | p :: r, n => by
  show (worldO n p ++ worldP (n + 3) r).length = _
  rw [List.length_append, worldP_len r, List.length_cons];show 3 + _ = _; omega
def worldH : List WObj := [{ obj0 1 with lab := labOne, pages := 120, names := 40 }, { obj0 2 with lab := labOne, pages := 2, data := labelsB }, { obj0 2 with lab := labUp, pages := 1, data := [1, 2, 3] }, { obj0 6 with lab := labUp }]
theorem worldK_objs (l : List ProgK) (c : Int) : (worldK l c).objs = worldH ++ worldP 4 (l.take 4) := rfl
end Go.Proofs.YtiadbhiadhgjkaaGreatDoor
namespace Go.Proofs.YtiadbhiadhgjkaaGreatDoor
open Go.RowKit
attribute [local irreducible] World.setCell World.alloc World.drew World.setRow Calls Code.wp
structure PV where
 (lines : List Line)
 (seed : LSeed)
 (home : Int)
def PV.t (p : PV) : Lab := ⟨2, p.seed.lab.ps⟩
def PV.lab (p : PV) : Lab := if (p.t.right && labOne.leq p.t.rest) = true then p.t else labOne
def PV.plain (p : PV) : ProgK := ⟨p.lines, p.lab, p.home⟩
structure PV.ok (p : PV) : Prop where
 len : p.lines.length <= 100
 lines : ∀ l ∈ p.lines, l.ok
 lv : ∀ n ∈ p.seed.ls, I64 n
structure ProgV (w : World) (p : PV) (lv sv : Value) : Prop where
 lines : LinesIn w lv p.lines
 seed : GRow w sv p.seed.ls.length (p.seed.ls.map (Value.int .i64))
def progC (p : PV) (q : Value × Value) : List Value := [q.1, .int .i64 p.seed.d, q.2, .int .i64 p.home]
def ProgsIn (w : World) (v : Value) (l : List PV) (Q : Nat -> Value × Value) : Prop :=
 (∀ (j : Nat) (p : PV), l[j]? = some p -> ProgV w p (Q j).1 (Q j).2) /\ ∃ a c, v = .slice a l.length c /\ l.length <= c /\ c <= maxLen /\
  (l.length = 0 \/ ∃ b o, a = some ⟨b, o, none⟩ /\ b < w.heap.size /\ ∀ (j : Nat) (p : PV), l[j]? = some p -> ∀ i, i < 4 -> w.cell? ⟨b, o + j * 4 + i, none⟩ = (progC p (Q j))[i]?)
theorem ProgV.below {w w' : World} {p : PV} {lv sv : Value} (h : ProgV w p lv sv) {B : Nat} (hb : Below B w w') (hB : w.heap.size <= B) : ProgV w' p lv sv := ⟨RowAt.below h.lines hb hB, h.seed.below hb hB⟩
theorem ProgsIn.below {w w' : World} {v : Value} {l : List PV} {Q : Nat -> Value × Value} (h : ProgsIn w v l Q) {B : Nat} (hb : Below B w w') (hB : w.heap.size <= B) : ProgsIn w' v l Q := by
 obtain ⟨h1, a, c, rfl, h2, h3, h4⟩ := h;refine ⟨fun j s hj => (h1 j s hj).below hb hB, a, c, rfl, h2, h3, h4.imp id ?_⟩;rintro ⟨b, o, rfl, hlt, hc⟩;exact ⟨b, o, rfl, Nat.lt_of_lt_of_le hlt hb.size, fun j s hj i hi => by rw [hb.cell (p := ⟨b, o + j * 4 + i, none⟩) (Nat.lt_of_lt_of_le hlt hB)]; exact hc j s hj i hi⟩
theorem ProgsIn.at {w : World} {a : Option Addr} {c : Nat} {l : List PV} {Q : Nat -> Value × Value} (h : ProgsIn w (.slice a l.length c) l Q) {k : Nat} {p : PV} (hk : l[k]? = some p) : ∃ b o, a = some ⟨b, o, none⟩ /\ b < w.heap.size /\ ProgV w p (Q k).1 (Q k).2 /\ ∀ i, i < 4 -> w.cell? ⟨b, o + k * 4 + i, none⟩ = (progC p (Q k))[i]? := by
 obtain ⟨h1, a', c', e, _, _, h4⟩ := h
 cases e;have hlt := (List.getElem?_eq_some_iff.1 hk).1;obtain ⟨b, o, rfl, hb, hc⟩ := h4.resolve_left (by omega);exact ⟨b, o, rfl, hb, h1 k p hk, hc k p hk⟩
structure WMem (w : World) (cb b1 : Nat) (x : Int) (sv ov : Value) (os : List WObj) (wx : World) : Prop where
 cfg : Blk wx cb #[.int .i64 x, .int .i64 600, .int .i64 200, sv, ov] 81
 one : Blk wx b1 #[.int .i64 2, .slice none 0 0] 43
 slots : SlotsIn wx sv [(0, 2), (1, 1), (0, 1)]
 objs : ∃ sl : List OSl, sl.length = os.length /\ (∀ (j : Nat) (o : WObj) (s : OSl), os[j]? = some o -> sl[j]? = some s -> ObjV wx o s.ls s.lc s.vd s.vm) /\ wx.ownsRow w.heap.size 120 12 ov os.length (objsC os sl)
 bel : Below w.heap.size w wx
 ge : w.heap.size <= cb /\ w.heap.size <= b1
theorem WMem.below {w wx w' : World} {cb b1 : Nat} {x : Int} {sv ov : Value} {os : List WObj} (h : WMem w cb b1 x sv ov os wx) (k : Below wx.heap.size wx w') : WMem w cb b1 x sv ov os w' := by
 obtain ⟨sl, h1, h2, h3⟩ := h.objs;exact ⟨h.cfg.below k h.cfg.lt, h.one.below k h.one.lt, RowAt.below h.slots k (Nat.le_refl _), ⟨sl, h1, fun j o s hj hs => (h2 j o s hj hs).below k (Nat.le_refl _), row_kept h3 (Kept.of_below k) (fun _ _ q => q)⟩, bel_from h.bel k, h.ge⟩
theorem slots_new (wx : World) : SlotsIn (wx.alloc (.cells #[.int .u64 0, .int .i64 2, .int .u64 1, .int .i64 1, .int .u64 0, .int .i64 1] 127)) (.slice (some ⟨wx.heap.size, 0, none⟩) 3 3) [(0, 2), (1, 1), (0, 1)] :=
 ⟨_, 3, rfl, Nat.le_refl _, by unfold maxLen; decide, .inr ⟨_, _, _, rfl, Blk.new _ _ _, fun j u hj => by
  have hl := (List.getElem?_eq_some_iff.1 hj).1;have hl6 : j < 6 := hl;rw [<- hj];obtain rfl | rfl | rfl | rfl | rfl | rfl : j = 0 \/ j = 1 \/ j = 2 \/ j = 3 \/ j = 4 \/ j = 5 := by omega
  all_goals rfl⟩⟩
structure W3St (w : World) (rb b1 b2 : Nat) (x : Int) (a2 : Option Addr) (k2 : Nat) (W : World) : Prop where
 res : Blk W rb #[.int .i64 0, .int .i64 0, .int .i64 0, .slice none 0 0, .slice none 0 0] 81
 cfg : Blk W (rb + 1 + 1) #[.int .i64 x, .int .i64 600, .int .i64 200, .slice (some ⟨rb + 1, 0, none⟩) 3 3, .slice none 0 0] 81
 slots : SlotsIn W (.slice (some ⟨rb + 1, 0, none⟩) 3 3) [(0, 2), (1, 1), (0, 1)]
 one : Blk W b1 #[.int .i64 2, .slice none 0 0] 43
 up : Blk W b2 #[.int .i64 2, .slice a2 1 k2] 43
 ps : PairsIn W (.slice a2 1 k2) [(1, 4)]
 bel : Below w.heap.size w W
 ge : w.heap.size <= rb /\ w.heap.size <= b1
theorem W3St.below {w W W' : World} {rb b1 b2 : Nat} {x : Int} {a2 : Option Addr} {k2 : Nat} (h : W3St w rb b1 b2 x a2 k2 W) (k : Below W.heap.size W W') : W3St w rb b1 b2 x a2 k2 W' :=
 ⟨h.res.below k h.res.lt, h.cfg.below k h.cfg.lt, RowAt.below h.slots k (Nat.le_refl _), h.one.below k h.one.lt, h.up.below k h.up.lt, RowAt.below h.ps k (Nat.le_refl _), bel_from h.bel k, h.ge⟩
def objs4 (s2 vl vb : Value) : Array Value := #[.int .i64 1, .int .i64 0, .int .i64 2, .slice none 0 0, .int .i64 0, .slice none 0 0, .int .i64 120, .int .i64 40, .slice none 0 0, .slice none 0 0, .int .i64 0, .int .i64 0, .int .i64 2, .int .i64 0, .int .i64 2, .slice none 0 0, .int .i64 0, .slice none 0 0, .int .i64 2, .int .i64 0, vl, .slice none 0 0, .int .i64 0, .int .i64 0, .int .i64 2, .int .i64 0, .int .i64 2, s2, .int .i64 0, .slice none 0 0, .int .i64 1, .int .i64 0, vb, .slice none 0 0, .int .i64 0, .int .i64 0, .int .i64 6, .int .i64 0, .int .i64 2, s2, .int .i64 0, .slice none 0 0, .int .i64 0, .int .i64 0, .slice none 0 0, .slice none 0 0, .int .i64 0, .int .i64 0]
theorem owns_new (W : World) (base : Nat) (ty : TypeId) (size n : Nat) (cs : Array Value) (hb : base <= W.heap.size) (hc : cs.size = n * size) (hn : n <= maxLen) : (W.alloc (.cells cs ty)).ownsRow base ty size (.slice (some ⟨W.heap.size, 0, none⟩) n n) n cs.toList :=
 ⟨by simpa using hc, .inr ⟨_, n, cs, rfl, hb, Blk.new _ _ _, Nat.le_refl _, hn, hc, List.take_of_length_le (by rw [Array.length_toList, hc]; exact Nat.le_refl _)⟩⟩
theorem bytes_new (W : World) (ds : List UInt8) (hn : ds.length <= maxLen) : DataIn (W.alloc (.cells (ds.map byteV).toArray 5)) (.slice (some ⟨W.heap.size, 0, none⟩) ds.length ds.length) ds :=
 ⟨_, ds.length, rfl, Nat.le_refl _, hn, .inr ⟨_, _, _, rfl, Blk.new _ _ _, fun j u hj => by simpa using hj⟩⟩
theorem world_first {w W : World} {rb b1 b2 : Nat} {x : Int} {a2 : Option Addr} {k2 : Nat} {vl vb : Value} (h : W3St w rb b1 b2 x a2 k2 W) (hl : DataIn W vl labelsB) (hb : DataIn W vb [1, 2, 3]) :
  WMem w (rb + 1 + 1) b1 x (.slice (some ⟨rb + 1, 0, none⟩) 3 3) (.slice (some ⟨W.heap.size, 0, none⟩) 4 4) worldH ((W.alloc (.cells (objs4 (.slice a2 1 k2) vl vb) 120)).setCell ⟨rb + 1 + 1, 4, none⟩ (.slice (some ⟨W.heap.size, 0, none⟩) 4 4)) /\
  Blk ((W.alloc (.cells (objs4 (.slice a2 1 k2) vl vb) 120)).setCell ⟨rb + 1 + 1, 4, none⟩ (.slice (some ⟨W.heap.size, 0, none⟩) 4 4)) rb #[.int .i64 0, .int .i64 0, .int .i64 0, .slice none 0 0, .slice none 0 0] 81 /\
  Blk ((W.alloc (.cells (objs4 (.slice a2 1 k2) vl vb) 120)).setCell ⟨rb + 1 + 1, 4, none⟩ (.slice (some ⟨W.heap.size, 0, none⟩) 4 4)) b2 #[.int .i64 2, .slice a2 1 k2] 43 := by
 have hA : Below W.heap.size W (W.alloc (.cells (objs4 (.slice a2 1 k2) vl vb) 120)) := (Below.refl _ W).alloc (Nat.le_refl _) _;have hS := h.below hA
 have hne : b1 ≠ rb + 1 + 1 := fun e => by
  have h1 := hS.one; rw [e] at h1;have := h1.symm.trans hS.cfg;simp at this
 have kc : Kept (· = rb + 1 + 1) (W.alloc (.cells (objs4 (.slice a2 1 k2) vl vb) 120)) ((W.alloc (.cells (objs4 (.slice a2 1 k2) vl vb) 120)).setCell ⟨rb + 1 + 1, 4, none⟩ (.slice (some ⟨W.heap.size, 0, none⟩) 4 4)) := (Kept.refl _ _).setIn _ _ _ rfl;have hT := blk_T hS.cfg;have hp : ∀ {v : Value} {ps : List (Nat × Nat)}, PairsIn W v ps -> PairsIn ((W.alloc (.cells (objs4 (.slice a2 1 k2) vl vb) 120)).setCell ⟨rb + 1 + 1, 4, none⟩ (.slice (some ⟨W.heap.size, 0, none⟩) 4 4)) v ps := fun q => rowat_far (RowAt.below q hA (Nat.le_refl _)) kc hT (by decide)
 have hd : ∀ {v : Value} {ps : List UInt8}, DataIn W v ps -> DataIn ((W.alloc (.cells (objs4 (.slice a2 1 k2) vl vb) 120)).setCell ⟨rb + 1 + 1, 4, none⟩ (.slice (some ⟨W.heap.size, 0, none⟩) 4 4)) v ps := fun q => rowat_far (RowAt.below q hA (Nat.le_refl _)) kc hT (by decide)
 refine ⟨⟨(hS.cfg.set 4 _).cells (by simp only [List.setIfInBounds_toArray, List.set_cons_zero, List.set_cons_succ]), hS.one.set_other (a := ⟨rb + 1 + 1, 4, none⟩) (Ne.symm hne) _, rowat_far hS.slots kc hT (by decide),
  ⟨[⟨.slice none 0 0, .slice none 0 0, .slice none 0 0, .slice none 0 0⟩, ⟨.slice none 0 0, .slice none 0 0, vl, .slice none 0 0⟩, ⟨.slice a2 1 k2, .slice none 0 0, vb, .slice none 0 0⟩, ⟨.slice a2 1 k2, .slice none 0 0, .slice none 0 0, .slice none 0 0⟩], by rfl, fun j o s hj hs => ?_, ?_⟩, (hS.bel).setCell (p := ⟨rb + 1 + 1, 4, none⟩) (by have := h.ge.1; show w.heap.size <= rb + 1 + 1; omega) _, ⟨by have := h.ge.1; omega, h.ge.2⟩⟩, hS.res.set_other (a := ⟨rb + 1 + 1, 4, none⟩) (by show rb + 1 + 1 ≠ rb; omega) _, blk_far hS.up kc hT (by decide)⟩
 ·match j, hj, hs with
  | 0, hj, hs => cases hj; cases hs; exact ⟨RowAt.nil _ _, RowAt.nil _ _, RowAt.nil _ _, RowAt.nil _ _⟩
  | 1, hj, hs => cases hj; cases hs; exact ⟨RowAt.nil _ _, RowAt.nil _ _, hd hl, RowAt.nil _ _⟩
  | 2, hj, hs => cases hj; cases hs; exact ⟨hp h.ps, RowAt.nil _ _, hd hb, RowAt.nil _ _⟩
  | 3, hj, hs => cases hj; cases hs; exact ⟨hp h.ps, RowAt.nil _ _, RowAt.nil _ _, RowAt.nil _ _⟩
 ·exact row_far (owns_new W w.heap.size 120 12 4 (objs4 (.slice a2 1 k2) vl vb) h.bel.size rfl (by unfold maxLen; decide)) kc hT (by decide)
theorem world_firstA {w W : World} {rb b1 b2 : Nat} {x : Int} {a2 : Option Addr} {k2 : Nat} {vl vb : Value} (h : W3St w rb b1 b2 x a2 k2 W) (hl : DataIn W vl labelsB) (hb : DataIn W vb [1, 2, 3]) :
  WMem w (rb + 1 + 1) b1 x (.slice (some ⟨rb + 1, 0, none⟩) 3 3) (.slice (some ⟨W.heap.size, 0, none⟩) 4 4) worldH ((W.setCell ⟨rb + 1 + 1, 4, none⟩ (.slice (some ⟨W.heap.size, 0, none⟩) 4 4)).alloc (.cells (objs4 (.slice a2 1 k2) vl vb) 120)) /\
  Blk ((W.setCell ⟨rb + 1 + 1, 4, none⟩ (.slice (some ⟨W.heap.size, 0, none⟩) 4 4)).alloc (.cells (objs4 (.slice a2 1 k2) vl vb) 120)) rb #[.int .i64 0, .int .i64 0, .int .i64 0, .slice none 0 0, .slice none 0 0] 81 /\
  Blk ((W.setCell ⟨rb + 1 + 1, 4, none⟩ (.slice (some ⟨W.heap.size, 0, none⟩) 4 4)).alloc (.cells (objs4 (.slice a2 1 k2) vl vb) 120)) b2 #[.int .i64 2, .slice a2 1 k2] 43 := by
 have := world_first h hl hb;rw [World.setCell_alloc_past _ _ _ _ h.cfg.lt] at this;exact this
theorem world_firstB {w W : World} {rb b1 b2 : Nat} {x : Int} {a2 : Option Addr} {k2 : Nat} {vl : Value} (h : W3St w rb b1 b2 x a2 k2 W) (hl : DataIn W vl labelsB) :
  WMem w (rb + 1 + 1) b1 x (.slice (some ⟨rb + 1, 0, none⟩) 3 3) (.slice (some ⟨W.heap.size + 1, 0, none⟩) 4 4) worldH (((W.setCell ⟨rb + 1 + 1, 4, none⟩ (.slice (some ⟨W.heap.size + 1, 0, none⟩) 4 4)).alloc (.cells #[.int .u8 1, .int .u8 2, .int .u8 3] 5)).alloc (.cells (objs4 (.slice a2 1 k2) vl (.slice (some ⟨W.heap.size, 0, none⟩) 3 3)) 120)) /\
  Blk (((W.setCell ⟨rb + 1 + 1, 4, none⟩ (.slice (some ⟨W.heap.size + 1, 0, none⟩) 4 4)).alloc (.cells #[.int .u8 1, .int .u8 2, .int .u8 3] 5)).alloc (.cells (objs4 (.slice a2 1 k2) vl (.slice (some ⟨W.heap.size, 0, none⟩) 3 3)) 120)) rb #[.int .i64 0, .int .i64 0, .int .i64 0, .slice none 0 0, .slice none 0 0] 81 /\
  Blk (((W.setCell ⟨rb + 1 + 1, 4, none⟩ (.slice (some ⟨W.heap.size + 1, 0, none⟩) 4 4)).alloc (.cells #[.int .u8 1, .int .u8 2, .int .u8 3] 5)).alloc (.cells (objs4 (.slice a2 1 k2) vl (.slice (some ⟨W.heap.size, 0, none⟩) 3 3)) 120)) b2 #[.int .i64 2, .slice a2 1 k2] 43 := by
 have hB : Below W.heap.size W (W.alloc (.cells #[.int .u8 1, .int .u8 2, .int .u8 3] 5)) := (Below.refl _ W).alloc (Nat.le_refl _) _;have hd : DataIn (W.alloc (.cells #[.int .u8 1, .int .u8 2, .int .u8 3] 5)) (.slice (some ⟨W.heap.size, 0, none⟩) 3 3) [1, 2, 3] := bytes_new W [1, 2, 3] (by unfold maxLen; decide);have := world_firstA (h.below hB) (RowAt.below hl hB (Nat.le_refl _)) hd;rw [World.size_alloc, World.setCell_alloc_past _ _ _ _ h.cfg.lt] at this;exact this
structure WIt (w : World) (rb b1 : Nat) (x : Int) (sv ov : Value) (os : List WObj) (tb : Nat) (p : PV) (fv gv : Value) (W : World) : Prop where
 mem : WMem w (rb + 1 + 1) b1 x sv ov os W
 res : Blk W rb #[.int .i64 0, .int .i64 0, .int .i64 0, .slice none 0 0, .slice none 0 0] 81
 prog : Blk W tb #[fv, .int .i64 p.seed.d, gv, .int .i64 p.home] 100
 lines : LinesIn W fv p.lines
theorem WIt.below {w W W' : World} {rb b1 : Nat} {x : Int} {sv ov : Value} {os : List WObj} {tb : Nat} {p : PV} {fv gv : Value} (h : WIt w rb b1 x sv ov os tb p fv gv W) (k : Below W.heap.size W W') : WIt w rb b1 x sv ov os tb p fv gv W' :=
 ⟨h.mem.below k, h.res.below k h.res.lt, h.prog.below k h.prog.lt, RowAt.below h.lines k (Nat.le_refl _)⟩
structure LbV (W : World) (tl : Nat) (l : Lab) (ta : Option Addr) (tc : Nat) : Prop where
 blk : Blk W tl #[.int .i64 (l.d : Nat), .slice ta l.ps.length tc] 43
 ps : PairsIn W (.slice ta l.ps.length tc) l.ps
theorem LbV.below {W W' : World} {tl : Nat} {l : Lab} {ta : Option Addr} {tc : Nat} (h : LbV W tl l ta tc) (k : Below W.heap.size W W') : LbV W' tl l ta tc := ⟨h.blk.below k h.blk.lt, RowAt.below h.ps k (Nat.le_refl _)⟩
theorem LbV.labIn {W : World} {tl : Nat} {l : Lab} {ta : Option Addr} {tc : Nat} (h : LbV W tl l ta tc) : LabIn W (.agg #[.int .i64 (l.d : Nat), .slice ta l.ps.length tc]) l := ⟨_, rfl, h.ps⟩
theorem objv_far {w w' : World} {o : WObj} {ls lc vd vm : Value} (h : ObjV w o ls lc vd vm) {T : Nat -> Prop} {ty2 : TypeId} (k : Kept T w w') (hT : ∀ b, T b -> ∃ cs fz, w.heap[b]? = some (.cells cs ty2 fz)) (hne : ty2 ≠ 111 /\ ty2 ≠ 125 /\ ty2 ≠ 5) : ObjV w' o ls lc vd vm :=
 h.tame k (fun b cs ty fz ht hh => by
  obtain ⟨cs', fz', e2⟩ := hT b ht;rw [hh] at e2;simp only [Option.some.injEq, Obj.cells.injEq] at e2;rw [e2.2.1]; exact hne)
theorem WIt.other {w W W' : World} {rb b1 : Nat} {x : Int} {sv ov : Value} {os : List WObj} {tb : Nat} {p : PV} {fv gv : Value} {tl : Nat} {cs : Array Value} (h : WIt w rb b1 x sv ov os tb p fv gv W) (hl : Blk W tl cs 43) (k : Kept (· = tl) W W') (h1 : tl ≠ b1) (hg : w.heap.size <= tl) : WIt w rb b1 x sv ov os tb p fv gv W' := by
 have hT := blk_T hl;obtain ⟨sl, e1, e2, e3⟩ := h.mem.objs
 exact ⟨⟨blk_far h.mem.cfg k hT (by decide), k.blk h.mem.one (Ne.symm h1), rowat_far h.mem.slots k hT (by decide), ⟨sl, e1, fun j o s hj hs => objv_far (e2 j o s hj hs) k hT ⟨by decide, by decide, by decide⟩, row_far e3 k hT (by decide)⟩,
  ((Kept.of_below (S := fun _ => False) h.mem.bel).then k (fun i hi e => by have e' : i = tl := e; omega)).below (Nat.le_refl _) (fun _ _ f => f), h.mem.ge⟩, blk_far h.res k hT (by decide), blk_far h.prog k hT (by decide), rowat_far h.lines k hT (by decide)⟩
structure WObjs (w : World) (ov : Value) (os : List WObj) (sl : List OSl) (W : World) : Prop where
 len : sl.length = os.length
 vals : ∀ (j : Nat) (o : WObj) (s : OSl), os[j]? = some o -> sl[j]? = some s -> ObjV W o s.ls s.lc s.vd s.vm
 row : W.ownsRow w.heap.size 120 12 ov os.length (objsC os sl)
theorem WObjs.below {w W W' : World} {ov : Value} {os : List WObj} {sl : List OSl} (h : WObjs w ov os sl W) (k : Below W.heap.size W W') : WObjs w ov os sl W' :=
 ⟨h.len, fun j o s hj hs => (h.vals j o s hj hs).below k (Nat.le_refl _), row_kept h.row (Kept.of_below k) (fun _ _ q => q)⟩
theorem WMem.split {w W : World} {cb b1 : Nat} {x : Int} {sv ov : Value} {os : List WObj} (h : WMem w cb b1 x sv ov os W) : ∃ sl, WObjs w ov os sl W := by
 obtain ⟨sl, h1, h2, h3⟩ := h.objs;exact ⟨sl, h1, h2, h3⟩
theorem objsC_app (os2 : List WObj) (ss2 : List OSl) : ∀ (os : List WObj) (ss : List OSl), ss.length = os.length -> objsC (os ++ os2) (ss ++ ss2) = objsC os ss ++ objsC os2 ss2
 | [], [], _ => by simp [objsC]
 | [], y :: ss, e => by simp at e
 | x :: os, [], e => by simp at e
 | x :: os, y :: ss, e => by
  show objC x y.ls y.lc y.vd y.vm ++ objsC (os ++ os2) (ss ++ ss2) = _
  rw [objsC_app os2 ss2 os ss (by simpa using e)];show _ = (objC x y.ls y.lc y.vd y.vm ++ objsC os ss) ++ _
  rw [List.append_assoc]
theorem world_next {w W w12 : World} {rb b1 : Nat} {x : Int} {sv ov : Value} {os : List WObj} {sl : List OSl} (h : WMem w (rb + 1 + 1) b1 x sv ov os W) (hres : Blk W rb #[.int .i64 0, .int .i64 0, .int .i64 0, .slice none 0 0, .slice none 0 0] 81)
  (ho : WObjs w ov os sl W) {os2 : List WObj} {sl2 : List OSl} (hl2 : sl2.length = os2.length) (hv2 : ∀ (j : Nat) (o : WObj) (s : OSl), os2[j]? = some o -> sl2[j]? = some s -> ObjV W o s.ls s.lc s.vd s.vm) {g5 cap n : Nat} (hn : n = os.length + os2.length)
  (hown : w12.ownsRow w.heap.size 120 12 (.slice (some ⟨g5, 0, none⟩) n cap) n (objsC os sl ++ objsC os2 sl2)) (hgrow : W.grownBy w12 ov.ownBlock) :
  WMem w (rb + 1 + 1) b1 x sv (.slice (some ⟨g5, 0, none⟩) n cap) (os ++ os2) (w12.setCell ⟨rb + 1 + 1, 4, none⟩ (.slice (some ⟨g5, 0, none⟩) n cap)) /\
  Blk (w12.setCell ⟨rb + 1 + 1, 4, none⟩ (.slice (some ⟨g5, 0, none⟩) n cap)) rb #[.int .i64 0, .int .i64 0, .int .i64 0, .slice none 0 0, .slice none 0 0] 81 := by
 subst hn;have hT := row_T ho.row;have hk := kept_grown hgrow;have hc12 := blk_far h.cfg hk hT (by decide);have hT2 := blk_T hc12;have kc : Kept (· = rb + 1 + 1) w12 (w12.setCell ⟨rb + 1 + 1, 4, none⟩ (.slice (some ⟨g5, 0, none⟩) (os.length + os2.length) cap)) := (Kept.refl _ _).setIn _ _ _ rfl;refine ⟨⟨(hc12.set 4 _).cells (by simp only [List.setIfInBounds_toArray, List.set_cons_zero, List.set_cons_succ]), blk_far (blk_far h.one hk hT (by decide)) kc hT2 (by decide), rowat_far (rowat_far h.slots hk hT (by decide)) kc hT2 (by decide), ⟨sl ++ sl2, by rw [List.length_append, List.length_append, ho.len, hl2], fun j o s hj hs => ?_, ?_⟩, ?_, h.ge⟩, ?_⟩
 ·have hOV : ObjV W o s.ls s.lc s.vd s.vm := by
   rcases Nat.lt_or_ge j os.length with hj1 | hj1
   ·rw [List.getElem?_append_left hj1] at hj
    rw [List.getElem?_append_left (by rw [ho.len]; exact hj1)] at hs;exact ho.vals j o s hj hs
   ·rw [List.getElem?_append_right hj1] at hj
    rw [List.getElem?_append_right (by rw [ho.len]; exact hj1), ho.len] at hs;exact hv2 _ o s hj hs
  exact objv_far (objv_far hOV hk hT ⟨by decide, by decide, by decide⟩) kc hT2 ⟨by decide, by decide, by decide⟩
 ·rw [List.length_append, objsC_app os2 sl2 os sl ho.len]
  exact row_far hown kc hT2 (by decide)
 ·have hb : Below w.heap.size w w12 := h.bel.grown hgrow h.bel.size (fun b e => (ho.row.lt b e).1)
  exact hb.setCell (p := ⟨rb + 1 + 1, 4, none⟩) (by have := h.ge.1; exact this) _
 ·refine (blk_far hres hk hT (by decide)).set_other (a := ⟨rb + 1 + 1, 4, none⟩) ?_ _
  show rb + 1 + 1 ≠ rb
  omega
theorem seedPs_bd (d : Int) : ∀ (ls : List Int) (i : Nat), ∀ q ∈ seedPs d i ls, q.1 <= 40 /\ q.2 < 5
 | [], _, q, h => by cases h
 | n :: r, i, q, h => by
  unfold seedPs at h;rcases List.mem_append.1 h with h | h
  ·split at h
   ·simp at h
    subst h;rename_i hc;exact ⟨by show 3 * i + 1 <= 40; omega, by show (n % 5).toNat < 5; omega⟩
   ·cases h
  ·exact seedPs_bd d r (i + 1) q h
theorem PV.t_right (p : PV) (v : Value) (w : World) (h : LabIn w v p.t) : Calls Tryz.prog 25 #[v] w fun e w' => e = .returned (.bool p.t.right) /\ Below w.heap.size w w' :=
 lab_right_any p.t (by show 2 < 4294967296; omega) (fun q hq => by have := seedPs_bd _ _ _ q hq; omega) v w h
def PV.good (p : PV) : Bool := p.t.right && labOne.leq p.t.rest
theorem PV.lab_eq (p : PV) : p.lab = if p.good = true then p.t else labOne := rfl
theorem slice_to (g n c m : Nat) (hm : m <= c) (w : World) : (Instr.slice 63 (.slice (some ⟨g, 0, none⟩) n c) none (some (.int .i64 m)) none).run Tryz.prog w = .ok (.slice (some ⟨g, 0, none⟩) m c) w := by
 have h0 : (0 : Int) <= m := by omega
 have h1 : (m : Int) <= c := by omega
 go_simp
 try rfl
theorem codeB_pos (ls : List Line) : 0 < (codeB ls).length := by
 unfold codeB;split
 ·exact Nat.zero_lt_succ _
 ·rw [List.length_append]
  have : (Ins.enc ⟨29, 15, 0, 0, -((progI ls).length : Int)⟩).length = 8 := rfl
  omega
theorem code_prefix {W : World} {ca : Option Addr} {cl cc m : Nat} {ls : List Line} (h : RowAt W 5 (.slice ca cl cc) cl (bytesV (codeB ls))) (hok : ∀ l ∈ ls, l.ok) (hcl : (codeB ls).length = cl) (hm : m = min cl 576) : DataIn W (.slice ca m cc) ((codeU ls).take 576) := by
 have hlen : ((codeU ls).take 576).length = m := by
  unfold codeU;rw [List.length_take, List.length_map, hcl, hm, Nat.min_comm]
 obtain ⟨a', c', e, h1, h2, h3⟩ := h
 cases e;show RowAt W _ (.slice ca m cc) ((codeU ls).take 576).length _
 rw [hlen];refine ⟨ca, cc, rfl, by omega, h2, ?_⟩;rcases h3 with h3 | ⟨b, cs, fz, rfl, hh, hc⟩
 ·exact .inl (by omega)
 ·refine .inr ⟨b, cs, fz, rfl, hh, fun j u hj => hc j u ?_⟩
  rw [List.getElem?_map, List.getElem?_take] at hj;split at hj
  ·unfold codeU at hj
   rw [List.getElem?_map] at hj;unfold bytesV;rw [List.getElem?_map]
   cases hx : (codeB ls)[j]? with
   | none => rw [hx] at hj; cases hj
   | some x =>
    rw [hx] at hj;have hb := code_byte hok x (List.mem_of_getElem? hx);simp only [Option.map_some, Option.some.injEq] at hj ⊢;rw [<- hj];unfold byteV
    have e1 : (UInt8.ofNat x.toNat).toNat = x.toNat := by
     simp only [UInt8.toNat_ofNat'];omega
    rw [e1];congr 1
    omega
  ·cases hj
def objs3 (N : Nat) (home : Int) (lab : Lab) (vs vm vd : Value) : Array Value := #[.int .i64 3, .int .i64 (home % 2), .int .i64 (lab.d : Nat), vs, .int .i64 4, .slice none 0 0, .int .i64 0, .int .i64 0, .slice none 0 0, .slice none 0 0, .int .i64 ((N : Int) + 2), .int .i64 0, .int .i64 4, .int .i64 0, .int .i64 2, .slice none 0 0, .int .i64 0, .slice none 0 0, .int .i64 0, .int .i64 0, .slice none 0 0, vm, .int .i64 0, .int .i64 0, .int .i64 2, .int .i64 0, .int .i64 2, .slice none 0 0, .int .i64 0, .slice none 0 0, .int .i64 9, .int .i64 0, vd, .slice none 0 0, .int .i64 0, .int .i64 0]
def maps3 (N : Nat) : Array Value := #[.int .i64 0, .int .u64 ((N : Int) + 3), .int .i64 0, .int .i64 9, .bool false, .int .i64 32, .int .u64 2, .int .i64 0, .int .i64 2, .bool true, .int .i64 34, .int .u64 3, .int .i64 0, .int .i64 1, .bool true]
theorem maps_new (W : World) (N : Nat) : MapsIn (W.alloc (.cells (maps3 N) 125)) (.slice (some ⟨W.heap.size, 0, none⟩) 3 3) [⟨0, (N : Int) + 3, 0, 9, false⟩, ⟨32, 2, 0, 2, true⟩, ⟨34, 3, 0, 1, true⟩] :=
 ⟨_, 3, rfl, Nat.le_refl _, by unfold maxLen; decide, .inr ⟨_, _, _, rfl, Blk.new _ _ _, fun j u hj => by rw [<- Array.getElem?_toList]; exact hj⟩⟩
theorem worldP_snoc (p : ProgK) : ∀ (l : List ProgK) (n : Int), worldP n (l ++ [p]) = worldP n l ++ worldO (n + 3 * (l.length : Int)) p
 | [], n => by
  show worldO n p ++ [] = [] ++ worldO (n + 3 * ((0 : Nat) : Int)) p
  rw [List.append_nil, List.nil_append];congr 1
  omega
 | q :: r, n => by
  show worldO n q ++ worldP (n + 3) (r ++ [p]) = (worldO n q ++ worldP (n + 3) r) ++ _
  rw [worldP_snoc p r (n + 3), List.append_assoc, List.length_cons];congr 3
  omega
theorem world_round {w W w12 : World} {rb b1 : Nat} {x : Int} {sv ov : Value} {l : List PV} {k : Nat} {p : PV} {sl : List OSl} {tb tl : Nat} {fv gv : Value} {sa : Option Addr} {sc : Nat} {vm vd : Value} {N g5 cap : Nat}
  (hp : l[k]? = some p) (hN : 4 + 3 * k = N) (h : WIt w rb b1 x sv ov (worldH ++ worldP 4 ((l.take k).map PV.plain)) tb p fv gv W) (hl : LbV W tl p.lab sa sc) (ho : WObjs w ov (worldH ++ worldP 4 ((l.take k).map PV.plain)) sl W)
  (hm : MapsIn W vm [⟨0, (N : Int) + 3, 0, 9, false⟩, ⟨32, 2, 0, 2, true⟩, ⟨34, 3, 0, 1, true⟩]) (hd : DataIn W vd ((codeU p.lines).take 576))
  (hown : w12.ownsRow w.heap.size 120 12 (.slice (some ⟨g5, 0, none⟩) (N + 3) cap) (N + 3) (objsC (worldH ++ worldP 4 ((l.take k).map PV.plain)) sl ++ (objs3 N p.home p.lab (.slice sa p.lab.ps.length sc) vm vd).toList)) (hgrow : W.grownBy w12 ov.ownBlock) :
  WMem w (rb + 1 + 1) b1 x sv (.slice (some ⟨g5, 0, none⟩) (N + 3) cap) (worldH ++ worldP 4 ((l.take (k + 1)).map PV.plain)) (w12.setCell ⟨rb + 1 + 1, 4, none⟩ (.slice (some ⟨g5, 0, none⟩) (N + 3) cap)) /\
  Blk (w12.setCell ⟨rb + 1 + 1, 4, none⟩ (.slice (some ⟨g5, 0, none⟩) (N + 3) cap)) rb #[.int .i64 0, .int .i64 0, .int .i64 0, .slice none 0 0, .slice none 0 0] 81 := by
 have hlt := (List.getElem?_eq_some_iff.1 hp).1
 have hos : (worldH ++ worldP 4 ((l.take k).map PV.plain)).length = N := by
  rw [List.length_append, worldP_len, List.length_map, List.length_take];show 4 + _ = _
  omega
 have e : worldH ++ worldP 4 ((l.take (k + 1)).map PV.plain) = (worldH ++ worldP 4 ((l.take k).map PV.plain)) ++ worldO N p.plain := by
  rw [List.take_add_one, hp, List.map_append];show worldH ++ worldP 4 ((l.take k).map PV.plain ++ [p.plain]) = _
  rw [worldP_snoc, List.append_assoc, List.length_map, List.length_take];congr 3
  omega
 rw [e];refine world_next (os2 := worldO N p.plain) (sl2 := [⟨.slice sa p.lab.ps.length sc, .slice none 0 0, .slice none 0 0, .slice none 0 0⟩, ⟨.slice none 0 0, .slice none 0 0, .slice none 0 0, vm⟩, ⟨.slice none 0 0, .slice none 0 0, vd, .slice none 0 0⟩]) h.mem h.res ho (by rfl) (fun j o s hj hs => ?_) (by rw [hos]; rfl) ?_ hgrow
 ·match j, hj, hs with
  | 0, hj, hs => cases hj; cases hs; exact ⟨hl.ps, RowAt.nil _ _, RowAt.nil _ _, RowAt.nil _ _⟩
  | 1, hj, hs => cases hj; cases hs; exact ⟨RowAt.nil _ _, RowAt.nil _ _, RowAt.nil _ _, hm⟩
  | 2, hj, hs => cases hj; cases hs; exact ⟨RowAt.nil _ _, RowAt.nil _ _, hd, RowAt.nil _ _⟩
 ·exact hown
theorem round_cells {w W w12 : World} {rb b1 : Nat} {x : Int} {sv ov : Value} {os : List WObj} {p : PV} {sl : List OSl} {tb tl : Nat} {fv gv : Value} {sa : Option Addr} {sc : Nat}
  (h : WIt w rb b1 x sv ov os tb p fv gv W) (hl : LbV W tl p.lab sa sc) (ho : WObjs w ov os sl W) (hgrow : W.grownBy w12 ov.ownBlock) :
  (w12.cell? ⟨rb + 1 + 1, 4, none⟩ = some ov /\ w12.cell? ⟨tl, 0, none⟩ = some (.int .i64 (p.lab.d : Nat)) /\ w12.cell? ⟨tl, 1, none⟩ = some (.slice sa p.lab.ps.length sc) /\ w12.cell? ⟨tb, 3, none⟩ = some (.int .i64 p.home) /\ w12.cell? ⟨b1, 0, none⟩ = some (.int .i64 2) /\ w12.cell? ⟨b1, 1, none⟩ = some (.slice none 0 0)) /\ w12.frozen? ⟨rb + 1 + 1, 4, none⟩ = false /\ rb + 1 + 1 < w12.heap.size := by
 have hT := row_T ho.row;have hk := kept_grown hgrow;have hc := blk_far h.mem.cfg hk hT (by decide);have hb := blk_far hl.blk hk hT (by decide);have hp := blk_far h.prog hk hT (by decide);have ho := blk_far h.mem.one hk hT (by decide);exact ⟨⟨(hc.cell 4).trans rfl, (hb.cell 0).trans rfl, (hb.cell 1).trans rfl, (hp.cell 3).trans rfl, (ho.cell 0).trans rfl, (ho.cell 1).trans rfl⟩, hc.free 4, hc.lt⟩
theorem info_objW : (Tryz.prog.info? 120).map (fun i => (i.zero, i.size, i.bytes)) = some (some (.agg #[.int .i64 0, .int .i64 0, .int .i64 0, .slice none 0 0, .int .i64 0, .slice none 0 0, .int .i64 0, .int .i64 0, .slice none 0 0, .slice none 0 0, .int .i64 0, .int .i64 0]), 12, 160) := by kernel_rfl
end Go.Proofs.YtiadbhiadhgjkaaGreatDoor
namespace Go.Proofs.YtiadbhiadhgjkaaGreatDoor
section
variable {P : Program} {ops : Array Oper} {Q : Exit -> Act -> World -> Prop} {md : Region.Mode} {S : World -> Prop} {n : Nat}
def wpAnyE (P : Program) (md : Region.Mode) (ops : Array Oper) (Q : Exit -> Act -> World -> Prop) (S : World -> Prop) (n : Nat) : Nat -> Array Bool -> Act -> World -> Prop
 | 0, l, a, w => Region.ready md ops l = [] /\ Q .normal a w
 | g + 1, l, a, w => (Region.ready md ops l = [] -> Q .normal a w) /\
   ∀ i ∈ Region.ready md ops l, wpOp P ops Q i (fun a' w' => ((l.setIfInBounds i true).getD n false = false -> S w') /\ wpAnyE P md ops Q S n g (l.setIfInBounds i true) a' w') a w
theorem wpAnyE_any : ∀ (g : Nat) (l : Array Bool) (a : Act) (w : World), wpAnyE P md ops Q S n g l a w -> wpAny P md ops Q g l a w
 | 0, _, _, _, h => h
 | g + 1, _, _, _, h => ⟨h.1, fun i hi => wpOp_mono (fun a' w' h' => wpAnyE_any g _ a' w' h'.2) (h.2 i hi)⟩
def waitsB (md : Region.Mode) (ops : Array Oper) (n i : Nat) : Bool := match ops[n]? with
 | some o => o.after.any fun e => Region.binds md e && e.on == i
 | none => false
theorem waitsB_spec {i : Nat} (h : waitsB md ops n i = true) : ∃ o, ops[n]? = some o /\ ∃ e ∈ o.after, Region.binds md e = true /\ e.on = i := by
 unfold waitsB at h
 cases ho : ops[n]? with
 | none => rw [ho] at h; cases h
 | some o =>
  rw [ho] at h;obtain ⟨e, he, hb⟩ := Array.any_eq_true'.1 h;rw [Bool.and_eq_true, beq_iff_eq] at hb;exact ⟨o, rfl, e, he, hb.1, hb.2⟩
theorem getD_false_of {l : Array Bool} {i : Nat} (h : l.getD i true = false) : l.getD i false = false := by
 simp only [Array.getD_eq_getD_getElem?] at h ⊢
 cases hl : l[i]? with
 | none => rfl
 | some b => rw [hl] at h; exact h
theorem getD_set_nf {l : Array Bool} {i j : Nat} (h : i ≠ j) : (l.setIfInBounds i true).getD j false = l.getD j false := by
 simp only [Array.getD_eq_getD_getElem?, Array.getElem?_setIfInBounds_ne h]
theorem wpAnyE_first {i : Nat} {oi : Oper} {v : Value} (hi : ops[i]? = some oi) (hsel : ∀ (j : Nat) (o : Oper) cs b, ops[j]? = some o -> o.op ≠ .select cs b) (hQ : ∀ c a w, Q (.panic c) (a.put oi.dst v) w -> Q (.panic c) a w) (hn : waitsB md ops n i = true) (hni : n ≠ i) :
  ∀ (g : Nat) (l : Array Bool) (a : Act) (w : World),
   (∀ j oj, ops[j]? = some oj -> j ≠ i -> l.getD j true = false -> (∀ e ∈ oj.after, Region.binds md e = true -> e.on ≠ i) -> oi.apart ops oj = true) ->
   i ∈ Region.ready md ops l -> l.getD n false = false -> YieldsIf P ops S oi v a -> S w -> wpAnyE P md ops Q S n g (l.setIfInBounds i true) (a.put oi.dst v) w -> wpAnyE P md ops Q S n (g + 1) l a w := by
 obtain ⟨on, hon, en, hen, hbn, hein⟩ := waitsB_spec hn
 have own : ∀ {g : Nat} {l : Array Bool} {a : Act} {w : World}, l.getD n false = false -> YieldsIf P ops S oi v a -> S w -> wpAnyE P md ops Q S n g (l.setIfInBounds i true) (a.put oi.dst v) w ->
   wpOp P ops Q i (fun a' w' => ((l.setIfInBounds i true).getD n false = false -> S w') /\ wpAnyE P md ops Q S n g (l.setIfInBounds i true) a' w') a w := fun _ hy hS H => hy.wpOp hi hS ⟨fun _ => hS, H⟩
 intro g;induction g with
 | zero =>
  intro l a w _ hr hln hy hS H;refine ⟨fun h => (by rw [h] at hr; cases hr), fun j hj => ?_⟩;by_cases hji : j = i
  ·subst hji; exact own hln hy hS H
  ·have := ready_mono hj hji
   rw [H.1] at this
   cases this
 | succ g ih =>
  intro l a w hfree hr hln hy hS H;refine ⟨fun h => (by rw [h] at hr; cases hr), fun j hj => ?_⟩;by_cases hji : j = i
  ·subst hji; exact own hln hy hS H
  ·obtain ⟨hjun, oj, hoj, hall⟩ := mem_ready.1 hj
   have hil : l.getD i false = false := getD_false_of (mem_ready.1 hr).1
   have hnot : ∀ e ∈ oj.after, Region.binds md e = true -> e.on ≠ i := fun e he hb heq => by
    have h1 := hall e he hb;rw [heq, hil] at h1; cases h1
   have hjn : j ≠ n := fun e => by
    subst e;rw [hoj] at hon
    cases hon;exact hnot en hen hbn hein
   have h2 := wpOp_putIf hoj (hfree j oj hoj hji hjun hnot) (fun cs b => hsel i oi cs b hi) (fun cs b => hsel j oj cs b hoj) hQ hy (H.2 j (ready_mono hj hji))
   have hfree' : ∀ k ok, ops[k]? = some ok -> k ≠ i -> (l.setIfInBounds j true).getD k true = false -> (∀ e ∈ ok.after, Region.binds md e = true -> e.on ≠ i) -> oi.apart ops ok = true := fun k ok hk hki hun hno => by
    refine hfree k ok hk hki ?_ hno;by_cases hjk : j = k
    ·subst hjk; exact hjun
    ·rw [getD_set_ne true hjk] at hun; exact hun
   have hlj : (l.setIfInBounds j true).getD n false = false := by rw [getD_set_nf hjn]; exact hln
   refine wpOp_mono (fun a' w' h3 => ?_) h2;have hS' : S w' := h3.2.1 (by rw [getD_set_nf hjn, getD_set_nf (Ne.symm hni)]; exact hln);refine ⟨fun _ => hS', ih (l.setIfInBounds j true) a' w' hfree' (ready_mono hr (Ne.symm hji)) hlj h3.1 hS' ?_⟩;rw [Array.setIfInBounds_comm _ _ hji];exact h3.2.2
theorem wpAnyE_take {i : Nat} {oi : Oper} {v : Value} {g : Nat} {l : Array Bool} {a : Act} {w : World} (hi : ops[i]? = some oi) (hs : Region.noSelect ops = true) (hf : Region.free md ops l i = true) (hr : (Region.ready md ops l).contains i = true)
  (hn : waitsB md ops n i = true) (hni : n ≠ i) (hl : l.getD n false = false) (hQ : ∀ c a w, Q (.panic c) (a.put oi.dst v) w -> Q (.panic c) a w) (hy : YieldsIf P ops S oi v a) (hS : S w)
  (h : wpAnyE P md ops Q S n g (l.setIfInBounds i true) (a.put oi.dst v) w) : wpAnyE P md ops Q S n (g + 1) l a w :=
 wpAnyE_first hi (Region.noSelect_spec hs) hQ hn hni g l a w (Region.free_spec hi hf) (by simpa using hr) hl hy hS h
def ReadyE (P : Program) (md : Region.Mode) (ops : Array Oper) (Q : Exit -> Act -> World -> Prop) (S : World -> Prop) (n g : Nat) (l : Array Bool) (a : Act) (w : World) (rs : List Nat) : Prop :=
 ∀ i ∈ rs, wpOp P ops Q i (fun a' w' => ((l.setIfInBounds i true).getD n false = false -> S w') /\ wpAnyE P md ops Q S n g (l.setIfInBounds i true) a' w') a w
theorem ReadyE.nil {g : Nat} {l : Array Bool} {a : Act} {w : World} : ReadyE P md ops Q S n g l a w [] := fun _ h => by cases h
theorem ReadyE.cons {g : Nat} {l : Array Bool} {a : Act} {w : World} {i : Nat} {o : Oper} {rs : List Nat} (ho : ops[i]? = some o)
  (h : ∀ K' : Act -> World -> Prop, RowKit.Hid (∀ a w, ((l.setIfInBounds i true).getD n false = false -> S w) -> wpAnyE P md ops Q S n g (l.setIfInBounds i true) a w -> K' a w) -> if Region.wanted o (yielded ops a.tmps) = true then Oper.wp P o a w K' Q else K' (a.put o.dst undef) w)
  (hs : ReadyE P md ops Q S n g l a w rs) : ReadyE P md ops Q S n g l a w (i :: rs) := fun j hj => by
 rcases List.mem_cons.1 hj with rfl | hj
 ·exact wpOp_step ho (fun K' hK => h K' (Lib.hid (fun a w hS hW => hK a w ⟨hS, hW⟩)))
 ·exact hs j hj
theorem wpAnyE_ready {rs : List Nat} {g : Nat} {l : Array Bool} {a : Act} {w : World} (hr : Region.ready md ops l = rs) (hne : rs ≠ []) (h : ReadyE P md ops Q S n g l a w rs) : wpAnyE P md ops Q S n (g + 1) l a w :=
 ⟨fun h0 => absurd (hr ▸ h0) hne, hr ▸ h⟩
theorem wpAnyE_done {l : Array Bool} {a : Act} {w : World} (hr : Region.ready md ops l = []) (h : Q .normal a w) : ∀ g, wpAnyE P md ops Q S n g l a w
 | 0 => ⟨hr, h⟩
 | _ + 1 => ⟨fun _ => h, by rw [hr]; simp⟩
theorem wp_regionE (S : World -> Prop) (n : Nat) {id : Nat} {a : Act} {w : World} (hm : P.follows .mixedOrders = true) (h : wpAnyE P .any ops Q S n ops.size (Array.replicate ops.size false) a w.drew) : (Code.region id ops true).wp P Q a w :=
 wp_region_any hm (wpAnyE_any _ _ _ _ h)
end
end Go.Proofs.YtiadbhiadhgjkaaGreatDoor
