/- Of the proof of this claim: a joined text. -/
import Derived.Test.YtiadbhiadhgjkaaGreatDoorZzWoRr
import Derived.Test.YtiadbhiadhgjkaaGreatDoorZzKd
import Derived.Test.YtiadbhiadhgjkaaGreatDoorZzKf
import Derived.Test.YtiadbhiadhgjkaaGreatDoorZzKn
namespace Go.Proofs.YtiadbhiadhgjkaaGreatDoor
open Go.RowKit
attribute [local irreducible] World.setCell World.alloc World.drew World.setRow Calls Code.wp
attribute [local go_sem] Oper.semAt_some
theorem place_free {K : Km} {h : Ob} {kind : Int} {l : Lab} {n count : Int} (h1 : kind ≠ 1) (h2 : kind ≠ 2) : K.place h kind l n count = K.place h kind l 0 0 := by
 unfold Km.place costOf newOb homeOb costOf;simp [h1, h2]
theorem place_free2 {K : Km} {h : Ob} {l : Lab} {n count : Int} : K.place h 2 l n count = K.place h 2 l n 0 := by
 unfold Km.place costOf newOb homeOb costOf;simp
theorem place_boot (w : World) (g : Gh) (K K' : Km) (hm x : Ob) (o : WObj) (lv : Value) (h : KIn w g K) (hI : Inv g K) (hh : K.obj hm.name = some hm) (hk : hm.kind = 1) (hl : LabIn w lv o.lab) {m : Nat} (hok : bootOk o m = true)
  (e : K.place hm o.kind o.lab (if o.kind = 1 \/ o.kind = 2 then o.pages else 0) (if o.kind = 1 then o.names else 0) = .ok K' x) :
  Calls Tryz.prog 63 #[.pointer (some ⟨g.kb, 0, none⟩), .pointer (some ⟨g.bl hm.name, 0, none⟩), .int .i64 o.kind, lv, .int .i64 o.pages, .int .i64 o.names] w fun e w' => PlaceOk w g K' x e w' := by
 unfold bootOk at hok;simp only [Bool.and_eq_true, Bool.or_eq_true, decide_eq_true_eq] at hok;obtain ⟨o1, o2, o3⟩ := hok;have hlo := lab_ok_right o1;rcases o3 with (((⟨k1, k2⟩ | ⟨k1, k2⟩) | k1) | k1) | k1
 ·rw [k1] at e ⊢
  rw [if_pos (.inl rfl), if_pos rfl] at e;exact place_cont w g K K' hm x o.lab lv o.pages o.names h hI hh hk hl hlo k2.1 k2.2 e
 ·rw [k1] at e ⊢
  rw [if_pos (.inr rfl), if_neg (by decide), <- place_free2 (count := o.names)] at e;obtain ⟨n, hn⟩ : ∃ n : Nat, o.pages = (n : Int) := ⟨o.pages.toNat, by omega⟩;rw [hn] at e ⊢;exact place_seg w g K K' hm x o.lab lv n o.names h hI hh hk hl hlo (by omega) e
 ·rw [k1] at e ⊢
  rw [if_neg (by decide), if_neg (by decide), <- place_free (n := o.pages) (count := o.names) (by decide) (by decide)] at e;exact place_thr w g K K' hm x o.lab lv o.pages o.names h hI hh hk hl hlo e
 ·rw [k1] at e ⊢
  rw [if_neg (by decide), if_neg (by decide), <- place_free (n := o.pages) (count := o.names) (by decide) (by decide)] at e;exact place_plain w g K K' hm x 4 o.lab lv o.pages o.names h hI hh hk hl hlo (by decide) (by decide) (by decide) e
 ·rw [k1] at e ⊢
  rw [if_neg (by decide), if_neg (by decide), <- place_free (n := o.pages) (count := o.names) (by decide) (by decide)] at e;exact place_plain w g K K' hm x 6 o.lab lv o.pages o.names h hI hh hk hl hlo (by decide) (by decide) (by decide) e
end Go.Proofs.YtiadbhiadhgjkaaGreatDoor
namespace Go.Proofs.YtiadbhiadhgjkaaGreatDoor
open Go.RowKit
theorem blk_ne {w : World} {a b : Nat} {cs ds : Array Value} {t u : TypeId} (h : Blk w a cs t) (k : Blk w b ds u) (hn : t ≠ u) : a ≠ b := by
 rintro rfl;unfold Blk at h k;rw [h] at k;simp only [Option.some.injEq, Obj.cells.injEq] at k;exact hn k.2.1
theorem map_ne {w : World} {a b : Nat} {cs : Array Value} {t : TypeId} {es : List (Int × Value)} (h : Blk w a cs t) (k : MapAt w b es) : a ≠ b := by
 rintro rfl;obtain ⟨arr, clock, e, -⟩ := k.at_;unfold Blk at h;rw [h] at e; cases e
theorem map_lt {w : World} {b : Nat} {es : List (Int × Value)} (k : MapAt w b es) : b < w.heap.size := by
 obtain ⟨arr, clock, e, -⟩ := k.at_;exact (Array.getElem?_eq_some_iff.1 e).1
def pl0 : Pl := ⟨fun _ => 0, fun _ => 0, fun _ => false, 0⟩
def gh0 (kb tb mb pb db ob rb : Nat) (P : Pool) (f : Int) : Gh :=
 ⟨kb, tb, mb, pb, db, ob, 0, fun b => if b = rb then some (1, 0) else if b = kb then some (0, 0) else if b = tb then some (0, 1) else if b = mb then some (0, 2) else if b = pb then some (0, 3) else if b = db then some (0, 4) else if b = ob then some (0, 5) else none,
  fun _ => rb, fun _ => 0, P, fun _ => f, fun _ => [], fun _ => 0, fun _ => 0, fun _ _ => 0, fun _ _ => 0, fun _ _ => false, fun _ => pl0, fun _ => true, fun _ => 0, []⟩
structure RootAt (w : World) (kb tb mb pb db ob rb : Nat) (P : Pool) (f : Int) (c : WCfg) : Prop where
 kern : Blk w kb #[.pointer (some ⟨tb, 0, none⟩), .pointer (some ⟨pb, 0, none⟩), nilV, nilV, nilV, .bool false] 88
 tab : Blk w tb #[.map (some mb)] 137
 map : MapAt w mb [(1, .pointer (some ⟨rb, 0, none⟩))]
 pool : PoolAt w pb db ob P
 root : Blk w rb (obC (root0 c) (freshS nilV nilV) f (.pointer none)) 68
 late : pb < rb /\ db < rb /\ ob < rb
section
variable {w : World} {kb tb mb pb db ob rb : Nat} {P : Pool} {f : Int} {c : WCfg}
theorem km0_obj {n : Int} {o : Ob} (e : (km0 c).obj n = some o) : n = 1 /\ o = root0 c := by
 change (if n = 1 then some (root0 c) else none) = some o at e;split at e
 ·rename_i h; cases e; exact ⟨h, rfl⟩
 ·cases e
theorem RootAt.kin (h : RootAt w kb tb mb pb db ob rb P f c) : KIn w (gh0 kb tb mb pb db ob rb P f) (km0 c) := by
 have hd := h.pool.hd; have ho := h.pool.ho; have hp := h.pool.hp;have n1 := blk_ne h.kern h.root (by decide); have n2 := blk_ne h.tab h.root (by decide); have n3 := map_ne h.root h.map; have n4 := blk_ne hp h.root (by decide); have n5 := blk_ne hd h.root (by decide); have n6 := blk_ne ho h.root (by decide);have n7 := blk_ne h.tab h.kern (by decide); have n8 := map_ne h.kern h.map; have n9 := blk_ne hp h.kern (by decide); have n10 := blk_ne hd h.kern (by decide); have n11 := blk_ne ho h.kern (by decide);have n12 := map_ne h.tab h.map; have n13 := blk_ne hp h.tab (by decide); have n14 := blk_ne hd h.tab (by decide); have n15 := blk_ne ho h.tab (by decide);have n16 := map_ne hp h.map; have n17 := map_ne hd h.map; have n18 := map_ne ho h.map;have n19 := h.pool.n1; have n20 := h.pool.n2; have n21 := h.pool.n3;have l1 := h.kern.lt; have l2 := h.tab.lt; have l3 := map_lt h.map; have l4 := hp.lt; have l5 := hd.lt; have l6 := ho.lt; have l7 := h.root.lt;refine ⟨⟨?_, ?_, ?_, ?_, ?_, ?_⟩, fun b hb => ?_, ⟨nilV, nilV, nilV, .inl ⟨rfl, rfl⟩, h.kern, Own.nil _ _ _ _ _, numsIn_nil _ _ _⟩, ⟨h.tab, _, h.map, fun n => ?_⟩, h.pool, ⟨fun q => absurd q (Nat.lt_irrefl 0), fun i q => absurd q (Nat.not_lt_zero i), by show (0 : Nat) <= 4; decide, by show (0 : Nat) <= 8; decide⟩, fun s hs => (by cases hs), fun n o e => ?_⟩
 ·show (if kb = rb then _ else if kb = kb then _ else _) = _
  rw [if_neg n1, if_pos rfl]
 ·show (if tb = rb then _ else if tb = kb then _ else if tb = tb then _ else _) = _
  rw [if_neg n2, if_neg n7, if_pos rfl]
 ·show (if mb = rb then _ else if mb = kb then _ else if mb = tb then _ else if mb = mb then _ else _) = _
  rw [if_neg (Ne.symm n3), if_neg (Ne.symm n8), if_neg (Ne.symm n12), if_pos rfl]
 ·show (if pb = rb then _ else if pb = kb then _ else if pb = tb then _ else if pb = mb then _ else if pb = pb then _ else _) = _
  rw [if_neg n4, if_neg n9, if_neg n13, if_neg n16, if_pos rfl]
 ·show (if db = rb then _ else if db = kb then _ else if db = tb then _ else if db = mb then _ else if db = pb then _ else if db = db then _ else _) = _
  rw [if_neg n5, if_neg n10, if_neg n14, if_neg n17, if_neg (Ne.symm n19), if_pos rfl]
 ·show (if ob = rb then _ else if ob = kb then _ else if ob = tb then _ else if ob = mb then _ else if ob = pb then _ else if ob = db then _ else if ob = ob then _ else _) = _
  rw [if_neg n6, if_neg n11, if_neg n15, if_neg n18, if_neg (Ne.symm n20), if_neg (Ne.symm n21), if_pos rfl]
 ·show (if b = rb then _ else if b = kb then _ else if b = tb then _ else if b = mb then _ else if b = pb then _ else if b = db then _ else if b = ob then _ else none) = _
  rw [if_neg (by omega), if_neg (by omega), if_neg (by omega), if_neg (by omega), if_neg (by omega), if_neg (by omega), if_neg (by omega)]
 ·show look [(1, _)] n = ((if n = 1 then some (root0 c) else none).map _)
  by_cases e : n = 1
  ·rw [e]; rfl
  ·have : ((1 : Int) == n) = false := by simpa using fun q => e q.symm
   rw [if_neg e];simp [look, this]
 ·obtain ⟨rfl, rfl⟩ := km0_obj e
  refine ⟨rfl, ⟨by show (0 : Int) < 1; decide, if_pos rfl, h.late, freshS nilV nilV, .pointer none, h.root, ?_, fun q => absurd q (by show ¬ ((1 : Int) = 3); decide), fun _ => rfl⟩⟩;exact ⟨RowAt.nil _ _, RowAt.nil _ _, numsIn_nil _ _ _, numsIn_nil _ _ _, .inl ⟨rfl, rfl⟩, fun c hc => (by cases hc), Own.nil _ _ _ _ _, numsIn_nil _ _ _, (show (0 : Nat) < 8 by decide), (show (0 : Nat) <= 8 by decide), fun i p hp => (by cases hp), ⟨by show (2 : Nat) < 1000; decide, by show (0 : Nat) <= 1000; decide, fun p hp => (by cases hp)⟩, labOk0⟩
theorem gh0_tag {b i : Nat} {n : Int} (e : (gh0 kb tb mb pb db ob rb P f).A b = some (n, i)) : n = 0 \/ n = 1 := by
 change (if b = rb then some ((1 : Int), 0) else if b = kb then some (0, 0) else if b = tb then some (0, 1) else if b = mb then some (0, 2) else if b = pb then some (0, 3) else if b = db then some (0, 4) else if b = ob then some (0, 5) else none) = some (n, i) at e;repeat' split at e
 all_goals first
  | (cases e; exact .inl rfl)
  | (cases e; exact .inr rfl)
  | cases e
theorem root_binv (hc : 1 <= c.frames /\ c.frames <= 4096 /\ 0 <= c.names /\ c.names <= 4194302) (hl : (P.left : Int) = c.frames - 1) (hcnt : ∀ n, n ≠ 0 -> n ≠ 1 -> countTo P.O n P.n = 0) : BInv (gh0 kb tb mb pb db ob rb P f) (km0 c) := by
 obtain ⟨c1, c2, c3, c4⟩ := hc;refine ⟨⟨fun b n i e => ?_, fun n o e => ?_, fun n o e ek => ?_, fun n o e ek => ?_, fun n o e ek => rfl, fun n o e ek => ?_, fun i hi => absurd hi (Nat.not_lt_zero i), fun i hi => absurd hi (Nat.not_lt_zero i), ⟨List.nodup_nil, fun n => ⟨fun q => (by cases q), fun ⟨o, e, ek⟩ => ?_⟩⟩, ⟨?_, ?_⟩, fun n h0 e => hcnt n h0 ?_⟩, rfl, fun n o e ek => ⟨rfl, rfl⟩⟩
 ·rcases gh0_tag e with h | h
  ·exact .inl h
  ·exact .inr ⟨root0 c, by rw [h]; rfl⟩
 ·obtain ⟨rfl, rfl⟩ := km0_obj e; rfl
 ·obtain ⟨rfl, rfl⟩ := km0_obj e
  refine ⟨⟨?_, ?_⟩, ?_, ?_, ?_, ?_, ?_⟩
  ·show (0 : Int) <= 2 /\ (2 : Int) <= 2 + c.names
   omega
  ·show 2 + c.names <= 4194304
   omega
  ·show (1 : Int) <= 2
   decide
  ·show (0 : Int) <= 1
   decide
  ·show (0 : Int) <= 0
   decide
  ·show (1 : Int) + 0 <= c.frames
   omega
  ·show c.frames <= 1099511627776
   omega
 ·obtain ⟨rfl, rfl⟩ := km0_obj e
  exact absurd ek (by show ¬ ((1 : Int) = 2); decide)
 ·obtain ⟨rfl, rfl⟩ := km0_obj e
  exact absurd ek (by show ¬ ((1 : Int) = 3); decide)
 ·obtain ⟨rfl, rfl⟩ := km0_obj e
  exact absurd ek (by show ¬ ((1 : Int) = 3); decide)
 ·show 0 <= c.frames - 1
  omega
 ·show (P.left : Int) = c.frames - 1 + 0
  omega
 ·rintro rfl
  cases e
theorem countTo_zero0 (o : Int) (n : Nat) (h : o ≠ 0) : countTo (fun _ => 0) o n = 0 := by
 induction n with
 | zero => rfl
 | succ n ih => unfold countTo; rw [ih, if_neg (Ne.symm h)]
theorem left_new (n : Nat) (h : 1 <= n) : (((newPool n).alloc 1).left : Int) = n - 1 /\ ((newPool n).alloc 1).n = n /\ ∀ k, k ≠ 0 -> k ≠ 1 -> countTo ((newPool n).alloc 1).O k ((newPool n).alloc 1).n = 0 := by
 have hl : (newPool n).left = n := freeTo_zero n;obtain ⟨h1, h2, h3⟩ := alloc_facts (newPool n) 1 (by decide) (by rw [hl]; exact h);rw [hl] at h2;refine ⟨by omega, h1.n, fun k k0 k1 => ?_⟩;rw [h1.n, h1.cnt k k0 k1];exact countTo_zero0 k n k0
end
structure Begun (w00 : World) (cb : Nat) (cs : Array Value) (kb tb mb pb db ob : Nat) (P : Pool) (es : List (Int × Value)) (w : World) : Prop where
 kern : Blk w kb #[.pointer (some ⟨tb, 0, none⟩), .pointer (some ⟨pb, 0, none⟩), nilV, nilV, nilV, .bool false] 88
 tab : Blk w tb #[.map (some mb)] 137
 map : MapAt w mb es
 pool : PoolAt w pb db ob P
 box : Blk w cb cs 81
 bel : Below w00.heap.size w00 w
 lo : w00.heap.size <= kb /\ w00.heap.size <= tb /\ w00.heap.size <= mb /\ w00.heap.size <= pb /\ w00.heap.size <= db /\ w00.heap.size <= ob
section
variable {w00 w w' : World} {cb kb tb mb pb db ob rb : Nat} {cs : Array Value} {P : Pool} {es : List (Int × Value)} {f : Int}
theorem Begun.below (h : Begun w00 cb cs kb tb mb pb db ob P es w) (k : Below w.heap.size w w') : Begun w00 cb cs kb tb mb pb db ob P es w' :=
 ⟨h.kern.below k h.kern.lt, h.tab.below k h.tab.lt, h.map.below k (map_lt h.map), h.pool.below k, h.box.below k h.box.lt, h.bel.trans (k.mono h.bel.size), h.lo⟩
theorem Begun.wrote (h : Begun w00 cb cs kb tb mb pb db ob P es w) {S : Nat -> Prop} (k : Kept S w w') (hk : ¬ S kb) (ht : ¬ S tb) (hc : ¬ S cb) (hs : ∀ b, b < w00.heap.size -> ¬ S b) {es' : List (Int × Value)} (hM : MapAt w' mb es') {P' : Pool} (hP : PoolAt w' pb db ob P') : Begun w00 cb cs kb tb mb pb db ob P' es' w' :=
 ⟨k.blk h.kern hk, k.blk h.tab ht, hM, hP, k.blk h.box hc, h.bel.trans (k.below h.bel.size hs), h.lo⟩
theorem Begun.free (h : Begun w00 cb cs kb tb mb pb db ob P es w) (hr : w00.heap.size <= rb) : ∀ b, b < w00.heap.size -> (gh0 kb tb mb pb db ob rb P f).A b = none := fun b hb => by
 obtain ⟨h1, h2, h3, h4, h5, h6⟩ := h.lo;show (if b = rb then _ else if b = kb then _ else if b = tb then _ else if b = mb then _ else if b = pb then _ else if b = db then _ else if b = ob then _ else none) = _
 rw [if_neg (by omega), if_neg (by omega), if_neg (by omega), if_neg (by omega), if_neg (by omega), if_neg (by omega), if_neg (by omega)]
end
end Go.Proofs.YtiadbhiadhgjkaaGreatDoor
namespace Go.Proofs.YtiadbhiadhgjkaaGreatDoor
open Go.RowKit
section
variable {w w' : World} {g g' : Gh} {K : Km}
theorem KIn.wroteK (h : KIn w g K) {S : Nat -> Prop} (k : Kept S w w') (hm : Mild w S) (hS : ∀ b, S b -> b < w.heap.size -> g.A b = some (0, 0) \/ g.A b = some (0, 7) \/ g.A b = some (0, 8)) (l : Alike0 g g') (hl : ∀ n, Alike1 g g' n) (ht2 : g'.tlb = g.tlb /\ g'.flush = g.flush /\ g'.last = g.last) (hP : g'.P = g.P)
  (hnew : ∀ b, b < w.heap.size -> g.A b = none -> g'.A b = none) (hnrm : ∀ b, w'.heap.size <= b -> g'.A b = none) {slots : List (Int × Int)} {devs : List Int} {done : Bool} (hK : KernIn w' g' K.nc slots devs done) (hsl : ∀ s ∈ slots, 1 <= s.2 /\ s.2 <= 16) (hlen : slots.length = K.slots.length \/ (K.nc = 0 /\ slots.length <= 8)) :
  KIn w' g' { K with slots := slots, devs := devs, done := done } /\ Ext g g' w w' := by
 have h0 : ∀ b i, 1 <= i -> i <= 6 -> S b -> b < w.heap.size -> g.A b ≠ some (0, i) := fun b i h1 h6 q ql e => by
  rcases hS b q ql with e1 | e1 | e1 <;> · rw [e1] at e; cases e; omega
 have hn : ∀ b (n : Int) i, 0 < n -> S b -> b < w.heap.size -> g.A b ≠ some (n, i) := fun b n i hp q ql e => by
  rcases hS b q ql with e1 | e1 | e1 <;> · rw [e1] at e; cases e; omega
 have hc := h.cores.kept k l (fun b q ql => h0 b 6 (by omega) (by omega) q ql) ht2
 refine ⟨⟨h.tags.alike l, hnrm, hK, h.tab.kept h.tags k l (fun b q ql => ⟨h0 b 1 (by omega) (by omega) q ql, h0 b 2 (by omega) (by omega) q ql⟩) (fun _ => rfl) (fun n _ _ => (hl n).bl), by rw [hP]; exact h.pool.tagged h.tags k l (fun b q ql i h3 h5 => h0 b i (by omega) (by omega) q ql), ?_, hsl,
  fun n o e => ⟨(h.objs n o e).1, (h.objs n o e).2.kept k hm (fun b q ql i => hn b _ i (h.objs n o e).2.pos q ql) l.A (hl _) ⟨l.pb, l.db, l.ob⟩⟩⟩, Ext.wrote l k (fun b q ql => by rcases hS b q ql with e | e | e <;> exact ⟨_, e⟩) hnew (fun n _ => ⟨(hl n).bl, (hl n).tl⟩)⟩
 show CoresIn w' g' K.nc K.cores slots.length
 rcases hlen with e | ⟨e1, e2⟩
 ·rw [e]; exact hc
 ·exact ⟨fun q => by omega, fun i hi => by omega, by omega, e2⟩
theorem KIn.putK (h : KIn w g K) {cv sv dv : Value} (hB : Blk w g.kb (kernC g cv sv dv K.done) 88) {v : Value} {e size n0 : Nat} {xs : List Value} {j : Nat} (hj : j = 7 \/ j = 8) (hv : Own w g.A (0, j) e size v n0 xs) (he : e ≠ 111 /\ e ≠ 5)
  {w5 : World} (hk : Kept (fun b => v.ownBlock = some b) w w5) {g5 cap n ci : Nat} {ys : List Value} (hrow : w5.ownsRow 0 e size (.slice (some ⟨g5, 0, none⟩) n cap) n ys) (hg5 : v.ownBlock = some g5 \/ w.heap.size <= g5) (hlt : g5 < w5.heap.size)
  {slots : List (Int × Int)} {devs : List Int} (hsl : ∀ s ∈ slots, 1 <= s.2 /\ s.2 <= 16) (hlen : slots.length = K.slots.length \/ (K.nc = 0 /\ slots.length <= 8))
  (hK : Own (w5.setCell ⟨g.kb, ci, none⟩ (.slice (some ⟨g5, 0, none⟩) n cap)) (g.own g5 (0, j)).A (0, j) e size (.slice (some ⟨g5, 0, none⟩) n cap) n ys -> Kept (GrowS v g.kb) w (w5.setCell ⟨g.kb, ci, none⟩ (.slice (some ⟨g5, 0, none⟩) n cap)) -> Alike0 g (g.own g5 (0, j)) -> (∀ b, GrowS v g.kb b -> g.A b = some (0, j) \/ g.A b = some (0, 0)) -> Blk (w5.setCell ⟨g.kb, ci, none⟩ (.slice (some ⟨g5, 0, none⟩) n cap)) g.kb ((kernC g cv sv dv K.done).setIfInBounds ci (.slice (some ⟨g5, 0, none⟩) n cap)) 88 ->
   KernIn (w5.setCell ⟨g.kb, ci, none⟩ (.slice (some ⟨g5, 0, none⟩) n cap)) (g.own g5 (0, j)) K.nc slots devs K.done) :
  KIn (w5.setCell ⟨g.kb, ci, none⟩ (.slice (some ⟨g5, 0, none⟩) n cap)) (g.own g5 (0, j)) { K with slots := slots, devs := devs } /\ Ext g (g.own g5 (0, j)) w (w5.setCell ⟨g.kb, ci, none⟩ (.slice (some ⟨g5, 0, none⟩) n cap)) := by
 have hkk := grow_kept (B := g.kb) (ci := ci) hk (.slice (some ⟨g5, 0, none⟩) n cap);have hm : Mild w (GrowS v g.kb) := grow_mild hB hv.row (by decide) he;have hold := grow_old (hv := hv.tag) h.nrm hg5
 have hs : ∀ b, GrowS v g.kb b -> g.A b = some (0, j) \/ g.A b = some (0, 0) := fun b q => by
  rcases q with q | q
  ·exact .inl (hv.tag b q)
  ·rw [q]; exact .inr h.tags.kb
 have hsz : (w5.setCell ⟨g.kb, ci, none⟩ (.slice (some ⟨g5, 0, none⟩) n cap)).heap.size = w5.heap.size := by simp [World.setCell]
 have hj0 : ((0 : Int), j) ≠ (0, 0) := fun e => by have := congrArg Prod.snd e; simp only at this; omega
 have hne : g.kb ≠ g5 := fun e => by
  rcases hg5 with e1 | e1
  ·have := hv.tag _ e1; rw [<- e, h.tags.kb] at this; injection this with this; exact hj0 this.symm
  ·have := hB.lt; omega
 have hB5 : Blk w5 g.kb (kernC g cv sv dv K.done) 88 := hk.blk hB (fun e => by have := hv.tag _ e; rw [h.tags.kb] at this; injection this with this; exact hj0 this.symm);have hl0 := Alike0.own g (b := g5) (tg := (0, j)) hold;refine h.wroteK hkk hm (fun b q _ => ?_) hl0 (fun m => Alike1.own g g5 _ m) ⟨rfl, rfl, rfl⟩ rfl ?_ ?_ (hK ⟨row_kept hrow ((Kept.refl (· = g.kb) w5).setIn _ _ _ rfl) (fun b hb q => by cases hb; exact hne q.symm), fun b hb => by cases hb; exact if_pos rfl⟩ hkk hl0 hs (hB5.set ci _)) hsl hlen
 ·rcases hs b q with e1 | e1
  ·rcases hj with rfl | rfl
   ·exact .inr (.inl e1)
   ·exact .inr (.inr e1)
  ·exact .inl e1
 ·intro b hb e
  rw [Gh.own_A, if_neg]; · exact e
  rintro rfl;rcases hg5 with e1 | e1
  ·have := hv.tag _ e1; rw [e] at this; cases this
  ·omega
 ·intro b hb
  rw [hsz] at hb;rw [Gh.own_A, if_neg (by omega)];exact h.nrm b (Nat.le_trans hk.size hb)
theorem KIn.putDevs (h : KIn w g K) {cv sv dv : Value} (hcv : CoreV g K.nc cv) (hB : Blk w g.kb (kernC g cv sv dv K.done) 88) (hsv : Own w g.A (0, 7) 127 2 sv K.slots.length (K.slots.flatMap slotV)) (hv : NumsIn w g.A (0, 8) dv K.devs)
  {w5 : World} (hk : Kept (fun b => dv.ownBlock = some b) w w5) {g5 cap : Nat} {x : Int} (hrow : w5.ownsRow 0 37 1 (.slice (some ⟨g5, 0, none⟩) (K.devs.length + 1) cap) (K.devs.length + 1) (K.devs.map (.int .u64) ++ [.int .u64 x])) (hg5 : dv.ownBlock = some g5 \/ w.heap.size <= g5) (hlt : g5 < w5.heap.size) :
  KIn (w5.setCell ⟨g.kb, 4, none⟩ (.slice (some ⟨g5, 0, none⟩) (K.devs.length + 1) cap)) (g.own g5 (0, 8)) { K with devs := K.devs ++ [x] } /\ Ext g (g.own g5 (0, 8)) w (w5.setCell ⟨g.kb, 4, none⟩ (.slice (some ⟨g5, 0, none⟩) (K.devs.length + 1) cap)) := by
 refine h.putK hB (.inr rfl) hv (by decide) hk hrow hg5 hlt h.slot (.inl rfl) (fun o1 o2 o3 o4 o5 => ⟨cv, sv, _, hcv, o5, Own.kept hsv o2 (fun b q _ e => ?_) o3.A, ?_⟩)
 ·rcases o4 b q with e1 | e1 <;> · rw [e1] at e; cases e
 ·unfold NumsIn
  rw [List.map_append, List.length_append];exact o1
theorem KIn.putSlots (h : KIn w g K) (hnc : K.nc = 0) {cv sv dv : Value} (hcv : CoreV g K.nc cv) (hB : Blk w g.kb (kernC g cv sv dv K.done) 88) (hsv : Own w g.A (0, 7) 127 2 sv K.slots.length (K.slots.flatMap slotV)) (hv : NumsIn w g.A (0, 8) dv K.devs)
  {w5 : World} (hk : Kept (fun b => sv.ownBlock = some b) w w5) {g5 cap : Nat} {x : Int × Int} (hrow : w5.ownsRow 0 127 2 (.slice (some ⟨g5, 0, none⟩) (K.slots.length + 1) cap) (K.slots.length + 1) (K.slots.flatMap slotV ++ slotV x)) (hg5 : sv.ownBlock = some g5 \/ w.heap.size <= g5) (hlt : g5 < w5.heap.size) (hx : 1 <= x.2 /\ x.2 <= 16) (h8 : K.slots.length < 8) :
  KIn (w5.setCell ⟨g.kb, 3, none⟩ (.slice (some ⟨g5, 0, none⟩) (K.slots.length + 1) cap)) (g.own g5 (0, 7)) { K with slots := K.slots ++ [x] } /\ Ext g (g.own g5 (0, 7)) w (w5.setCell ⟨g.kb, 3, none⟩ (.slice (some ⟨g5, 0, none⟩) (K.slots.length + 1) cap)) := by
 refine h.putK hB (.inl rfl) hsv (by decide) hk hrow hg5 hlt (fun s hs => ?_) (.inr ⟨hnc, by rw [List.length_append]; show _ + 1 <= 8; omega⟩) (fun o1 o2 o3 o4 o5 => ⟨cv, _, dv, hcv, o5, ?_, Own.kept hv o2 (fun b q _ e => ?_) o3.A⟩)
 ·rcases List.mem_append.1 hs with hs | hs
  ·exact h.slot s hs
  ·simp at hs; subst hs; exact hx
 ·rw [List.length_append, List.flatMap_append]
  have : ([x] : List (Int × Int)).flatMap slotV = slotV x := by simp
  rw [this]; exact o1
 ·rcases o4 b q with e1 | e1 <;> · rw [e1] at e; cases e
end
structure BootSt (w00 : World) (lo : Nat) (bxs : List (Nat × Array Value × TypeId)) (w : World) (g : Gh) (K : Km) (mv : Value) (made : List Int) : Prop where
 kin : KIn w g K
 inv : BInv g K
 le : lo <= w.heap.size
 bel : Below lo w00 w
 free : ∀ b, b < lo -> g.A b = none
 row : w.ownsRow lo 37 1 mv made.length (made.map (.int .u64))
 rowA : ∀ b, mv.ownBlock = some b -> g.A b = none
 box : ∀ t ∈ bxs, Blk w t.1 t.2.1 t.2.2 /\ g.A t.1 = none /\ mv.ownBlock ≠ some t.1
section
variable {w00 w w' : World} {lo : Nat} {bxs : List (Nat × Array Value × TypeId)} {g g' : Gh} {K K' : Km} {mv : Value} {made : List Int}
theorem BootSt.step (h : BootSt w00 lo bxs w g K mv made) (k : KIn w' g' K') (i : BInv g' K') (e : Ext g g' w w') : BootSt w00 lo bxs w' g' K' mv made :=
 ⟨k, i, Nat.le_trans h.le e.kept.size, h.bel.trans (e.kept.below h.le (fun b hb q => q (h.free b hb))), fun b hb => e.tag b (Nat.lt_of_lt_of_le hb h.le) (h.free b hb), row_kept h.row e.kept (fun b hb q => q (h.rowA b hb)), fun b hb => e.tag b (own_lt h.row hb) (h.rowA b hb),
  fun t ht => ⟨e.kept.blk (h.box t ht).1 (fun q => q (h.box t ht).2.1), e.tag _ (h.box t ht).1.lt (h.box t ht).2.1, (h.box t ht).2.2⟩⟩
theorem BootSt.below (h : BootSt w00 lo bxs w g K mv made) (k : Below w.heap.size w w') : BootSt w00 lo bxs w' g K mv made := h.step (h.kin.below k) h.inv (Ext.below k)
theorem BootSt.addBox (h : BootSt w00 lo bxs w g K mv made) (cs : Array Value) (ty : TypeId) : BootSt w00 lo ((w.heap.size, cs, ty) :: bxs) (w.alloc (.cells cs ty)) g K mv made := by
 have hb := (Below.refl w.heap.size w).alloc (Nat.le_refl _) (.cells cs ty);have h' := h.below hb;refine ⟨h'.kin, h'.inv, h'.le, h'.bel, h'.free, h'.row, h'.rowA, fun t ht => ?_⟩;rcases List.mem_cons.1 ht with e | e
 ·subst e
  exact ⟨Blk.new _ _ _, h.kin.nrm _ (Nat.le_refl _), fun q => by have := own_lt h.row q; omega⟩
 ·exact h'.box t e
theorem BootSt.drop {t : Nat × Array Value × TypeId} (h : BootSt w00 lo (t :: bxs) w g K mv made) : BootSt w00 lo bxs w g K mv made := ⟨h.kin, h.inv, h.le, h.bel, h.free, h.row, h.rowA, fun t ht => h.box t (List.mem_cons_of_mem _ ht)⟩
theorem BootSt.drop0 {t u : Nat × Array Value × TypeId} (h : BootSt w00 lo [t, u] w g K mv made) : BootSt w00 lo [u] w g K mv made := h.drop
theorem BootSt.more (h : BootSt w00 lo bxs w g K mv made) {g5 cap : Nat} {x : Int} (hrow : w'.ownsRow lo 37 1 (.slice (some ⟨g5, 0, none⟩) (made.length + 1) cap) (made.length + 1) (made.map (.int .u64) ++ [.int .u64 x])) (hg : Kept (fun b => mv.ownBlock = some b) w w') (hg5 : mv.ownBlock = some g5 \/ w.heap.size <= g5) : BootSt w00 lo bxs w' g K (.slice (some ⟨g5, 0, none⟩) (made.length + 1) cap) (made ++ [x]) := by
 have hm : Mild w (fun b => mv.ownBlock = some b) := fun b cs ty fz q hh => by
  obtain ⟨cur, hc, -⟩ := row_type h.row q;rw [hc] at hh; cases hh; decide
 refine ⟨h.kin.kept hg hm (fun b q _ => .inl (h.rowA b q)), h.inv, Nat.le_trans h.le hg.size, h.bel.trans (hg.below h.le (fun b hb q => by obtain ⟨cur, -, e⟩ := row_type h.row q; omega)), h.free, ?_, fun b hb => ?_, fun t ht => ⟨hg.blk (h.box t ht).1 (h.box t ht).2.2, (h.box t ht).2.1, fun q => ?_⟩⟩
 ·rw [List.map_append, List.length_append]; exact hrow
 ·cases hb
  rcases hg5 with e | e
  ·exact h.rowA _ e
  ·exact h.kin.nrm _ e
 ·cases q
  rcases hg5 with e | e
  ·exact (h.box t ht).2.2 e
  ·exact absurd (h.box t ht).1.lt (Nat.not_lt.2 e)
theorem BInv.more {x : Ob} (h : BInv g K) (hI : Inv g' K') (hxn : K.obj x.name = none) (hnc : K'.nc = 0) (hl : ∀ n, n ≠ x.name -> Alike1 g g' n) (hx : x.kind = 3 -> g'.root x.name = 0 /\ g'.tabs x.name = 0) (hK : ∀ n o, K'.obj n = some o -> (n = x.name /\ o.kind = x.kind) \/ ∃ b, K.obj n = some b /\ b.kind = o.kind) : BInv g' K' := by
 refine ⟨hI, hnc, fun n o e ek => ?_⟩;rcases hK n o e with ⟨e1, e2⟩ | ⟨b, e1, e2⟩
 ·rw [e1]; exact hx (by rw [<- e2]; exact ek)
 ·by_cases q : n = x.name
  ·rw [q, hxn] at e1; cases e1
  ·obtain ⟨t1, t2⟩ := h.th n b e1 (by rw [e2]; exact ek)
   exact ⟨by rw [(hl n q).root]; exact t1, by rw [(hl n q).tabs]; exact t2⟩
end
theorem bootOne_spec {K K2 : Km} {made made2 : List Int} {o : WObj} (e : bootOne K made o = some (K2, made2)) : bootOk o made.length = true /\ ∃ h K' x, K.obj (made.getD o.parent.toNat 0) = some h /\ h.kind = 1 /\
  K.place h o.kind o.lab (if o.kind = 1 \/ o.kind = 2 then o.pages else 0) (if o.kind = 1 then o.names else 0) = .ok K' x /\ K2 = (if o.kind = 2 then K'.set { x with data := dataF o.data } else if o.kind = 6 then { K' with devs := K'.devs ++ [x.name] } else K') /\ made2 = made ++ [x.name] := by
 unfold bootOne at e;by_cases h1 : bootOk o made.length = true
 ·rw [if_pos h1] at e
  cases h2 : K.obj (made.getD o.parent.toNat 0) with
  | none => rw [h2] at e; cases e
  | some h =>
   rw [h2] at e;simp only at e;by_cases h3 : h.kind = 1
   ·rw [if_pos h3] at e
    cases h4 : K.place h o.kind o.lab (if o.kind = 1 \/ o.kind = 2 then o.pages else 0) (if o.kind = 1 then o.names else 0) with
    | err c => rw [h4] at e; cases e
    | out => rw [h4] at e; cases e
    | ok K' x =>
     rw [h4] at e;simp only [Option.some.injEq, Prod.mk.injEq] at e;exact ⟨h1, h, K', x, rfl, h3, h4, e.1.symm, e.2.symm⟩
   ·rw [if_neg h3] at e; cases e
 ·rw [if_neg h1] at e; cases e
theorem bootAll_cons {K : Km} {made : List Int} {o : WObj} {os : List WObj} {r : Km × List Int} (e : bootAll K made (o :: os) = some r) : ∃ K' made', bootOne K made o = some (K', made') /\ bootAll K' made' os = some r := by
 unfold bootAll at e
 cases h : bootOne K made o with
 | none => rw [h] at e; cases e
 | some p => rw [h] at e; exact ⟨p.1, p.2, rfl, e⟩
theorem BInv.own {g : Gh} {K : Km} (h : BInv g K) (b : Nat) (tg : Int × Nat) (h0 : tg.1 = 0) (devs : List Int) : BInv (g.own b tg) { K with devs := devs } := by
 refine ⟨⟨fun c n i e => ?_, h.inv.name, h.inv.cont, fun n o e k => ⟨(h.inv.seg n o e k).inn, (h.inv.seg n o e k).len, (h.inv.seg n o e k).p16, (h.inv.seg n o e k).data⟩, h.inv.noseg, h.inv.thr, h.inv.tlb, h.inv.tn, h.inv.ths, h.inv.room, h.inv.cnt0⟩, h.nc, h.th⟩;rw [Gh.own_A] at e;split at e
 ·cases e; exact .inl h0
 ·exact h.inv.own c n i e
theorem BInv.slots {g : Gh} {K : Km} (h : BInv g K) (slots : List (Int × Int)) : BInv g { K with slots := slots } :=
 ⟨⟨h.inv.own, h.inv.name, h.inv.cont, h.inv.seg, h.inv.noseg, h.inv.thr, h.inv.tlb, h.inv.tn, h.inv.ths, h.inv.room, h.inv.cnt0⟩, h.nc, h.th⟩
theorem info_slot3 : (Tryz.prog.info? 127).map (fun i => (i.zero, i.size, i.bytes)) = some (some (.agg #[.int .u64 0, .int .i64 0]), 2, 16) := by kernel_rfl
structure Placed (K K' : Km) (x : Ob) (kind n : Int) : Prop where
 new : K.obj x.name = none
 nc : K'.nc = K.nc
 slots : K'.slots = K.slots
 devs : K'.devs = K.devs
 there : K'.obj x.name = some x
 kd : x.kind = kind
 data : x.data = fun _ => 0
 pages : kind = 2 -> x.pages = n.toNat
 old : ∀ n o, K'.obj n = some o -> (n = x.name /\ o.kind = x.kind) \/ ∃ b, K.obj n = some b /\ b.kind = o.kind
theorem placed {K K' : Km} {h x : Ob} {kind : Int} {l : Lab} {n count : Int} (hh : K.obj h.name = some h) (e : K.place h kind l n count = .ok K' x) : Placed K K' x kind n := by
 obtain ⟨-, -, -, -, a5, rfl, rfl⟩ := place_spec e;have hne : h.names.next ≠ h.name := fun q => by rw [q, hh] at a5; cases a5
 have hobj : ∀ m, ({ (K.set (newOb h kind l n count)).set (homeOb h kind n count) with room := K.room - costOf kind n } : Km).obj m = if m = h.name then some (homeOb h kind n count) else if m = h.names.next then some (newOb h kind l n count) else K.obj m := fun _ => rfl
 refine ⟨a5, rfl, rfl, rfl, ?_, rfl, rfl, fun q => if_pos q, fun m o e => ?_⟩
 ·rw [hobj]
  show (if h.names.next = h.name then _ else if h.names.next = h.names.next then _ else _) = _
  rw [if_neg hne, if_pos rfl]
 ·rw [hobj] at e
  by_cases q : m = h.name
  ·rw [if_pos q] at e; cases e
   exact .inr ⟨h, by rw [q]; exact hh, rfl⟩
  ·rw [if_neg q] at e
   by_cases q2 : m = h.names.next
   ·rw [if_pos q2] at e; cases e; exact .inl ⟨q2, rfl⟩
   ·rw [if_neg q2] at e; exact .inr ⟨o, e, rfl⟩
end Go.Proofs.YtiadbhiadhgjkaaGreatDoor
namespace Go.Proofs.YtiadbhiadhgjkaaGreatDoor
open Go.RowKit
attribute [local irreducible] World.setCell World.alloc World.drew World.setRow Calls Code.wp
theorem fillOne_spec {K K2 : Km} {made : List Int} {cores : Int} {i : Nat} {o : WObj} (e : fillOne K made cores i o = some K2) : ∃ x, K.obj (made.getD (i + 1) 0) = some x /\ x.kind = o.kind /\ fillOk o x made.length = true /\
  K2 = (if o.kind = 4 then K.set { x with maps := x.maps ++ o.maps.map (mapFill made) } else if o.kind = 3 then K.set (x.wTh (thFill x o made cores)) else K) := by
 unfold fillOne at e
 cases h : K.obj (made.getD (i + 1) 0) with
 | none => rw [h] at e; cases e
 | some x =>
  rw [h] at e;simp only at e;by_cases q : (decide (x.kind = o.kind) && fillOk o x made.length) = true
  ·rw [if_pos q] at e
   simp only [Option.some.injEq] at e;simp only [Bool.and_eq_true, decide_eq_true_eq] at q;exact ⟨x, rfl, q.1, q.2, e.symm⟩
  ·rw [if_neg q] at e; cases e
theorem fillAll_cons {K : Km} {made : List Int} {cores : Int} {i : Nat} {o : WObj} {os : List WObj} {r : Km} (e : fillAll K made cores i (o :: os) = some r) : ∃ K', fillOne K made cores i o = some K' /\ fillAll K' made cores (i + 1) os = some r := by
 unfold fillAll at e
 cases h : fillOne K made cores i o with
 | none => rw [h] at e; cases e
 | some p => rw [h] at e; exact ⟨p, rfl, e⟩
theorem fill_boot {w00 w : World} {lo : Nat} {bxs : List (Nat × Array Value × TypeId)} {g : Gh} {K : Km} {mv : Value} {made : List Int} (h : BootSt w00 lo bxs w g K mv made) (hlo : lo = w00.heap.size) {o : WObj} {ls lc vd vm : Value} (hv : ObjV w00 o ls lc vd vm) {x : Ob} (hx : K.obj x.name = some x) (hk : x.kind = o.kind)
  {cores : Int} (hc : 1 <= cores /\ cores <= 4) (hok : fillOk o x made.length = true) (hml : made.length <= 1000) {K2 : Km} (hK2 : K2 = (if o.kind = 4 then K.set { x with maps := x.maps ++ o.maps.map (mapFill made) } else if o.kind = 3 then K.set (x.wTh (thFill x o made cores)) else K)) :
  Calls Tryz.prog 65 #[.pointer (some ⟨g.kb, 0, none⟩), .pointer (some ⟨g.bl x.name, 0, none⟩), wobjV o ls lc vd vm, mv, .int .i64 cores] w fun e w' =>
   e = .returned (.tuple #[]) /\ ∃ g', BootSt w00 lo bxs w' g' K2 mv made /\ g'.kb = g.kb /\ K2.slots = K.slots := by
 have hvw := hv.below h.bel (by omega);unfold fillOk at hok;simp only [Bool.or_eq_true, Bool.and_eq_true, decide_eq_true_eq, List.all_eq_true] at hok;rcases hok with (⟨k1, s1, s2, s3⟩ | ⟨k1, s1, s2, s3, s4⟩) | ⟨k1, s1⟩
 ·rw [if_pos k1] at hK2
  refine (fill_space w g K h.kin x hx (hk.trans k1) o ls lc vd vm mv made cores hvw k1 s1 (fun wx kw => ?_) (fun m hm => s2 m hm) s3 (by omega)).mono ?_
  ·have hb := h.bel.trans (kw.below h.le (fun b hb q => q (h.free b hb)))
   refine ⟨RowAt.below hv.maps hb (by omega), RowAt.own (row_kept h.row kw (fun b hb q => q (h.rowA b hb)))⟩
  ·rintro e w' ⟨rfl, g', f1, f2, f3, ⟨f4, -, -, -, -, -, -, f5⟩, f6⟩
   rw [List.take_length] at f1;refine ⟨rfl, g', ?_, f2.al.kb, by rw [hK2]; rfl⟩;rw [hK2];refine h.step f1 (h.inv.set hx rfl rfl (fun q => ?_) (fun q => ?_) (by rw [f4]; exact SegMv.refl _ _) (by rw [f4]) f3 f5 (fun b n i e => (f6 b n i e))) f2
   ·have : x.kind = 1 := q
    omega
   ·have : x.kind = 2 := q
    omega
 ·rw [if_neg (by omega), if_pos k1] at hK2
  refine (fill_thread w g K h.kin x hx (hk.trans k1) o ls lc vd vm mv made cores hvw k1 (RowAt.own h.row) s1 s2 hc s4 (lab_ok_right s3)).mono ?_;rintro e w' ⟨rfl, f1, f2⟩;refine ⟨rfl, g, ?_, rfl, by rw [hK2]; rfl⟩;rw [hK2];refine h.step f1 (h.inv.set hx rfl rfl (fun q => ?_) (fun q => ?_) (SegMv.refl _ _) rfl (fun n => Alike1.refl g n) rfl (fun b n i e => .inl e)) f2
  ·have : x.kind = 1 := q
   omega
  ·have : x.kind = 2 := q
   omega
 ·rw [if_neg k1.2.1, if_neg k1.1] at hK2
  refine (fill_plain _ _ o ls lc vd vm mv cores w hvw k1.1 k1.2.1 k1.2.2 s1).mono ?_;rintro e w' ⟨rfl, f1⟩;exact ⟨rfl, g, by rw [hK2]; exact h.below f1, rfl, by rw [hK2]⟩
end Go.Proofs.YtiadbhiadhgjkaaGreatDoor
namespace Go.Proofs.YtiadbhiadhgjkaaGreatDoor
open Go.RowKit
structure KInM (w : World) (g : Gh) (K : Km) (cv : Value) : Prop where
 tags : TagsIn g
 nrm : ∀ b, w.heap.size <= b -> g.A b = none
 kern : ∃ sv dv, Blk w g.kb (kernC g cv sv dv K.done) 88 /\ Own w g.A (0, 7) 127 2 sv K.slots.length (K.slots.flatMap slotV) /\ NumsIn w g.A (0, 8) dv K.devs
 tab : TabIn w g K.obj
 pool : PoolAt w g.pb g.db g.ob g.P
 slot : ∀ s ∈ K.slots, 1 <= s.2 /\ s.2 <= 16
 objs : ∀ n o, K.obj n = some o -> o.name = n /\ ObIn w g o
def core0 (left : Int) : KCore := ⟨0, left, 0, fun _ => 0, 0⟩
def coreL (left : Int) : List Value := coreC (core0 left) Pl.zero false 0
def coresL (left : Int) : Nat -> List Value
 | 0 => []
 | n + 1 => coresL left n ++ coreL left
theorem coresL_len (left : Int) (n : Nat) : (coresL left n).length = n * 27 := by
 induction n with
 | zero => rfl
 | succ n ih => unfold coresL; rw [List.length_append, ih, Nat.succ_mul]; rfl
theorem coresL_at (left : Int) : ∀ n i j, i < n -> j < 27 -> (coresL left n)[i * 27 + j]? = (coreL left)[j]?
 | 0, i, j, h, _ => by omega
 | n + 1, i, j, h, hj => by
  unfold coresL;by_cases q : i < n
  ·rw [List.getElem?_append_left (by rw [coresL_len]; omega)]; exact coresL_at left n i j q hj
  ·obtain rfl : i = n := by omega
   rw [List.getElem?_append_right (by rw [coresL_len]; omega), coresL_len];congr 1; omega
section
variable {w w' w5 : World} {g : Gh} {K : Km} {cv : Value}
theorem KIn.toM (h : KIn w g K) (hnc : K.nc = 0) : KInM w g K (.slice none 0 0) := by
 obtain ⟨cv, sv, dv, h1, h2, h3, h4⟩ := h.kern.ex;rcases h1 with ⟨-, rfl⟩ | ⟨cap, -, -, -, hp⟩
 ·exact ⟨h.tags, h.nrm, ⟨sv, dv, h2, h3, h4⟩, h.tab, h.pool, h.slot, h.objs⟩
 ·omega
theorem KInM.put (h : KInM w g K cv) {n0 : Nat} {xs ys : List Value} (hv : Own w g.A (0, 6) 162 27 cv n0 xs) (hk : Kept (fun b => cv.ownBlock = some b) w w5) {g5 cap n : Nat} (hrow : w5.ownsRow 0 162 27 (.slice (some ⟨g5, 0, none⟩) n cap) n ys) (hg5 : cv.ownBlock = some g5 \/ w.heap.size <= g5) (hlt : g5 < w5.heap.size) :
  KInM (w5.setCell ⟨g.kb, 2, none⟩ (.slice (some ⟨g5, 0, none⟩) n cap)) (g.own g5 (0, 6)) K (.slice (some ⟨g5, 0, none⟩) n cap) /\ Own (w5.setCell ⟨g.kb, 2, none⟩ (.slice (some ⟨g5, 0, none⟩) n cap)) (g.own g5 (0, 6)).A (0, 6) 162 27 (.slice (some ⟨g5, 0, none⟩) n cap) n ys /\ Ext g (g.own g5 (0, 6)) w (w5.setCell ⟨g.kb, 2, none⟩ (.slice (some ⟨g5, 0, none⟩) n cap)) := by
 obtain ⟨sv, dv, hB, hsv, hdv⟩ := h.kern;have k := grow_kept (B := g.kb) (ci := 2) hk (.slice (some ⟨g5, 0, none⟩) n cap);have hm : Mild w (GrowS cv g.kb) := grow_mild hB hv.row (by decide) (by decide);have hold := grow_old (hv := hv.tag) h.nrm hg5
 have hs : ∀ b, GrowS cv g.kb b -> g.A b = some (0, 6) \/ g.A b = some (0, 0) := fun b q => by
  rcases q with q | q
  ·exact .inl (hv.tag b q)
  ·rw [q]; exact .inr h.tags.kb
 have hsz : (w5.setCell ⟨g.kb, 2, none⟩ (.slice (some ⟨g5, 0, none⟩) n cap)).heap.size = w5.heap.size := by simp [World.setCell]
 have hne : g.kb ≠ g5 := fun e => by
  rcases hg5 with e1 | e1
  ·have := hv.tag _ e1; rw [<- e, h.tags.kb] at this; cases this
  ·have := hB.lt; omega
 have hB5 : Blk w5 g.kb (kernC g cv sv dv K.done) 88 := hk.blk hB (fun e => by have := hv.tag _ e; rw [h.tags.kb] at this; cases this);have l := Alike0.own g (b := g5) (tg := (0, 6)) hold
 have h0 : ∀ b i, i ≠ 6 -> i ≠ 0 -> GrowS cv g.kb b -> g.A b ≠ some (0, i) := fun b i h6 h0 q e => by
  rcases hs b q with e1 | e1 <;> · rw [e1] at e; cases e; omega
 have hn : ∀ b (m : Int) i, 0 < m -> GrowS cv g.kb b -> g.A b ≠ some (m, i) := fun b m i hp q e => by
  rcases hs b q with e1 | e1 <;> · rw [e1] at e; cases e; omega
 refine ⟨⟨h.tags.alike l, fun b hb => ?_, ⟨sv, dv, hB5.set 2 _, Own.kept hsv k (fun b q _ => h0 b 7 (by omega) (by omega) q) l.A, Own.kept hdv k (fun b q _ => h0 b 8 (by omega) (by omega) q) l.A⟩, h.tab.kept h.tags k l (fun b q _ => ⟨h0 b 1 (by omega) (by omega) q, h0 b 2 (by omega) (by omega) q⟩) (fun _ => rfl) (fun _ _ _ => rfl),
  h.pool.tagged h.tags k l (fun b q _ i h3 h5 => h0 b i (by omega) (by omega) q), h.slot, fun m o e => ⟨(h.objs m o e).1, (h.objs m o e).2.kept k hm (fun b q _ i => hn b _ i (h.objs m o e).2.pos q) l.A (Alike1.own g g5 _ _) ⟨rfl, rfl, rfl⟩⟩⟩,
  ⟨row_kept hrow ((Kept.refl (· = g.kb) w5).setIn _ _ _ rfl) (fun b hb q => by cases hb; exact hne q.symm), fun b hb => by cases hb; exact if_pos rfl⟩,
  Ext.wrote l k (fun b q _ => by rcases hs b q with e | e <;> exact ⟨_, e⟩) (fun b hb e => ?_) (fun _ _ => ⟨rfl, rfl⟩)⟩
 ·rw [hsz] at hb
  rw [Gh.own_A, if_neg (by omega)];exact h.nrm b (Nat.le_trans hk.size hb)
 ·rw [Gh.own_A, if_neg]; · exact e
  rintro rfl;rcases hg5 with e1 | e1
  ·have := hv.tag _ e1; rw [e] at this; cases this
  ·omega
theorem KInM.done (h : KInM w g K cv) {n : Nat} {left : Int} (hn : 1 <= n /\ n <= 4) (hs : 1 <= K.slots.length /\ K.slots.length <= 8) (hl : 1 <= left /\ left <= 16) (hv : Own w g.A (0, 6) 162 27 cv n (coresL left n)) :
  ∃ b, KIn w { g with cb := b, tlb := fun _ => Pl.zero, flush := fun _ => false, last := fun _ => 0 } { K with nc := n, cores := fun _ => core0 left } := by
 obtain ⟨sv, dv, hB, hsv, hdv⟩ := h.kern;rcases hv.row.2 with ⟨-, e⟩ | ⟨b, cap, cur, rfl, -, hh, h1, h2, h3, h4⟩
 ·omega
 ·refine ⟨b, ⟨h.tags.kb, h.tags.tb, h.tags.mb, h.tags.pb, h.tags.db, h.tags.ob⟩, h.nrm, ⟨_, sv, dv, .inr ⟨cap, rfl, h1, h2, by show 0 < n; omega⟩, hB, hsv, hdv⟩, ⟨h.tab.tab, h.tab.map⟩, h.pool, ⟨fun _ => ⟨hv.tag b rfl, cur, hh, fun i hi => ?_⟩, fun i hi => ⟨⟨Int.le_refl _, by show (0 : Int) < ((K.slots.length : Nat) : Int); omega⟩, hl, ⟨Int.le_refl _, by show (0 : Int) <= _; omega⟩, fun j => ⟨Int.le_refl _, by show (0 : Int) <= _; omega⟩, ⟨Int.le_refl _, by show (0 : Int) <= _; omega⟩⟩, hn.2, hs.2⟩, h.slot, fun m o e => ⟨(h.objs m o e).1, ⟨(h.objs m o e).2.pos, (h.objs m o e).2.tag, (h.objs m o e).2.late, (h.objs m o e).2.ex⟩⟩⟩
  intro j hj;have hj' : j < 27 := hj;have hi' : i < n := hi;have e1 := coresL_at left n i j hi' hj';rw [<- h4] at e1;show cur[i * 27 + j]? = (coreL left)[j]?
  rw [<- e1, List.getElem?_take_of_lt (by omega), Array.getElem?_toList]
theorem BInv.done {left : Int} {n b : Nat} (h : BInv g K) : Inv { g with cb := b, tlb := fun _ => Pl.zero, flush := fun _ => false, last := fun _ => 0 } { K with nc := n, cores := fun _ => core0 left } :=
 ⟨h.inv.own, h.inv.name, h.inv.cont, fun m o e k => ⟨(h.inv.seg m o e k).inn, (h.inv.seg m o e k).len, (h.inv.seg m o e k).p16, (h.inv.seg m o e k).data⟩, h.inv.noseg, fun m o e k => .inl (by rw [h.inv.name m o e]; exact h.th m o e k), fun _ _ _ k _ hf => absurd rfl hf, fun _ _ => ⟨Int.le_refl _, by show (0 : Int) < 4; decide⟩, h.inv.ths, h.inv.room, h.inv.cnt0⟩
end
end Go.Proofs.YtiadbhiadhgjkaaGreatDoor
