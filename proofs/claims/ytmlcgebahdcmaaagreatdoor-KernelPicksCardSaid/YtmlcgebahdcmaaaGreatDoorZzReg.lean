/- Of the proof of this claim: a joined text. -/
import Derived.Test.YtmlcgebahdcmaaaGreatDoorRows
import Derived.Orders
import Derived.WalkKit
import Derived.Test.YtmlcgebahdcmaaaGreatDoorZzStr
import Derived.Deep.RegionHeld3
import Derived.Test.YtmlcgebahdcmaaaGreatDoorZzPkA
import Derived.RegionTactic
import Derived.Deep.DeepCutAuto
import Derived.Deep.CutBlock
import Derived.Outline
import Derived.Deep.QuietTactic
import Derived.BigQuiet
set_option maxRecDepth 100000
set_option maxHeartbeats 1000000
namespace Go.Proofs.YtmlcgebahdcmaaaGreatDoor
open Go
def back (ops : Array Oper) : Bool := (List.range ops.size).all fun i => ((ops[i]?).map fun o => o.after.all fun e => !Region.binds .any e || decide (e.on < i)).getD true
theorem back_spec {ops : Array Oper} (h : back ops = true) {i : Nat} {o : Oper} (ho : ops[i]? = some o) {e : Edge} (he : e ∈ o.after) (hbd : Region.binds .any e = true) : e.on < i := by
 have hi := (Array.getElem?_eq_some_iff.1 ho).1
 have h1 := List.all_eq_true.1 h i (List.mem_range.2 hi)
 rw [ho] at h1
 have h2 := Array.all_eq_true_iff_forall_mem.1 h1 e he
 rw [hbd] at h2
 simpa using h2
theorem ready_nil {ops : Array Oper} (hb : back ops = true) {l : Array Bool} (hl : l.size = ops.size) (hr : Region.ready .any ops l = []) : ∀ i, i < ops.size -> l[i]? = some true := by
 intro i
 induction i using Nat.strongRecOn with
 | _ i ih =>
  intro hi
  rcases hb' : l[i]? with _ | b
  ·rw [Array.getElem?_eq_none_iff] at hb'; omega
  ·cases b
   ·have hm : i ∈ Region.ready .any ops l := by
     rw [mem_ready]
     have ho : ops[i]? = some ops[i] := Array.getElem?_eq_getElem hi
     refine ⟨by simp [hb'], _, ho, fun e he hbd => ?_⟩
     have hlt := back_spec hb ho he hbd
     simp [ih _ hlt (by omega)]
    rw [hr] at hm; cases hm
   ·rfl
def Closed (ops : Array Oper) (l : Array Bool) : Prop := ∀ (j : Nat) (o : Oper), ops[j]? = some o -> l[j]? = some true -> ∀ e ∈ o.after, Region.binds .any e = true -> l[e.on]? = some true
def dep (ops : Array Oper) (j k : Nat) : Bool := ((ops[j]?).map fun o => o.after.toList.any fun e => Region.binds .any e && e.on == k).getD false
theorem dep_spec {ops : Array Oper} {j k : Nat} {o : Oper} (ho : ops[j]? = some o) (h : dep ops j k = true) : ∃ e ∈ o.after, Region.binds .any e = true /\ e.on = k := by
 unfold dep at h
 rw [ho] at h
 simp only [Option.map_some, Option.getD_some] at h
 obtain ⟨e, he, hb⟩ := List.any_eq_true.1 h
 simp only [Bool.and_eq_true, beq_iff_eq] at hb
 exact ⟨e, Array.mem_toList_iff.1 he, hb⟩
theorem Closed.of {ops : Array Oper} {l : Array Bool} (h : Closed ops l) {j : Nat} (k : Nat) (hd : dep ops j k = true) (hj : l[j]? = some true) : l[k]? = some true := by
 rcases ho : ops[j]? with _ | o
 ·unfold dep at hd; rw [ho] at hd; cases hd
 ·obtain ⟨e, he, hb, rfl⟩ := dep_spec ho hd
  exact h j o ho hj e he hb
theorem wp_region_inv {P : Program} {ops : Array Oper} {Q : Exit -> Act -> World -> Prop} {id : Nat} {a : Act} {w : World} (hm : P.follows .mixedOrders = true) (hb : back ops = true)
  (I : Array Bool -> Act -> World -> Prop) (h0 : I (Array.replicate ops.size false) a w.drew)
  (hs : ∀ (i : Nat) (l : Array Bool) (a : Act) (w : World), i < ops.size -> l.size = ops.size -> l[i]? = some false -> (∀ k, dep ops i k = true -> l[k]? = some true) -> Closed ops l -> I l a w ->
   wpOp P ops Q i (I (l.setIfInBounds i true)) a w)
  (he : ∀ (l : Array Bool) (a : Act) (w : World), (∀ i, i < ops.size -> l[i]? = some true) -> I l a w -> Q .normal a w) : (Code.region id ops true).wp P Q a w := by
 refine wp_region_any hm ?_
 have key : ∀ (fuel : Nat) (l : Array Bool) (a : Act) (w : World), l.size = ops.size -> l.count false <= fuel -> Closed ops l -> I l a w -> wpAny P .any ops Q fuel l a w := by
  intro fuel
  induction fuel with
  | zero =>
   intro l a w hl hc hcl hI
   have hr : Region.ready .any ops l = [] := by
    cases hr : Region.ready .any ops l with
    | nil => rfl
    | cons i r =>
     have hm : i ∈ Region.ready .any ops l := by rw [hr]; exact List.mem_cons_self
     obtain ⟨h1, o, ho, _⟩ := mem_ready.1 hm
     have hi : i < l.size := by rw [hl]; exact (Array.getElem?_eq_some_iff.1 ho).1
     have hmem : false ∈ l := by
      have : l[i] = false := by simpa [hi] using h1
      exact this ▸ Array.getElem_mem hi
     have := Array.count_pos_iff.2 hmem
     omega
   exact ⟨hr, he l a w (ready_nil hb hl hr) hI⟩
  | succ fuel ih =>
   intro l a w hl hc hcl hI
   refine ⟨fun hr => he l a w (ready_nil hb hl hr) hI, fun i hi => ?_⟩
   obtain ⟨h1, o, ho, h2⟩ := mem_ready.1 hi
   have hil : i < l.size := by rw [hl]; exact (Array.getElem?_eq_some_iff.1 ho).1
   have hli : l[i]? = some false := by
    rw [Array.getElem?_eq_getElem hil]
    have : l[i] = false := by simpa [hil] using h1
    rw [this]
   have hdeps : ∀ e ∈ o.after, Region.binds .any e = true -> l[e.on]? = some true := fun e he' hbd => by
    have := h2 e he' hbd
    rcases hq : l[e.on]? with _ | b
    ·simp [hq] at this
    ·simp [hq] at this; rw [this]
   refine wpOp_mono (fun a' w' hI' => ih _ a' w' (by simpa using hl) ?_ (fun j o' hj hlj e he' hbd => ?_) hI') (hs i l a w (by rw [<- hl]; exact hil) hl hli (fun k hk => by obtain ⟨e, he, hb', rfl⟩ := dep_spec ho hk; exact hdeps e he hb') hcl hI)
   ·have hset : l.setIfInBounds i true = l.set i true hil := by simp [Array.setIfInBounds, hil]
    have hlt : l[i] = false := by
     have := hli; rw [Array.getElem?_eq_getElem hil] at this; simpa using this
    have hpos : 0 < l.count false := Array.count_pos_iff.2 (hlt ▸ Array.getElem_mem hil)
    rw [hset, Array.count_set]
    simp [hlt]
    omega
   ·have hup : ∀ k, l[k]? = some true -> (l.setIfInBounds i true)[k]? = some true := fun k hk => by
     by_cases e1 : i = k
     ·rw [<- e1, Array.getElem?_setIfInBounds, if_pos rfl, if_pos hil]
     ·rw [Array.getElem?_setIfInBounds_ne e1]; exact hk
    by_cases e1 : i = j
    ·subst e1
     rw [ho] at hj; cases hj
     exact hup _ (hdeps e he' hbd)
    ·rw [Array.getElem?_setIfInBounds_ne e1] at hlj
     exact hup _ (hcl j o' hj hlj e he' hbd)
 exact key ops.size (Array.replicate ops.size false) _ _ (by simp) (by simp) (fun j o _ hj => by
  rw [Array.getElem?_replicate] at hj
  split at hj <;> simp at hj) h0
def dstOf (ops : Array Oper) (i : Nat) : Option Tmp := (ops[i]?).bind (·.dst)
def oneEach (ops : Array Oper) : Bool := (List.range ops.size).all fun i => (List.range i).all fun j => (dstOf ops i).isNone || decide (dstOf ops i ≠ dstOf ops j)
theorem oneEach_spec {ops : Array Oper} (h : oneEach ops = true) {i j : Nat} {d : Tmp} (hi : dstOf ops i = some d) (hj : dstOf ops j = some d) : i = j := by
 have key : ∀ {i j : Nat}, dstOf ops i = some d -> dstOf ops j = some d -> j < i -> False := by
  intro i j hi hj hlt
  have hs : i < ops.size := by
   rcases Nat.lt_or_ge i ops.size with h' | h'
   ·exact h'
   ·simp [dstOf, Array.getElem?_eq_none h'] at hi
  have h1 := List.all_eq_true.1 (List.all_eq_true.1 h i (List.mem_range.2 hs)) j (List.mem_range.2 hlt)
  rw [hi, hj] at h1
  simp at h1
 rcases Nat.lt_trichotomy i j with h' | h' | h'
 ·exact absurd h' (fun q => key hj hi q)
 ·exact h'
 ·exact absurd h' (fun q => key hi hj q)
structure RInv (ops : Array Oper) (a0 : Act) (V : Nat -> Value -> Prop) (l : Array Bool) (a : Act) : Prop where
 size : a.tmps.size = a0.tmps.size
 defers : a.defers = a0.defers
 base : ∀ t, (∀ i, l[i]? = some true -> dstOf ops i ≠ some t) -> a.tmps[t]? = a0.tmps[t]?
 slot : ∀ i d, l[i]? = some true -> dstOf ops i = some d -> V i (a.tmps.getD d undef)
theorem RInv.start (ops : Array Oper) (a0 : Act) (V : Nat -> Value -> Prop) : RInv ops a0 V (Array.replicate ops.size false) a0 where
 size := rfl
 defers := rfl
 base _ _ := rfl
 slot i d h := by
  rw [Array.getElem?_replicate] at h
  split at h <;> simp at h
theorem RInv.put {ops : Array Oper} {a0 : Act} {V : Nat -> Value -> Prop} {l : Array Bool} {a : Act} (h : RInv ops a0 V l a) (hu : oneEach ops = true) {i : Nat} (hi : i < l.size) {d : Tmp} (hd : dstOf ops i = some d) (hds : d < a0.tmps.size) {v : Value} (hv : V i v) :
  RInv ops a0 V (l.setIfInBounds i true) (a.put (some d) v) where
 size := by simp [Act.put, h.size]
 defers := h.defers
 base t ht := by
  have hne : d ≠ t := fun e => ht i (by simp [hi]) (e ▸ hd)
  show (a.tmps.setIfInBounds d v)[t]? = _
  rw [Array.getElem?_setIfInBounds_ne hne]
  refine h.base t fun j hj => ht j ?_
  by_cases e : i = j
  ·subst e; simp [hi]
  ·rw [Array.getElem?_setIfInBounds_ne e]; exact hj
 slot j e hj he := by
  show V j ((a.tmps.setIfInBounds d v).getD e undef)
  by_cases hij : i = j
  ·subst hij
   rw [hd] at he; cases he
   have hd' : d < a.tmps.size := by rw [h.size]; exact hds
   simp [hd', hv]
  ·have hne : d ≠ e := fun q => hij (oneEach_spec hu hd (q ▸ he))
   rw [Array.getElem?_setIfInBounds_ne hij] at hj
   have := h.slot j e hj he
   simpa [Array.getElem?_setIfInBounds_ne hne] using this
theorem RInv.done {ops : Array Oper} {a0 : Act} {V : Nat -> Value -> Prop} {l : Array Bool} {a : Act} (h : RInv ops a0 V l a) {i : Nat} (hd : dstOf ops i = none) : RInv ops a0 V (l.setIfInBounds i true) a where
 size := h.size
 defers := h.defers
 base t ht := h.base t fun j hj => ht j (by
  by_cases e : i = j
  ·subst e
   have hi := (Array.getElem?_eq_some_iff.1 hj).1
   simp [hi]
  ·rw [Array.getElem?_setIfInBounds_ne e]; exact hj)
 slot j e hj he := by
  by_cases hij : i = j
  ·subst hij; rw [hd] at he; cases he
  ·rw [Array.getElem?_setIfInBounds_ne hij] at hj; exact h.slot j e hj he
def noDst (ops : Array Oper) (t : Tmp) : Bool := (List.range ops.size).all fun i => dstOf ops i != some t
theorem noDst_spec {ops : Array Oper} {t : Tmp} (h : noDst ops t = true) (i : Nat) : dstOf ops i ≠ some t := by
 rcases Nat.lt_or_ge i ops.size with h' | h'
 ·simpa using List.all_eq_true.1 h i (List.mem_range.2 h')
 ·simp [dstOf, Array.getElem?_eq_none h']
theorem RInv.was {ops : Array Oper} {a0 : Act} {V : Nat -> Value -> Prop} {l : Array Bool} {a : Act} (h : RInv ops a0 V l a) (t : Tmp) (ht : noDst ops t = true) : a.tmps.getD t undef = a0.tmps.getD t undef := by
 have := h.base t fun i _ => noDst_spec ht i
 simp [this]
theorem foldl_set (g : Tmp -> Value) (k : Nat) : ∀ (ds : List Tmp) (c : Array Value), (ds.foldl (fun c d => c.setIfInBounds d (g d)) c)[k]? = if k ∈ ds then (if k < c.size then some (g k) else none) else c[k]?
 | [], c => by simp
 | d :: ds, c => by
  rw [List.foldl_cons, foldl_set g k ds]
  by_cases h : k ∈ ds
  ·simp [h]
  ·by_cases e : d = k
   ·subst e
    rw [if_neg h, if_pos (by simp), Array.getElem?_setIfInBounds, if_pos rfl]
   ·rw [if_neg h, if_neg (by simp [h]; exact fun q => e q.symm), Array.getElem?_setIfInBounds_ne e]
theorem RInv.fold {ops : Array Oper} {a0 : Act} {V : Nat -> Value -> Prop} {l : Array Bool} {a : Act} (h : RInv ops a0 V l a) (ds : List Tmp) (hds : (List.range ops.size).filterMap (dstOf ops) = ds) :
  a = ⟨ds.foldl (fun c d => c.setIfInBounds d (a.tmps.getD d undef)) a0.tmps, a0.defers⟩ := by
 have hd := h.defers
 have hs := h.size
 have hf : a.tmps = ds.foldl (fun c d => c.setIfInBounds d (a.tmps.getD d undef)) a0.tmps := by
  apply Array.ext_getElem?
  intro k
  rw [foldl_set]
  by_cases hk : k < a0.tmps.size
  ·by_cases hm : k ∈ ds
   ·rw [if_pos hm, if_pos hk]
    have hk' : k < a.tmps.size := by omega
    simp [hk']
   ·rw [if_neg hm]
    refine h.base k fun i _ hi => hm ?_
    rw [<- hds, List.mem_filterMap]
    refine ⟨i, List.mem_range.2 ?_, hi⟩
    rcases Nat.lt_or_ge i ops.size with h' | h'
    ·exact h'
    ·simp [dstOf, Array.getElem?_eq_none h'] at hi
  ·have h1 : a.tmps[k]? = none := Array.getElem?_eq_none (by omega)
   have h2 : a0.tmps[k]? = none := Array.getElem?_eq_none (by omega)
   rw [h1, h2, if_neg hk]
   split <;> rfl
 obtain ⟨t, d⟩ := a
 simp only at hf hd ⊢
 rw [<- hf, hd]
theorem wp_region_rinv {P : Program} {ops : Array Oper} {Q : Exit -> Act -> World -> Prop} {id : Nat} {a : Act} {w : World} (hm : P.follows .mixedOrders = true) (hb : back ops = true) (hu : oneEach ops = true)
  (V : Nat -> Value -> Prop) (W : Array Bool -> Act -> World -> Prop) (h0 : W (Array.replicate ops.size false) a w.drew)
  (hs : oneEach ops = true -> ∀ (i : Nat) (l : Array Bool) (a' : Act) (w' : World), i < ops.size -> l.size = ops.size -> l[i]? = some false -> (∀ k, dep ops i k = true -> l[k]? = some true) -> Closed ops l -> RInv ops a V l a' -> W l a' w' ->
   wpOp P ops Q i (fun a'' w'' => RInv ops a V (l.setIfInBounds i true) a'' /\ W (l.setIfInBounds i true) a'' w'') a' w')
  (he : ∀ (l : Array Bool) (a' : Act) (w' : World), (∀ i, i < ops.size -> l[i]? = some true) -> RInv ops a V l a' -> W l a' w' -> Q .normal a' w') : (Code.region id ops true).wp P Q a w :=
 wp_region_inv hm hb (fun l a' w' => RInv ops a V l a' /\ W l a' w') ⟨RInv.start _ _ _, h0⟩ (fun i l a' w' h1 h2 h3 h4 h5 h6 => hs hu i l a' w' h1 h2 h3 h4 h5 h6.1 h6.2) (fun l a' w' h1 h2 => he l a' w' h1 h2.1 h2.2)
section
variable {P : Program} {ops : Array Oper} {Q : Exit -> Act -> World -> Prop} {i : Nat} {o : Oper} {a : Act} {w w' : World} {K : Act -> World -> Prop} {v : Value}
theorem wpOp_val {d : Tmp} (ho : ops[i]? = some o) (hd : dstOf ops i = some d) (hw : Region.wanted o (yielded ops a.tmps) = true) (hr : (execOp a.eval o).run P w = .ok (.value v) w') (hk : K (a.put (some d) v) w') : wpOp P ops Q i K a w := by
 unfold wpOp
 unfold dstOf at hd
 rw [ho] at hd
 have hd : o.dst = some d := hd
 simp only [ho, hw, if_true, Oper.wp, hr, Oper.upon, hd]
 exact .inl hk
theorem wpOp_unit (ho : ops[i]? = some o) (hd : dstOf ops i = none) (hw : Region.wanted o (yielded ops a.tmps) = true) (hr : (execOp a.eval o).run P w = .ok .skip w') (hk : K a w') : wpOp P ops Q i K a w := by
 unfold wpOp
 unfold dstOf at hd
 rw [ho] at hd
 have hd : o.dst = none := hd
 simp only [ho, hw, if_true, Oper.wp, hr, Oper.upon, hd]
 exact .inl hk
theorem wpOp_call {d : Tmp} {f : FuncId} {args : Array Value} {R : Value -> World -> Prop} (ho : ops[i]? = some o) (hd : dstOf ops i = some d) (hw : Region.wanted o (yielded ops a.tmps) = true) (hr : (execOp a.eval o).run P w = .ok (.enter f args) w)
  (hc : Calls P f args w fun e w' => ∃ v, e = .returned v /\ R v w') (hk : ∀ v w', R v w' -> K (a.put (some d) v) w') : wpOp P ops Q i K a w := by
 unfold wpOp
 unfold dstOf at hd
 rw [ho] at hd
 have hd : o.dst = some d := hd
 simp only [ho, hw, if_true, Oper.wp, hr, Oper.upon, hd]
 refine .inl (hc.mono ?_)
 rintro e w' ⟨v, rfl, h⟩
 exact hk v w' h
theorem wanted_plain (h : o.guard = none) (y : Nat -> Option Bool) : Region.wanted o y = true := by
 unfold Region.wanted; rw [h]
end
theorem set_self {l : Array Bool} {i : Nat} (h : i < l.size) : (l.setIfInBounds i true)[i]? = some true := by
 rw [Array.getElem?_setIfInBounds, if_pos rfl, if_pos h]
theorem set_other {l : Array Bool} {i j : Nat} (h : i ≠ j) : (l.setIfInBounds i true)[j]? = l[j]? := Array.getElem?_setIfInBounds_ne h
theorem put_self {a : Act} {d : Tmp} {v : Value} (h : d < a.tmps.size) : (a.put (some d) v).tmps.getD d undef = v := by
 show (a.tmps.setIfInBounds d v).getD d undef = v
 simp [h]
theorem put_other {a : Act} {d t : Tmp} {v : Value} (h : d ≠ t) : (a.put (some d) v).tmps.getD t undef = a.tmps.getD t undef := by
 show (a.tmps.setIfInBounds d v).getD t undef = _
 simp [Array.getElem?_setIfInBounds_ne h]
section
variable {P : Program} {a : Act} {w w' : World} {d : Option Tmp} {t : TypeId} {p : String} {e : Array Edge} {g : Option (Nat × Bool)} {x y z : Operand} {u v s : Value}
theorem ex_move (h : a.eval x = v) : (execOp a.eval ⟨d, .move x, t, p, e, g⟩).run P w = .ok (.value v) w := by
 simp [execOp, h]
theorem enters_fn {f : FuncId} {fn : Func} {c : Code} (hf : P.funcs[f]? = some fn) (hname : (fn.name == "runtime.NumGoroutine") = false) (hb : fn.body = some c) (vs : Array Value) (w : World) : (callFunc f vs).run P w = .ok (.enter f vs) w := by
 have h1 : fn.name ≠ "runtime.NumGoroutine" := by simpa using hname
 simp [callFunc, hf, h1, hb, mark]
theorem ex_call {f : FuncId} {args : Array Operand} {ts : Array TypeId} {vs : Array Value} (hv : args.map a.eval = vs) (he : ∀ vs w, (callFunc f vs).run P w = .ok (.enter f vs) w) :
  (execOp a.eval ⟨d, .call { callee := .value (.func f), args := args, argTypes := ts }, t, p, e, g⟩).run P w = .ok (.enter f vs) w := by
 have hr : (resolve a.eval { callee := .value (.func f), args := args, argTypes := ts } t).run P w = .ok { target := .fn (.func f) #[], args := vs } w := by
  simp [resolve, Deferred.ofValue, Act.eval, hv]
 simp only [execOp]
 rw [Sem.run_bind, hr]
 simp [Result.andThen, invoke, he]
theorem ex_load {T : TypeId} (h : a.eval x = u) (hr : (Instr.loadAt T u).run P w = .ok v w') : (execOp a.eval ⟨d, .load T x, t, p, e, g⟩).run P w = .ok (.value v) w' := by
 simp [execOp, h, hr, Result.andThen]
theorem ex_fieldAddr {T : TypeId} {f : Nat} (h : a.eval x = u) (hr : (Instr.fieldAt T u f).run P w = .ok v w') : (execOp a.eval ⟨d, .fieldAddr T x f, t, p, e, g⟩).run P w = .ok (.value v) w' := by
 simp [execOp, h, hr, Result.andThen]
end
end Go.Proofs.YtmlcgebahdcmaaaGreatDoor
namespace Go.Proofs.YtmlcgebahdcmaaaGreatDoor
open Go.RowKit
attribute [local irreducible] World.setCell World.alloc World.drew Calls Code.wp
theorem or_u32 (a b : Int) (i : Nat) (h0 : 0 <= a) (h1 : 0 <= b) (h2 : b < 2 ^ i) (h3 : a * 2 ^ i + b < 4294967296) : bits .or .u32 (a * 2 ^ i) b = a * 2 ^ i + b := by
 obtain ⟨a, rfl⟩ := Int.eq_ofNat_of_zero_le h0
 obtain ⟨b, rfl⟩ := Int.eq_ofNat_of_zero_le h1
 have e1 : ((a : Int) * 2 ^ i) = ((2 ^ i * a : Nat) : Int) := by rw [Int.natCast_mul, Int.natCast_pow, Int.mul_comm]; rfl
 rw [e1] at h3 ⊢
 have h2' : b < 2 ^ i := by
  have : ((b : Int)) < ((2 ^ i : Nat) : Int) := by rw [Int.natCast_pow]; exact h2
  omega
 show IntKind.u32.wrap ((BitVec.ofInt 32 ((2 ^ i * a : Nat) : Int) ||| BitVec.ofInt 32 (b : Int)).toNat : Int) = _
 rw [BitVec.toNat_or, BitVec.ofInt_natCast, BitVec.ofInt_natCast, BitVec.toNat_ofNat, BitVec.toNat_ofNat, Nat.mod_eq_of_lt (by omega), Nat.mod_eq_of_lt (by omega), <- Nat.two_pow_add_eq_or_of_lt h2', IntKind.wrap_u32]
 omega
def sgn (u : Int) : Int := if u < 2147483648 then u else u - 4294967296
theorem sgn_wrap (u : Int) (h0 : 0 <= u) (h1 : u < 4294967296) : IntKind.i32.wrap u = sgn u := by
 rw [IntKind.wrap_i32]; unfold sgn; split <;> omega
theorem sgn_bd (u : Int) (h0 : 0 <= u) (h1 : u < 4294967296) : -2147483648 <= sgn u /\ sgn u <= 2147483647 := by
 unfold sgn; split <;> omega
def numB (B : Nat -> Int) : Int := B 4 * 16777216 + B 5 * 65536 + B 6 * 256 + B 7
def decB (B : Nat -> Int) : Ins := ⟨B 0, B 1, B 2, B 3, sgn (numB B)⟩
def ins0 : Value := .agg #[.int .i64 0, .int .i64 0, .int .i64 0, .int .i64 0, .int .i32 0]
def Ins.dec (x : Ins) : Value := if x.right then x.v else ins0
theorem dec8 (b o c : Nat) (B : Nat -> Int) (w : World) (hB : ∀ j, 0 <= B j /\ B j <= 255) (h : ∀ j, j < 8 -> w.cell? ⟨b, o + j, none⟩ = some (.int .u8 (B j))) :
  Calls Tryz.prog 124 #[.slice (some ⟨b, o, none⟩) 8 c] w fun e w' => e = .returned (.tuple #[(decB B).dec, .bool (decB B).right]) /\ Below w.heap.size w w' := by
 have h0 := h 0 (by omega); have h1 := h 1 (by omega); have h2 := h 2 (by omega); have h3 := h 3 (by omega)
 have h4 := h 4 (by omega); have h5 := h 5 (by omega); have h6 := h 6 (by omega); have h7 := h 7 (by omega)
 rw [Nat.add_zero] at h0
 have n0 := World.new_ne w _ h0
 have n1 := World.new_ne w _ h1
 have n2 := World.new_ne w _ h2
 have n3 := World.new_ne w _ h3
 have n4 := World.new_ne w _ h4
 have n5 := World.new_ne w _ h5
 have n6 := World.new_ne w _ h6
 have n7 := World.new_ne w _ h7
 clear h
 obtain ⟨b0l, b0u⟩ := hB 0
 obtain ⟨b1l, b1u⟩ := hB 1
 obtain ⟨b2l, b2u⟩ := hB 2
 obtain ⟨b3l, b3u⟩ := hB 3
 obtain ⟨b4l, b4u⟩ := hB 4
 obtain ⟨b5l, b5u⟩ := hB 5
 obtain ⟨b6l, b6u⟩ := hB 6
 obtain ⟨b7l, b7u⟩ := hB 7
 have c0 : IntKind.i64.wrap (B 0) = B 0 := IntWalk.i64_in _ (by omega)
 have c1 : IntKind.i64.wrap (B 1) = B 1 := IntWalk.i64_in _ (by omega)
 have c2 : IntKind.i64.wrap (B 2) = B 2 := IntWalk.i64_in _ (by omega)
 have c3 : IntKind.i64.wrap (B 3) = B 3 := IntWalk.i64_in _ (by omega)
 have c4 : IntKind.u32.wrap (B 4) = B 4 := IntWalk.u32_in _ (by omega)
 have c5 : IntKind.u32.wrap (B 5) = B 5 := IntWalk.u32_in _ (by omega)
 have c6 : IntKind.u32.wrap (B 6) = B 6 := IntWalk.u32_in _ (by omega)
 have c7 : IntKind.u32.wrap (B 7) = B 7 := IntWalk.u32_in _ (by omega)
 clear hB
 obtain ⟨n, hn⟩ : ∃ n, sgn (numB B) = n := ⟨_, rfl⟩
 have e4 : IntKind.u32.wrap (B 4 * 16777216) = B 4 * 16777216 := IntWalk.u32_in _ (by omega)
 have e5 : IntKind.u32.wrap (B 5 * 65536) = B 5 * 65536 := IntWalk.u32_in _ (by omega)
 have e6 : IntKind.u32.wrap (B 6 * 256) = B 6 * 256 := IntWalk.u32_in _ (by omega)
 have o1 : bits .or .u32 (B 4 * 16777216) (B 5 * 65536) = B 4 * 16777216 + B 5 * 65536 := or_u32 (B 4) (B 5 * 65536) 24 (by omega) (by omega) (by omega) (by omega)
 have o2 : bits .or .u32 (B 4 * 16777216 + B 5 * 65536) (B 6 * 256) = B 4 * 16777216 + B 5 * 65536 + B 6 * 256 := by
  have := or_u32 (B 4 * 256 + B 5) (B 6 * 256) 16 (by omega) (by omega) (by omega) (by omega)
  have e : (B 4 * 256 + B 5) * 2 ^ 16 = B 4 * 16777216 + B 5 * 65536 := by omega
  rwa [e] at this
 have o3 : bits .or .u32 (B 4 * 16777216 + B 5 * 65536 + B 6 * 256) (B 7) = numB B := by
  have := or_u32 (B 4 * 65536 + B 5 * 256 + B 6) (B 7) 8 (by omega) (by omega) (by omega) (by omega)
  have e : (B 4 * 65536 + B 5 * 256 + B 6) * 2 ^ 8 = B 4 * 16777216 + B 5 * 65536 + B 6 * 256 := by omega
  rw [e] at this
  exact this
 have en : IntKind.i32.wrap (numB B) = n := by rw [sgn_wrap _ (by unfold numB; omega) (by unfold numB; omega)]; exact hn
 have hr : decB B = ⟨B 0, B 1, B 2, B 3, n⟩ := by unfold decB; rw [hn]
 rw [hr]
 clear hr hn
 have hb0 := Below.alloc (Below.refl w.heap.size w) (Nat.le_refl _) (.cells #[.int .i64 0, .int .i64 0, .int .i64 0, .int .i64 0, .int .i32 0] 90)
 have Hb0 := Lib.hid hb0; clear hb0
 go_enter Tryz.func124, Tryz.ntmps124
 go_wp2_with fail
 go_region_held3 (fun w' => w'.cell? ⟨b, o, none⟩ = some (.int .u8 (B 0)) /\ w'.cell? ⟨b, o + 1, none⟩ = some (.int .u8 (B 1)) /\ w'.cell? ⟨b, o + 2, none⟩ = some (.int .u8 (B 2)) /\ w'.cell? ⟨b, o + 3, none⟩ = some (.int .u8 (B 3)) /\ w'.cell? ⟨b, o + 4, none⟩ = some (.int .u8 (B 4)) /\ w'.cell? ⟨b, o + 5, none⟩ = some (.int .u8 (B 5)) /\ w'.cell? ⟨b, o + 6, none⟩ = some (.int .u8 (B 6)) /\ w'.cell? ⟨b, o + 7, none⟩ = some (.int .u8 (B 7))) (go_keep) (fail)
 clear n0 n1 n2 n3 n4 n5 n6 n7 h0 h1 h2 h3 h4 h5 h6 h7 c0 c1 c2 c3 c4 c5 c6 c7 e4 e5 e6 o1 o2 o3 en
 go_wp2_with fail
 refine (right_any _ _ _ _ _ _).mono ?_
 rintro e w1 ⟨rfl, hb1⟩
 have hA := (((Blk.new w #[.int .i64 0, .int .i64 0, .int .i64 0, .int .i64 0, .int .i32 0] 90).alloc (.cells #[.int .i64 (B 0), .int .i64 (B 1), .int .i64 (B 2), .int .i64 (B 3), .int .i32 n] 90)).drew.below hb1 (by simp; omega))
 have hN := (Blk.new (w.alloc (.cells #[.int .i64 0, .int .i64 0, .int .i64 0, .int .i64 0, .int .i32 0] 90)) #[.int .i64 (B 0), .int .i64 (B 1), .int .i64 (B 2), .int .i64 (B 3), .int .i32 n] 90).drew
 rw [World.size_alloc] at hN
 have hN := hN.below hb1 (by simp)
 have Hb1 := Lib.hid (((Hb0.out.alloc (by simp) _).drew).trans (hb1.mono (by simp; omega))); clear hb1
 have hAc := hA.cell; have hAf := hA.free; have hNc := hN.cell
 have HA := Lib.hid hA; clear hA hN
 cases hr : Ins.right ⟨B 0, B 1, B 2, B 3, n⟩
 ·have hd : Hid (Ins.dec ⟨B 0, B 1, B 2, B 3, n⟩ = ins0) := by unfold Hid Ins.dec; rw [hr]; rfl
  go_wp2_with fail
  exact bodyPost_ret (v := .tuple #[ins0, .bool false]) (by simp [results, Tryz.results124, go_sem, hAc, ins0]) rfl ⟨by rw [hd.out, hr], (((((Hb1.out.setCell (by simp) _).setCell (by simp) _).setCell (by simp) _).setCell (by simp) _).setCell (by simp) _)⟩
 ·have hd : Hid (Ins.dec ⟨B 0, B 1, B 2, B 3, n⟩ = Ins.v ⟨B 0, B 1, B 2, B 3, n⟩) := by unfold Hid Ins.dec; rw [hr]; rfl
  go_wp2_with fail
  exact bodyPost_ret (v := .tuple #[Ins.v ⟨B 0, B 1, B 2, B 3, n⟩, .bool true]) (by simp [results, Tryz.results124, go_sem, hAc, Ins.v]) rfl ⟨by rw [hd.out, hr], (((((Hb1.out.setCell (by simp) _).setCell (by simp) _).setCell (by simp) _).setCell (by simp) _).setCell (by simp) _)⟩
end Go.Proofs.YtmlcgebahdcmaaaGreatDoor
namespace Go.Proofs.YtmlcgebahdcmaaaGreatDoor
def Lab.raise (l : Lab) : Lab := Lab.merge (fun x _ => if x = 0 then 5 else x) l l
def readsL (t o : Lab) : Bool := Lab.leq o t.raise
def changesL (t o : Lab) : Bool := Lab.leq t o && readsL t o
structure Purse where
 (lim used given : Int)
def Purse.left (p : Purse) : Int := p.lim - p.used - p.given
structure Rng where
 (lo next hi : Int)
def Rng.left (r : Rng) : Int := r.hi - r.next
structure Cont where
 (phase : Int) (locks : List Int) (next : Int) (reads seen : List Int) (tries : Int) (picks : List Int)
def cont0 : Cont := ⟨0, [], 0, [], [], 0, []⟩
structure Wt where
 (seg off val wakes until_ : Int)
structure Th where
 (r : Nat -> Int) (pc : Int) (clear : Lab) (space state on made fault : Int) (wait : Wt) (alerts : List Int) (cont : Cont)
def th0 : Th := ⟨fun _ => 0, 0, lab0, 0, 0, 0, 0, 0, ⟨0, 0, 0, 0, 0⟩, [], cont0⟩
structure Ob where
 (name kind : Int) (lab : Lab) (home info : Int) (q : List Int) (ver : Int) (purse : Purse) (names : Rng) (kids : List Int)
 (pages : Nat) (data : Nat -> Int) (wakes : Int) (maps : List WMap) (th : Th) (clear : Lab) (space pc : Int)
 (ring : List (List UInt8)) (lost : Int) (out : List Int)
def ob0 (name kind : Int) (l : Lab) (home : Int) : Ob := ⟨name, kind, l, home, 0, [], 0, ⟨0, 0, 0⟩, ⟨0, 0, 0⟩, [], 0, fun _ => 0, 0, [], th0, lab0, 0, 0, [], 0, []⟩
structure KCore where
 (slot left ticks : Int) (turns : Nat -> Int) (picks : Int)
structure Km where
 (nc : Nat) (cores : Nat -> KCore) (slots : List (Int × Int)) (devs : List Int) (done : Bool) (obj : Int -> Option Ob) (room : Int)
def Km.set (K : Km) (o : Ob) : Km := { K with obj := fun n => if n = o.name then some o else K.obj n }
def Km.core (K : Km) (i : Nat) (c : KCore) : Km := { K with cores := fun j => if j = i then c else K.cores j }
def findMap (l : List WMap) (p : Int) : Option WMap := l.find? fun m => decide (m.at_ <= p) && decide (p < m.at_ + m.n)
def Km.whereTo (K : Km) (o : Ob) (va : Int) : Option (Int × Int × Bool) :=
 match K.obj o.th.space with
 | none => none
 | some s => if (decide (s.kind = 4) && readsL o.lab s.lab) = true then
   match findMap s.maps (va / 64) with
   | none => none
   | some m => match K.obj m.seg with
    | none => none
    | some g => if (decide (g.kind = 2) && (decide (m.from_ + va / 64 - m.at_ < (g.pages : Int)) && readsL o.lab g.lab)) = true then
      some (g.name, (m.from_ + va / 64 - m.at_) * 64 + va % 64, m.wr && changesL o.lab g.lab) else none
  else none
def Km.bytes (K : Km) (o : Ob) (va : Int) : Option (Nat -> Int) :=
 match K.whereTo o va with
 | some (n, at_, _) => (K.obj n).map fun g j => g.data (at_.toNat + j)
 | none => none
def wu (x : Int) : Int := x % 18446744073709551616
def sx (x : Int) : Int := if x < 9223372036854775808 then x else x - 18446744073709551616
def widthOf (op : Int) : Nat := if op = 19 \/ op = 22 then 8 else if op = 20 \/ op = 23 then 4 else if op = 21 \/ op = 24 then 1 else 0
def far (pc imm : Int) : Int := wu (pc + 8 * imm)
inductive PRes where
 | ok (K : Km) (x : Ob)
 | err (e : Int)
 | out
def costOf (kind n : Int) : Int := if kind = 2 then 1 + n else if kind = 3 then 9 else 1
def newOb (h : Ob) (kind : Int) (l : Lab) (n count : Int) : Ob :=
 { ob0 h.names.next kind l h.name with pages := if kind = 2 then n.toNat else 0, purse := if kind = 1 then ⟨n, 0, 0⟩ else ⟨0, 0, 0⟩, names := if kind = 1 then ⟨h.names.hi - count, h.names.hi - count, h.names.hi⟩ else ⟨0, 0, 0⟩ }
def homeOb (h : Ob) (kind n count : Int) : Ob :=
 { h with names := ⟨h.names.lo, h.names.next + 1, if kind = 1 then h.names.hi - count else h.names.hi⟩, purse := ⟨h.purse.lim, h.purse.used + costOf kind n, if kind = 1 then h.purse.given + n else h.purse.given⟩, kids := h.kids ++ [h.names.next] }
def Km.place (K : Km) (h : Ob) (kind : Int) (l : Lab) (n count : Int) : PRes :=
 if h.names.left < (if kind = 1 then 1 + count else 1) then .err 6
 else if h.purse.left < costOf kind n + (if kind = 1 then n else 0) then .err 5
 else if K.room < costOf kind n \/ 1000000 < h.kids.length \/ (K.obj h.names.next).isSome then .out
 else .ok { (K.set (newOb h kind l n count)).set (homeOb h kind n count) with room := K.room - costOf kind n } (newOb h kind l n count)
def Km.tick (K : Km) (i : Nat) : Km :=
 let c := K.cores i
 if c.left - 1 > 0 then K.core i { c with ticks := wu (c.ticks + 1), left := c.left - 1 }
 else
  let s := (c.slot + 1) % (K.slots.length : Int)
  K.core i { c with ticks := wu (c.ticks + 1), slot := s, left := (K.slots.getD s.toNat (0, 0)).2 }
def Km.nextTurn (K : Km) (i : Nat) : Km :=
 let c := K.cores i
 K.core i { c with turns := upd c.turns c.slot.toNat (wu (c.turns c.slot.toNat + 1)) }
def Km.picked (K : Km) (i : Nat) : Km := K.core i { K.cores i with picks := wu ((K.cores i).picks + 1) }
end Go.Proofs.YtmlcgebahdcmaaaGreatDoor
namespace Go.Proofs.YtmlcgebahdcmaaaGreatDoor
open Go.RowKit
def RowAt (w : World) (ty : TypeId) (v : Value) (n : Nat) (cells : List Value) : Prop :=
 ∃ a c, v = .slice a n c /\ n <= c /\ c <= maxLen /\ (n = 0 \/ ∃ b cs fz, a = some ⟨b, 0, none⟩ /\ w.heap[b]? = some (.cells cs ty fz) /\ ∀ (j : Nat) (u : Value), cells[j]? = some u -> cs[j]? = some u)
theorem RowAt.below {w w' : World} {ty n : Nat} {v : Value} {cells : List Value} (h : RowAt w ty v n cells) {B : Nat} (hb : Below B w w') (hB : w.heap.size <= B) : RowAt w' ty v n cells := by
 obtain ⟨a, c, rfl, h1, h2, h3⟩ := h
 refine ⟨a, c, rfl, h1, h2, h3.imp id ?_⟩
 rintro ⟨b, cs, fz, rfl, hh, hc⟩
 exact ⟨b, cs, fz, rfl, by rw [hb.block b (Nat.lt_of_lt_of_le (Array.getElem?_eq_some_iff.1 hh).1 hB)]; exact hh, hc⟩
theorem RowAt.kept {w w' : World} {ty n : Nat} {v : Value} {cells : List Value} (h : RowAt w ty v n cells) {S : Nat -> Prop} (k : Kept S w w') (hs : ∀ b cs fz, S b -> w.heap[b]? = some (.cells cs ty fz) -> False) : RowAt w' ty v n cells := by
 obtain ⟨a, c, rfl, h1, h2, h3⟩ := h
 refine ⟨a, c, rfl, h1, h2, h3.imp id ?_⟩
 rintro ⟨b, cs, fz, rfl, hh, hc⟩
 exact ⟨b, cs, fz, rfl, by rw [k.block b (Array.getElem?_eq_some_iff.1 hh).1 (fun q => hs b cs fz q hh)]; exact hh, hc⟩
theorem RowAt.nil (w : World) (ty : TypeId) : RowAt w ty (.slice none 0 0) 0 [] := ⟨none, 0, rfl, Nat.le_refl _, Nat.zero_le _, .inl rfl⟩
theorem RowAt.own {w : World} {base ty size n : Nat} {v : Value} {cells : List Value} (h : w.ownsRow base ty size v n cells) : RowAt w ty v n cells := by
 rcases h.2 with ⟨rfl, rfl⟩ | ⟨g, cap, cur, rfl, _, hh, h3, h4, h5, h6⟩
 ·exact ⟨_, _, rfl, Nat.le_refl _, Nat.zero_le _, .inl rfl⟩
 ·refine ⟨_, _, rfl, h3, h4, .inr ⟨g, cur, _, rfl, hh, fun j u hu => ?_⟩⟩
  have hj := (List.getElem?_eq_some_iff.1 hu).1
  rw [<- hu]
  have e := h.cellAt j (by have := h.1; omega)
  simp only [World.cell?, hh] at e
  simpa using e
theorem RowAt.cells {w : World} {ty n : Nat} {a : Option Addr} {c : Nat} {cells : List Value} (h : RowAt w ty (.slice a n c) n cells) (hn : 0 < n) : ∃ b, a = some ⟨b, 0, none⟩ /\ b < w.heap.size /\ ∀ (j : Nat) (u : Value), cells[j]? = some u -> w.cell? ⟨b, j, none⟩ = some u := by
 obtain ⟨a', c', e, _, _, h3⟩ := h
 cases e
 rcases h3 with h3 | ⟨b, cs, fz, rfl, hh, hc⟩
 ·omega
 ·exact ⟨b, rfl, (Array.getElem?_eq_some_iff.1 hh).1, fun j u hu => by simp only [World.cell?, hh]; simpa using hc j u hu⟩
theorem RowAt.form {w : World} {ty n : Nat} {v : Value} {cells : List Value} (h : RowAt w ty v n cells) : ∃ a c, v = .slice a n c /\ n <= c /\ c <= maxLen := by
 obtain ⟨a, c, e, h1, h2, _⟩ := h
 exact ⟨a, c, e, h1, h2⟩
theorem flat_at {α : Type} (f : α -> List Value) (s : Nat) (hf : ∀ x, (f x).length = s) : ∀ (l : List α) (k : Nat) (x : α), l[k]? = some x -> ∀ i, i < s -> (l.flatMap f)[k * s + i]? = (f x)[i]?
 | [], k, x, h, i, hi => by simp at h
 | y :: l, 0, x, h, i, hi => by
  obtain rfl : y = x := by simpa using h
  rw [List.flatMap_cons, Nat.zero_mul, Nat.zero_add, List.getElem?_append_left (by rw [hf]; exact hi)]
 | y :: l, k + 1, x, h, i, hi => by
  have ih := flat_at f s hf l k x (by simpa using h) i hi
  rw [List.flatMap_cons, List.getElem?_append_right (by rw [hf, Nat.succ_mul]; omega), hf, <- ih]
  congr 1
  rw [Nat.succ_mul]; omega
def pairV (p : Nat × Nat) : List Value := [.int .u32 (p.1 : Nat), .int .i64 (p.2 : Nat)]
def mapV (m : WMap) : List Value := [.int .i64 m.at_, .int .u64 m.seg, .int .i64 m.from_, .int .i64 m.n, .bool m.wr]
def slotV (s : Int × Int) : List Value := [.int .u64 s.1, .int .i64 s.2]
def byteV (c : UInt8) : Value := .int .u8 (c.toNat : Nat)
def PairsIn (w : World) (v : Value) (ps : List (Nat × Nat)) : Prop := RowAt w 149 v ps.length (ps.flatMap pairV)
def MapsIn (w : World) (v : Value) (ms : List WMap) : Prop := RowAt w 137 v ms.length (ms.flatMap mapV)
def SlotsIn (w : World) (v : Value) (ss : List (Int × Int)) : Prop := RowAt w 48 v ss.length (ss.flatMap slotV)
def DataIn (w : World) (v : Value) (d : List UInt8) : Prop := RowAt w 5 v d.length (d.map byteV)
def LabIn (w : World) (v : Value) (l : Lab) : Prop := ∃ s, v = .agg #[.int .i64 (l.d : Nat), s] /\ PairsIn w s l.ps
structure ObjV (w : World) (o : WObj) (ls lc vd vm : Value) : Prop where
 lab : PairsIn w ls o.lab.ps
 clr : PairsIn w lc o.clr.ps
 data : DataIn w vd o.data
 maps : MapsIn w vm o.maps
def objC (o : WObj) (ls lc vd vm : Value) : List Value := [.int .i64 o.kind, .int .i64 o.parent, .int .i64 (o.lab.d : Nat), ls, .int .i64 (o.clr.d : Nat), lc, .int .i64 o.pages, .int .i64 o.names, vd, vm, .int .i64 o.space, .int .i64 o.pc]
structure OSl where
 (ls lc vd vm : Value)
def objsC : List WObj -> List OSl -> List Value
 | o :: os, s :: ss => objC o s.ls s.lc s.vd s.vm ++ objsC os ss
 | _, _ => []
def ObjsIn (w : World) (v : Value) (os : List WObj) : Prop := ∃ ss : List OSl, ss.length = os.length /\ (∀ (j : Nat) (o : WObj) (s : OSl), os[j]? = some o -> ss[j]? = some s -> ObjV w o s.ls s.lc s.vd s.vm) /\ RowAt w 130 v os.length (objsC os ss)
def CfgIn (w : World) (v : Value) (c : WCfg) : Prop := ∃ sv ov, v = .agg #[.int .i64 c.cores, .int .i64 c.frames, .int .i64 c.names, sv, ov] /\ SlotsIn w sv c.slots /\ ObjsIn w ov c.objs
def Tame (w : World) (S : Nat -> Prop) : Prop := ∀ b cs ty fz, S b -> w.heap[b]? = some (.cells cs ty fz) -> ty ≠ 149 /\ ty ≠ 137 /\ ty ≠ 5
theorem LabIn.below {w w' : World} {v : Value} {l : Lab} (h : LabIn w v l) {B : Nat} (hb : Below B w w') (hB : w.heap.size <= B) : LabIn w' v l := by
 obtain ⟨s, rfl, h1⟩ := h
 exact ⟨s, rfl, h1.below hb hB⟩
theorem PairsIn.tame {w w' : World} {v : Value} {ps : List (Nat × Nat)} (h : PairsIn w v ps) {S : Nat -> Prop} (k : Kept S w w') (ht : Tame w S) : PairsIn w' v ps := RowAt.kept h k (fun b cs fz hs hh => (ht b cs _ fz hs hh).1 rfl)
theorem MapsIn.tame {w w' : World} {v : Value} {ps : List WMap} (h : MapsIn w v ps) {S : Nat -> Prop} (k : Kept S w w') (ht : Tame w S) : MapsIn w' v ps := RowAt.kept h k (fun b cs fz hs hh => (ht b cs _ fz hs hh).2.1 rfl)
theorem DataIn.tame {w w' : World} {v : Value} {ps : List UInt8} (h : DataIn w v ps) {S : Nat -> Prop} (k : Kept S w w') (ht : Tame w S) : DataIn w' v ps := RowAt.kept h k (fun b cs fz hs hh => (ht b cs _ fz hs hh).2.2 rfl)
theorem ObjV.tame {w w' : World} {o : WObj} {ls lc vd vm : Value} (h : ObjV w o ls lc vd vm) {S : Nat -> Prop} (k : Kept S w w') (ht : Tame w S) : ObjV w' o ls lc vd vm := ⟨h.lab.tame k ht, h.clr.tame k ht, h.data.tame k ht, h.maps.tame k ht⟩
theorem ObjV.below {w w' : World} {o : WObj} {ls lc vd vm : Value} (h : ObjV w o ls lc vd vm) {B : Nat} (hb : Below B w w') (hB : w.heap.size <= B) : ObjV w' o ls lc vd vm := ⟨RowAt.below h.lab hb hB, RowAt.below h.clr hb hB, RowAt.below h.data hb hB, RowAt.below h.maps hb hB⟩
theorem ObjsIn.below {w w' : World} {v : Value} {os : List WObj} (h : ObjsIn w v os) {B : Nat} (hb : Below B w w') (hB : w.heap.size <= B) : ObjsIn w' v os := by
 obtain ⟨ss, h1, h2, h3⟩ := h
 exact ⟨ss, h1, fun j o s hj hs => (h2 j o s hj hs).below hb hB, RowAt.below h3 hb hB⟩
theorem CfgIn.below {w w' : World} {v : Value} {c : WCfg} (h : CfgIn w v c) {B : Nat} (hb : Below B w w') (hB : w.heap.size <= B) : CfgIn w' v c := by
 obtain ⟨sv, ov, rfl, h1, h2⟩ := h
 exact ⟨sv, ov, rfl, RowAt.below h1 hb hB, h2.below hb hB⟩
theorem objsC_at : ∀ (os : List WObj) (ss : List OSl), ss.length = os.length -> ∀ (k : Nat) (o : WObj) (s : OSl), os[k]? = some o -> ss[k]? = some s -> ∀ i, i < 12 -> (objsC os ss)[k * 12 + i]? = (objC o s.ls s.lc s.vd s.vm)[i]?
 | [], _, _, k, o, s, h, _, i, hi => by simp at h
 | x :: os, [], e, k, o, s, h, _, i, hi => by simp at e
 | x :: os, y :: ss, e, 0, o, s, h, h2, i, hi => by
  obtain rfl : x = o := by simpa using h
  obtain rfl : y = s := by simpa using h2
  show (objC x y.ls y.lc y.vd y.vm ++ objsC os ss)[0 * 12 + i]? = _
  rw [Nat.zero_mul, Nat.zero_add, List.getElem?_append_left (by exact hi)]
 | x :: os, y :: ss, e, k + 1, o, s, h, h2, i, hi => by
  have ih := objsC_at os ss (by simpa using e) k o s (by simpa using h) (by simpa using h2) i hi
  show (objC x y.ls y.lc y.vd y.vm ++ objsC os ss)[(k + 1) * 12 + i]? = _
  rw [List.getElem?_append_right (by show 12 <= _; omega), <- ih]
  show (objsC os ss)[(k + 1) * 12 + i - 12]? = _
  congr 1; omega
theorem row_kept {w w' : World} {T : Nat -> Prop} {base e size n : Nat} {v : Value} {xs : List Value} (h : w.ownsRow base e size v n xs) (k : Kept T w w') (hs : ∀ b, v.ownBlock = some b -> ¬ T b) : w'.ownsRow base e size v n xs := by
 refine ⟨h.1, ?_⟩
 rcases h.2 with h | ⟨g, cap, cur, rfl, hb, hg, r⟩
 ·exact .inl h
 ·exact .inr ⟨g, cap, cur, rfl, hb, by rw [k.block g (Array.getElem?_eq_some_iff.1 hg).1 (hs g rfl)]; exact hg, r⟩
theorem row_base {w : World} {base base' e size n : Nat} {v : Value} {xs : List Value} (h : w.ownsRow base e size v n xs) (hb : base' <= base) : w.ownsRow base' e size v n xs := by
 refine ⟨h.1, ?_⟩
 rcases h.2 with h | ⟨g, cap, cur, rfl, h1, r⟩
 ·exact .inl h
 ·exact .inr ⟨g, cap, cur, rfl, Nat.le_trans hb h1, r⟩
theorem row_type {w : World} {base e size n : Nat} {v : Value} {xs : List Value} (h : w.ownsRow base e size v n xs) {b : Nat} (hb : v.ownBlock = some b) : ∃ cur, w.heap[b]? = some (.cells cur e (0, 0)) /\ base <= b := by
 rcases h.2 with ⟨rfl, _⟩ | ⟨g, cap, cur, rfl, hg, hh, r⟩
 ·cases hb
 ·cases hb; exact ⟨cur, hh, hg⟩
theorem kept_grown {w w' : World} {row : Option Nat} (h : w.grownBy w' row) : Kept (fun b => row = some b) w w' := ⟨h.os, h.tape, h.output, h.size, fun k hk hs => h.block k hk (fun e => hs e.symm)⟩
theorem step_call {P : Program} {ops : Array Oper} {o : Oper} {a : Act} {w : World} {K : Act -> World -> Prop} {Q : Exit -> Act -> World -> Prop} {E : Prop} {f : FuncId} {args : Array Value} {R : Value -> World -> Prop} (hgd : o.guard = none) (hr : (execOp a.eval o).run P w = .ok (.enter f args) w)
  (hc : Calls P f args w fun e w' => ∃ v, e = .returned v /\ R v w') (hk : ∀ v w', R v w' -> K (a.put o.dst v) w') : if Region.wanted o (yielded ops a.tmps) = true then Oper.wp P o a w K Q else E := by
 have hw : Region.wanted o (yielded ops a.tmps) = true := by simp [Region.wanted, hgd]
 rw [if_pos hw]
 simp only [Oper.wp, hr, Oper.upon]
 refine hc.mono ?_
 rintro e w' ⟨v, rfl, h⟩
 exact hk v w' h
theorem step_callG {P : Program} {ops : Array Oper} {o : Oper} {a : Act} {w : World} {K : Act -> World -> Prop} {Q : Exit -> Act -> World -> Prop} {E : Prop} {f : FuncId} {args : Array Value} {R : Value -> World -> Prop} (hw : Region.wanted o (yielded ops a.tmps) = true) (hr : (execOp a.eval o).run P w = .ok (.enter f args) w)
  (hc : Calls P f args w fun e w' => ∃ v, e = .returned v /\ R v w') (hk : ∀ v w', R v w' -> K (a.put o.dst v) w') : if Region.wanted o (yielded ops a.tmps) = true then Oper.wp P o a w K Q else E := by
 rw [if_pos hw]
 simp only [Oper.wp, hr, Oper.upon]
 refine hc.mono ?_
 rintro e w' ⟨v, rfl, h⟩
 exact hk v w' h
theorem bel_from {w0 w w' : World} (h : Below w0.heap.size w0 w) (k : Below w.heap.size w w') : Below w0.heap.size w0 w' := h.trans (k.mono h.size)
theorem below_dr (w : World) (n : Nat) : Below w.heap.size w (w.drewN n) := ⟨rfl, rfl, rfl, Nat.le_refl _, fun _ _ => rfl⟩
end Go.Proofs.YtmlcgebahdcmaaaGreatDoor
