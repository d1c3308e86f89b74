/- Of the proof of this claim: a joined text. -/
import Derived.Test.YtiadbhiadhgjkaaGreatDoorZzLib
import Derived.LoopN
import Derived.BigQuiet
import Derived.Test.YtiadbhiadhgjkaaGreatDoorRows
import Derived.Orders
import Derived.WalkKit
set_option maxHeartbeats 1000000
namespace Go.Proofs.YtiadbhiadhgjkaaGreatDoor
open Go.RowKit
def bs (l : List Int) : ByteArray := l.foldl (fun r n => r.push (UInt8.ofNat n.toNat)) ByteArray.empty
def bytesV (l : List Int) : List Value := l.map (Value.int .u8)
section
variable {P : Program} {src dst e : Nat}
theorem run_str {w : World} (hs : P.underlying src = some (.slice e)) (he : P.underlying e = some (.int .u8)) (hd : P.underlying dst = some .string)
  (a : Addr) (l : List Int) (c : Nat) (h : ∀ j, j < l.length -> w.cell? (a.add j) = some (.int .u8 (l.getD j 0))) :
  (convert src dst (.slice (some a) l.length c)).run P w = .ok (.string (bs l)) w := by
 rw [run_convert_bytes_string w src dst e (some a) l.length c hs he hd]
 have hl : (loadCells a l.length).run P w = .ok (bytesV l).toArray w := by
  have := run_loadCells_list (P := P) w a (bytesV l) (fun j v hv => by
   have hj : j < l.length := by
    rcases Nat.lt_or_ge j l.length with h' | h'
    ·exact h'
    ·rw [List.getElem?_eq_none (by simpa [bytesV] using h')] at hv; cases hv
   rw [h j hj];simp [bytesV, hj] at hv;rw [<- hv]; simp [List.getD, hj])
  simpa [bytesV] using this
 exact run_bytesToString w a l.length c l hl
theorem run_str_nil {w : World} (hs : P.underlying src = some (.slice e)) (he : P.underlying e = some (.int .u8)) (hd : P.underlying dst = some .string) (n c : Nat) :
  (convert src dst (.slice none n c)).run P w = .ok (.string (bs [])) w := by
 rw [run_convert_bytes_string w src dst e none n c hs he hd]; rfl
theorem run_str_own {w : World} (hs : P.underlying src = some (.slice e)) (he : P.underlying e = some (.int .u8)) (hd : P.underlying dst = some .string)
  {base E : Nat} {v : Value} {l : List Int} (h : w.ownsRow base E 1 v l.length (bytesV l)) : (convert src dst v).run P w = .ok (.string (bs l)) w := by
 rcases h.2 with ⟨rfl, h0⟩ | ⟨g, cap, cur, rfl, _, _, _⟩
 ·obtain rfl : l = [] := List.eq_nil_of_length_eq_zero h0
  exact run_str_nil hs he hd 0 0
 ·refine run_str hs he hd _ l cap fun j hj => ?_
  rw [Addr.add_lit, Nat.zero_add, h.cellAt j (by omega)];simp [bytesV, hj, List.getD]
end
end Go.Proofs.YtiadbhiadhgjkaaGreatDoor
namespace Go.Proofs.YtiadbhiadhgjkaaGreatDoor
open Go.RowKit
attribute [local irreducible] World.setCell World.alloc World.drew Calls Code.wp
structure Ins where
 op : Int
 a : Int
 b : Int
 c : Int
 imm : Int
def Ins.v (x : Ins) : Value := .agg #[.int .i64 x.op, .int .i64 x.a, .int .i64 x.b, .int .i64 x.c, .int .i32 x.imm]
def regB (r : Int) : Bool := decide (0 <= r) && decide (r < 16)
def Ins.right (x : Ins) : Bool := (decide (1 <= x.op) && decide (x.op <= 43)) && (regB x.a && (regB x.b && regB x.c))
theorem regB_no {r : Int} (h : regB r = false) : r < 0 \/ 16 <= r := by
 unfold regB at h; simp at h; omega
theorem regB_yes {r : Int} (h : regB r = true) : 0 <= r /\ r < 16 := by
 unfold regB at h; simpa using h
theorem Ins.right_spec {x : Ins} (h : x.right = true) : (1 <= x.op /\ x.op <= 43) /\ (0 <= x.a /\ x.a < 16) /\ (0 <= x.b /\ x.b < 16) /\ (0 <= x.c /\ x.c < 16) := by
 unfold Ins.right at h;simp only [Bool.and_eq_true, decide_eq_true_eq] at h;exact ⟨h.1, regB_yes h.2.1, regB_yes h.2.2.1, regB_yes h.2.2.2⟩
theorem right_any (op a b c imm : Int) (w : World) :
  Calls Tryz.prog 148 #[.agg #[.int .i64 op, .int .i64 a, .int .i64 b, .int .i64 c, .int .i32 imm]] w fun e w' => e = .returned (.bool (Ins.right ⟨op, a, b, c, imm⟩)) /\ Below w.heap.size w w' := by
 have hx : Ins.right ⟨op, a, b, c, imm⟩ = ((decide (1 <= op) && decide (op <= 43)) && (regB a && (regB b && regB c))) := rfl;have Hx := Lib.hid hx; clear hx;have i0 : ∀ w, (Instr.index 317 (.agg #[.int .i64 a, .int .i64 b, .int .i64 c]) (.int .i64 0)).run Tryz.prog w = .ok (.int .i64 a) w := fun _ => by kernel_rfl
 have i1 : ∀ w, (Instr.index 317 (.agg #[.int .i64 a, .int .i64 b, .int .i64 c]) (.int .i64 1)).run Tryz.prog w = .ok (.int .i64 b) w := fun _ => by kernel_rfl
 have i2 : ∀ w, (Instr.index 317 (.agg #[.int .i64 a, .int .i64 b, .int .i64 c]) (.int .i64 2)).run Tryz.prog w = .ok (.int .i64 c) w := fun _ => by kernel_rfl
 have hb := (Below.refl w.heap.size w).alloc (Nat.le_refl _) (.cells #[.int .i64 op, .int .i64 a, .int .i64 b, .int .i64 c, .int .i32 imm] 26);have Hb := Lib.hid hb; clear hb
 cases ha : regB a
 ·have Ha := Lib.hid ha
  rcases regB_no ha with h | h
  all_goals clear ha
  all_goals go_enter Tryz.func148, Tryz.ntmps148
  all_goals go_wp2_with fail
  all_goals refine wp_loop_rounds 1 ?_
  all_goals rw [rounds_succ]
  all_goals go_wp2_with fail
  all_goals go_ret
  all_goals exact ⟨by rw [Hx.out, Ha.out]; simp, Hb.out⟩
 cases hb : regB b
 ·have Hbb := Lib.hid hb
  obtain ⟨a0, a1⟩ := regB_yes ha;rcases regB_no hb with h | h
  all_goals clear ha hb
  all_goals go_enter Tryz.func148, Tryz.ntmps148
  all_goals go_wp2_with fail
  all_goals refine wp_loop_rounds 2 ?_
  all_goals rw [rounds_succ]
  all_goals go_wp2_with fail
  all_goals rw [rounds_succ]
  all_goals go_wp2_with fail
  all_goals go_ret
  all_goals exact ⟨by rw [Hx.out, Hbb.out]; simp, Hb.out⟩
 cases hc : regB c
 ·have Hcc := Lib.hid hc
  obtain ⟨a0, a1⟩ := regB_yes ha;obtain ⟨b0, b1⟩ := regB_yes hb;rcases regB_no hc with h | h
  all_goals clear ha hb hc
  all_goals go_enter Tryz.func148, Tryz.ntmps148
  all_goals go_wp2_with fail
  all_goals refine wp_loop_rounds 3 ?_
  all_goals rw [rounds_succ]
  all_goals go_wp2_with fail
  all_goals rw [rounds_succ]
  all_goals go_wp2_with fail
  all_goals rw [rounds_succ]
  all_goals go_wp2_with fail
  all_goals go_ret
  all_goals exact ⟨by rw [Hx.out, Hcc.out]; simp, Hb.out⟩
 obtain ⟨a0, a1⟩ := regB_yes ha;obtain ⟨b0, b1⟩ := regB_yes hb;obtain ⟨c0, c1⟩ := regB_yes hc;have Ha := Lib.hid ha; have Hbb := Lib.hid hb; have Hcc := Lib.hid hc; clear ha hb hc;by_cases h1 : 1 <= op
 all_goals go_enter Tryz.func148, Tryz.ntmps148
 all_goals go_wp2_with fail
 all_goals refine wp_loop_rounds 4 ?_
 all_goals rw [rounds_succ]
 all_goals go_wp2_with fail
 all_goals rw [rounds_succ]
 all_goals go_wp2_with fail
 all_goals rw [rounds_succ]
 all_goals go_wp2_with fail
 all_goals rw [rounds_succ]
 all_goals go_wp2_with fail
 all_goals go_ret
 ·refine ⟨?_, Hb.out⟩
  rw [Hx.out, Ha.out, Hbb.out, Hcc.out];simp [h1];omega
 ·refine ⟨?_, Hb.out⟩
  rw [Hx.out, Ha.out, Hbb.out, Hcc.out];simp;omega
end Go.Proofs.YtiadbhiadhgjkaaGreatDoor
namespace Go.Proofs.YtiadbhiadhgjkaaGreatDoor
open Go.RowKit
def StrIn (w : World) (v : Value) (l : List Int) : Prop :=
 ∃ x c, v = .slice x l.length c /\ (l = [] \/ ∃ b o, x = some ⟨b, o, none⟩ /\ b < w.heap.size /\ ∀ j, j < l.length -> w.cell? ⟨b, o + j, none⟩ = some (.int .u8 (l.getD j 0)))
theorem StrIn.of_blk {w : World} {b t c : Nat} {l : List Int} {cs : Array Value} (h : Blk w b cs t) (hc : ∀ j, j < l.length -> cs[j]? = some (.int .u8 (l.getD j 0))) : StrIn w (.slice (some ⟨b, 0, none⟩) l.length c) l :=
 ⟨_, c, rfl, .inr ⟨b, 0, rfl, h.lt, fun j hj => by rw [Nat.zero_add, h.cell, hc j hj]⟩⟩
end Go.Proofs.YtiadbhiadhgjkaaGreatDoor
namespace Go.Proofs.YtiadbhiadhgjkaaGreatDoor
open Go.RowKit
attribute [local irreducible] World.setCell World.alloc World.drew Calls Code.wp
def uns (n : Int) : Int := n % 4294967296
def Ins.enc (x : Ins) : List Int := [x.op, x.a, x.b, x.c, uns x.imm / 16777216, uns x.imm / 65536 % 256, uns x.imm / 256 % 256, uns x.imm % 256]
theorem enc_any (op a b c imm : Int) (w : World) (h : Ins.right ⟨op, a, b, c, imm⟩ = true) (hi : -2147483648 <= imm /\ imm <= 2147483647) :
  Calls Tryz.prog 54 #[.agg #[.int .i64 op, .int .i64 a, .int .i64 b, .int .i64 c, .int .i32 imm]] w fun e w' => ∃ v, e = .returned v /\ StrIn w' v (Ins.enc ⟨op, a, b, c, imm⟩) /\ Below w.heap.size w w' := by
 obtain ⟨⟨o0, o1⟩, ⟨a0, a1⟩, ⟨b0, b1⟩, ⟨c0, c1⟩⟩ := Ins.right_spec h;clear h;simp only at o0 o1 a0 a1 b0 b1 c0 c1;obtain ⟨i0, i1⟩ := hi;obtain ⟨u, hu⟩ : ∃ u : Int, uns imm = u := ⟨_, rfl⟩;have hw : IntKind.u32.wrap imm = u := by rw [<- hu]; simp [IntKind.wrap_u32, uns]
 have u0 : 0 <= u := by rw [<- hu]; unfold uns; omega
 have u1 : u <= 4294967295 := by rw [<- hu]; unfold uns; omega
 have Hu := Lib.hid hu; clear hu;go_enter Tryz.func54, Tryz.ntmps54
 go_wp2_with fail
 go_ret;refine ⟨_, rfl, ?_, ((Below.refl _ _).alloc (Nat.le_refl _) _).alloc (by simp) _⟩;have hB := Blk.new (w.alloc (.cells #[.int .i64 op, .int .i64 a, .int .i64 b, .int .i64 c, .int .i32 imm] 26)) #[.int .u8 op, .int .u8 a, .int .u8 b, .int .u8 c, .int .u8 (u / 16777216), .int .u8 (u / 65536 % 256), .int .u8 (u / 256 % 256), .int .u8 (u % 256)] 5;rw [World.size_alloc] at hB;refine StrIn.of_blk (l := Ins.enc ⟨op, a, b, c, imm⟩) (c := 8) hB fun j hj => ?_
 have hj : j < 8 := hj;unfold Ins.enc;simp only [Hu.out];obtain rfl | rfl | rfl | rfl | rfl | rfl | rfl | rfl : j = 0 \/ j = 1 \/ j = 2 \/ j = 3 \/ j = 4 \/ j = 5 \/ j = 6 \/ j = 7 := by omega
 all_goals rfl
end Go.Proofs.YtiadbhiadhgjkaaGreatDoor
namespace Go.Proofs.YtiadbhiadhgjkaaGreatDoor
open Go
def back (ops : Array Oper) : Bool := (List.range ops.size).all fun i => ((ops[i]?).map fun o => o.after.all fun e => !Region.binds .any e || decide (e.on < i)).getD true
theorem back_spec {ops : Array Oper} (h : back ops = true) {i : Nat} {o : Oper} (ho : ops[i]? = some o) {e : Edge} (he : e ∈ o.after) (hbd : Region.binds .any e = true) : e.on < i := by
 have hi := (Array.getElem?_eq_some_iff.1 ho).1;have h1 := List.all_eq_true.1 h i (List.mem_range.2 hi);rw [ho] at h1;have h2 := Array.all_eq_true_iff_forall_mem.1 h1 e he;rw [hbd] at h2;simpa using h2
theorem ready_nil {ops : Array Oper} (hb : back ops = true) {l : Array Bool} (hl : l.size = ops.size) (hr : Region.ready .any ops l = []) : ∀ i, i < ops.size -> l[i]? = some true := by
 intro i;induction i using Nat.strongRecOn with
 | _ i ih =>
  intro hi;rcases hb' : l[i]? with _ | b
  ·rw [Array.getElem?_eq_none_iff] at hb'; omega
  ·cases b
   ·have hm : i ∈ Region.ready .any ops l := by
     rw [mem_ready];have ho : ops[i]? = some ops[i] := Array.getElem?_eq_getElem hi;refine ⟨by simp [hb'], _, ho, fun e he hbd => ?_⟩;have hlt := back_spec hb ho he hbd;simp [ih _ hlt (by omega)]
    rw [hr] at hm; cases hm
   ·rfl
def Closed (ops : Array Oper) (l : Array Bool) : Prop := ∀ (j : Nat) (o : Oper), ops[j]? = some o -> l[j]? = some true -> ∀ e ∈ o.after, Region.binds .any e = true -> l[e.on]? = some true
def dep (ops : Array Oper) (j k : Nat) : Bool := ((ops[j]?).map fun o => o.after.toList.any fun e => Region.binds .any e && e.on == k).getD false
theorem dep_spec {ops : Array Oper} {j k : Nat} {o : Oper} (ho : ops[j]? = some o) (h : dep ops j k = true) : ∃ e ∈ o.after, Region.binds .any e = true /\ e.on = k := by
 unfold dep at h;rw [ho] at h;simp only [Option.map_some, Option.getD_some] at h;obtain ⟨e, he, hb⟩ := List.any_eq_true.1 h;simp only [Bool.and_eq_true, beq_iff_eq] at hb;exact ⟨e, Array.mem_toList_iff.1 he, hb⟩
theorem Closed.of {ops : Array Oper} {l : Array Bool} (h : Closed ops l) {j : Nat} (k : Nat) (hd : dep ops j k = true) (hj : l[j]? = some true) : l[k]? = some true := by
 rcases ho : ops[j]? with _ | o
 ·unfold dep at hd; rw [ho] at hd; cases hd
 ·obtain ⟨e, he, hb, rfl⟩ := dep_spec ho hd
  exact h j o ho hj e he hb
theorem wp_region_inv {P : Program} {ops : Array Oper} {Q : Exit -> Act -> World -> Prop} {id : Nat} {a : Act} {w : World} (hm : P.follows .mixedOrders = true) (hb : back ops = true)
  (I : Array Bool -> Act -> World -> Prop) (h0 : I (Array.replicate ops.size false) a w.drew)
  (hs : ∀ (i : Nat) (l : Array Bool) (a : Act) (w : World), i < ops.size -> l.size = ops.size -> l[i]? = some false -> (∀ k, dep ops i k = true -> l[k]? = some true) -> Closed ops l -> I l a w ->
   wpOp P ops Q i (I (l.setIfInBounds i true)) a w)
  (he : ∀ (l : Array Bool) (a : Act) (w : World), (∀ i, i < ops.size -> l[i]? = some true) -> I l a w -> Q .normal a w) : (Code.region id ops true).wp P Q a w := by
 refine wp_region_any hm ?_
 have key : ∀ (fuel : Nat) (l : Array Bool) (a : Act) (w : World), l.size = ops.size -> l.count false <= fuel -> Closed ops l -> I l a w -> wpAny P .any ops Q fuel l a w := by
  intro fuel;induction fuel with
  | zero =>
   intro l a w hl hc hcl hI
   have hr : Region.ready .any ops l = [] := by
    cases hr : Region.ready .any ops l with
    | nil => rfl
    | cons i r =>
     have hm : i ∈ Region.ready .any ops l := by rw [hr]; exact List.mem_cons_self
     obtain ⟨h1, o, ho, _⟩ := mem_ready.1 hm;have hi : i < l.size := by rw [hl]; exact (Array.getElem?_eq_some_iff.1 ho).1
     have hmem : false ∈ l := by
      have : l[i] = false := by simpa [hi] using h1
      exact this ▸ Array.getElem_mem hi
     have := Array.count_pos_iff.2 hmem;omega
   exact ⟨hr, he l a w (ready_nil hb hl hr) hI⟩
  | succ fuel ih =>
   intro l a w hl hc hcl hI;refine ⟨fun hr => he l a w (ready_nil hb hl hr) hI, fun i hi => ?_⟩;obtain ⟨h1, o, ho, h2⟩ := mem_ready.1 hi;have hil : i < l.size := by rw [hl]; exact (Array.getElem?_eq_some_iff.1 ho).1
   have hli : l[i]? = some false := by
    rw [Array.getElem?_eq_getElem hil];have : l[i] = false := by simpa [hil] using h1
    rw [this]
   have hdeps : ∀ e ∈ o.after, Region.binds .any e = true -> l[e.on]? = some true := fun e he' hbd => by
    have := h2 e he' hbd;rcases hq : l[e.on]? with _ | b
    ·simp [hq] at this
    ·simp [hq] at this; rw [this]
   refine wpOp_mono (fun a' w' hI' => ih _ a' w' (by simpa using hl) ?_ (fun j o' hj hlj e he' hbd => ?_) hI') (hs i l a w (by rw [<- hl]; exact hil) hl hli (fun k hk => by obtain ⟨e, he, hb', rfl⟩ := dep_spec ho hk; exact hdeps e he hb') hcl hI)
   ·have hset : l.setIfInBounds i true = l.set i true hil := by simp [Array.setIfInBounds, hil]
    have hlt : l[i] = false := by
     have := hli; rw [Array.getElem?_eq_getElem hil] at this; simpa using this
    have hpos : 0 < l.count false := Array.count_pos_iff.2 (hlt ▸ Array.getElem_mem hil);rw [hset, Array.count_set];simp [hlt];omega
   ·have hup : ∀ k, l[k]? = some true -> (l.setIfInBounds i true)[k]? = some true := fun k hk => by
     by_cases e1 : i = k
     ·rw [<- e1, Array.getElem?_setIfInBounds, if_pos rfl, if_pos hil]
     ·rw [Array.getElem?_setIfInBounds_ne e1]; exact hk
    by_cases e1 : i = j
    ·subst e1
     rw [ho] at hj; cases hj;exact hup _ (hdeps e he' hbd)
    ·rw [Array.getElem?_setIfInBounds_ne e1] at hlj
     exact hup _ (hcl j o' hj hlj e he' hbd)
 exact key ops.size (Array.replicate ops.size false) _ _ (by simp) (by simp) (fun j o _ hj => by
  rw [Array.getElem?_replicate] at hj;split at hj <;> simp at hj) h0
def dstOf (ops : Array Oper) (i : Nat) : Option Tmp := (ops[i]?).bind (·.dst)
def oneEach (ops : Array Oper) : Bool := (List.range ops.size).all fun i => (List.range i).all fun j => (dstOf ops i).isNone || decide (dstOf ops i ≠ dstOf ops j)
theorem oneEach_spec {ops : Array Oper} (h : oneEach ops = true) {i j : Nat} {d : Tmp} (hi : dstOf ops i = some d) (hj : dstOf ops j = some d) : i = j := by
 have key : ∀ {i j : Nat}, dstOf ops i = some d -> dstOf ops j = some d -> j < i -> False := by
  intro i j hi hj hlt
  have hs : i < ops.size := by
   rcases Nat.lt_or_ge i ops.size with h' | h'
   ·exact h'
   ·simp [dstOf, Array.getElem?_eq_none h'] at hi
  have h1 := List.all_eq_true.1 (List.all_eq_true.1 h i (List.mem_range.2 hs)) j (List.mem_range.2 hlt);rw [hi, hj] at h1;simp at h1
 rcases Nat.lt_trichotomy i j with h' | h' | h'
 ·exact absurd h' (fun q => key hj hi q)
 ·exact h'
 ·exact absurd h' (fun q => key hi hj q)
structure RInv (ops : Array Oper) (a0 : Act) (V : Nat -> Value -> Prop) (l : Array Bool) (a : Act) : Prop where
 size : a.tmps.size = a0.tmps.size
 defers : a.defers = a0.defers
 base : ∀ t, (∀ i, l[i]? = some true -> dstOf ops i ≠ some t) -> a.tmps[t]? = a0.tmps[t]?
 slot : ∀ i d, l[i]? = some true -> dstOf ops i = some d -> V i (a.tmps.getD d undef)
theorem RInv.start (ops : Array Oper) (a0 : Act) (V : Nat -> Value -> Prop) : RInv ops a0 V (Array.replicate ops.size false) a0 where
 size := rfl
 defers := rfl
 base _ _ := rfl
 slot i d h := by
  rw [Array.getElem?_replicate] at h;split at h <;> simp at h
theorem RInv.put {ops : Array Oper} {a0 : Act} {V : Nat -> Value -> Prop} {l : Array Bool} {a : Act} (h : RInv ops a0 V l a) (hu : oneEach ops = true) {i : Nat} (hi : i < l.size) {d : Tmp} (hd : dstOf ops i = some d) (hds : d < a0.tmps.size) {v : Value} (hv : V i v) :
  RInv ops a0 V (l.setIfInBounds i true) (a.put (some d) v) where
 size := by simp [Act.put, h.size]
 defers := h.defers
 base t ht := by
  have hne : d ≠ t := fun e => ht i (by simp [hi]) (e ▸ hd)
  show (a.tmps.setIfInBounds d v)[t]? = _
  rw [Array.getElem?_setIfInBounds_ne hne];refine h.base t fun j hj => ht j ?_
  by_cases e : i = j
  ·subst e; simp [hi]
  ·rw [Array.getElem?_setIfInBounds_ne e]; exact hj
 slot j e hj he := by
  show V j ((a.tmps.setIfInBounds d v).getD e undef)
  by_cases hij : i = j
  ·subst hij
   rw [hd] at he; cases he;have hd' : d < a.tmps.size := by rw [h.size]; exact hds
   simp [hd', hv]
  ·have hne : d ≠ e := fun q => hij (oneEach_spec hu hd (q ▸ he))
   rw [Array.getElem?_setIfInBounds_ne hij] at hj;have := h.slot j e hj he;simpa [Array.getElem?_setIfInBounds_ne hne] using this
theorem RInv.done {ops : Array Oper} {a0 : Act} {V : Nat -> Value -> Prop} {l : Array Bool} {a : Act} (h : RInv ops a0 V l a) {i : Nat} (hd : dstOf ops i = none) : RInv ops a0 V (l.setIfInBounds i true) a where
 size := h.size
 defers := h.defers
 base t ht := h.base t fun j hj => ht j (by
  by_cases e : i = j
  ·subst e
   have hi := (Array.getElem?_eq_some_iff.1 hj).1;simp [hi]
  ·rw [Array.getElem?_setIfInBounds_ne e]; exact hj)
 slot j e hj he := by
  by_cases hij : i = j
  ·subst hij; rw [hd] at he; cases he
  ·rw [Array.getElem?_setIfInBounds_ne hij] at hj; exact h.slot j e hj he
def noDst (ops : Array Oper) (t : Tmp) : Bool := (List.range ops.size).all fun i => dstOf ops i != some t
theorem noDst_spec {ops : Array Oper} {t : Tmp} (h : noDst ops t = true) (i : Nat) : dstOf ops i ≠ some t := by
 rcases Nat.lt_or_ge i ops.size with h' | h'
 ·simpa using List.all_eq_true.1 h i (List.mem_range.2 h')
 ·simp [dstOf, Array.getElem?_eq_none h']
theorem RInv.was {ops : Array Oper} {a0 : Act} {V : Nat -> Value -> Prop} {l : Array Bool} {a : Act} (h : RInv ops a0 V l a) (t : Tmp) (ht : noDst ops t = true) : a.tmps.getD t undef = a0.tmps.getD t undef := by
 have := h.base t fun i _ => noDst_spec ht i
 simp [this]
theorem foldl_set (g : Tmp -> Value) (k : Nat) : ∀ (ds : List Tmp) (c : Array Value), (ds.foldl (fun c d => c.setIfInBounds d (g d)) c)[k]? = if k ∈ ds then (if k < c.size then some (g k) else none) else c[k]?
 | [], c => by simp
 | d :: ds, c => by
  rw [List.foldl_cons, foldl_set g k ds];by_cases h : k ∈ ds
  ·simp [h]
  ·by_cases e : d = k
   ·subst e
    rw [if_neg h, if_pos (by simp), Array.getElem?_setIfInBounds, if_pos rfl]
   ·rw [if_neg h, if_neg (by simp [h]; exact fun q => e q.symm), Array.getElem?_setIfInBounds_ne e]
theorem RInv.fold {ops : Array Oper} {a0 : Act} {V : Nat -> Value -> Prop} {l : Array Bool} {a : Act} (h : RInv ops a0 V l a) (ds : List Tmp) (hds : (List.range ops.size).filterMap (dstOf ops) = ds) :
  a = ⟨ds.foldl (fun c d => c.setIfInBounds d (a.tmps.getD d undef)) a0.tmps, a0.defers⟩ := by
 have hd := h.defers;have hs := h.size
 have hf : a.tmps = ds.foldl (fun c d => c.setIfInBounds d (a.tmps.getD d undef)) a0.tmps := by
  apply Array.ext_getElem?;intro k;rw [foldl_set];by_cases hk : k < a0.tmps.size
  ·by_cases hm : k ∈ ds
   ·rw [if_pos hm, if_pos hk]
    have hk' : k < a.tmps.size := by omega
    simp [hk']
   ·rw [if_neg hm]
    refine h.base k fun i _ hi => hm ?_
    rw [<- hds, List.mem_filterMap];refine ⟨i, List.mem_range.2 ?_, hi⟩;rcases Nat.lt_or_ge i ops.size with h' | h'
    ·exact h'
    ·simp [dstOf, Array.getElem?_eq_none h'] at hi
  ·have h1 : a.tmps[k]? = none := Array.getElem?_eq_none (by omega)
   have h2 : a0.tmps[k]? = none := Array.getElem?_eq_none (by omega);rw [h1, h2, if_neg hk];split <;> rfl
 obtain ⟨t, d⟩ := a;simp only at hf hd ⊢;rw [<- hf, hd]
theorem wp_region_rinv {P : Program} {ops : Array Oper} {Q : Exit -> Act -> World -> Prop} {id : Nat} {a : Act} {w : World} (hm : P.follows .mixedOrders = true) (hb : back ops = true) (hu : oneEach ops = true)
  (V : Nat -> Value -> Prop) (W : Array Bool -> Act -> World -> Prop) (h0 : W (Array.replicate ops.size false) a w.drew)
  (hs : oneEach ops = true -> ∀ (i : Nat) (l : Array Bool) (a' : Act) (w' : World), i < ops.size -> l.size = ops.size -> l[i]? = some false -> (∀ k, dep ops i k = true -> l[k]? = some true) -> Closed ops l -> RInv ops a V l a' -> W l a' w' ->
   wpOp P ops Q i (fun a'' w'' => RInv ops a V (l.setIfInBounds i true) a'' /\ W (l.setIfInBounds i true) a'' w'') a' w')
  (he : ∀ (l : Array Bool) (a' : Act) (w' : World), (∀ i, i < ops.size -> l[i]? = some true) -> RInv ops a V l a' -> W l a' w' -> Q .normal a' w') : (Code.region id ops true).wp P Q a w :=
 wp_region_inv hm hb (fun l a' w' => RInv ops a V l a' /\ W l a' w') ⟨RInv.start _ _ _, h0⟩ (fun i l a' w' h1 h2 h3 h4 h5 h6 => hs hu i l a' w' h1 h2 h3 h4 h5 h6.1 h6.2) (fun l a' w' h1 h2 => he l a' w' h1 h2.1 h2.2)
section
variable {P : Program} {ops : Array Oper} {Q : Exit -> Act -> World -> Prop} {i : Nat} {o : Oper} {a : Act} {w w' : World} {K : Act -> World -> Prop} {v : Value}
theorem wpOp_val {d : Tmp} (ho : ops[i]? = some o) (hd : dstOf ops i = some d) (hw : Region.wanted o (yielded ops a.tmps) = true) (hr : (execOp a.eval o).run P w = .ok (.value v) w') (hk : K (a.put (some d) v) w') : wpOp P ops Q i K a w := by
 unfold wpOp;unfold dstOf at hd;rw [ho] at hd;have hd : o.dst = some d := hd;simp only [ho, hw, if_true, Oper.wp, hr, Oper.upon, hd];exact .inl hk
theorem wpOp_unit (ho : ops[i]? = some o) (hd : dstOf ops i = none) (hw : Region.wanted o (yielded ops a.tmps) = true) (hr : (execOp a.eval o).run P w = .ok .skip w') (hk : K a w') : wpOp P ops Q i K a w := by
 unfold wpOp;unfold dstOf at hd;rw [ho] at hd;have hd : o.dst = none := hd;simp only [ho, hw, if_true, Oper.wp, hr, Oper.upon, hd];exact .inl hk
theorem wpOp_call {d : Tmp} {f : FuncId} {args : Array Value} {R : Value -> World -> Prop} (ho : ops[i]? = some o) (hd : dstOf ops i = some d) (hw : Region.wanted o (yielded ops a.tmps) = true) (hr : (execOp a.eval o).run P w = .ok (.enter f args) w)
  (hc : Calls P f args w fun e w' => ∃ v, e = .returned v /\ R v w') (hk : ∀ v w', R v w' -> K (a.put (some d) v) w') : wpOp P ops Q i K a w := by
 unfold wpOp;unfold dstOf at hd;rw [ho] at hd;have hd : o.dst = some d := hd;simp only [ho, hw, if_true, Oper.wp, hr, Oper.upon, hd];refine .inl (hc.mono ?_);rintro e w' ⟨v, rfl, h⟩;exact hk v w' h
theorem wanted_plain (h : o.guard = none) (y : Nat -> Option Bool) : Region.wanted o y = true := by
 unfold Region.wanted; rw [h]
theorem wanted_slot {g : Nat} {want b : Bool} {d : Tmp} (h : o.guard = some (g, want)) (hd : dstOf ops g = some d) (hs : a.tmps.getD d undef = .bool b) : Region.wanted o (yielded ops a.tmps) = (b == want) := by
 have hy : yielded ops a.tmps g = some b := by
  unfold dstOf at hd;unfold yielded;rw [hd]
  have hs' : a.tmps[d]? = some (.bool b) := by
   rcases hq : a.tmps[d]? with _ | x
   ·simp [hq, undef] at hs
   ·simp [hq] at hs; rw [hs]
  simp [hs']
 unfold Region.wanted;rw [h];simp [hy]
end
theorem set_self {l : Array Bool} {i : Nat} (h : i < l.size) : (l.setIfInBounds i true)[i]? = some true := by
 rw [Array.getElem?_setIfInBounds, if_pos rfl, if_pos h]
theorem set_other {l : Array Bool} {i j : Nat} (h : i ≠ j) : (l.setIfInBounds i true)[j]? = l[j]? := Array.getElem?_setIfInBounds_ne h
theorem put_self {a : Act} {d : Tmp} {v : Value} (h : d < a.tmps.size) : (a.put (some d) v).tmps.getD d undef = v := by
 show (a.tmps.setIfInBounds d v).getD d undef = v
 simp [h]
theorem put_other {a : Act} {d t : Tmp} {v : Value} (h : d ≠ t) : (a.put (some d) v).tmps.getD t undef = a.tmps.getD t undef := by
 show (a.tmps.setIfInBounds d v).getD t undef = _
 simp [Array.getElem?_setIfInBounds_ne h]
section
variable {P : Program} {a : Act} {w w' : World} {d : Option Tmp} {t : TypeId} {p : String} {e : Array Edge} {g : Option (Nat × Bool)} {x y z : Operand} {u v s : Value}
theorem ex_move (h : a.eval x = v) : (execOp a.eval ⟨d, .move x, t, p, e, g⟩).run P w = .ok (.value v) w := by
 simp [execOp, h]
theorem ex_assign (h : a.eval x = v) : (execOp a.eval ⟨d, .assign x, t, p, e, g⟩).run P w = .ok (.value v) w := by
 simp [execOp, h]
theorem ex_pick_true (h : a.eval x = .bool true) (h1 : a.eval y = v) : (execOp a.eval ⟨d, .pick x y z, t, p, e, g⟩).run P w = .ok (.value v) w := by
 simp [execOp, h, h1, asBool]
theorem ex_convert {S D : TypeId} (h : a.eval x = u) (hr : (convert S D u).run P w = .ok v w') : (execOp a.eval ⟨d, .convert S D x, t, p, e, g⟩).run P w = .ok (.value v) w' := by
 simp [execOp, h, hr, Result.andThen]
theorem ex_bin {o : BinOp} {T S : TypeId} (h : a.eval x = u) (h1 : a.eval y = s) (hg : ∀ w, (eqGuard o T x y u s).run P w = .ok () w) (hr : (binOp o T u s).run P w = .ok v w') : (execOp a.eval ⟨d, .binOp o T x y S, t, p, e, g⟩).run P w = .ok (.value v) w' := by
 simp [execOp, h, h1, hr, hg, Result.andThen]
theorem enters_fn {f : FuncId} {fn : Func} {c : Code} (hf : P.funcs[f]? = some fn) (hname : (fn.name == "runtime.NumGoroutine") = false) (hb : fn.body = some c) (vs : Array Value) (w : World) : (callFunc f vs).run P w = .ok (.enter f vs) w := by
 have h1 : fn.name ≠ "runtime.NumGoroutine" := by simpa using hname
 simp [callFunc, hf, h1, hb, mark]
theorem ex_call {f : FuncId} {args : Array Operand} {ts : Array TypeId} {vs : Array Value} (hv : args.map a.eval = vs) (he : ∀ vs w, (callFunc f vs).run P w = .ok (.enter f vs) w) :
  (execOp a.eval ⟨d, .call { callee := .value (.func f), args := args, argTypes := ts }, t, p, e, g⟩).run P w = .ok (.enter f vs) w := by
 have hr : (resolve a.eval { callee := .value (.func f), args := args, argTypes := ts } t).run P w = .ok { target := .fn (.func f) #[], args := vs } w := by
  simp [resolve, Deferred.ofValue, Act.eval, hv]
 simp only [execOp];rw [Sem.run_bind, hr];simp [Result.andThen, invoke, he]
theorem ex_load {T : TypeId} (h : a.eval x = u) (hr : (Instr.loadAt T u).run P w = .ok v w') : (execOp a.eval ⟨d, .load T x, t, p, e, g⟩).run P w = .ok (.value v) w' := by
 simp [execOp, h, hr, Result.andThen]
theorem ex_indexAddr {T : TypeId} (h : a.eval x = u) (h1 : a.eval y = s) (hr : (Instr.indexAt T u s).run P w = .ok v w') : (execOp a.eval ⟨d, .indexAddr T x y, t, p, e, g⟩).run P w = .ok (.value v) w' := by
 simp [execOp, h, h1, hr, Result.andThen]
theorem ex_fieldAddr {T : TypeId} {f : Nat} (h : a.eval x = u) (hr : (Instr.fieldAt T u f).run P w = .ok v w') : (execOp a.eval ⟨d, .fieldAddr T x f, t, p, e, g⟩).run P w = .ok (.value v) w' := by
 simp [execOp, h, hr, Result.andThen]
end
end Go.Proofs.YtiadbhiadhgjkaaGreatDoor
