import Derived.Test.YtiadbhiadhgjkaaGreatDoorRows
import Derived.WalkKit
import Derived.WalkSpells
import Derived.WalkLawsBesides
import Derived.Lib.Hide
import Derived.Lib.SmallJoins
import Derived.Laws.CopyOwn
import Derived.Orders
import Derived.IntWalk
namespace Go.Proofs.YtiadbhiadhgjkaaGreatDoor
open Go.RowKit
universe u v
theorem ah {p : Prop} (h : p) : Hid p := h
theorem aj (n : Nat) : n ≤ n := Nat.le_refl n
theorem ak {p : Prop} [inst : Decidable p] (h : decide p = true) : p := of_decide_eq_true h
theorem au (w : World) (o : Obj) : (w.alloc o).heap.size = w.heap.size + 1 := World.size_alloc w o
theorem ay {α : Type u} (l : List α) (i : Nat) (a : α) : l.toArray.setIfInBounds i a = (l.set i a).toArray := List.setIfInBounds_toArray l i a
theorem aA {c : Prop} {h : Decidable c} (hnc : ¬c) {α : Sort u} {t e : α} : (if c then t else e) = e := if_neg hnc
theorem aB : (¬False) = True := not_false_eq_true
theorem aC (B : Nat) (w : World) : Below B w w := Below.refl B w
theorem aD {c : Prop} {h : Decidable c} (hc : c) {α : Sort u} {t e : α} : (if c then t else e) = t := if_pos hc
theorem aG {α : Type u} {x : α} {xs : List α} {a : α} : (x :: xs).set 0 a = a :: xs := rfl
theorem aH {α : Type u} {x : α} {xs : List α} {i : Nat} {a : α} : (x :: xs).set (i + 1) a = x :: xs.set i a := rfl
theorem aM (a b : Bool) : ((a && b) = true) = (a = true ∧ b = true) := Bool.and_eq_true a b
theorem aN {α : Type u} {a : α} {l : List α} : (a :: l)[0]? = some a := rfl
theorem aO {α : Type u} {xs ys : List α} : (xs ++ ys).length = xs.length + ys.length := List.length_append
theorem aP {α : Type u} {a : α} {i : Nat} {l : List α} : (a :: l)[i + 1]? = l[i]? := rfl
theorem aQ {α : Type u} {l : List α} {i : Nat} (h : i < l.length) : l[i]? = some l[i] := List.getElem?_eq_getElem h
theorem aS {α : Type u} {xs : List α} {i : Nat} : xs.toArray[i]? = xs[i]? := List.getElem?_toArray
theorem aU {α : Type u} {i : Nat} {b : α} {xs : Array α} : xs[i]? = some b ↔ ∃ h, xs[i] = b := Array.getElem?_eq_some_iff
theorem aV (n : Int) (h : -9223372036854775808 ≤ n ∧ n ≤ 9223372036854775807) : IntKind.i64.wrap n = n := IntWalk.i64_in n h
theorem aW {α : Type u} {i : Nat} {a : α} {l : List α} : l[i]? = some a ↔ ∃ h, l[i] = a := List.getElem?_eq_some_iff
theorem aX {p : Prop} [inst : Decidable p] (h : ¬p) : decide p = false := decide_eq_false h
theorem aY {p : Prop} [inst : Decidable p] : (decide p = true) = p := decide_eq_true_eq
theorem aZ {α : Type u} {a : α} {l : List α} : (a :: l).length = l.length + 1 := rfl
theorem bn (w : World) (a : Addr) {u : Value} (h : w.cell? a = some u) : a.block < w.heap.size := World.block_lt_of_cell? w a h
theorem bq {α : Type u} {a : α} {l : List α} : a ∈ a :: l := List.mem_cons_self
theorem bA {n m k : Nat} (h : n < m) (h2 : m ≤ k) : n < k := Nat.lt_of_lt_of_le h h2
theorem bD {n m k : Nat} (h : n ≤ m) (h2 : m ≤ k) : n ≤ k := Nat.le_trans h h2
theorem bF {α : Sort u} (a b : α) : (a ≠ b) = ¬a = b := rfl
theorem bG {α : Type u} {l : List α} {i : Nat} {a : α} (h : l[i]? = some a) : a ∈ l := List.mem_of_getElem? h
theorem bK {p : Prop} [inst : Decidable p] (h : p) : decide p = true := decide_eq_true h
theorem bQ {a b : Int} (h : 0 ≤ a) : a.tmod b = a % b := Int.tmod_eq_emod_of_nonneg h
theorem bT {α : Type u} {a : α} {l : List α} {f : α → Bool} : (a :: l).all f = (f a && l.all f) := rfl
theorem bW {α : Type u} {β : Type v} {f : α → β} {a : α} {l : List α} : List.map f (a :: l) = f a :: List.map f l := rfl
theorem bX {α : Type u} {xs : Array α} {i j : Nat} (h : i ≠ j) {a : α} : (xs.setIfInBounds i a)[j]? = xs[j]? := Array.getElem?_setIfInBounds_ne h
theorem cu (w : World) (base : Nat) (e : TypeId) (size : Nat) : w.ownsRow base e size (Value.slice none 0 0) 0 [] := World.ownsRow_nil w base e size
theorem cK (w : World) : w.drew.heap.size = w.heap.size := World.size_drew w
theorem dw (w n : Nat) : BitVec.ofInt w ↑n = BitVec.ofNat w n := BitVec.ofInt_natCast w n
theorem dF {α : Type u} {β : Type v} {f : α → β} {l : List α} {i : Nat} : (List.map f l)[i]? = Option.map f l[i]? := List.getElem?_map
end Go.Proofs.YtiadbhiadhgjkaaGreatDoor
namespace Go.Proofs.YtiadbhiadhgjkaaGreatDoor
open Go.RowKit
def aR(w:World)(b:Nat)(c:Array Value)(t:TypeId):Prop:=w.heap[b]? = some (.cells c t (0,0))
section
variable {w w':World}{b t:Nat}{c:Array Value}
theorem aR.cell(h:aR w b c t)(i:Nat):w.cell? ⟨b,i,none⟩=c[i]?:=by
 unfold aR at h;simp[World.cell?,h]
theorem aR.free(h:aR w b c t)(i:Nat):w.frozen? ⟨b,i,none⟩=false:=by
 unfold aR at h;simp[World.frozen?,h]
theorem aR.lt(h:aR w b c t):b<w.heap.size:=by
 unfold aR at h;exact(aU.1 h).1
theorem aR.set(h:aR w b c t)(i:Nat)(v:Value):aR (w.setCell ⟨b,i,none⟩ v) b (c.setIfInBounds i v) t:=by
 unfold aR at h ⊢;simp[World.setCell,Array.getElem?_modify,h]
theorem aR.aI(h:aR w b c t){a:Addr}(ha:a.block≠b)(v:Value):aR (w.setCell a v) b c t:=by
 unfold aR at h ⊢;rw[Below.heap_setCell _ _ _ _ (Ne.symm ha)];exact h
theorem aR.alloc(h:aR w b c t)(o:Obj):aR (w.alloc o) b c t:=by
 have:=h.lt;unfold aR at h ⊢;rw[Below.heap_alloc _ _ _ this];exact h
theorem aR.new(w:World)(c:Array Value)(t:TypeId):aR (w.alloc (.cells c t)) w.heap.size c t:=by
 show(w.heap.push _)[w.heap.size]? = _
 simp
theorem aR.drew(h:aR w b c t):aR w.drew b c t:=h
theorem aR.cells(h:aR w b c t){d:Array Value}(e:c=d):aR w b d t:=e ▸ h
end
structure Kept(S:Nat->Prop)(w w':World):Prop where
 os:w'.os=w.os
 tape:w'.tape=w.tape
 output:w'.output=w.output
 size:w.heap.size<=w'.heap.size
 block:∀k,k<w.heap.size->¬S k->w'.heap[k]? = w.heap[k]?
section
variable {S T:Nat->Prop}{w w1 w2:World}
theorem Kept.refl(S:Nat->Prop)(w:World):Kept S w w:=⟨rfl,rfl,rfl,aj _,fun _ _ _=>rfl⟩
theorem Kept.trans(h:Kept S w w1)(k:Kept S w1 w2):Kept S w w2 :=
 ⟨k.os.trans h.os,k.tape.trans h.tape,k.output.trans h.output,bD h.size k.size,fun i hi hs=>(k.block i (bA hi h.size) hs).trans (h.block i hi hs)⟩
theorem Kept.mono(h:Kept S w w1)(hs:∀k,k<w.heap.size->S k->T k):Kept T w w1 :=
 ⟨h.os,h.tape,h.output,h.size,fun i hi hn=>h.block i hi (fun q=>hn (hs i hi q))⟩
theorem Kept.drew(h:Kept S w w1):Kept S w w1.drew:=⟨h.os,h.tape,h.output,h.size,h.block⟩
theorem Kept.alloc(h:Kept S w w1)(o:Obj):Kept S w (w1.alloc o) :=
 ⟨h.os,h.tape,h.output,by have:=h.size;simp;omega,fun i hi hs=>by
  rw[Below.heap_alloc _ _ _ (bA hi h.size)];exact h.block i hi hs⟩
theorem Kept.setCell(h:Kept S w w1){a:Addr}(ha:w.heap.size<=a.block\/S a.block)(v:Value):Kept S w (w1.setCell a v) :=
 ⟨h.os,h.tape,h.output,by have:=h.size;simpa[World.setCell]using this,fun i hi hs=>by
  have hne:i≠a.block:=by
   intro e;subst e;rcases ha with q|q
   ·omega
   ·exact hs q
  rw[Below.heap_setCell _ _ _ _ hne];exact h.block i hi hs⟩
theorem Kept.bC(h:Kept S w w1)(b i:Nat)(v:Value)(hb:S b):Kept S w (w1.setCell ⟨b,i,none⟩ v):=h.setCell (.inr hb) v
theorem Kept.oz(h:Kept S w w1)(b i:Nat)(v:Value)(hb:w.heap.size<=b):Kept S w (w1.setCell ⟨b,i,none⟩ v):=h.setCell (.inl hb) v
theorem Kept.then{S':Nat->Prop}(h:Kept S w w1)(k:Kept S' w1 w2)(hs:∀i,i<w.heap.size->S' i->S i):Kept S w w2 :=
 ⟨k.os.trans h.os,k.tape.trans h.tape,k.output.trans h.output,bD h.size k.size,fun i hi hn =>
  (k.block i (bA hi h.size) (fun q=>hn (hs i hi q))).trans (h.block i hi hn)⟩
theorem Kept.of_below(h:Below w.heap.size w w1):Kept S w w1:=⟨h.os,h.tape,h.output,h.size,fun k hk _=>h.block k hk⟩
theorem Kept.below(h:Kept S w w1){B:Nat}(hB:B<=w.heap.size)(hs:∀k,k<B->¬S k):Below B w w1 :=
 ⟨h.os,h.tape,h.output,h.size,fun k hk=>h.block k (by omega) (hs k hk)⟩
theorem Kept.blk(h:Kept S w w1){b t:Nat}{c:Array Value}(hb:aR w b c t)(hs:¬S b):aR w1 b c t:=by
 have:=h.block b hb.lt hs;unfold aR at hb ⊢;rw[this];exact hb
theorem aR.below{b t:Nat}{c:Array Value}(hb:aR w b c t){B:Nat}(h:Below B w w1)(hB:b<B):aR w1 b c t:=by
 have:=h.block b hB;unfold aR at hb ⊢;rw[this];exact hb
theorem aR.below'{b t:Nat}{c:Array Value}(hb:aR w b c t)(h:Kept S w w1)(hs:¬S b):aR w1 b c t:=h.blk hb hs
end
theorem IJ{w:World}{x:Addr}{v:Value}(h:w.cell? x=some v):x.block<w.heap.size:=by
 unfold World.cell? at h;split at h
 ·rename_i hb;exact(aU.1 hb).1
 ·cases h
def row(n:Nat)(f:Nat->Value):Array Value:=Array.ofFn (n:=n) fun i=>f i.val
theorem kL(n:Nat)(f:Nat->Value):(row n f).size=n:=by simp[row]
theorem AJ(n:Nat)(f:Nat->Value)(i:Nat):(row n f)[i]? = if i<n then some (f i)else none:=by
 unfold row;by_cases h:i<n
 ·rw[aD h,Array.getElem?_eq_getElem (by simpa using h)];simp
 ·rw[aA h,Array.getElem?_eq_none (by simpa using h)]
theorem Fv(n:Nat)(f:Nat->Value)(i:Nat)(h:i<n):(row n f)[i]? = some (f i):=by rw[AJ,aD h]
theorem sP{n:Nat}{f:Nat->Value}{c:Array Value}(hs:c.size=n)(h:∀i,i<n->c[i]? = some (f i)):c=row n f:=by
 apply Array.ext_getElem?;intro i;rw[AJ];by_cases hi:i<n
 ·rw[aD hi,h i hi]
 ·rw[aA hi,Array.getElem?_eq_none (by omega)]
theorem jN{n:Nat}{f g:Nat->Value}(h:∀i,i<n->f i=g i):row n f=row n g :=
 sP (kL n f) fun i hi=>by rw[Fv n f i hi,h i hi]
theorem wF(n:Nat)(f:Nat->Value)(i:Nat)(v:Value):(row n f).setIfInBounds i v=row n (fun j=>if j=i then v else f j):=by
 refine sP (by simp[kL]) fun j hj=>?_
 rw[Array.getElem?_setIfInBounds];by_cases e:i=j
 ·subst e;rw[aD rfl,aD (by rw[kL];exact hj),aD rfl]
 ·rw[aA e,Fv n f j hj,aA (fun h=>e h.symm)]
theorem pX(n:Nat)(f:Nat->Value)(i:Nat):(row n f).toList[i]? = if i<n then some (f i)else none:=by
 rw[Array.getElem?_toList,AJ]
theorem Fu(n:Nat)(f:Nat->Value)(off:Nat)(cs:List Value)(g:Nat->Value)(hg:∀i,i<cs.length->cs[i]? = some (g i))(h:off+cs.length<=n) :
  ((row n f).toList.take off++(cs++(row n f).toList.drop (off+cs.length))).toArray=row n (fun j=>if off<=j/\j<off+cs.length then g (j-off)else f j):=by
 refine sP (by simp[kL];omega) fun j hj=>?_
 rw[aS];by_cases h1:j<off
 ·rw[List.getElem?_append_left (by simp[kL];omega),List.getElem?_take_of_lt h1,pX,aD hj,aA (by omega)]
 ·rw[List.getElem?_append_right (by simp[kL];omega)]
  have e1:((row n f).toList.take off).length=off:=by simp[kL];omega
  rw[e1];by_cases h2:j<off+cs.length
  ·rw[List.getElem?_append_left (by omega),hg _ (by omega),aD ⟨by omega,h2⟩]
  ·rw[List.getElem?_append_right (by omega),List.getElem?_drop,pX,aD (by omega),aA (by omega)]
   congr 2;omega
section
variable {w w1:World}{b t n:Nat}{f:Nat->Value}
theorem aR.rowAt(h:aR w b (row n f) t)(i:Nat)(hi:i<n):w.cell? ⟨b,i,none⟩=some (f i):=by rw[h.cell,Fv n f i hi]
theorem aR.setRow{c:Array Value}(h:aR w b c t)(d:Array Value):aR (w.setRow b d) b d t:=by
 unfold aR at h ⊢;exact setRow_heap w b _ _ t _ h
theorem aR.setRow_other{c:Array Value}(h:aR w b c t){g:Nat}(hg:g≠b)(d:Array Value):aR (w.setRow g d) b c t:=by
 unfold aR at h ⊢;show(w.heap.modify g _)[b]? = _
 rw[Array.getElem?_modify,aA hg];exact h
theorem Kept.setRow{S:Nat->Prop}(h:Kept S w w1){g:Nat}(hg:w.heap.size<=g\/S g)(d:Array Value):Kept S w (w1.setRow g d) :=
 ⟨h.os,h.tape,h.output,by have:=h.size;simpa[World.setRow]using this,fun i hi hs=>by
  have hne:¬g=i:=by
   intro e;subst e;rcases hg with q|q
   ·omega
   ·exact hs q
  show(w1.heap.modify g _)[i]? = _
  rw[Array.getElem?_modify,aA hne];exact h.block i hi hs⟩
end
def bs(l:List Int):ByteArray:=l.foldl (fun r n=>r.push (UInt8.ofNat n.toNat)) ByteArray.empty
def gU(l:List Int):List Value:=l.map (Value.int .u8)
section
variable {P:Program}{src dst e:Nat}
end
end Go.Proofs.YtiadbhiadhgjkaaGreatDoor
namespace Go.Proofs.YtiadbhiadhgjkaaGreatDoor
open Go
def back(ops:Array Oper):Bool:=(List.range ops.size).all fun i=>((ops[i]?).map fun o=>o.after.all fun e=>!Region.binds .any e||decide (e.on<i)).getD true
theorem Ls{ops:Array Oper}(h:back ops=true){i:Nat}{o:Oper}(ho:ops[i]? = some o){e:Edge}(he:e∈o.after)(hbd:Region.binds .any e=true):e.on<i:=by
 have hi:=(aU.1 ho).1;have h1:=List.all_eq_true.1 h i (List.mem_range.2 hi);rw[ho]at h1;have h2:=Array.all_eq_true_iff_forall_mem.1 h1 e he;rw[hbd]at h2;simpa using h2
theorem ready_nil{ops:Array Oper}(hb:back ops=true){l:Array Bool}(hl:l.size=ops.size)(hr:Region.ready .any ops l=[]):∀i,i<ops.size->l[i]? = some true:=by
 intro i;induction i using Nat.strongRecOn with
 | _ i ih =>
  intro hi;rcases hb':l[i]? with _|b
  ·rw[Array.getElem?_eq_none_iff]at hb';omega
  ·cases b
   ·have hm:i∈Region.ready .any ops l:=by
     rw[mem_ready];have ho:ops[i]? = some ops[i]:=Array.getElem?_eq_getElem hi;refine⟨by simp[hb'],_,ho,fun e he hbd=>?_⟩;have hlt:=Ls hb ho he hbd;simp[ih _ hlt (by omega)]
    rw[hr]at hm;cases hm
   ·rfl
def Closed(ops:Array Oper)(l:Array Bool):Prop:=∀(j:Nat) (o:Oper),ops[j]? = some o->l[j]? = some true->∀e∈o.after,Region.binds .any e=true->l[e.on]? = some true
def dep(ops:Array Oper)(j k:Nat):Bool:=((ops[j]?).map fun o=>o.after.toList.any fun e=>Region.binds .any e&&e.on==k).getD false
theorem Ea{ops:Array Oper}{j k:Nat}{o:Oper}(ho:ops[j]? = some o)(h:dep ops j k=true):∃e∈o.after,Region.binds .any e=true/\e.on=k:=by
 unfold dep at h;rw[ho]at h;simp only[Option.map_some,Option.getD_some]at h;obtain⟨e,he,hb⟩:=List.any_eq_true.1 h;simp only[aM,beq_iff_eq]at hb;exact⟨e,Array.mem_toList_iff.1 he,hb⟩
theorem Closed.of{ops:Array Oper}{l:Array Bool}(h:Closed ops l){j:Nat}(k:Nat)(hd:dep ops j k=true)(hj:l[j]? = some true):l[k]? = some true:=by
 rcases ho:ops[j]? with _|o
 ·unfold dep at hd;rw[ho]at hd;cases hd
 ·obtain⟨e,he,hb,rfl⟩:=Ea ho hd
  exact h j o ho hj e he hb
theorem yU{P:Program}{ops:Array Oper}{Q:Exit->Act->World->Prop}{id:Nat}{a:Act}{w:World}(hm:P.follows .mixedOrders=true)(hb:back ops=true)
  (I:Array Bool->Act->World->Prop) (h0:I (Array.replicate ops.size false) a w.drew)
  (hs:∀(i:Nat) (l:Array Bool) (a:Act) (w:World),i<ops.size->l.size=ops.size->l[i]? = some false->(∀k,dep ops i k=true->l[k]? = some true)->Closed ops l->I l a w ->
   wpOp P ops Q i (I (l.setIfInBounds i true)) a w)
  (he:∀(l:Array Bool) (a:Act) (w:World),(∀i,i<ops.size->l[i]? = some true)->I l a w->Q .normal a w):(Code.region id ops true).wp P Q a w:=by
 refine wp_region_any hm ?_
 have key:∀(fuel:Nat) (l:Array Bool) (a:Act) (w:World),l.size=ops.size->l.count false<=fuel->Closed ops l->I l a w->wpAny P .any ops Q fuel l a w:=by
  intro fuel;induction fuel with
  | zero =>
   intro l a w hl hc hcl hI
   have hr:Region.ready .any ops l=[]:=by
    cases hr:Region.ready .any ops l with
    | nil=>rfl
    | cons i r =>
     have hm:i∈Region.ready .any ops l:=by rw[hr];exact bq
     obtain⟨h1,o,ho,_⟩:=mem_ready.1 hm;have hi:i<l.size:=by rw[hl];exact(aU.1 ho).1
     have hmem:false∈l:=by
      have:l[i]=false:=by simpa[hi]using h1
      exact this ▸ Array.getElem_mem hi
     have:=Array.count_pos_iff.2 hmem;omega
   exact⟨hr,he l a w (ready_nil hb hl hr) hI⟩
  | succ fuel ih =>
   intro l a w hl hc hcl hI;refine⟨fun hr=>he l a w (ready_nil hb hl hr) hI,fun i hi=>?_⟩;obtain⟨h1,o,ho,h2⟩:=mem_ready.1 hi;have hil:i<l.size:=by rw[hl];exact(aU.1 ho).1
   have lF:l[i]? = some false:=by
    rw[Array.getElem?_eq_getElem hil];have:l[i]=false:=by simpa[hil]using h1
    rw[this]
   have TH:∀e∈o.after,Region.binds .any e=true->l[e.on]? = some true:=fun e he' hbd=>by
    have:=h2 e he' hbd;rcases hq:l[e.on]? with _|b
    ·simp[hq]at this
    ·simp[hq]at this;rw[this]
   refine wpOp_mono (fun a' w' hI'=>ih _ a' w' (by simpa using hl) ?_ (fun j o' hj hlj e he' hbd=>?_) hI') (hs i l a w (by rw[<-hl];exact hil) hl lF (fun k hk=>by obtain⟨e,he,hb',rfl⟩:=Ea ho hk;exact TH e he hb') hcl hI)
   ·have hset:l.setIfInBounds i true=l.set i true hil:=by simp[Array.setIfInBounds,hil]
    have hlt:l[i]=false:=by
     have:=lF;rw[Array.getElem?_eq_getElem hil]at this;simpa using this
    have hpos:0<l.count false:=Array.count_pos_iff.2 (hlt ▸ Array.getElem_mem hil);rw[hset,Array.count_set];simp[hlt];omega
   ·have hup:∀k,l[k]? = some true->(l.setIfInBounds i true)[k]? = some true:=fun k hk=>by
     by_cases e1:i=k
     ·rw[<-e1,Array.getElem?_setIfInBounds,aD rfl,aD hil]
     ·rw[bX e1];exact hk
    by_cases e1:i=j
    ·subst e1
     rw[ho]at hj;cases hj;exact hup _ (TH e he' hbd)
    ·rw[bX e1]at hlj
     exact hup _ (hcl j o' hj hlj e he' hbd)
 exact key ops.size (Array.replicate ops.size false) _ _ (by simp) (by simp) (fun j o _ hj=>by
  rw[Array.getElem?_replicate]at hj;split at hj<;>simp at hj) h0
def iq(ops:Array Oper)(i:Nat):Option Tmp:=(ops[i]?).bind (·.dst)
def wH(ops:Array Oper):Bool:=(List.range ops.size).all fun i=>(List.range i).all fun j=>(iq ops i).isNone||decide (iq ops i≠iq ops j)
theorem AP{ops:Array Oper}(h:wH ops=true){i j:Nat}{d:Tmp}(hi:iq ops i=some d)(hj:iq ops j=some d):i=j:=by
 have key:∀{i j:Nat},iq ops i=some d->iq ops j=some d->j<i->False:=by
  intro i j hi hj hlt
  have hs:i<ops.size:=by
   rcases Nat.lt_or_ge i ops.size with h'|h'
   ·exact h'
   ·simp[iq,Array.getElem?_eq_none h']at hi
  have h1:=List.all_eq_true.1 (List.all_eq_true.1 h i (List.mem_range.2 hs)) j (List.mem_range.2 hlt);rw[hi,hj]at h1;simp at h1
 rcases Nat.lt_trichotomy i j with h'|h'|h'
 ·exact absurd h' (fun q=>key hj hi q)
 ·exact h'
 ·exact absurd h' (fun q=>key hi hj q)
structure RInv(ops:Array Oper)(a0:Act)(V:Nat->Value->Prop)(l:Array Bool)(a:Act):Prop where
 size:a.tmps.size=a0.tmps.size
 defers:a.defers=a0.defers
 base:∀t,(∀i,l[i]? = some true->iq ops i≠some t)->a.tmps[t]? = a0.tmps[t]?
 slot:∀i d,l[i]? = some true->iq ops i=some d->V i (a.tmps.getD d undef)
theorem RInv.start(ops:Array Oper)(a0:Act)(V:Nat->Value->Prop):RInv ops a0 V (Array.replicate ops.size false) a0 where
 size:=rfl
 defers:=rfl
 base _ _:=rfl
 slot i d h:=by
  rw[Array.getElem?_replicate]at h;split at h<;>simp at h
theorem RInv.put{ops:Array Oper}{a0:Act}{V:Nat->Value->Prop}{l:Array Bool}{a:Act}(h:RInv ops a0 V l a)(hu:wH ops=true){i:Nat}(hi:i<l.size){d:Tmp}(hd:iq ops i=some d)(hds:d<a0.tmps.size){v:Value}(hv:V i v) :
  RInv ops a0 V (l.setIfInBounds i true) (a.put (some d) v) where
 size:=by simp[Act.put,h.size]
 defers:=h.defers
 base t ht:=by
  have hne:d≠t:=fun e=>ht i (by simp[hi]) (e ▸ hd)
  show(a.tmps.setIfInBounds d v)[t]? = _
  rw[bX hne];refine h.base t fun j hj=>ht j ?_
  by_cases e:i=j
  ·subst e;simp[hi]
  ·rw[bX e];exact hj
 slot j e hj he:=by
  show V j ((a.tmps.setIfInBounds d v).getD e undef)
  by_cases hij:i=j
  ·subst hij
   rw[hd]at he;cases he;have hd':d<a.tmps.size:=by rw[h.size];exact hds
   simp[hd',hv]
  ·have hne:d≠e:=fun q=>hij (AP hu hd (q ▸ he))
   rw[bX hij]at hj;have:=h.slot j e hj he;simpa[bX hne]using this
theorem RInv.done{ops:Array Oper}{a0:Act}{V:Nat->Value->Prop}{l:Array Bool}{a:Act}(h:RInv ops a0 V l a){i:Nat}(hd:iq ops i=none):RInv ops a0 V (l.setIfInBounds i true) a where
 size:=h.size
 defers:=h.defers
 base t ht:=h.base t fun j hj=>ht j (by
  by_cases e:i=j
  ·subst e
   have hi:=(aU.1 hj).1;simp[hi]
  ·rw[bX e];exact hj)
 slot j e hj he:=by
  by_cases hij:i=j
  ·subst hij;rw[hd]at he;cases he
  ·rw[bX hij]at hj;exact h.slot j e hj he
def Tp(ops:Array Oper)(t:Tmp):Bool:=(List.range ops.size).all fun i=>iq ops i != some t
theorem FM{ops:Array Oper}{t:Tmp}(h:Tp ops t=true)(i:Nat):iq ops i≠some t:=by
 rcases Nat.lt_or_ge i ops.size with h'|h'
 ·simpa using List.all_eq_true.1 h i (List.mem_range.2 h')
 ·simp[iq,Array.getElem?_eq_none h']
theorem RInv.was{ops:Array Oper}{a0:Act}{V:Nat->Value->Prop}{l:Array Bool}{a:Act}(h:RInv ops a0 V l a)(t:Tmp)(ht:Tp ops t=true):a.tmps.getD t undef=a0.tmps.getD t undef:=by
 have:=h.base t fun i _=>FM ht i
 simp[this]
theorem foldl_set(g:Tmp->Value)(k:Nat):∀(ds:List Tmp) (c:Array Value),(ds.foldl (fun c d=>c.setIfInBounds d (g d)) c)[k]? = if k∈ds then(if k<c.size then some (g k)else none)else c[k]?
 | [],c=>by simp
 | d::ds,c=>by
  rw[List.foldl_cons,foldl_set g k ds];by_cases h:k∈ds
  ·simp[h]
  ·by_cases e:d=k
   ·subst e
    rw[aA h,aD (by simp),Array.getElem?_setIfInBounds,aD rfl]
   ·rw[aA h,aA (by simp[h];exact fun q=>e q.symm),bX e]
theorem RInv.fold{ops:Array Oper}{a0:Act}{V:Nat->Value->Prop}{l:Array Bool}{a:Act}(h:RInv ops a0 V l a)(ds:List Tmp)(hds:(List.range ops.size).filterMap (iq ops)=ds) :
  a=⟨ds.foldl (fun c d=>c.setIfInBounds d (a.tmps.getD d undef)) a0.tmps,a0.defers⟩:=by
 have hd:=h.defers;have hs:=h.size
 have hf:a.tmps=ds.foldl (fun c d=>c.setIfInBounds d (a.tmps.getD d undef)) a0.tmps:=by
  apply Array.ext_getElem?;intro k;rw[foldl_set];by_cases hk:k<a0.tmps.size
  ·by_cases hm:k∈ds
   ·rw[aD hm,aD hk]
    have hk':k<a.tmps.size:=by omega
    simp[hk']
   ·rw[aA hm]
    refine h.base k fun i _ hi=>hm ?_
    rw[<-hds,List.mem_filterMap];refine⟨i,List.mem_range.2 ?_,hi⟩;rcases Nat.lt_or_ge i ops.size with h'|h'
    ·exact h'
    ·simp[iq,Array.getElem?_eq_none h']at hi
  ·have h1:a.tmps[k]? = none:=Array.getElem?_eq_none (by omega)
   have h2:a0.tmps[k]? = none:=Array.getElem?_eq_none (by omega);rw[h1,h2,aA hk];split<;>rfl
 obtain⟨t,d⟩:=a;simp only at hf hd ⊢;rw[<-hf,hd]
theorem dW{P:Program}{ops:Array Oper}{Q:Exit->Act->World->Prop}{id:Nat}{a:Act}{w:World}(hm:P.follows .mixedOrders=true)(hb:back ops=true)(hu:wH ops=true)
  (V:Nat->Value->Prop) (W:Array Bool->Act->World->Prop) (h0:W (Array.replicate ops.size false) a w.drew)
  (hs:wH ops=true->∀(i:Nat) (l:Array Bool) (a':Act) (w':World),i<ops.size->l.size=ops.size->l[i]? = some false->(∀k,dep ops i k=true->l[k]? = some true)->Closed ops l->RInv ops a V l a'->W l a' w' ->
   wpOp P ops Q i (fun a'' w''=>RInv ops a V (l.setIfInBounds i true) a''/\W (l.setIfInBounds i true) a'' w'') a' w')
  (he:∀(l:Array Bool) (a':Act) (w':World),(∀i,i<ops.size->l[i]? = some true)->RInv ops a V l a'->W l a' w'->Q .normal a' w'):(Code.region id ops true).wp P Q a w :=
 yU hm hb (fun l a' w'=>RInv ops a V l a'/\W l a' w') ⟨RInv.start _ _ _,h0⟩ (fun i l a' w' h1 h2 h3 h4 h5 h6=>hs hu i l a' w' h1 h2 h3 h4 h5 h6.1 h6.2) (fun l a' w' h1 h2=>he l a' w' h1 h2.1 h2.2)
section
variable {P:Program}{ops:Array Oper}{Q:Exit->Act->World->Prop}{i:Nat}{o:Oper}{a:Act}{w w':World}{K:Act->World->Prop}{v:Value}
theorem aK{d:Tmp}(ho:ops[i]? = some o)(hd:iq ops i=some d)(hw:Region.wanted o (yielded ops a.tmps)=true)(hr:(execOp a.eval o).run P w=.ok (.value v) w')(hk:K (a.put (some d) v) w'):wpOp P ops Q i K a w:=by
 unfold wpOp;unfold iq at hd;rw[ho]at hd;have hd:o.dst=some d:=hd;simp only[ho,hw,if_true,Oper.wp,hr,Oper.upon,hd];exact .inl hk
theorem jc(ho:ops[i]? = some o)(hd:iq ops i=none)(hw:Region.wanted o (yielded ops a.tmps)=true)(hr:(execOp a.eval o).run P w=.ok .skip w')(hk:K a w'):wpOp P ops Q i K a w:=by
 unfold wpOp;unfold iq at hd;rw[ho]at hd;have hd:o.dst=none:=hd;simp only[ho,hw,if_true,Oper.wp,hr,Oper.upon,hd];exact .inl hk
theorem fE{d:Tmp}(ho:ops[i]? = some o)(hd:iq ops i=some d)(hw:Region.wanted o (yielded ops a.tmps)=false)(hk:K (a.put (some d) undef) w):wpOp P ops Q i K a w:=by
 unfold wpOp;unfold iq at hd;rw[ho]at hd;have hd:o.dst=some d:=hd;simp only[ho,hw];rw[hd];exact hk
theorem gV{d:Tmp}{f:FuncId}{args:Array Value}{R:Value->World->Prop}(ho:ops[i]? = some o)(hd:iq ops i=some d)(hw:Region.wanted o (yielded ops a.tmps)=true)(hr:(execOp a.eval o).run P w=.ok (.enter f args) w)
  (hc:Calls P f args w fun e w'=>∃v,e=.returned v/\R v w') (hk:∀v w',R v w'->K (a.put (some d) v) w'):wpOp P ops Q i K a w:=by
 unfold wpOp;unfold iq at hd;rw[ho]at hd;have hd:o.dst=some d:=hd;simp only[ho,hw,if_true,Oper.wp,hr,Oper.upon,hd];refine .inl (hc.mono ?_);rintro e w' ⟨v,rfl,h⟩;exact hk v w' h
theorem aF(h:o.guard=none)(y:Nat->Option Bool):Region.wanted o y=true:=by
 unfold Region.wanted;rw[h]
theorem bV{g:Nat}{want b:Bool}{d:Tmp}(h:o.guard=some (g,want))(hd:iq ops g=some d)(hs:a.tmps.getD d undef=.bool b):Region.wanted o (yielded ops a.tmps)=(b==want):=by
 have hy:yielded ops a.tmps g=some b:=by
  unfold iq at hd;unfold yielded;rw[hd]
  have hs':a.tmps[d]? = some (.bool b):=by
   rcases hq:a.tmps[d]? with _|x
   ·simp[hq,undef]at hs
   ·simp[hq]at hs;rw[hs]
  simp[hs']
 unfold Region.wanted;rw[h];simp[hy]
end
theorem set_self{l:Array Bool}{i:Nat}(h:i<l.size):(l.setIfInBounds i true)[i]? = some true:=by
 rw[Array.getElem?_setIfInBounds,aD rfl,aD h]
theorem aI{l:Array Bool}{i j:Nat}(h:i≠j):(l.setIfInBounds i true)[j]? = l[j]?:=bX h
theorem eG{a:Act}{d:Tmp}{v:Value}(h:d<a.tmps.size):(a.put (some d) v).tmps.getD d undef=v:=by
 show(a.tmps.setIfInBounds d v).getD d undef=v
 simp[h]
theorem aL{a:Act}{d t:Tmp}{v:Value}(h:d≠t):(a.put (some d) v).tmps.getD t undef=a.tmps.getD t undef:=by
 show(a.tmps.setIfInBounds d v).getD t undef=_
 simp[bX h]
section
variable {P:Program}{a:Act}{w w':World}{d:Option Tmp}{t:TypeId}{p:String}{e:Array Edge}{g:Option (Nat×Bool)}{x y z:Operand}{u v s:Value}
theorem dJ(h:a.eval x=v):(execOp a.eval ⟨d,.move x,t,p,e,g⟩).run P w=.ok (.value v) w:=by
 simp[execOp,h]
theorem mo(h:a.eval x=v):(execOp a.eval ⟨d,.assign x,t,p,e,g⟩).run P w=.ok (.value v) w:=by
 simp[execOp,h]
theorem oN(h:a.eval x=.bool true)(h1:a.eval y=v):(execOp a.eval ⟨d,.pick x y z,t,p,e,g⟩).run P w=.ok (.value v) w:=by
 simp[execOp,h,h1,asBool]
theorem rJ(h:a.eval x=.bool false)(h1:a.eval z=v):(execOp a.eval ⟨d,.pick x y z,t,p,e,g⟩).run P w=.ok (.value v) w:=by
 simp[execOp,h,h1,asBool]
theorem sw{S D:TypeId}(h:a.eval x=u)(hr:(convert S D u).run P w=.ok v w'):(execOp a.eval ⟨d,.convert S D x,t,p,e,g⟩).run P w=.ok (.value v) w':=by
 simp[execOp,h,hr,Result.andThen]
theorem sD{o:BinOp}{T S:TypeId}(h:a.eval x=u)(h1:a.eval y=s)(hg:∀w,(eqGuard o T x y u s).run P w=.ok () w)(hr:(binOp o T u s).run P w=.ok v w'):(execOp a.eval ⟨d,.binOp o T x y S,t,p,e,g⟩).run P w=.ok (.value v) w':=by
 simp[execOp,h,h1,hr,hg,Result.andThen]
theorem bE{f:FuncId}{fn:Func}{c:Code}(hf:P.funcs[f]? = some fn)(hname:(fn.name=="runtime.NumGoroutine")=false)(hb:fn.body=some c)(vs:Array Value)(w:World):(callFunc f vs).run P w=.ok (.enter f vs) w:=by
 have h1:fn.name≠"runtime.NumGoroutine":=by simpa using hname
 simp[callFunc,hf,h1,hb,mark]
theorem bP{f:FuncId}{args:Array Operand}{ts:Array TypeId}{vs:Array Value}(hv:args.map a.eval=vs)(he:∀vs w,(callFunc f vs).run P w=.ok (.enter f vs) w) :
  (execOp a.eval ⟨d,.call { callee:=.value (.func f),args:=args,argTypes:=ts },t,p,e,g⟩).run P w=.ok (.enter f vs) w:=by
 have hr:(resolve a.eval { callee:=.value (.func f),args:=args,argTypes:=ts } t).run P w=.ok { target:=.fn (.func f) #[],args:=vs } w:=by
  simp[resolve,Deferred.ofValue,Act.eval,hv]
 simp only[execOp];rw[Sem.run_bind,hr];simp[Result.andThen,invoke,he]
theorem eu{T:TypeId}(h:a.eval x=u)(hr:(Instr.loadAt T u).run P w=.ok v w'):(execOp a.eval ⟨d,.load T x,t,p,e,g⟩).run P w=.ok (.value v) w':=by
 simp[execOp,h,hr,Result.andThen]
theorem jh{T:TypeId}(h:a.eval x=u)(h1:a.eval y=s)(hr:(Instr.indexAt T u s).run P w=.ok v w'):(execOp a.eval ⟨d,.indexAddr T x y,t,p,e,g⟩).run P w=.ok (.value v) w':=by
 simp[execOp,h,h1,hr,Result.andThen]
theorem bH{T:TypeId}{f:Nat}(h:a.eval x=u)(hr:(Instr.fieldAt T u f).run P w=.ok v w'):(execOp a.eval ⟨d,.fieldAddr T x f,t,p,e,g⟩).run P w=.ok (.value v) w':=by
 simp[execOp,h,hr,Result.andThen]
end
end Go.Proofs.YtiadbhiadhgjkaaGreatDoor
namespace Go.Proofs.YtiadbhiadhgjkaaGreatDoor
open Go.RowKit
theorem wrap_i64_small(n:Nat)(h:n<9223372036854775808):IntKind.i64.wrap (n:Int)=n:=by
 simp[IntKind.wrap,IntKind.bits,IntKind.signed];omega
theorem lT(x:Int)(i m:Nat)(hi:i<=62)(hm:m=2^i-1):bits .and .i64 x m=x%((m:Int)+1):=by
 have hp:2^i<=2^62:=Nat.pow_le_pow_right (by omega) hi;have hpos:0<2^i:=Nat.pow_pos (by omega);have h62:(2:Nat)^62=4611686018427387904:=by decide
 have e1:(BitVec.ofInt 64 x).toNat=(x%18446744073709551616).toNat:=by
  rw[BitVec.toNat_ofInt];rfl
 have e2:(BitVec.ofInt 64 (m:Int)).toNat=m:=by
  rw[BitVec.toNat_ofInt];have h64:(2^64:Nat)=18446744073709551616:=by decide
  have:(m:Int)%((2^64:Nat):Int)=m:=Int.emod_eq_of_lt (by omega) (by omega)
  rw[this];rfl
 have key:bits .and .i64 x m=IntKind.i64.wrap (((x%18446744073709551616).toNat%2^i:Nat):Int):=by
  show IntKind.i64.wrap _=_
  congr 1
  show(((BitVec.ofInt 64 x &&& BitVec.ofInt 64 (m:Int)).toNat:Nat):Int)=_
  rw[BitVec.toNat_and,e1,e2,hm,Nat.and_two_pow_sub_one_eq_mod]
 have hlt:=Nat.mod_lt (x%18446744073709551616).toNat hpos;rw[key,wrap_i64_small _ (by omega)];have hm1:((m:Int)+1)=((2^i:Nat):Int):=by omega
 have hnn:0<=x%18446744073709551616:=Int.emod_nonneg _ (by omega);rw[hm1,Int.natCast_emod,Int.toNat_of_nonneg hnn];refine Int.emod_emod_of_dvd _ ?_;have:(18446744073709551616:Int)=((2^64:Nat):Int):=by decide
 rw[this];exact Int.natCast_dvd_natCast.2 (Nat.pow_dvd_pow 2 (by omega))
theorem acY(x:Int):bits .and .i64 x 3=x%4:=lT x 2 3 (by omega) (by decide)
theorem and1(x:Int):bits .and .i64 x 1=x%2:=lT x 1 1 (by omega) (by decide)
theorem and7(x:Int):bits .and .i64 x 7=x%8:=lT x 3 7 (by omega) (by decide)
theorem Pz(x:Int):bits .and .i64 x 15=x%16:=lT x 4 15 (by omega) (by decide)
def oh(B:Nat->Int):Nat->Int
 | 0=>0
 | k+1=>oh B k*256+B k
theorem yE(B:Nat->Int)(hB:∀j,0<=B j/\B j<=255)(k:Nat):0<=oh B k:=by
 induction k with
 | zero=>simp[oh]
 | succ k ih=>have:=hB k;unfold oh;omega
theorem Pw(B:Nat->Int)(hB:∀j,0<=B j/\B j<=255)(k:Nat):oh B k<256^k:=by
 induction k with
 | zero=>simp[oh]
 | succ k ih=>have:=hB k;unfold oh;rw[Int.pow_succ];omega
theorem og(B C:Nat->Int)(k:Nat)(h:∀j,j<k->B j=C j):oh B k=oh C k:=by
 induction k with
 | zero=>rfl
 | succ k ih=>unfold oh;rw[ih (fun j hj=>h j (by omega)),h k (by omega)]
theorem Px(B:Nat->Int)(hB:∀j,0<=B j/\B j<=255)(k:Nat)(h:k<8):0<=oh B k/\oh B k<=72057594037927935:=by
 refine⟨yE B hB k,?_⟩;have h1:=Pw B hB k
 have h2:(256:Int)^k<=256^7:=by
  have e:=Int.ofNat_le.2 (Nat.pow_le_pow_right (n:=256) (i:=k) (j:=7) (by omega) (by omega));rw[Int.natCast_pow,Int.natCast_pow]at e;exact e
 have h3:(256:Int)^7=72057594037927936:=by decide
 omega
theorem IV(B:Nat->Int)(hB:∀j,0<=B j/\B j<=255)(k:Nat)(h:k<=8):0<=oh B k/\oh B k<=18446744073709551615:=by
 refine⟨yE B hB k,?_⟩;have h1:=Pw B hB k
 have h2:(256:Int)^k<=256^8:=by
  have e:=Int.ofNat_le.2 (Nat.pow_le_pow_right (n:=256) (i:=k) (j:=8) (by omega) (by omega));rw[Int.natCast_pow,Int.natCast_pow]at e;exact e
 have h3:(256:Int)^8=18446744073709551616:=by decide
 omega
theorem xA(a b:Int)(h0:0<=a)(h1:0<=b)(h2:b<256)(h3:a<=72057594037927935):bits .or .u64 (a*256) b=a*256+b:=by
 obtain⟨a,rfl⟩:=Int.eq_ofNat_of_zero_le h0;obtain⟨b,rfl⟩:=Int.eq_ofNat_of_zero_le h1;have e1:((a:Int)*256)=((2^8*a:Nat):Int):=by omega
 rw[e1];have h2':b<2^8:=by omega
 show IntKind.u64.wrap ((BitVec.ofInt 64 ((2^8*a:Nat):Int) ||| BitVec.ofInt 64 (b:Int)).toNat:Int)=_
 rw[BitVec.toNat_or,dw,dw,BitVec.toNat_ofNat,BitVec.toNat_ofNat,Nat.mod_eq_of_lt (by omega),Nat.mod_eq_of_lt (by omega),<-Nat.two_pow_add_eq_or_of_lt h2',IntKind.wrap_u64];omega
def vY(n:Nat)(x:Int)(k:Nat):Int:=x/256^(n-1-k)%256
theorem Po(n:Nat)(x:Int)(k:Nat):0<=vY n x k/\vY n x k<=255:=by
 unfold vY;have h1:=Int.emod_nonneg (x/256^(n-1-k)) (by omega:(256:Int)≠0);have h2:=Int.emod_lt_of_pos (x/256^(n-1-k)) (by omega:(0:Int)<256);omega
theorem IU(n:Nat)(x:Int)(h0:0<=x):∀k,k<=n->oh (vY n x) k=x/256^(n-k)%256^k
 | 0,_=>by simp[oh,Int.emod_one]
 | k+1,hk=>by
  unfold oh;rw[IU n x h0 k (by omega)];unfold vY;have e1:n-k=(n-(k+1))+1:=by omega
  have e2:n-1-k=n-(k+1):=by omega
  rw[e1,e2,Int.pow_succ];generalize hp:(256:Int)^(n-(k+1))=p;have hpp:0<p:=by rw[<-hp];exact Int.pow_pos (by omega)
  rw[<-Int.ediv_ediv_of_nonneg (by omega:(0:Int)<=p)];generalize x/p=y;rw[Int.pow_succ];have hq:(0:Int)<256^k:=Int.pow_pos (by omega);generalize (256:Int)^k=q at hq;have:=Int.emod_emod_of_dvd
  have h1:y%(q*256)=y/256%q*256+y%256:=by
   have d1:=Int.emod_add_mul_ediv y 256;have d2:=Int.emod_add_mul_ediv (y/256) q;have l1:=Int.emod_nonneg y (by omega:(256:Int)≠0);have l2:=Int.emod_lt_of_pos y (by omega:(0:Int)<256);have l3:=Int.emod_nonneg (y/256) (by omega:q≠0);have l4:=Int.emod_lt_of_pos (y/256) hq;generalize hr:y%256=r at *;generalize hs:y/256%q=s at *;generalize y/256/q=t at *;have e3:q*256*t=256*(q*t):=by rw[Int.mul_comm q 256,Int.mul_assoc]
   have:y=s*256+r+q*256*t:=by rw[e3,<-d1,<-d2];generalize q*t=u;omega
   rw[this,Int.add_mul_emod_self_left]
   exact Int.emod_eq_of_lt (by omega) (by
    have:s*256+256<=q*256:=by omega
    omega)
  rw[h1]
end Go.Proofs.YtiadbhiadhgjkaaGreatDoor
namespace Go.Proofs.YtiadbhiadhgjkaaGreatDoor
structure dn where
 d:Nat
 ps:List (Nat×Nat)
structure gy where
 (at_ seg from_ n:Int) (wr:Bool)
structure dR where
 (kind parent:Int) (lab gG:dn) (pages names:Int) (data:List UInt8) (maps:List gy) (space pc:Int)
structure mU where
 (cores frames names:Int) (slots:List (Int×Int)) (objs:List dR)
def eP(d:Nat):Nat->List (Nat×Nat)->Bool
 | _,[]=>true
 | last,p::r=>decide (last<p.1/\p.1<=1073741824/\p.2<=4/\p.2≠d)&&eP d p.1 r
def dn.right(l:dn):Bool:=decide (1<=l.d/\l.d<=4/\l.ps.length<=12)&&eP l.d 0 l.ps
def vW:dn:=⟨0,[]⟩
def xB(k:Int):dR:=⟨k,0,vW,vW,0,0,[],[],0,0⟩
theorem xw{d:Nat}:∀{last:Nat} {ps:List (Nat×Nat)},eP d last ps=true->∀p∈ps,p.1<=1073741824/\p.2<=4
 | _,[],_,p,hp=>by cases hp
 | last,q::r,h,p,hp=>by
  unfold eP at h;simp only[aM,aY]at h;rcases List.mem_cons.1 hp with rfl|hp
  ·exact⟨h.1.2.1,h.1.2.2.1⟩
  ·exact xw h.2 p hp
theorem dn.gJ{l:dn}(h:l.right=true):(1<=l.d/\l.d<=4)/\l.ps.length<=12/\∀p∈l.ps,p.1<=1073741824/\p.2<=4:=by
 unfold dn.right at h;simp only[aM,aY]at h;exact⟨⟨h.1.1,h.1.2.1⟩,h.1.2.2,xw h.2⟩
def cO(da db:Nat):Nat->List (Nat×Nat)->List (Nat×Nat)->List (Nat×Nat×Nat)
 | 0,_,_=>[]
 | _+1,[],[]=>[]
 | g+1,(c,x)::r,[]=>(c,x,db)::cO da db g r []
 | g+1,[],(e,y)::s=>(e,da,y)::cO da db g [] s
 | g+1,(c,x)::r,(e,y)::s=>if c<e then(c,x,db)::cO da db g r ((e,y)::s)else if e<c then(e,da,y)::cO da db g ((c,x)::r) s else(c,x,y)::cO da db g r s
def nZ(a b:dn):List (Nat×Nat×Nat):=cO a.d b.d (a.ps.length+b.ps.length) a.ps b.ps
def dn.leq(a b:dn):Bool:=decide (a.d<=b.d)&&(nZ a b).all fun p=>decide (p.2.1<=p.2.2)
def dn.merge(f:Nat->Nat->Nat)(a b:dn):dn:=⟨f a.d b.d,(nZ a b).filterMap fun p=>if f p.2.1 p.2.2=f a.d b.d then none else some (p.1,f p.2.1 p.2.2)⟩
def dn.rest(l:dn):dn:=dn.merge (fun x _=>if x=0 then 2 else x) l l
def dn.plain(l:dn):Bool:=l.ps.all fun p=>decide (p.2≠0)
def gy.fits(m:gy):Bool:=decide (1<=m.n/\m.n<=16/\0<=m.at_/\m.at_<=4096-m.n/\0<=m.from_/\m.from_<=16-m.n/\m.seg≠0)
def mW:Int->List gy->Bool
 | _,[]=>true
 | e,m::r=>m.fits&&(decide (e<=m.at_)&&mW (m.at_+m.n) r)
def jf(l:List gy):Bool:=mW 0 l&&decide (l.length<=16)
def gH(l:List (Int×Int)):Bool:=l.all (fun s=>decide (1<=s.2/\s.2<=16))&&decide (1<=l.length/\l.length<=8)
def jP(os:List dR)(i:Nat)(o:dR):Option dn :=
 if o.parent=0 then some ⟨2,[]⟩
 else if o.parent<0\/(i:Int)<o.parent then none
 else match os[o.parent.toNat-1]? with
  | some p=>if p.kind=1 then some p.lab else none
  | none=>none
def qZ(os:List dR)(i:Nat)(o:dR):Bool :=
 match jP os i o with
 | none=>false
 | some h=>o.lab.right&&(h.leq o.lab.rest &&
  (if o.kind=1 then o.lab.plain&&decide (0<=o.pages/\o.pages<=4096/\0<=o.names/\o.names<=4194304)
  else if o.kind=2 then o.lab.plain&&decide (0<=o.pages/\o.pages<=16/\(o.data.length:Int)<=o.pages*64)
  else if o.kind=4 then o.lab.plain&&(jf o.maps&&o.maps.all fun m=>decide (m.seg<=(os.length:Int)))
  else if o.kind=3\/o.kind=5 then o.gG.right&&(o.lab.leq o.gG&&decide (0<=o.pc/\o.pc<262144/\0<=o.space/\o.space<=(os.length:Int)))
  else if o.kind=6 then o.lab.plain else false))
def sZ(os:List dR):Nat->List dR->Bool
 | _,[]=>true
 | i,o::r=>qZ os i o&&sZ os (i+1) r
def mU.right(c:mU):Bool :=
 decide (1<=c.cores/\c.cores<=4/\1<=c.frames/\c.frames<=4096/\0<=c.names/\c.names<=4194302/\c.objs.length<=64)&&(gH c.slots &&
  ((c.slots.all fun s=>decide (s.1<=(c.objs.length:Int)))&&sZ c.objs 0 c.objs))
def jB(n:Nat)(x:Int):List UInt8:=(List.range n).map fun j=>UInt8.ofNat (vY n x j).toNat
def nP(l:dn):List UInt8:=jB 1 (l.d:Nat)++(jB 1 (l.ps.length:Nat)++l.ps.flatMap fun p=>jB 4 (p.1:Nat)++jB 1 (p.2:Nat))
structure Ew where
 d:Int
 ls:List Int
def ng(d:Int):Nat->List Int->List (Nat×Nat)
 | _,[]=>[]
 | i,n::r=>(if i<12/\n%5≠d then [(3*i+1,(n%5).toNat)]else [])++ng d (i+1) r
def Ew.lab(s:Ew):dn:=⟨(s.d%4+1).toNat,ng (s.d%4+1) 0 s.ls⟩
end Go.Proofs.YtiadbhiadhgjkaaGreatDoor
namespace Go.Proofs.YtiadbhiadhgjkaaGreatDoor
open Go.RowKit
def In(cs:Array Value)(o:Nat)(l:List Value):Prop:=∀k,k<l.length->cs[o+k]? = l[k]?
def Out(o n:Nat)(cs cs':Array Value):Prop:=cs'.size=cs.size/\∀j,¬(o<=j/\j<o+n)->cs'[j]? = cs[j]?
theorem In.lt{cs:Array Value}{o:Nat}{l:List Value}(h:In cs o l){k:Nat}(hk:k<l.length):o+k<cs.size:=by
 have:=h k hk;rw[aQ hk]at this;exact(aU.1 this).1
theorem In.set{cs:Array Value}{o:Nat}{l:List Value}(h:In cs o l)(k:Nat)(v:Value)(hk:k<l.length):In (cs.setIfInBounds (o+k) v) o (l.set k v):=by
 intro j hj;rw[List.length_set]at hj;rw[Array.getElem?_setIfInBounds];by_cases e:k=j
 ·subst e;rw[aD rfl,aD (h.lt hk),List.getElem?_set_self hk]
 ·rw[aA (by omega),List.getElem?_set_ne e];exact h j hj
theorem Out.refl(o n:Nat)(cs:Array Value):Out o n cs cs:=⟨rfl,fun _ _=>rfl⟩
theorem Out.set{o n:Nat}{cs cs':Array Value}(h:Out o n cs cs')(k:Nat)(v:Value)(hk:k<n):Out o n cs (cs'.setIfInBounds (o+k) v):=by
 refine⟨by rw[Array.size_setIfInBounds];exact h.1,fun j hj=>?_⟩;rw[Array.getElem?_setIfInBounds,aA (by omega)];exact h.2 j hj
theorem Out.wide{o n p m:Nat}{a b:Array Value}(h:Out o n a b)(h1:p<=o)(h2:o+n<=p+m):Out p m a b:=⟨h.1,fun j hj=>h.2 j (by omega)⟩
theorem In.cell{w:World}{b ty:Nat}{cs:Array Value}{o:Nat}{l:List Value}(h:In cs o l)(hB:aR w b cs ty)(k:Nat){v:Value}(e:l[k]? = some v):w.cell? ⟨b,o+k,none⟩=some v:=by
 rw[hB.cell,h k (aW.1 e).1,e]
theorem In.sub{cs:Array Value}{o:Nat}{l:List Value}(h:In cs o l)(p:Nat)(m:List Value)(hm:∀k,k<m.length->l[p+k]? = m[k]?):In cs (o+p) m:=by
 intro k hk;have e:=hm k hk;rw[<-e,Nat.add_assoc];refine h _ ?_;rw[aQ hk]at e;exact(aW.1 e).1
theorem In.join{cs cs':Array Value}{o:Nat}{l l':List Value}(h:In cs o l)(p:Nat)(m:List Value)(hm:In cs' (o+p) m)(ho:Out (o+p) m.length cs cs')(hl:l'.length=l.length)(he:∀k,k<l.length->l'[k]? = if p<=k/\k<p+m.length then m[k-p]? else l[k]?):In cs' o l':=by
 intro k hk;rw[hl]at hk;rw[he k hk];by_cases hc:p<=k/\k<p+m.length
 ·rw[aD hc,<-hm (k-p) (by omega)]
  congr 1;omega
 ·rw[aA hc,ho.2 _ (by omega)];exact h k hk
def Piece(w0 w:World)(b ty o:Nat)(cs:Array Value)(n:Nat)(l:List Value):Prop:=∃cs',aR w b cs' ty/\In cs' o l/\Out o n cs cs'/\Kept (·=b) w0 w/\l.length=n
section
variable {w0 w:World}{b ty o n:Nat}{cs:Array Value}{l:List Value}
theorem Piece.refl(hB:aR w b cs ty)(hI:In cs o l):Piece w w b ty o cs l.length l:=⟨cs,hB,hI,Out.refl _ _ _,Kept.refl _ _,rfl⟩
theorem Piece.set(h:Piece w0 w b ty o cs n l)(k:Nat)(v:Value)(hk:k<n):Piece w0 (w.setCell ⟨b,o+k,none⟩ v) b ty o cs n (l.set k v):=by
 obtain⟨cs',h1,h2,h3,h4,h5⟩:=h;exact⟨_,h1.set (o+k) v,h2.set k v (by omega),h3.set k v hk,h4.bC b _ v rfl,by rw[List.length_set];exact h5⟩
theorem Piece.set0(h:Piece w0 w b ty o cs n l)(v:Value)(hk:0<n):Piece w0 (w.setCell ⟨b,o,none⟩ v) b ty o cs n (l.set 0 v):=h.set 0 v hk
theorem Piece.alloc(h:Piece w0 w b ty o cs n l)(x:Obj):Piece w0 (w.alloc x) b ty o cs n l:=by
 obtain⟨cs',h1,h2,h3,h4,h5⟩:=h;exact⟨cs',h1.alloc x,h2,h3,h4.alloc x,h5⟩
theorem Piece.drew(h:Piece w0 w b ty o cs n l):Piece w0 w.drew b ty o cs n l:=by
 obtain⟨cs',h1,h2,h3,h4,h5⟩:=h;exact⟨cs',h1.drew,h2,h3,h4.drew,h5⟩
theorem Piece.below{w1:World}(h:Piece w0 w b ty o cs n l)(k:Below w.heap.size w w1):Piece w0 w1 b ty o cs n l:=by
 obtain⟨cs',h1,h2,h3,h4,h5⟩:=h;exact⟨cs',h1.below k h1.lt,h2,h3,h4.trans (Kept.of_below k),h5⟩
theorem Piece.oz(h:Piece w0 w b ty o cs n l)(g i:Nat)(v:Value)(hg:w0.heap.size<=g)(hne:b≠g):Piece w0 (w.setCell ⟨g,i,none⟩ v) b ty o cs n l:=by
 obtain⟨cs',h1,h2,h3,h4,h5⟩:=h;exact⟨cs',h1.aI (fun e=>hne e.symm) v,h2,h3,h4.oz g i v hg,h5⟩
theorem Piece.to(h:Piece w0 w b ty o cs n l){l':List Value}(e:l=l'):Piece w0 w b ty o cs n l':=e ▸ h
end
end Go.Proofs.YtiadbhiadhgjkaaGreatDoor
