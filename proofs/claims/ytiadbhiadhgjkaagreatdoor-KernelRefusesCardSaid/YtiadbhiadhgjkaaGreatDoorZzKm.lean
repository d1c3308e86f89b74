import Derived.Test.YtiadbhiadhgjkaaGreatDoorZzLib
import Derived.Test.YtiadbhiadhgjkaaGreatDoorZzTl
import Derived.Test.YtiadbhiadhgjkaaGreatDoorZzIsaD
import Derived.RegionTactic
import Derived.Deep.DeepCutAuto
import Derived.Deep.CutBlock
import Derived.Outline
import Derived.Deep.RegionHeld3
import Derived.Deep.QuietTactic
import Derived.BigQuiet
import Derived.Deep.LoopGhost
set_option maxRecDepth 100000
set_option maxHeartbeats 4000000
namespace Go.Proofs.YtiadbhiadhgjkaaGreatDoor
def dn.raise(l:dn):dn:=dn.merge (fun x _=>if x=0 then 5 else x) l l
def gT(t o:dn):Bool:=dn.leq o t.raise
def iw(t o:dn):Bool:=dn.leq t o&&gT t o
structure iC where
 (lim used given:Int)
def iC.left(p:iC):Int:=p.lim-p.used-p.given
structure rT where
 (lo next hi:Int)
def rT.left(r:rT):Int:=r.hi-r.next
structure Cont where
 (phase:Int) (bZ:List Int) (next:Int) (reads seen:List Int) (tries:Int) (picks:List Int)
def rO:Cont:=⟨0,[],0,[],[],0,[]⟩
structure Wt where
 (seg off val wakes Uh:Int)
structure Th where
 (r:Nat->Int) (pc:Int) (clear:dn) (space state on made fault:Int) (wait:Wt) (qF:List Int) (cont:Cont)
def th0:Th:=⟨fun _=>0,0,vW,0,0,0,0,0,⟨0,0,0,0,0⟩,[],rO⟩
structure Ob where
 (name kind:Int) (lab:dn) (home info:Int) (q:List Int) (ver:Int) (purse:iC) (names:rT) (kids:List Int)
 (pages:Nat) (data:Nat->Int) (wakes:Int) (maps:List gy) (th:Th) (clear:dn) (space pc:Int)
 (ring:List (List UInt8)) (lost:Int) (out:List Int)
def ob0(name kind:Int)(l:dn)(home:Int):Ob:=⟨name,kind,l,home,0,[],0,⟨0,0,0⟩,⟨0,0,0⟩,[],0,fun _=>0,0,[],th0,vW,0,0,[],0,[]⟩
structure mZ where
 (slot left ticks:Int) (turns:Nat->Int) (picks:Int)
structure Km where
 (nc:Nat) (cores:Nat->mZ) (slots:List (Int×Int)) (eU:List Int) (done:Bool) (obj:Int->Option Ob) (room:Int)
def Km.set(K:Km)(o:Ob):Km:={ K with obj:=fun n=>if n=o.name then some o else K.obj n }
def Km.core(K:Km)(i:Nat)(c:mZ):Km:={ K with cores:=fun j=>if j=i then c else K.cores j }
def ig(l:List gy)(p:Int):Option gy:=l.find? fun m=>decide (m.at_<=p)&&decide (p<m.at_+m.n)
def Km.bN(K:Km)(o:Ob)(va:Int):Option (Int×Int×Bool) :=
 match K.obj o.th.space with
 | none=>none
 | some s=>if(decide (s.kind=4)&&gT o.lab s.lab)=true then
   match ig s.maps (va/64)with
   | none=>none
   | some m=>match K.obj m.seg with
    | none=>none
    | some g=>if(decide (g.kind=2)&&(decide (m.from_+va/64-m.at_<(g.pages:Int))&&gT o.lab g.lab))=true then
      some (g.name,(m.from_+va/64-m.at_)*64+va%64,m.wr&&iw o.lab g.lab)else none
  else none
def Km.bytes(K:Km)(o:Ob)(va:Int):Option (Nat->Int) :=
 match K.bN o va with
 | some (n,at_,_)=>(K.obj n).map fun g j=>g.data (at_.toNat+j)
 | none=>none
def wu(x:Int):Int:=x%18446744073709551616
def sx(x:Int):Int:=if x<9223372036854775808 then x else x-18446744073709551616
def gN(op:Int):Nat:=if op=19\/op=22 then 8 else if op=20\/op=23 then 4 else if op=21\/op=24 then 1 else 0
def far(pc bf:Int):Int:=wu (pc+8*bf)
inductive Zf where
 | ok (K:Km) (x:Ob)
 | err (e:Int)
 | out
def dH(kind n:Int):Int:=if kind=2 then 1+n else if kind=3 then 9 else 1
def jo(h:Ob)(kind:Int)(l:dn)(n count:Int):Ob :=
 { ob0 h.names.next kind l h.name with pages:=if kind=2 then n.toNat else 0,purse:=if kind=1 then⟨n,0,0⟩else⟨0,0,0⟩,names:=if kind=1 then⟨h.names.hi-count,h.names.hi-count,h.names.hi⟩else⟨0,0,0⟩ }
def iW(h:Ob)(kind n count:Int):Ob :=
 { h with names:=⟨h.names.lo,h.names.next+1,if kind=1 then h.names.hi-count else h.names.hi⟩,purse:=⟨h.purse.lim,h.purse.used+dH kind n,if kind=1 then h.purse.given+n else h.purse.given⟩,kids:=h.kids++[h.names.next] }
def Km.place(K:Km)(h:Ob)(kind:Int)(l:dn)(n count:Int):Zf :=
 if h.names.left<(if kind=1 then 1+count else 1)then .err 6
 else if h.purse.left<dH kind n+(if kind=1 then n else 0)then .err 5
 else if K.room<dH kind n\/1000000<h.kids.length\/(K.obj h.names.next).isSome then .out
 else .ok { (K.set (jo h kind l n count)).set (iW h kind n count)with room:=K.room-dH kind n } (jo h kind l n count)
def Km.jC(K:Km)(i:Nat):Km :=
 let c:=K.cores i
 K.core i { c with turns:=upd c.turns c.slot.toNat (wu (c.turns c.slot.toNat+1)) }
def Km.picked(K:Km)(i:Nat):Km:=K.core i { K.cores i with picks:=wu ((K.cores i).picks+1) }
end Go.Proofs.YtiadbhiadhgjkaaGreatDoor
namespace Go.Proofs.YtiadbhiadhgjkaaGreatDoor
open Go.RowKit
def aJ(w:World)(ty:TypeId)(v:Value)(n:Nat)(cells:List Value):Prop :=
 ∃a c,v=.slice a n c/\n<=c/\c<=maxLen/\(n=0\/∃b cs fz,a=some ⟨b,0,none⟩/\w.heap[b]? = some (.cells cs ty fz)/\∀(j:Nat) (u:Value),cells[j]? = some u->cs[j]? = some u)
theorem aJ.below{w w':World}{ty n:Nat}{v:Value}{cells:List Value}(h:aJ w ty v n cells){B:Nat}(hb:Below B w w')(hB:w.heap.size<=B):aJ w' ty v n cells:=by
 obtain⟨a,c,rfl,h1,h2,h3⟩:=h;refine⟨a,c,rfl,h1,h2,h3.imp id ?_⟩;rintro⟨b,cs,fz,rfl,hh,hc⟩;exact⟨b,cs,fz,rfl,by rw[hb.block b (bA (aU.1 hh).1 hB)];exact hh,hc⟩
theorem aJ.kept{w w':World}{ty n:Nat}{v:Value}{cells:List Value}(h:aJ w ty v n cells){S:Nat->Prop}(k:Kept S w w')(hs:∀b cs fz,S b->w.heap[b]? = some (.cells cs ty fz)->False):aJ w' ty v n cells:=by
 obtain⟨a,c,rfl,h1,h2,h3⟩:=h;refine⟨a,c,rfl,h1,h2,h3.imp id ?_⟩;rintro⟨b,cs,fz,rfl,hh,hc⟩;exact⟨b,cs,fz,rfl,by rw[k.block b (aU.1 hh).1 (fun q=>hs b cs fz q hh)];exact hh,hc⟩
theorem aJ.nil(w:World)(ty:TypeId):aJ w ty (.slice none 0 0) 0 []:=⟨none,0,rfl,aj _,Nat.zero_le _,.inl rfl⟩
theorem aJ.own{w:World}{base ty size n:Nat}{v:Value}{cells:List Value}(h:w.ownsRow base ty size v n cells):aJ w ty v n cells:=by
 rcases h.2 with⟨rfl,rfl⟩|⟨g,cap,cur,rfl,_,hh,h3,h4,h5,h6⟩
 ·exact⟨_,_,rfl,aj _,Nat.zero_le _,.inl rfl⟩
 ·refine⟨_,_,rfl,h3,h4,.inr ⟨g,cur,_,rfl,hh,fun j u hu=>?_⟩⟩
  have hj:=(aW.1 hu).1;rw[<-hu];have e:=h.cellAt j (by have:=h.1;omega);simp only[World.cell?,hh]at e;simpa using e
theorem aJ.cells{w:World}{ty n:Nat}{a:Option Addr}{c:Nat}{cells:List Value}(h:aJ w ty (.slice a n c) n cells)(hn:0<n):∃b,a=some ⟨b,0,none⟩/\b<w.heap.size/\∀(j:Nat) (u:Value),cells[j]? = some u->w.cell? ⟨b,j,none⟩=some u:=by
 obtain⟨a',c',e,_,_,h3⟩:=h
 cases e;rcases h3 with h3|⟨b,cs,fz,rfl,hh,hc⟩
 ·omega
 ·exact⟨b,rfl,(aU.1 hh).1,fun j u hu=>by simp only[World.cell?,hh];simpa using hc j u hu⟩
theorem aJ.form{w:World}{ty n:Nat}{v:Value}{cells:List Value}(h:aJ w ty v n cells):∃a c,v=.slice a n c/\n<=c/\c<=maxLen:=by
 obtain⟨a,c,e,h1,h2,_⟩:=h;exact⟨a,c,e,h1,h2⟩
theorem gP{α:Type}(f:α->List Value)(s:Nat)(hf:∀x,(f x).length=s):∀(l:List α) (k:Nat) (x:α),l[k]? = some x->∀i,i<s->(l.flatMap f)[k*s+i]? = (f x)[i]?
 | [],k,x,h,i,hi=>by simp at h
 | y::l,0,x,h,i,hi=>by
  obtain rfl:y=x:=by simpa using h
  rw[List.flatMap_cons,Nat.zero_mul,Nat.zero_add,List.getElem?_append_left (by rw[hf];exact hi)]
 | y::l,k+1,x,h,i,hi=>by
  have ih:=gP f s hf l k x (by simpa using h) i hi;rw[List.flatMap_cons,List.getElem?_append_right (by rw[hf,Nat.succ_mul];omega),hf,<-ih];congr 1
  rw[Nat.succ_mul];omega
def fG(p:Nat×Nat):List Value:=[.int .u32 (p.1:Nat),.int .i64 (p.2:Nat)]
def oH(m:gy):List Value:=[.int .i64 m.at_,.int .u64 m.seg,.int .i64 m.from_,.int .i64 m.n,.bool m.wr]
def jS(s:Int×Int):List Value:=[.int .u64 s.1,.int .i64 s.2]
def fA(c:UInt8):Value:=.int .u8 (c.toNat:Nat)
def bg(w:World)(v:Value)(ps:List (Nat×Nat)):Prop:=aJ w 111 v ps.length (ps.flatMap fG)
def iM(w:World)(v:Value)(ms:List gy):Prop:=aJ w 125 v ms.length (ms.flatMap oH)
def jJ(w:World)(v:Value)(ss:List (Int×Int)):Prop:=aJ w 127 v ss.length (ss.flatMap jS)
def dV(w:World)(v:Value)(d:List UInt8):Prop:=aJ w 5 v d.length (d.map fA)
def bU(w:World)(v:Value)(l:dn):Prop:=∃s,v=.agg #[.int .i64 (l.d:Nat),s]/\bg w s l.ps
structure pI(w:World)(o:dR)(ls lc vd vm:Value):Prop where
 lab:bg w ls o.lab.ps
 gG:bg w lc o.gG.ps
 data:dV w vd o.data
 maps:iM w vm o.maps
def Dc(o:dR)(ls lc vd vm:Value):List Value:=[.int .i64 o.kind,.int .i64 o.parent,.int .i64 (o.lab.d:Nat),ls,.int .i64 (o.gG.d:Nat),lc,.int .i64 o.pages,.int .i64 o.names,vd,vm,.int .i64 o.space,.int .i64 o.pc]
structure Ca where
 (ls lc vd vm:Value)
def jU:List dR->List Ca->List Value
 | o::os,s::ss=>Dc o s.ls s.lc s.vd s.vm++jU os ss
 | _,_=>[]
def mO(w:World)(v:Value)(os:List dR):Prop:=∃ss:List Ca,ss.length=os.length/\(∀(j:Nat) (o:dR) (s:Ca),os[j]? = some o->ss[j]? = some s->pI w o s.ls s.lc s.vd s.vm)/\aJ w 120 v os.length (jU os ss)
def rU(w:World)(v:Value)(c:mU):Prop:=∃sv ov,v=.agg #[.int .i64 c.cores,.int .i64 c.frames,.int .i64 c.names,sv,ov]/\jJ w sv c.slots/\mO w ov c.objs
def SE(w:World)(S:Nat->Prop):Prop:=∀b cs ty fz,S b->w.heap[b]? = some (.cells cs ty fz)->ty≠111/\ty≠125/\ty≠5
theorem bU.below{w w':World}{v:Value}{l:dn}(h:bU w v l){B:Nat}(hb:Below B w w')(hB:w.heap.size<=B):bU w' v l:=by
 obtain⟨s,rfl,h1⟩:=h;exact⟨s,rfl,h1.below hb hB⟩
theorem bg.Cn{w w':World}{v:Value}{ps:List (Nat×Nat)}(h:bg w v ps){S:Nat->Prop}(k:Kept S w w')(ht:SE w S):bg w' v ps:=aJ.kept h k (fun b cs fz hs hh=>(ht b cs _ fz hs hh).1 rfl)
theorem iM.Cn{w w':World}{v:Value}{ps:List gy}(h:iM w v ps){S:Nat->Prop}(k:Kept S w w')(ht:SE w S):iM w' v ps:=aJ.kept h k (fun b cs fz hs hh=>(ht b cs _ fz hs hh).2.1 rfl)
theorem dV.Cn{w w':World}{v:Value}{ps:List UInt8}(h:dV w v ps){S:Nat->Prop}(k:Kept S w w')(ht:SE w S):dV w' v ps:=aJ.kept h k (fun b cs fz hs hh=>(ht b cs _ fz hs hh).2.2 rfl)
theorem pI.Cn{w w':World}{o:dR}{ls lc vd vm:Value}(h:pI w o ls lc vd vm){S:Nat->Prop}(k:Kept S w w')(ht:SE w S):pI w' o ls lc vd vm:=⟨h.lab.Cn k ht,h.gG.Cn k ht,h.data.Cn k ht,h.maps.Cn k ht⟩
theorem pI.below{w w':World}{o:dR}{ls lc vd vm:Value}(h:pI w o ls lc vd vm){B:Nat}(hb:Below B w w')(hB:w.heap.size<=B):pI w' o ls lc vd vm:=⟨aJ.below h.lab hb hB,aJ.below h.gG hb hB,aJ.below h.data hb hB,aJ.below h.maps hb hB⟩
theorem mO.below{w w':World}{v:Value}{os:List dR}(h:mO w v os){B:Nat}(hb:Below B w w')(hB:w.heap.size<=B):mO w' v os:=by
 obtain⟨ss,h1,h2,h3⟩:=h;exact⟨ss,h1,fun j o s hj hs=>(h2 j o s hj hs).below hb hB,aJ.below h3 hb hB⟩
theorem rU.below{w w':World}{v:Value}{c:mU}(h:rU w v c){B:Nat}(hb:Below B w w')(hB:w.heap.size<=B):rU w' v c:=by
 obtain⟨sv,ov,rfl,h1,h2⟩:=h;exact⟨sv,ov,rfl,aJ.below h1 hb hB,h2.below hb hB⟩
theorem Db:∀(os:List dR) (ss:List Ca),ss.length=os.length->∀(k:Nat) (o:dR) (s:Ca),os[k]? = some o->ss[k]? = some s->∀i,i<12->(jU os ss)[k*12+i]? = (Dc o s.ls s.lc s.vd s.vm)[i]?
 | [],_,_,k,o,s,h,_,i,hi=>by simp at h
 | x::os,[],e,k,o,s,h,_,i,hi=>by simp at e
 | x::os,y::ss,e,0,o,s,h,h2,i,hi=>by
  obtain rfl:x=o:=by simpa using h
  obtain rfl:y=s:=by simpa using h2
  show(Dc x y.ls y.lc y.vd y.vm++jU os ss)[0*12+i]? = _
  rw[Nat.zero_mul,Nat.zero_add,List.getElem?_append_left (by exact hi)]
 | x::os,y::ss,e,k+1,o,s,h,h2,i,hi=>by
  have ih:=Db os ss (by simpa using e) k o s (by simpa using h) (by simpa using h2) i hi;show(Dc x y.ls y.lc y.vd y.vm++jU os ss)[(k+1)*12+i]? = _
  rw[List.getElem?_append_right (by show 12<=_;omega),<-ih];show(jU os ss)[(k+1)*12+i-12]? = _
  congr 1;omega
theorem dA{w w':World}{T:Nat->Prop}{base e size n:Nat}{v:Value}{xs:List Value}(h:w.ownsRow base e size v n xs)(k:Kept T w w')(hs:∀b,v.ownBlock=some b->¬T b):w'.ownsRow base e size v n xs:=by
 refine⟨h.1,?_⟩;rcases h.2 with h|⟨g,cap,cur,rfl,hb,hg,r⟩
 ·exact .inl h
 ·exact .inr ⟨g,cap,cur,rfl,hb,by rw[k.block g (aU.1 hg).1 (hs g rfl)];exact hg,r⟩
theorem wZ{w:World}{base base' e size n:Nat}{v:Value}{xs:List Value}(h:w.ownsRow base e size v n xs)(hb:base'<=base):w.ownsRow base' e size v n xs:=by
 refine⟨h.1,?_⟩;rcases h.2 with h|⟨g,cap,cur,rfl,h1,r⟩
 ·exact .inl h
 ·exact .inr ⟨g,cap,cur,rfl,bD hb h1,r⟩
theorem jA{w:World}{base e size n:Nat}{v:Value}{xs:List Value}(h:w.ownsRow base e size v n xs){b:Nat}(hb:v.ownBlock=some b):∃cur,w.heap[b]? = some (.cells cur e (0,0))/\base<=b:=by
 rcases h.2 with⟨rfl,_⟩|⟨g,cap,cur,rfl,hg,hh,r⟩
 ·cases hb
 ·cases hb;exact⟨cur,hh,hg⟩
theorem dG{w w':World}{row:Option Nat}(h:w.grownBy w' row):Kept (fun b=>row=some b) w w':=⟨h.os,h.tape,h.output,h.size,fun k hk hs=>h.block k hk (fun e=>hs e.symm)⟩
theorem cB{P:Program}{ops:Array Oper}{o:Oper}{a:Act}{w:World}{K:Act->World->Prop}{Q:Exit->Act->World->Prop}{E:Prop}{f:FuncId}{args:Array Value}{R:Value->World->Prop}(hgd:o.guard=none)(hr:(execOp a.eval o).run P w=.ok (.enter f args) w)
  (hc:Calls P f args w fun e w'=>∃v,e=.returned v/\R v w') (hk:∀v w',R v w'->K (a.put o.dst v) w'):if Region.wanted o (yielded ops a.tmps)=true then Oper.wp P o a w K Q else E:=by
 have hw:Region.wanted o (yielded ops a.tmps)=true:=by simp[Region.wanted,hgd]
 rw[aD hw];simp only[Oper.wp,hr,Oper.upon];refine hc.mono ?_;rintro e w' ⟨v,rfl,h⟩;exact hk v w' h
theorem iU{P:Program}{ops:Array Oper}{o:Oper}{a:Act}{w:World}{K:Act->World->Prop}{Q:Exit->Act->World->Prop}{E:Prop}{f:FuncId}{args:Array Value}{R:Value->World->Prop}(hw:Region.wanted o (yielded ops a.tmps)=true)(hr:(execOp a.eval o).run P w=.ok (.enter f args) w)
  (hc:Calls P f args w fun e w'=>∃v,e=.returned v/\R v w') (hk:∀v w',R v w'->K (a.put o.dst v) w'):if Region.wanted o (yielded ops a.tmps)=true then Oper.wp P o a w K Q else E:=by
 rw[aD hw];simp only[Oper.wp,hr,Oper.upon];refine hc.mono ?_;rintro e w' ⟨v,rfl,h⟩;exact hk v w' h
theorem aT{w0 w w':World}(h:Below w0.heap.size w0 w)(k:Below w.heap.size w w'):Below w0.heap.size w0 w':=h.trans (k.mono h.size)
theorem bI(w:World)(n:Nat):Below w.heap.size w (w.drewN n):=⟨rfl,rfl,rfl,aj _,fun _ _=>rfl⟩
end Go.Proofs.YtiadbhiadhgjkaaGreatDoor
namespace Go.Proofs.YtiadbhiadhgjkaaGreatDoor
open Go.RowKit
attribute [local irreducible] World.setCell World.alloc World.drew Calls Code.wp
attribute [local go_sem] Oper.semAt_some
theorem bg.at{w:World}{a:Option Addr}{c:Nat}{ps:List (Nat×Nat)}(h:bg w (.slice a ps.length c) ps){k:Nat}{p:Nat×Nat}(hk:ps[k]? = some p) :
  ∃b,a=some ⟨b,0,none⟩/\b<w.heap.size/\w.cell? ⟨b,k*2,none⟩=some (.int .u32 (p.1:Nat))/\w.cell? ⟨b,k*2+1,none⟩=some (.int .i64 (p.2:Nat)):=by
 obtain⟨b,rfl,hb,hc⟩:=aJ.cells h (by have:=(aW.1 hk).1;omega);have e0:=gP fG 2 (fun _=>rfl) ps k p hk 0 (by omega);have e1:=gP fG 2 (fun _=>rfl) ps k p hk 1 (by omega);exact⟨b,rfl,hb,hc _ _ (by rw[Nat.add_zero]at e0;rw[e0];rfl),hc _ _ (by rw[e1];rfl)⟩
theorem vL(d last:Nat)(p:Nat×Nat)(r:List (Nat×Nat)):eP d last (p::r)=(decide (last<p.1/\p.1<=1073741824/\p.2<=4/\p.2≠d)&&eP d p.1 r):=rfl
theorem drop_at{α:Type}{l:List α}{k:Nat}{x:α}(h:l[k]? = some x):l.drop k=x::l.drop (k+1):=by
 obtain⟨h1,h2⟩:=aW.1 h;rw[List.drop_eq_getElem_cons h1,h2]
theorem jD(l:dn)(hd:l.d<4294967296)(hp:∀p∈l.ps,p.1<4294967296/\p.2<4294967296)(v:Value)(w:World)(h:bU w v l) :
  Calls Tryz.prog 25 #[v] w fun e w'=>e=.returned (.bool l.right)/\Below w.heap.size w w':=by
 obtain⟨s,rfl,hps⟩:=h;obtain⟨a,c,rfl,hc1,hc2⟩:=aJ.form hps;obtain⟨d,ps⟩:=l;simp only at hd hp hc1 hps ⊢;have Hps:=ah hps;clear hps;have hR:dn.right ⟨d,ps⟩=(decide (1<=d/\d<=4/\ps.length<=12)&&eP d 0 ps):=rfl;have HR:=ah hR;clear hR;obtain⟨w1,hw1⟩:∃w1:World,w1=w.alloc (.cells #[.int .i64 (d:Nat),.slice a ps.length c] 43):=⟨_,rfl⟩;obtain⟨lb,hlb⟩:∃lb,lb=w.heap.size:=⟨_,rfl⟩;have Qy:Hid (lb=w.heap.size):=hlb;have vS:Hid (aR w1 lb #[.int .i64 (d:Nat),.slice a ps.length c] 43):=by rw[hw1,hlb];exact aR.new _ _ _
 have HB1:Hid (Below w.heap.size w w1):=by rw[hw1];exact(aC _ w).alloc (aj _) _
 have hcl:=vS.out.cell;rw[hw1,hlb]at hcl;unfold maxLen at hc2;by_cases h1:(d:Int)<1
 ·have HF:Hid (dn.right ⟨d,ps⟩=false):=by show _=_;rw[HR.out,aX (by omega)];rfl
  go_enter Tryz.func25,Tryz.ntmps25
  go_wp2_with fail
  rw[<-hw1];go_ret;exact⟨by rw[HF.out];rfl,HB1.out⟩
 by_cases h4:(4:Int)<d
 ·have HF:Hid (dn.right ⟨d,ps⟩=false):=by show _=_;rw[HR.out,aX (by omega)];rfl
  go_enter Tryz.func25,Tryz.ntmps25
  go_wp2_with fail
  rw[<-hw1];go_ret;exact⟨by rw[HF.out];rfl,HB1.out⟩
 by_cases h12:(12:Int)<ps.length
 ·have HF:Hid (dn.right ⟨d,ps⟩=false):=by show _=_;rw[HR.out,aX (by omega)];rfl
  go_enter Tryz.func25,Tryz.ntmps25
  go_wp2_with fail
  rw[<-hw1];go_ret;exact⟨by rw[HF.out];rfl,HB1.out⟩
 have HR2:Hid (dn.right ⟨d,ps⟩=eP d 0 ps):=by show _=_;rw[HR.out,bK ⟨by omega,by omega,by omega⟩,Bool.true_and]
 have HP:=ah hp;clear hp;go_enter Tryz.func25,Tryz.ntmps25
 go_wp2_with fail
 rw[<-hw1,<-hlb];clear hcl hw1 hlb;go_loopg [3,5,23] ps.length (fun g vl _ vi wx=>∃(k last:Nat),k+g=ps.length/\vl=.int .u32 (last:Nat)/\vi=.int .i64 k/\Hid (last<4294967296/\Below w1.heap.size w1 wx/\eP d 0 ps=eP d last (ps.drop k)))
 case atStart=>exact⟨0,0,by omega,rfl,rfl,ah ⟨by omega,aC _ _,rfl⟩⟩
 case round =>
  obtain⟨k,last,hk,rfl,rfl,hh⟩:=hrel;have HBr:Hid (Below w.heap.size w wr):=aT HB1.out hh.out.2.1;by_cases hkn:k<ps.length
  ·have hkn':(k:Int)<ps.length:=by omega
   obtain⟨p,hpk⟩:∃p,ps[k]? = some p:=⟨_,aQ hkn⟩;obtain⟨e1,e2⟩:=HP.out p (bG hpk);obtain⟨b,rfl,hb,q0,q1⟩:=bg.at Hps.out hpk;have q0':wr.cell? ⟨b,k*2,none⟩=some (.int .u32 (p.1:Nat)):=by rw[HBr.out.cell (p:=⟨b,k*2,none⟩) hb];exact q0
   have q1':wr.cell? ⟨b,k*2+1,none⟩=some (.int .i64 (p.2:Nat)):=by rw[HBr.out.cell (p:=⟨b,k*2+1,none⟩) hb];exact q1
   have hx:=(vS.out.below hh.out.2.1 vS.out.lt).cell;have hx2:=((vS.out.below hh.out.2.1 vS.out.lt).alloc (.cells #[.int .u32 (p.1:Nat),.int .i64 (p.2:Nat)] 111)).cell;have hz:lb<wr.heap.size:=(vS.out.below hh.out.2.1 vS.out.lt).lt;have hst:dn.right ⟨d,ps⟩=(decide (last<p.1/\p.1<=1073741824/\p.2<=4/\p.2≠d)&&eP d p.1 (ps.drop (k+1))):=by rw[HR2.out,hh.out.2.2,drop_at hpk,vL]
   have Ja:=ah hst;have Xx:Hid (Below w1.heap.size w1 (wr.alloc (.cells #[.int .u32 (p.1:Nat),.int .i64 (p.2:Nat)] 111))):=hh.out.2.1.alloc hh.out.2.1.size _;have mQ:Hid ((last<p.1/\p.1<=1073741824/\p.2<=4/\p.2≠d)->eP d 0 ps=eP d p.1 (ps.drop (k+1))):=fun hc=>by rw[hh.out.2.2,drop_at hpk,vL,bK hc,Bool.true_and]
   clear q0 q1 hpk hst hh;obtain⟨x,y⟩:=p;simp only at e1 e2 q0' q1' hx2 Ja Xx mQ;by_cases g1:(x:Int)<=last
   ·have HF:Hid (dn.right ⟨d,ps⟩=false):=by show _=_;rw[Ja.out,aX (by omega)];rfl
    go_wp2_with fail
    go_ret;exact⟨by rw[HF.out];rfl,aT HB1.out Xx.out⟩
   by_cases g2:(1073741824:Int)<x
   ·have HF:Hid (dn.right ⟨d,ps⟩=false):=by show _=_;rw[Ja.out,aX (by omega)];rfl
    go_wp2_with fail
    go_ret;exact⟨by rw[HF.out];rfl,aT HB1.out Xx.out⟩
   have g3:¬(y:Int)<0:=by omega
   by_cases g4:(4:Int)<y
   ·have HF:Hid (dn.right ⟨d,ps⟩=false):=by show _=_;rw[Ja.out,aX (by omega)];rfl
    go_wp2_with fail
    go_ret;exact⟨by rw[HF.out];rfl,aT HB1.out Xx.out⟩
   by_cases g5:y=d
   ·have HF:Hid (dn.right ⟨d,ps⟩=false):=by show _=_;rw[Ja.out,aX (by omega)];rfl
    have g5b:((y:Int)==(d:Int))=true:=by simp;omega
    clear g5;go_wp2_with fail
    go_ret;exact⟨by rw[HF.out];rfl,aT HB1.out Xx.out⟩
   ·have g5b:((y:Int)==(d:Int))=false:=by simp;omega
    have HN:=ah (mQ.out ⟨by omega,by omega,by omega,g5⟩);clear g5;go_wp2_with fail
    go_roundg (ps.length-(k+1))
    case measure=>omega
    case rel=>exact⟨k+1,x,by omega,rfl,by go_num,ah ⟨e1,Xx.out,HN.out⟩⟩
  ·obtain rfl:k=ps.length:=by omega
   have HF:Hid (dn.right ⟨d,ps⟩=true):=by show _=_;rw[HR2.out,hh.out.2.2,List.drop_length];rfl
   clear hh;go_wp2_with fail
   go_ret;exact⟨by rw[HF.out];rfl,HBr.out⟩
end Go.Proofs.YtiadbhiadhgjkaaGreatDoor
