import Derived.Test.YtiadbhiadhgjkaaGreatDoorZzTr
import Derived.Test.YtiadbhiadhgjkaaGreatDoorZzUe
import Derived.Test.YtiadbhiadhgjkaaGreatDoorZzNn
import Derived.Test.YtiadbhiadhgjkaaGreatDoorZzQd
set_option maxRecDepth 100000
set_option maxHeartbeats 4000000
namespace Go.Proofs.YtiadbhiadhgjkaaGreatDoor
open Go.RowKit
def aav(K:Km)(o:Ob):Option vT:=if 40<o.th.r 0 then some ⟨K,12,0,0,false⟩else none
def adI(K:Km)(_:Ob):Option vT:=some ⟨K,12,0,0,false⟩
def aae:Km->Ob->Option (Km×Int):=fun K o=>K.FR aav o
def uf:Km->Ob->Option (Km×Int):=fun K o =>
 if o.th.cont.phase=1 then some (K.set (o.dL { o.th.cont with bZ:=[o.name],phase:=2 }),2)else K.FR adI o
theorem abl(K:Km)(o:Ob)(h:o.th.cont.phase<=4->40<o.th.r 0):aae K o=uf K o:=by
 unfold aae uf Km.FR;by_cases h1:o.th.cont.phase=1
 ·have h40:=h (by omega)
  have hc:MF (o.th.r 0)=[]:=by unfold MF;rw[aA (by omega)]
  have hd:ME (o.th.r 0)=[]:=by unfold ME;rw[aA (by omega)]
  simp only[aD h1];unfold Km.CU;rw[aD ⟨hc,hd⟩];rfl
 ·simp only[aA h1]
  by_cases h4:o.th.cont.phase=4
  ·have h40:=h (by omega)
   simp only[h4];unfold Km.SC;have:∀K' c,aav K' (o.dL c)=adI K' (o.dL c):=fun K' c=>aD (show 40<(o.dL c).th.r 0 from h40)
   simp only[this]
  ·simp only[aA h4]
def acE(K:Km):List Int:=match (K.picked 0).pQ 0 with
 | some (some o)=>if 0<o.th.cont.phase then(if o.th.cont.phase<=4 then [o.th.r 0]else [])else []
 | _=>[]
def aaF:Nat->Km->List Int
 | 0,_=>[]
 | m+1,K=>acE K++(match K.nJ uf xC 0 with
  | none=>[]
  | some p=>match isDone p.1 with
   | some false=>aaF m p.1
   | _=>[])
theorem abb(K:Km)(h:∀v∈acE K,40<v):K.nJ aae xC 0=K.nJ uf xC 0:=by
 unfold Km.nJ;unfold acE at h
 cases hw:(K.picked 0).pQ 0 with
 | none=>rfl
 | some q =>
  cases q with
  | none=>rfl
  | some o =>
   rw[hw]at h;simp only at h ⊢
   have:YN aae xC (K.picked 0) o 0=YN uf xC (K.picked 0) o 0:=by
    unfold YN;by_cases hp:0<o.th.cont.phase
    ·rw[aD hp,aD hp]
     refine abl _ _ (fun h4=>h _ ?_);rw[aD hp,aD h4];exact List.mem_singleton.2 rfl
    ·rw[aA hp,aA hp]
   rw[this]
theorem aax:∀(m:Nat) (K:Km),(∀v∈aaF m K,40<v)->rM aae xC m K=rM uf xC m K
 | 0,_,_=>rfl
 | m+1,K,h=>by
  unfold aaF at h;have hp:=abb K (fun v hv=>h v (List.mem_append_left _ hv));unfold rM;rw[hp]
  cases hq:K.nJ uf xC 0 with
  | none=>rfl
  | some p =>
   rw[hq]at h;simp only at h ⊢
   cases hd:isDone p.1 with
   | none=>rfl
   | some t =>
    cases t with
    | true=>rfl
    | false =>
     simp only;rw[hd]at h;exact aax m p.1 (fun v hv=>h v (List.mem_append_right _ hv))
def aan(n a b c d e:Int):Line:=⟨n,a,b,c,d,e,⟨0,0,0,0,0⟩⟩
def aaX(n a b c d e:Int):ko:=⟨[aan n a b c d e,jH],eX,0⟩
def adK(n a b c d e:Int):List Ins:=[za 1 a,za 2 b,za 3 c,za 4 d,za 5 e,za 0 n,⟨43,0,0,0,0⟩,⟨1,0,0,0,0⟩,⟨29,15,0,0,-8⟩]
def aaq(n a b c d e:Int):List UInt8:=((adK n a b c d e).flatMap Ins.enc).map fun x=>UInt8.ofNat x.toNat
def aag(d:List UInt8):mU :=
 ⟨1,600,200,[(0,2),(1,1),(0,1)],
  [{ xB 1 with lab:=eX,pages:=120,names:=40 },{ xB 2 with lab:=eX,pages:=2,data:=iN },{ xB 2 with lab:=tH,pages:=1,data:=[1,2,3] },{ xB 6 with lab:=tH },
   { xB 3 with lab:=eX,gG:=jE,parent:=0,space:=6 },
   { xB 4 with lab:=eX,maps:=[⟨0,7,0,9,false⟩,⟨32,2,0,2,true⟩,⟨34,3,0,1,true⟩] },
   { xB 2 with lab:=eX,pages:=9,data:=d.take 576 }]⟩
theorem abn(n a b c d e:Int)(hn:n≠0):rP (aaX n a b c d e).lines=aaq n a b c d e:=by
 have h1:pY (aaX n a b c d e).lines=[za 1 a,za 2 b,za 3 c,za 4 d,za 5 e,za 0 n,⟨43,0,0,0,0⟩,⟨1,0,0,0,0⟩]:=by
  show(kN (aan n a b c d e)++(kN jH++[]))=_
  unfold kN;rw[aA (show ¬(aan n a b c d e).call=0 from hn)];rfl
 unfold rP mX;rw[h1,aA (by simp)];unfold aaq adK;rfl
theorem aaV(n a b c d e:Int)(hn:n≠0):dX [aaX n a b c d e] 0=aag (aaq n a b c d e):=by
 rw[<-abn n a b c d e hn];rfl
structure apz(l:List Int)(K:Km):Prop where
 nm:∀n o,K.obj n=some o->o.name=n
 dom:∀n,(∃o,K.obj n=some o)↔n∈l
theorem apz.mem{l:List Int}{K:Km}{n:Int}{o:Ob}(h:apz l K)(ho:K.obj n=some o):o.name∈l:=by rw[h.nm n o ho];exact(h.dom n).1 ⟨o,ho⟩
theorem apz.obj{l:List Int}{K K':Km}(h:apz l K)(e:K'.obj=K.obj):apz l K':=⟨fun n o q=>h.nm n o (by rw[<-e];exact q),fun n=>by rw[e];exact h.dom n⟩
theorem apz.set{l:List Int}{K:Km}{o:Ob}(h:apz l K)(ho:o.name∈l):apz l (K.set o):=by
 refine⟨fun n x q=>?_,fun n=>?_⟩
 ·have q:(if n=o.name then some o else K.obj n)=some x:=q
  split at q
  ·rename_i e;cases q;exact e.symm
  ·exact h.nm n x q
 ·show(∃x,(if n=o.name then some o else K.obj n)=some x)↔_
  split
  ·rename_i e;subst e;exact⟨fun _=>ho,fun _=>⟨_,rfl⟩⟩
  ·exact h.dom n
theorem apz.more{l:List Int}{K:Km}{o:Ob}(h:apz l K):apz (l++[o.name]) (K.set o):=by
 refine⟨fun n x q=>?_,fun n=>?_⟩
 ·have q:(if n=o.name then some o else K.obj n)=some x:=q
  split at q
  ·rename_i e;cases q;exact e.symm
  ·exact h.nm n x q
 ·show(∃x,(if n=o.name then some o else K.obj n)=some x)↔_
  rw[List.mem_append,List.mem_singleton];split
  ·rename_i e;exact⟨fun _=>.inr e,fun _=>⟨_,rfl⟩⟩
  ·rename_i e;rw[h.dom n];exact⟨.inl,fun q=>q.resolve_right e⟩
theorem apz.lS{K K':Km}{made made':List Int}{o:dR}(hK:apz made K)(e:Go.Proofs.YtiadbhiadhgjkaaGreatDoor.lS K made o=some (K',made')):apz made' K':=by
 unfold Go.Proofs.YtiadbhiadhgjkaaGreatDoor.lS at e;split at e
 ·split at e
  ·cases e
  ·rename_i h hh
   split at e
   ·split at e
    ·rename_i K1 x hp
     generalize (if o.kind=1\/o.kind=2 then o.pages else 0)=pg at hp;generalize (if o.kind=1 then o.names else 0)=nm at hp;obtain⟨a1,a2,a3,a4,a5,rfl,rfl⟩:=kD hp;simp only[Option.some.injEq,Prod.mk.injEq]at e;obtain⟨rfl,rfl⟩:=e;have h1:=hK.more (o:=jo h o.kind o.lab pg nm);have h2:=h1.set (o:=iW h o.kind pg nm) (by have q:=hK.mem hh;exact List.mem_append_left _ q);split
     ·refine apz.set ?_ ?_
      ·exact h2.obj rfl
      ·exact List.mem_append_right _ (List.mem_singleton.2 rfl)
     ·split
      ·exact h2.obj rfl
      ·exact h2.obj rfl
    ·cases e
   ·cases e
 ·cases e
theorem apz.gF:∀{os:List dR} {K K':Km} {made made':List Int},apz made K->Go.Proofs.YtiadbhiadhgjkaaGreatDoor.gF K made os=some (K',made')->apz made' K'
 | [],K,K',made,made',h,e=>by
  unfold Go.Proofs.YtiadbhiadhgjkaaGreatDoor.gF at e;cases e;exact h
 | o::os,K,K',made,made',h,e=>by
  unfold Go.Proofs.YtiadbhiadhgjkaaGreatDoor.gF at e;split at e
  ·rename_i K1 m1 h1
   exact apz.gF (h.lS h1) e
  ·cases e
theorem apz.lN{l:List Int}{K K':Km}{made:List Int}{cores:Int}{i:Nat}{o:dR}(hK:apz l K)(e:Go.Proofs.YtiadbhiadhgjkaaGreatDoor.lN K made cores i o=some K'):apz l K':=by
 unfold Go.Proofs.YtiadbhiadhgjkaaGreatDoor.lN at e;split at e
 ·cases e
 ·rename_i x hx
  split at e
  ·simp only[Option.some.injEq]at e
   subst e;split
   ·exact hK.set (by have q:=hK.mem hx;exact q)
   ·split
    ·exact hK.set (by have q:=hK.mem hx;exact q)
    ·exact hK
  ·cases e
theorem apz.iH:∀{os:List dR} {l:List Int} {K K':Km} {made:List Int} {cores:Int} {i:Nat},apz l K->Go.Proofs.YtiadbhiadhgjkaaGreatDoor.iH K made cores i os=some K'->apz l K'
 | [],l,K,K',made,cores,i,h,e=>by
  unfold Go.Proofs.YtiadbhiadhgjkaaGreatDoor.iH at e;cases e;exact h
 | o::os,l,K,K',made,cores,i,h,e=>by
  unfold Go.Proofs.YtiadbhiadhgjkaaGreatDoor.iH at e;split at e
  ·rename_i K1 h1
   exact apz.iH (h.lN h1) e
  ·cases e
theorem apz.tu{c:mU}{K:Km}{l:List Int}(h:Go.Proofs.YtiadbhiadhgjkaaGreatDoor.tu c=some K)(hb:(Go.Proofs.YtiadbhiadhgjkaaGreatDoor.gF (km0 c) [1] c.objs).map (·.2)=some l):apz l K:=by
 obtain⟨hr,K1,made,K2,h1,h2,h3,rfl⟩:=nM h;rw[h1]at hb
 cases hb
 have h0:apz [1] (km0 c):=by
  refine⟨fun n o q=>?_,fun n=>?_⟩
  ·have q:(if n=1 then some (xk c)else none)=some o:=q
   split at q
   ·rename_i e;cases q;exact e.symm
   ·cases q
  ·show(∃o,(if n=1 then some (xk c)else none)=some o)↔_
   rw[List.mem_singleton];split
   ·rename_i e;exact⟨fun _=>e,fun _=>⟨_,rfl⟩⟩
   ·rename_i e;exact⟨fun⟨_,q⟩=>(by cases q),fun q=>absurd q e⟩
 exact(apz.iH (h0.gF h1) h2).obj rfl
theorem apz.wR{l:List Int}{K K':Km}{o:Ob}{x:Int}(h:apz l K)(ho:o.name∈l)(e:K.wR o=some (K',x)):apz l K':=by
 unfold Km.wR at e
 cases hi:oJ K o with
 | none=>rw[hi]at e;cases e
 | some p =>
  rw[hi]at e;simp only[Option.map_some,Option.some.injEq]at e;split at e
  ·cases e;exact h.set ho
  ·split at e
   ·cases e;exact h.set ho
   ·split at e
    ·cases e;exact h.set ho
    ·cases e;exact h.set ho
theorem aaL(o:Ob)(n:Int):(mH o n).name=o.name:=by unfold mH;split<;>rfl
theorem aaE(o:Ob)(n:Int):(jK o n).name=o.name:=by unfold jK;split<;>rfl
theorem apz.FR{l:List Int}{cl:Km->Ob->Option vT}(hcl:∀K o R,apz l K->o.name∈l->cl K o=some R->apz l R.K){K K':Km}{o:Ob}{what:Int}(h:apz l K)(ho:o.name∈l)(hm:K.FR cl o=some (K',what)):apz l K':=by
 unfold Km.FR at hm;simp only at hm;split at hm
 ·unfold Km.CU at hm
  split at hm
  ·cases hm;exact h.set ho
  ·cases hm
 split at hm
 ·unfold Km.Ir at hm
  split at hm
  ·cases hm;exact h.set (by show(mH o o.name).name∈l;rw[aaL];exact ho)
  ·cases hm
 split at hm
 ·unfold Km.AV at hm
  split at hm
  ·cases hm;exact h.set ho
  ·cases hm
 split at hm
 ·unfold Km.SC at hm
  split at hm
  ·cases hm
  ·simp only at hm
   have h1:apz l ({ K.set (o.dL { o.th.cont with phase:=5 })with done:=false }:Km):=(h.set (o:=o.dL { o.th.cont with phase:=5 }) ho).obj rfl
   cases hc:cl { K.set (o.dL { o.th.cont with phase:=5 })with done:=false } (o.dL { o.th.cont with phase:=5 })with
   | none=>rw[hc]at hm;cases hm
   | some R =>
    have h2:=hcl _ (o.dL { o.th.cont with phase:=5 }) R h1 ho hc;rw[hc]at hm;simp only at hm
    cases h3:R.K.obj o.name with
    | none=>rw[h3]at hm;cases hm
    | some o2 =>
     rw[h3]at hm;simp only at hm;split at hm
     ·cases hm;exact h2.set (by have q:=h2.mem h3;exact q)
     ·cases hm
 split at hm
 ·unfold Km.AY at hm
  simp only at hm;split at hm
  ·cases hm;exact h.set (by show(jK o o.name).name∈l;rw[aaE];exact ho)
  ·cases hm
 split at hm
 ·unfold Km.Gi at hm
  split at hm
  ·cases hm;exact h.set ho
  ·cases hm
 ·cases hm
theorem apz.nJ{l:List Int}{rE:Km->Ob->Option (Km×Int)}(hm:∀K K' o x,apz l K->o.name∈l->rE K o=some (K',x)->apz l K'){K K':Km}{i:Nat}{ev:Ev}(h:apz l K)(e:K.nJ rE xC i=some (K',ev)):apz l K':=by
 have hp:apz l (K.picked i):=h.obj rfl;have hn:∀Q:Km,apz l Q->apz l (Q.jC i):=fun Q hQ=>hQ.obj rfl
 unfold Km.nJ at e;split at e
 ·cases e
 ·cases e;exact hn _ hp
 ·rename_i o ho
  obtain⟨n,hno⟩:=ER ho;have ru:=hp.mem hno;split at e
  ·cases e
  ·rename_i p hd
   split at e
   ·cases e
    refine hn _ ?_;unfold YN at hd;split at hd
    ·exact hm _ _ _ _ hp ru hd
    ·split at hd
     ·cases hd
     ·split at hd
      ·exact hp.wR ru hd
      ·cases hd;exact hp
   ·cases e
theorem apz.rM{l:List Int}{rE:Km->Ob->Option (Km×Int)}(hm:∀K K' o x,apz l K->o.name∈l->rE K o=some (K',x)->apz l K'):∀{m:Nat} {K K':Km},apz l K->Go.Proofs.YtiadbhiadhgjkaaGreatDoor.rM rE xC m K=some (some K')->apz l K'
 | 0,K,K',h,e=>by unfold Go.Proofs.YtiadbhiadhgjkaaGreatDoor.rM at e;cases e
 | m+1,K,K',h,e=>by
  unfold Go.Proofs.YtiadbhiadhgjkaaGreatDoor.rM at e;split at e
  ·cases e
  ·rename_i p hp
   obtain⟨K1,ev⟩:=p;have h1:=h.nJ hm hp;split at e
   ·cases e
   ·cases e;exact h1
   ·exact apz.rM hm h1 e
theorem ads{l:List Int}(K K':Km)(o:Ob)(x:Int)(h:apz l K)(ho:o.name∈l)(hm:aae K o=some (K',x)):apz l K' :=
 apz.FR (fun K o R hK _ hR=>by
  unfold aav at hR;split at hR
  ·cases hR;exact hK
  ·cases hR) h ho hm
def acP(W:Int->Int)(K:Km)(o:Ob)(x:Ins):Option ((Nat->Int)×Int×Int) :=
 let r:=o.th.r
 let nx:=wu (o.th.pc+8)
 let b:=r x.b.toNat
 if x.op=1 then some (r,nx,2)
 else if x.op=43 then some (r,nx,1)
 else if x.op=2 then some (upd r x.a.toNat (W x.bf),nx,0)
 else if x.op=18 then some (upd r x.a.toNat (wu (b+x.bf)),nx,0)
 else if x.op=29 then some (upd r x.a.toNat nx,wu (o.th.pc+8*x.bf),0)
 else if x.op=30 then some (r,r x.a.toNat,0)
 else if x.op=7 then(if r x.c.toNat=0 then some (r,nx,5)else none)
 else if 19<=x.op/\x.op<=24 then
  let n:=gN x.op
  let va:=wu (b+x.bf)
  if va>262144-(n:Int)\/va%(n:Int)≠0 then some (r,nx,6)
  else if 22<=x.op then
   match K.bN o va with
   | some (_,_,true)=>none
   | _=>some (r,nx,3)
  else match K.bytes o va with
   | some B=>some (upd r x.a.toNat (oh B n),nx,0)
   | none=>some (r,nx,3)
 else none
def abH(W:Int->Int)(K:Km)(o:Ob):Option (Th×Int) :=
 if o.th.pc ≥ 262144\/o.th.pc%8≠0 then some (o.th,6)
 else match K.bytes o o.th.pc with
  | none=>some (o.th,3)
  | some B=>if(nu B).right then(acP W K o (nu B)).map (tN o.th)else some (o.th,4)
def adC(W:Int->Int)(K:Km)(o:Ob):Option (Km×Int) :=
 (abH W K o).map fun p =>
  if p.2=0 then(K.set (o.eF p.1),1)
  else if p.2=1 then(K.set (o.eF { p.1 with cont:={ rO with phase:=1 } }),1)
  else if p.2=2 then(K.set (o.eF { p.1 with state:=0 }),1)
  else(K.set (o.eF { p.1 with state:=0,fault:=p.2 }),5)
def doW(W:Int->Int)(K:Km)(o:Ob):Option (Km×Int) :=
 if 0<o.th.cont.phase then uf K o else if o.th.state=2 then none else if o.th.state=1 then adC W K o else some (K,0)
def abx(W:Int->Int)(K:Km):Option Km :=
 match (K.picked 0).pQ 0 with
 | none=>none
 | some none=>some ((K.picked 0).jC 0)
 | some (some o)=>match doW W (K.picked 0) o with
  | none=>none
  | some p=>if 0<p.1.nc then some (p.1.jC 0)else none
def aas(W:Int->Int):Nat->Km->Option (List Int×Option Km)
 | 0,_=>some ([],none)
 | m+1,K=>match abx W K with
  | none=>none
  | some p=>match isDone p with
   | none=>none
   | some true=>some (acE K,some p)
   | some false=>match aas W m p with
    | none=>none
    | some q=>some (acE K++q.1,q.2)
theorem adt(K:Km):abx wu K=(K.nJ uf xC 0).map (·.1):=by
 unfold abx Km.nJ
 cases (K.picked 0).pQ 0 with
 | none=>rfl
 | some q =>
  cases q with
  | none=>rfl
  | some o =>
   simp only;have:doW wu (K.picked 0) o=YN uf xC (K.picked 0) o 0:=rfl
   rw[this]
   cases YN uf xC (K.picked 0) o 0 with
   | none=>rfl
   | some p =>
    simp only;split<;>rfl
theorem acy:∀(m:Nat) (K:Km) (q:List Int×Option Km),aas wu m K=some q->aaF m K=q.1/\rM uf xC m K=some q.2
 | 0,K,q,h=>by
  unfold aas at h;cases h;exact⟨rfl,rfl⟩
 | m+1,K,q,h=>by
  unfold aas at h;rw[adt]at h;unfold aaF rM
  cases hp:K.nJ uf xC 0 with
  | none=>rw[hp]at h;cases h
  | some p =>
   rw[hp]at h;simp only[Option.map_some]at h ⊢
   cases hd:isDone p.1 with
   | none=>rw[hd]at h;cases h
   | some t =>
    rw[hd]at h
    cases t with
    | true =>
     simp only at h ⊢
     cases h;exact⟨List.append_nil _,rfl⟩
    | false =>
     simp only at h ⊢
     cases hq:aas wu m p.1 with
     | none=>rw[hq]at h;cases h
     | some r =>
      rw[hq]at h
      cases h;obtain⟨h1,h2⟩:=acy m p.1 r hq;exact⟨by rw[h1],h2⟩
def byU(X:Ins):Nat->Int:=fun j=>((UInt8.ofNat (X.enc.getD j 0).toNat).toNat:Int)
def acO(n a b c d e:Int)(k:Nat):Nat->Int:=fun j=>nV ((aaq n a b c d e).take 576) (k+j)
def abp(W:Int->Int)(n a b c d e:Int):Option (List Int×Option Km):=(tu (aag (aaq n a b c d e))).bind fun K=>aas W 600 K
def acX:Option (List Int×Option Km)->Int
 | some (_,some K)=>match K.obj 6 with
  | some o=>o.th.r 3
  | none=>0
 | _=>0
def aaP:Option (List Int×Option Km)->Bool
 | some (_,some K)=>match K.obj 6 with
  | some o=>decide (o.kind=3)&&decide (o.th.r 0=12)&&decide (o.th.r 1=0)&&decide (o.th.r 2=0)
  | none=>false
 | _=>false
def aaO(n a b c d e:Int):Bool:=match gF (km0 (aag (aaq n a b c d e))) [1] (aag (aaq n a b c d e)).objs with
 | some q=>nR q.2 (aag (aaq n a b c d e)).objs
 | none=>false
theorem aaW(n a b c d e:Int):(gF (km0 (aag (aaq n a b c d e))) [1] (aag (aaq n a b c d e)).objs).map (·.2)=some [1,2,3,4,5,6,7,8]:=by kernel_rfl
theorem abm(n a b c d e:Int):aaO n a b c d e=true:=by kernel_rfl
theorem abo(W:Int->Int)(n a b c d e:Int):(abp W n a b c d e).map (·.1)=some (List.replicate 4 (W (nu (acO n a b c d e 40)).bf)):=by kernel_rfl
theorem acJ(W:Int->Int)(n a b c d e:Int):aaP (abp W n a b c d e)=true:=by kernel_rfl
theorem adr(W:Int->Int)(n a b c d e:Int):acX (abp W n a b c d e)=W (nu (acO n a b c d e 16)).bf:=by kernel_rfl
theorem acA(X:Ins)(h0:-2147483648<=X.bf)(h1:X.bf<=2147483647):nu (fun j=>X.enc.getD j 0)=X:=by
 have e:yY (fun j=>X.enc.getD j 0)=Jy X.bf:=by
  show(Jy X.bf/16777216)*16777216+(Jy X.bf/65536%256)*65536+(Jy X.bf/256%256)*256+Jy X.bf%256=Jy X.bf
  have:0<=Jy X.bf/\Jy X.bf<4294967296:=by unfold Jy;omega
  omega
 unfold nu;rw[e];have:Um (Jy X.bf)=X.bf:=by unfold Um Jy;split<;>omega
 rw[this];rfl
theorem abe(X:Ins)(hr:X.right=true)(j:Nat):0<=X.enc.getD j 0/\X.enc.getD j 0<=255:=by
 obtain⟨⟨o0,o1⟩,⟨a0,a1⟩,⟨b0,b1⟩,c0,c1⟩:=Ins.gJ hr;have hu:0<=Jy X.bf/\Jy X.bf<4294967296:=by unfold Jy;omega
 rcases j with _|_|_|_|_|_|_|_|j<;>simp[Ins.enc,List.getD]<;>omega
theorem aaR(X:Ins)(hr:X.right=true)(h:Dz X.bf):nu (byU X)=X:=by
 have:byU X=fun j=>X.enc.getD j 0:=funext fun j=>by
  obtain⟨b0,b1⟩:=abe X hr j;show((UInt8.ofNat (X.enc.getD j 0).toNat).toNat:Int)=_
  generalize X.enc.getD j 0=v at b0 b1;have:(UInt8.ofNat v.toNat).toNat=v.toNat%256:=by simp
  rw[this];omega
 rw[this];exact acA X h.1 h.2
theorem aat{B B':Nat->Int}(h:∀j,j<8->B j=B' j):nu B=nu B':=by
 have h0:=h 0 (by omega);have h1:=h 1 (by omega);have h2:=h 2 (by omega);have h3:=h 3 (by omega);have h4:=h 4 (by omega);have h5:=h 5 (by omega);have h6:=h 6 (by omega);have h7:=h 7 (by omega);unfold nu yY;rw[h0,h1,h2,h3,h4,h5,h6,h7]
theorem acL(n a b c d e:Int):nu (acO n a b c d e 40)=nu (byU (za 0 n)):=aat fun j hj=>by
 obtain rfl|rfl|rfl|rfl|rfl|rfl|rfl|rfl:j=0\/j=1\/j=2\/j=3\/j=4\/j=5\/j=6\/j=7:=by omega
 all_goals rfl
theorem acN(n a b c d e:Int):nu (acO n a b c d e 16)=nu (byU (za 3 c)):=aat fun j hj=>by
 obtain rfl|rfl|rfl|rfl|rfl|rfl|rfl|rfl:j=0\/j=1\/j=2\/j=3\/j=4\/j=5\/j=6\/j=7:=by omega
 all_goals rfl
theorem acK(n a b c d e:Int)(hn:40<n\/n<0)(hi:Dz n)(hc:Dz c):∃K0 K o,tu (dX [aaX n a b c d e] 0)=some K0/\dx K0/\K0.nc=1/\rM aae xC 600 K0=some (some K) /\
  K.obj 6=some o/\o.kind=3/\o.th.r 0=12/\o.th.r 1=0/\o.th.r 2=0/\o.th.r 3=wu c/\apz [1,2,3,4,5,6,7,8] K:=by
 have hw:=aaV n a b c d e (by omega);have h1:=abo wu n a b c d e;have h2:=acJ wu n a b c d e;have h3:=adr wu n a b c d e;rw[acL,aaR (za 0 n) rfl hi]at h1;rw[acN,aaR (za 3 c) rfl hc]at h3
 cases hq:abp wu n a b c d e with
 | none=>rw[hq]at h1;cases h1
 | some q =>
  rw[hq]at h1 h2 h3;unfold abp at hq
  cases hK:tu (aag (aaq n a b c d e))with
  | none=>rw[hK]at hq;cases hq
  | some K0 =>
   rw[hK]at hq;have hq:aas wu 600 K0=some q:=hq;obtain⟨d1,d2⟩:=acy 600 K0 q hq
   have hm:uw (aaX n a b c d e)=true:=by
    have:=abm n a b c d e;unfold aaO at this;unfold uw;rw[hw];exact this
   rw[<-hw]at hK;obtain⟨ha,hnc⟩:=Lr hm hK;have hd:=apz.tu hK (by rw[hw];exact aaW n a b c d e);simp only[Option.map_some,Option.some.injEq]at h1;have hwu:40<wu n:=by have:=hi.1;have:=hi.2;unfold wu;omega
   have hs:rM aae xC 600 K0=rM uf xC 600 K0:=aax 600 K0 (fun v hv=>by
    rw[d1,h1]at hv;rw[(List.mem_replicate.1 hv).2];exact hwu)
   rw[d2]at hs;obtain⟨l,r⟩:=q
   cases r with
   | none=>cases h2
   | some K =>
    unfold aaP at h2;unfold acX at h3;simp only at h2 h3 hs
    cases ho:K.obj 6 with
    | none=>rw[ho]at h2;cases h2
    | some o =>
     rw[ho]at h2 h3;simp only[aM,aY]at h2;obtain⟨⟨⟨k1,k2⟩,k3⟩,k4⟩:=h2;exact⟨K0,K,o,hK,ha,hnc,hs,ho,k1,k2,k3,k4,h3,hd.rM ads hs⟩
end Go.Proofs.YtiadbhiadhgjkaaGreatDoor
namespace Go.Proofs.YtiadbhiadhgjkaaGreatDoor
open Go.RowKit
attribute [local irreducible] World.setCell World.alloc World.drew World.setRow Calls Code.wp
theorem abq:Ic aav:=by
 intro w g K o R db h hI _ ho hk hR hD hdb;unfold aav at hR;split at hR
 ·rename_i hc
  cases hR;obtain⟨x,hT⟩:=h.gQ ho hk;have d2:w.cell? ⟨db,2,none⟩=some (.pointer (some ⟨g.tl o.name,0,none⟩)):=(hD.cell 2).trans rfl;have t0:w.cell? ⟨g.tl o.name,0,none⟩=some (.int .u64 (o.th.r 0)):=hT.reg (j:=0) (by omega);have HM:Hid (eD w g K w g):=ah (eD.refl h hI);have HD:=ah hD;generalize o.th.r 0=n at hc t0;have g1:decide (1<=n)=true:=bK (by omega);have g6:decide (6<=n)=true:=bK (by omega);have g16:decide (16<=n)=true:=bK (by omega);have g24:decide (24<=n)=true:=bK (by omega);have g29:decide (29<=n)=true:=bK (by omega);have l4:decide (n<=4)=false:=aX (by omega);have l11:decide (n<=11)=false:=aX (by omega);have l19:decide (n<=19)=false:=aX (by omega);have l25:decide (n<=25)=false:=aX (by omega);have l29:decide (n<=29)=false:=aX (by omega);have l40:decide (n<=40)=false:=aX (by omega);have e13:(n==13)=false:=by simp;omega
  have e14:(n==14)=false:=by simp;omega
  have e15:(n==15)=false:=by simp;omega
  have e22:(n==22)=false:=by simp;omega
  have e23:(n==23)=false:=by simp;omega
  have e26:(n==26)=false:=by simp;omega
  have e27:(n==27)=false:=by simp;omega
  have e32:(n==32)=false:=by simp;omega
  have e33:(n==33)=false:=by simp;omega
  have e38:(n==38)=false:=by simp;omega
  clear h hI ho hk hc hD hdb hT;go_enter Tryz.func123,Tryz.ntmps123
  go_wp2_with fail
  go_ret3
  exact⟨rfl,g,HM.out,HD.out⟩
 ·cases hR
end Go.Proofs.YtiadbhiadhgjkaaGreatDoor
namespace Go.Proofs.YtiadbhiadhgjkaaGreatDoor
open Go.RowKit
theorem aaJ(K K':Km)(o:Ob)(what:Int)(h:dx K)(ho:pG o=true)(hm:aae K o=some (K',what)):dx K' :=
 dx.FR (fun K o R hK ho hR=>by
  unfold aav at hR;split at hR
  ·cases hR;exact hK
  ·cases hR) K K' o what h ho hm
theorem aaY:Ai QE aae:=fun w g K K' o what h hI hO hQ=>Ke abq w g K K' o what h hI hO hQ.ql
theorem aap{B:Nat}{w w1:World}(h:Below B w w1)(n:Nat):Below B w (w1.drewN n):=⟨h.os,h.tape,h.output,h.size,h.block⟩
theorem abz{w:World}{r:Nat}{es:List (Int×Value)}(h:MapAt w r es){T K E:TypeId}(hT:Tryz.prog.underlying T=some (.map K E))(ty:TypeId) :
  (Builtin.len_ #[T] ty #[.map (some r)]).run Tryz.prog w=.ok (.int .i64 es.length) w:=by
 obtain⟨⟨arr,clock,hh,hm,_⟩,_⟩:=h;have hl:arr.size=es.length:=by simpa using congrArg List.length hm
 simp[Builtin.len_,run_underlying hT,run_getObj_map hh,Result.andThen,goInt,hl]
theorem aar:∀(l1 l2:List Int),l1.Nodup->(∀x∈l1,x∈l2)->l1.length<=l2.length
 | [],_,_,_=>Nat.zero_le _
 | a::l,l2,hn,hs=>by
  have ha:=hs a bq;have hn':=List.nodup_cons.1 hn;have h1:=aar l (l2.erase a) hn'.2 (fun x hx=>(List.mem_erase_of_ne (fun e=>hn'.1 (by rw[<-e];exact hx))).2 (hs x (List.mem_cons_of_mem _ hx)));rw[List.length_erase_of_mem ha]at h1;have:=List.length_pos_of_mem ha;rw[aZ];omega
theorem aaK{es:List (Int×Value)}{n:Int}:(look es n).isSome=true↔n∈es.map (·.1):=by
 unfold look;rw[Option.isSome_map,List.find?_isSome,List.mem_map];constructor
 ·rintro⟨p,hp,e⟩;exact⟨p,hp,by simpa using e⟩
 ·rintro⟨p,hp,e⟩;exact⟨p,hp,by simpa using e⟩
theorem abf(w:World)(g:Gh)(f:Int->Option Ob)(l:List Int)(h:vQ w g f)(hd:∀n,(∃o,f n=some o)↔n∈l)(hn:l.Nodup) :
  Calls Tryz.prog 13 #[.pointer (some ⟨g.tb,0,none⟩)] w fun e w'=>e=.returned (.int .i64 l.length)/\w'=w:=by
 obtain⟨es,hm,hl⟩:=h.map
 have hmem:∀n,n∈es.map (·.1)↔n∈l:=fun n=>by
  rw[<-aaK,hl n,Option.isSome_map,Option.isSome_iff_exists];exact hd n
 have hlen:es.length=l.length:=by
  have h1:=aar (es.map (·.1)) l hm.nd (fun x hx=>(hmem x).1 hx);have h2:=aar l (es.map (·.1)) hn (fun x hx=>(hmem x).2 hx);rw[List.length_map]at h1 h2;omega
 have hrun:=abz hm Tryz.underlying135 3;rw[hlen]at hrun;have h0:w.cell? ⟨g.tb,0,none⟩=some (.map (some g.mb)):=(h.tab.cell 0).trans rfl;clear hm hl hmem hlen h;go_enter Tryz.func13,Tryz.ntmps13
 go_wp2_with fail
 go_ret;exact⟨rfl,rfl⟩
theorem aaC{n a b c d e:Int}(hn:Dz n)(h0:n≠0)(ha:Dz a/\Dz b/\Dz c/\Dz d/\Dz e):(aan n a b c d e).ok:=⟨hn,ha,fun h=>absurd h h0⟩
theorem acz(n a b c d e:Int)(hn:40<n\/n<0)(hi:Dz n)(ha:Dz a/\Dz b/\Dz c/\Dz d/\Dz e):∃K o,K.obj 6=some o/\o.kind=3/\o.th.r 0=12/\o.th.r 1=0/\o.th.r 2=0/\o.th.r 3=wu c/\apz [1,2,3,4,5,6,7,8] K /\
  ∀(W:World) (b' lc:Nat),pF W->lg W->mY W (.slice (some ⟨b',0,none⟩) 1 lc) [aan n a b c d e] ->
   Calls Tryz.prog 8 #[.slice (some ⟨b',0,none⟩) 1 lc,.agg #[.int .i64 1,.slice none 0 0]] W fun e w'=>Below W.heap.size W w'/\Uf W (some K) e w':=by
 obtain⟨K0,K,o,e1,e2,e3,e4,e5,e6,e7,e8,e9,e10,e11⟩:=acK n a b c d e hn hi ha.2.2.1
 have hp:(⟨[aan n a b c d e]++[jH],⟨1,[]⟩,0⟩:PV).plain=aaX n a b c d e:=by
  have:(⟨[aan n a b c d e]++[jH],⟨1,[]⟩,0⟩:PV).lab=eX:=by rw[PV.xI];split<;>rfl
  unfold PV.plain;rw[this];rfl
 refine⟨K,o,e5,e6,e7,e8,e9,e10,e11,fun W b' lc hs hm hl=>?_⟩
 exact KW (QQ:=QE) (rE:=aae) b' lc [aan n a b c d e] 1 (.slice none 0 0) [] K0 (some K) W (fun _ _ _ _ h k=>h.ext k) aaY aaJ (fun lo kb K g w' hw=>⟨W,hs,hm,hw.eO,fun b hb=>hw.free b (bA hb hw.le0)⟩)
  hl (Nat.zero_lt_one) (show 1<=90 by decide) (fun l hl=>by rw[List.mem_singleton.1 hl];exact aaC hi (by omega) ha) ⟨none,0,rfl,aj _,Nat.zero_le _,.inl rfl⟩ (fun n hn=>by cases hn) (by rw[hp];exact e1) e2 e3 e4
attribute [local irreducible] World.setCell World.alloc World.drew World.setRow Calls Code.wp
theorem aay(x a b c d z:Int)(hx:Dz x)(ha:Dz a/\Dz b/\Dz c/\Dz d/\Dz z)(w:World)(hs:pF w)(hm:lg w) :
  Calls Tryz.prog 4 #[.int .i32 x,.agg #[.int .i32 a,.int .i32 b,.int .i32 c,.int .i32 d,.int .i32 z]] w fun e w'=>e=.returned (.bool true)/\Below w.heap.size w w':=by
 obtain⟨n,hn⟩:∃n,n=(if 0<=x/\x<=40 then x+41 else x):=⟨_,rfl⟩;have hn1:40<n\/n<0:=by rw[hn];split<;>omega
 have hn2:Dz n:=by have:=hx.1;have:=hx.2;unfold Dz;rw[hn];split<;>omega
 obtain⟨K,o,ho,hk,hr0,hr1,hr2,hr3,hdm,hD⟩:=acz n a b c d z hn1 hn2 ha;have HO:=ah (And.intro ho (And.intro hk (And.intro hr0 (And.intro hr1 (And.intro hr2 (And.intro hr3 hdm))))));have HD:=ah hD;have HS:=ah (And.intro hs hm);have Hn:=ah hn;have Hn1:=ah hn1;have Hn2:=ah hn2;have Hx:=ah hx;have Ha:=ah ha;obtain⟨w1,hw1⟩:∃w1,w.alloc (.cells #[.int .i32 a,.int .i32 b,.int .i32 c,.int .i32 d,.int .i32 z] 24)=w1:=⟨_,rfl⟩;obtain⟨h0,hh0⟩:∃h0,w.heap.size=h0:=⟨_,rfl⟩;have HA1:Hid (aR w1 h0 #[.int .i32 a,.int .i32 b,.int .i32 c,.int .i32 d,.int .i32 z] 24):=ah (by rw[<-hw1,<-hh0];exact aR.new _ _ _);have HB1:Hid (Below w.heap.size w w1):=ah (by rw[<-hw1];exact(aC _ w).alloc (aj _) _);have aac:=ah (KO w1);clear hn hn1 hn2 ho hk hr0 hr1 hr2 hr3 hdm hD hs hm hx ha;go_enter Tryz.func4,Tryz.ntmps4
 go_wp2_with fail
 clear hw1 hh0;refine aac.out.mono ?_;rintro e1 w2 ⟨rfl,hb2⟩;have HA2:=ah (HA1.out.below hb2 HA1.out.lt);have HB2:=ah (aT HB1.out hb2);clear aac hb2;go_upto_region 3 with fail
 go_cut [16] (fun v16 wx=>∃B:Bool,v16=.bool B/\Hid (B=decide (0<=x/\x<=40))/\wx=w2)
 case first =>
  by_cases h0:0<=x
  ·have g0:decide (0<=x)=true:=bK h0
   by_cases h40:x<=40
   ·have g40:decide (x<=40)=true:=bK h40
    have g:decide (0<=x/\x<=40)=true:=bK ⟨h0,h40⟩;have G:=ah g;clear h0 h40 g;go_wp2_with fail
    go_meet;exact⟨_,rfl,ah (by rw[G.out]),rfl⟩
   ·have g40:decide (x<=40)=false:=aX h40
    have g:decide (0<=x/\x<=40)=false:=aX (by omega);have G:=ah g;clear h0 h40 g;go_wp2_with fail
    go_meet;exact⟨_,rfl,ah (by rw[G.out]),rfl⟩
  ·have g0:decide (0<=x)=false:=aX h0
   have g:decide (0<=x/\x<=40)=false:=aX (by omega);have G:=ah g;clear h0 g;go_wp2_with fail
   go_meet;exact⟨_,rfl,ah (by rw[G.out]),rfl⟩
 case rest =>
 obtain⟨B,rfl,HBo,rfl⟩:=hcut;rename World=>w2
 go_upto_if 16 with fail
 go_cut [0] (fun v0 wx=>v0=.int .i32 n/\wx=w2)
 case first =>
  by_cases h:0<=x/\x<=40
  ·have g:B=true:=by rw[HBo.out];exact bK h
   subst g;have e:n=x+41:=by rw[Hn.out,aD h]
   have hw:IntKind.i32.wrap (x+41)=x+41:=IntWalk.i32_in _ (by omega);have E:=ah e;clear h e;go_wp2_with fail
   go_meet;exact⟨by rw[E.out],rfl⟩
  ·have g:B=false:=by rw[HBo.out];exact aX h
   subst g;have e:n=x:=by rw[Hn.out,aA h]
   have E:=ah e;clear h e;go_wp2_with fail
   go_meet;exact⟨by rw[E.out],rfl⟩
 case rest =>
 obtain⟨rfl,rfl⟩:=hcut;rename World=>w2
 have hn0:(n==0)=false:=by have:=Hn1.out;simp;omega
 have hwn:IntKind.i64.wrap n=n:=aV _ (by have:=Hn2.out;unfold Dz at this;omega);have a0:w2.cell? ⟨h0,0,none⟩=some (.int .i32 a):=(HA2.out.cell 0).trans rfl;have a1:w2.cell? ⟨h0,1,none⟩=some (.int .i32 b):=(HA2.out.cell 1).trans rfl;have a2:w2.cell? ⟨h0,2,none⟩=some (.int .i32 c):=(HA2.out.cell 2).trans rfl;have a3:w2.cell? ⟨h0,3,none⟩=some (.int .i32 d):=(HA2.out.cell 3).trans rfl;have a4:w2.cell? ⟨h0,4,none⟩=some (.int .i32 z):=(HA2.out.cell 4).trans rfl
 have HDn:Hid (Calls Tryz.prog 8 #[.slice (some ⟨w2.heap.size,0,none⟩) 1 1,.agg #[.int .i64 1,.slice none 0 0]] (w2.alloc (.cells (fQ (aan n a b c d z)).toArray 28)) fun e w'=>Below (w2.alloc (.cells (fQ (aan n a b c d z)).toArray 28)).heap.size (w2.alloc (.cells (fQ (aan n a b c d z)).toArray 28)) w'/\Uf (w2.alloc (.cells (fQ (aan n a b c d z)).toArray 28)) (some K) e w'):=ah (by
  have hb3:Below w.heap.size w (w2.alloc (.cells (fQ (aan n a b c d z)).toArray 28)):=HB2.out.alloc HB2.out.size _;refine HD.out _ _ _ (HS.out.1.below hb3) (HS.out.2.below hb3) ⟨_,1,rfl,aj _,by unfold maxLen;decide,.inr ⟨_,_,_,rfl,aR.new _ _ _,fun j u hj=>?_⟩⟩;rw[List.flatMap_cons,List.flatMap_nil,List.append_nil]at hj;simpa using hj)
 go_wp2_with fail
 refine HDn.out.mono ?_;rintro e1 w3 ⟨hb3,kb,g,rfl,lo,hW,hA,hnc⟩;have hnm:o.name=6:=(hW.kin.objs 6 o HO.out.1).1;have ho6:K.obj o.name=some o:=by rw[hnm];exact HO.out.1
 have hkd:o.kind=3:=HO.out.2.1;obtain⟨xs,hT⟩:=hW.kin.gQ ho6 hkd;have hp6:FL g K.obj 6=.pointer (some ⟨g.bl 6,0,none⟩):=gK HO.out.1;have x19:=hW.kin.pU ho6 hkd;have y0:w3.cell? ⟨g.tl o.name,0,none⟩=some (.int .u64 12):=by have:=hT.reg (j:=0) (by omega);rw[HO.out.2.2.1]at this;exact this
 have y1:w3.cell? ⟨g.tl o.name,1,none⟩=some (.int .u64 0):=by have:=hT.reg (j:=1) (by omega);rw[HO.out.2.2.2.1]at this;exact this
 have y2:w3.cell? ⟨g.tl o.name,2,none⟩=some (.int .u64 0):=by have:=hT.reg (j:=2) (by omega);rw[HO.out.2.2.2.2.1]at this;exact this
 have y3:w3.cell? ⟨g.tl o.name,3,none⟩=some (.int .u64 (wu c)):=by have:=hT.reg (j:=3) (by omega);rw[HO.out.2.2.2.2.2.1]at this;exact this
 have k0:w3.cell? ⟨kb,0,none⟩=some (.pointer (some ⟨g.tb,0,none⟩)):=by have:=hW.kin.iV.1;rw[hW.kb]at this;exact this
 have HLen:Hid (∀W,Below w3.heap.size w3 W->Calls Tryz.prog 13 #[.pointer (some ⟨g.tb,0,none⟩)] W fun e w'=>e=.returned (.int .i64 8)/\w'=W):=ah (fun W hb=>abf W g K.obj [1,2,3,4,5,6,7,8] (hW.kin.below hb).tab HO.out.2.2.2.2.2.2.dom (by decide));have hb23:Below w2.heap.size w2 w3:=((aC _ w2).alloc (aj _) _).trans (hb3.mono (by rw[au];omega));have HB3:=ah (aT HB2.out hb23);have z2:w3.cell? ⟨h0,2,none⟩=some (.int .i32 c):=(hb23.cell (p:=⟨h0,2,none⟩) HA2.out.lt).trans a2;rw[hp6];rw[hnm]at x19 y0 y1 y2 y3;obtain⟨bb,hbb⟩:∃bb,g.bl 6=bb:=⟨_,rfl⟩;obtain⟨tt,htt⟩:∃tt,g.tl 6=tt:=⟨_,rfl⟩;obtain⟨tb,htb⟩:∃tb,g.tb=tb:=⟨_,rfl⟩;rw[hbb,htt]at x19;rw[htt]at y0 y1 y2 y3;rw[htb]at k0 HLen;rw[hbb];have l1:=bn w3 _ x19;have l2:=bn w3 _ y0;have l3:=bn w3 _ k0;have l4:=bn w3 _ z2
 have HC:Hid (∀W,Below w3.heap.size w3 W->W.cell? ⟨bb,19,none⟩=some (.pointer (some ⟨tt,0,none⟩))/\W.cell? ⟨tt,0,none⟩=some (.int .u64 12)/\W.cell? ⟨tt,1,none⟩=some (.int .u64 0)/\W.cell? ⟨tt,2,none⟩=some (.int .u64 0)/\W.cell? ⟨tt,3,none⟩=some (.int .u64 (wu c))/\W.cell? ⟨kb,0,none⟩=some (.pointer (some ⟨tb,0,none⟩))/\W.cell? ⟨h0,2,none⟩=some (.int .i32 c)):=ah (fun W hb =>
  ⟨(hb.cell (p:=⟨bb,19,none⟩) l1).trans x19,(hb.cell (p:=⟨tt,0,none⟩) l2).trans y0,(hb.cell (p:=⟨tt,1,none⟩) l2).trans y1,(hb.cell (p:=⟨tt,2,none⟩) l2).trans y2,(hb.cell (p:=⟨tt,3,none⟩) l2).trans y3,(hb.cell (p:=⟨kb,0,none⟩) l3).trans k0,(hb.cell (p:=⟨h0,2,none⟩) l4).trans z2⟩)
 have HW3:Hid (Calls Tryz.prog 12 #[.slice none 0 0,.int .i64 0] w3 fun e w'=>∃u,e=.returned u/\rU w' u (dX [] 0)/\Below w3.heap.size w3 w'):=ah (zy [] (.slice none 0 0) (fun _=>(undef,undef)) 0 w3 ⟨fun j p hj=>(by simp at hj),none,0,rfl,aj _,Nat.zero_le _,.inl rfl⟩ (fun p hp=>by cases hp) (by omega));clear hnm ho6 hkd hT hp6 x19 y0 y1 y2 y3 k0 hb23 z2 hbb htt htb l1 l2 l3 l4 hW hA hnc hb3 HDn HO HD HA2 a0 a1 a2 a3 a4;go_wp2_with fail
 refine HW3.out.mono ?_;rintro e1 w4 ⟨u,rfl,hcf,hb4⟩;have HNw:=ah (abk w4 u hcf);have yO:=ah hb4;clear hcf hb4 HW3;go_wp2_with fail
 refine HNw.out.mono ?_;rintro e1 w5 ⟨hb5,mb,oa,oc,rfl,m0⟩;have hb35:=aT yO.out hb5;obtain⟨c1,c2,c3,c4,c5,c6,c7⟩:=HC.out w5 hb35;have pK:=ah hb35;have q1:IntKind.i64.wrap c=c:=aV _ (by have:=Ha.out.2.2.1;unfold Dz at this;omega);have q2:IntKind.u64.wrap c=wu c:=rfl;generalize wu c=rc at c5 q2;clear hb35 hb5 HNw HC yO;go_wp2_with fail
 go_quiet ((go_at_call 13;exact Calls.quiet_of_same (HLen.out _ (aap pK.out _))))
 go_wp2_with fail
 go_ret;refine⟨?_,aap (aT HB3.out pK.out) _⟩;show Ending.returned (.bool (IntKind.i64.wrap 12==12&&(8:Int)==IntKind.i64.wrap 8))=_
 rw[aV 12 (by decide),aV 8 (by decide)];rfl
end Go.Proofs.YtiadbhiadhgjkaaGreatDoor
