import Derived.Test.YtiadbhiadhgjkaaGreatDoorZzMap
namespace Go.Proofs.YtiadbhiadhgjkaaGreatDoor
open Go.RowKit
structure aaj(x:Ob):Prop where
 q:x.q=[]
 kids:x.kids=[]
 maps:x.maps=[]
 out:x.out=[]
 ring:x.ring=[]
 clear:x.clear=vW
def fB:Value:=.slice none 0 0
def fJ(fr lp:Value):Os:=⟨fB,fB,fr,fB,lp,fB,fB,fun _=>fB,0⟩
def Gp:Ts:=⟨fB,fB,fB,fB,fB,fB⟩
def Gh.add(g:Gh)(n:Int)(xb tb:Nat)(m:Int)(DN:Value)(L:List Int)(isT:Bool):Gh :=
 { g with
  A:=fun b=>if b=xb then some (n,0)else if DN.ownBlock=some b then some (n,3)else if isT=true/\b=tb then some (n,10)else g.A b
  bl:=fun k=>if k=n then xb else g.bl k
  tl:=fun k=>if k=n then tb else g.tl k
  mt:=fun k=>if k=n then m else g.mt k
  fr:=fun k=>if k=n then L else g.fr k
  root:=fun k=>if k=n then 0 else g.root k
  tabs:=fun k=>if k=n then 0 else g.tabs k
  lD:=if isT=true then n::g.lD else g.lD }
theorem gq(w:World)(A:Nat->Option (Int×Nat))(tg:Int×Nat):eB w A tg fB []:=Own.nil _ _ _ _ _
theorem Ga:fV vW:=⟨by decide,by decide,fun p hp=>by cases hp⟩
section
variable {w0 w:World}{g0 g:Gh}{K:Km}{xb tb:Nat}{x:Ob}{mt:Int}{T DN lp:Value}{L:List Int}
theorem Mk.enter(h:Mk w0 w g0 g K xb x (fJ DN lp) mt T tb)(hf:aaj x)(hpos:0<x.name)(hlab:fV x.lab)(hK:K.obj x.name=none)(hnot:∀b i,g.A b≠some (x.name,i))
  (hL:lC w (xb+1) DN L) (hLt:∀c,DN.ownBlock=some c->g.A c=none/\c≠xb/\w0.heap.size<=c) (hT0:x.kind=3->T=.pointer (some ⟨tb,0,none⟩)/\tb≠0/\DN=fB/\x.th=th0) (hT':x.kind≠3->T=.pointer none)
  (Ox:g.pb<xb/\g.db<xb/\g.ob<xb) (h0:w0.heap.size<=xb) :
  cZ w (g.add x.name xb tb mt DN L (decide (x.kind=3))) K/\vZ w (g.add x.name xb tb mt DN L (decide (x.kind=3))) x/\Ext g0 (g.add x.name xb tb mt DN L (decide (x.kind=3))) w0 w:=by
 have hT:x.kind=3->T=.pointer (some ⟨tb,0,none⟩)/\aR w tb (jw th0 Gp 0 0) 52/\g.A tb=none/\tb≠xb/\DN.ownBlock≠some tb/\w0.heap.size<=tb/\x.th=th0:=fun e=>by
  obtain⟨e1,e2,e3,e4⟩:=hT0 e;obtain⟨f1,f2,f3,f4⟩:=h.th e2;exact⟨e1,f1,f2,f3,by rw[e3];exact(fun q=>by cases q),f4,e4⟩
 have hA:∀b tg,g.A b=some tg->(g.add x.name xb tb mt DN L (decide (x.kind=3))).A b=some tg:=fun b tg e=>by
  show(if b=xb then _ else _)=_
  rw[aA,aA,aA];· exact e
  ·rintro⟨h1,h2⟩
   have:=(hT (by simpa using h1)).2.2.1;rw[h2,this]at e;cases e
  ·intro h1;rw[(hLt b h1).1]at e;cases e
  ·intro h1;rw[h1,h.no]at e;cases e
 have hl:dK g (g.add x.name xb tb mt DN L (decide (x.kind=3))):=⟨rfl,rfl,rfl,rfl,rfl,rfl,rfl,hA⟩;have hl1:∀n,n≠x.name->dO g (g.add x.name xb tb mt DN L (decide (x.kind=3))) n:=fun n e=>⟨aA e,aA e,aA e,aA e,aA e,aA e⟩
 refine⟨h.kin.tag hl (fun n o e=>hl1 n (fun q=>by rw[q,hK]at e;cases e)) ⟨rfl,rfl,rfl⟩ rfl (fun b hb=>?_),⟨hpos,?_,?_,fJ DN lp,T,?_,?_,fun e3=>?_,hT'⟩,?_⟩
 ·show(if b=xb then _ else _)=_
  have:=h.blk.lt;rw[aA (by omega),aA,aA];· exact h.kin.kS b hb
  ·rintro⟨h1,h2⟩
   have:=(hT (by simpa using h1)).2.1.lt;omega
  ·intro h1;have:=(hL.lt b h1).2;omega
 ·show(if(if x.name=x.name then xb else g.bl x.name)=xb then _ else _)=_
  rw[aD rfl,aD rfl]
 ·show g.pb<(if x.name=x.name then xb else g.bl x.name)/\g.db<(if x.name=x.name then xb else g.bl x.name)/\g.ob<(if x.name=x.name then xb else g.bl x.name)
  rw[aD rfl];exact Ox
 ·show aR w (if x.name=x.name then xb else g.bl x.name) (jO x (fJ DN lp) (if x.name=x.name then mt else g.mt x.name) T) _
  rw[aD rfl,aD rfl];exact h.blk
 ·show fM w _ (if x.name=x.name then xb else g.bl x.name) x (fJ DN lp) (if x.name=x.name then L else g.fr x.name)
  rw[aD rfl,aD rfl];obtain⟨f1,f2,f3,f4,f5,f6⟩:=hf;refine⟨h.lab,by rw[f6];exact aJ.nil _ _,by rw[f1];exact gq _ _ _,by rw[f2];exact gq _ _ _,hL,fun c hc=>?_,by rw[f3];exact Own.nil _ _ _ _ _,by rw[f4];exact gq _ _ _,(show(0:Nat)<8 by decide),by rw[f5];simp,fun i p hp=>(by rw[f5]at hp;cases hp),⟨hlab,by rw[f6];exact Ga⟩⟩;show(if c=xb then _ else _)=_
  have hc':DN.ownBlock=some c:=hc;rw[aA (hLt c hc').2.1,aD hc']
 ·obtain⟨t1,t2,t3,t4,t5,t6,t7⟩:=hT e3
  show T=.pointer (some ⟨if x.name=x.name then tb else g.tl x.name,0,none⟩)/\vv w _ x.name (if x.name=x.name then tb else g.tl x.name) x.th (if x.name=x.name then 0 else g.root x.name) (if x.name=x.name then 0 else g.tabs x.name)
  rw[aD rfl,aD rfl,aD rfl];refine⟨t1,?_,Gp,by rw[t7];exact t2,?_⟩
  ·show(if tb=xb then _ else _)=_
   rw[aA t4,aA t5,aD ⟨by simpa using e3,rfl⟩]
  ·rw[t7]
   exact⟨aJ.nil _ _,gq _ _ _,gq _ _ _,gq _ _ _,gq _ _ _,gq _ _ _,fun i=>⟨Int.le_refl _,by show(0:Int)<=_;omega⟩,⟨Int.le_refl _,by show(0:Int)<=_;omega⟩,Ga⟩
 ·refine⟨h.ext.al.trans hl,h.ext.kept,fun b hb e=>?_,fun n e=>?_⟩
  ·have e':=h.ext.tag b hb e
   show(if b=xb then _ else _)=_
   rw[aA (by omega),aA,aA];· exact e'
   ·rintro⟨h1,h2⟩
    have:=(hT (by simpa using h1)).2.2.2.2.2.1;omega
   ·intro h1;have:=(hLt b h1).2.2;omega
  ·obtain⟨e1,e2⟩:=h.ext.bl n e
   have hne:n≠x.name:=fun q=>by
    have:=h.ext.al.A _ _ e;rw[q]at this;exact hnot _ _ this
   exact⟨(aA hne).trans e1,(aA hne).trans e2⟩
end
theorem Inv.add{g g':Gh}{K:Km}{x hm h':Ob}(hI:Inv g K)(hh:K.obj hm.name=some hm)(hx:K.obj x.name=none)(hv:VW hm h')(hd:h'.data=hm.data)(hc:h'.kind=1->oW h')(hcx:x.kind=1->oW x)
  (hmv:dQ g.P g'.P x.name) (hl:∀n,n≠x.name->dO g g' n) (hN:g'.N=g.N/\g'.F=g.F/\g'.Y=g.Y) (ht:g'.fC=g.fC/\g'.flush=g.flush/\g'.last=g.last) (hA:∀b n i,g'.A b=some (n,i)->g.A b=some (n,i)\/n=x.name\/n=hm.name)
  (hseg:x.kind=2->IX g' x) (hno:x.kind≠2->g'.fr x.name=[]) (hth:x.kind=3->g'.root x.name=0/\g'.tabs x.name=0) (Bd:g'.lD=if x.kind=3 then x.name::g.lD else g.lD)
  (room:Int) (hr:0<=room) (hleft:(g'.P.left:Int)=room+(mV g+if x.kind=3 then 8 else 0)):Inv g' { (K.set x).set h' with room:=room }:=by
 have hne:hm.name≠x.name:=fun e=>by rw[e,hx]at hh;cases hh
 have Bf:∀n,({ (K.set x).set h' with room:=room }:Km).obj n=if n=hm.name then some h' else if n=x.name then some x else K.obj n:=fun n=>by
  show(if n=h'.name then some h' else if n=x.name then some x else K.obj n)=_
  rw[hv.name]
 have hK:∀n a,K.obj n=some a->∃b,({ (K.set x).set h' with room:=room }:Km).obj n=some b/\VW a b:=fun n a e=>by
  rw[Bf];by_cases e1:n=hm.name
  ·rw[aD e1];rw[e1,hh]at e;cases e;exact⟨_,rfl,hv⟩
  ·rw[aA e1,aA (fun q=>by rw[q,hx]at e;cases e)];exact⟨a,e,VW.refl a⟩
 have hback:∀n a,({ (K.set x).set h' with room:=room }:Km).obj n=some a->(n=x.name/\a=x)\/(n≠x.name/\∃b,K.obj n=some b/\VW b a/\a.data=b.data/\(a.kind=1->oW a)):=fun n a e=>by
  rw[Bf]at e;by_cases e1:n=hm.name
  ·rw[aD e1]at e;cases e;exact .inr ⟨by rw[e1];exact hne,hm,by rw[e1];exact hh,hv,hd,hc⟩
  ·rw[aA e1]at e
   by_cases e2:n=x.name
   ·rw[aD e2]at e;cases e;exact .inl ⟨e2,rfl⟩
   ·rw[aA e2]at e;exact .inr ⟨e2,a,e,VW.refl a,rfl,hI.cont n a e⟩
 have hfr:∀n a,K.obj n=some a->g'.fr n=g.fr n:=fun n a e=>(hl n (fun q=>by rw[q,hx]at e;cases e)).fr
 refine⟨fun b n i e=>?_,fun n a e=>?_,fun n a e ek=>?_,fun n a e ek=>?_,fun n a e ek=>?_,fun n a e ek=>?_,fun i hi hf k hk hk2=>?_,by rw[ht.1];exact hI.tn,⟨?_,fun n=>?_⟩,⟨hr,?_⟩,fun n h0 e=>?_⟩
 ·rcases hA b n i e with e1|e1|e1
  ·rcases hI.own b n i e1 with e2|⟨a,e2⟩
   ·exact .inl e2
   ·obtain⟨c,hc,-⟩:=hK n a e2;exact .inr ⟨c,hc⟩
  ·refine .inr ⟨x,?_⟩;rw[Bf,aA (by rw[e1];exact fun q=>hne q.symm),aD e1]
  ·refine .inr ⟨h',?_⟩;rw[Bf,aD e1]
 ·rcases hback n a e with⟨e1,e2⟩|⟨e1,b,e2,e3,-⟩
  ·rw[e2,e1]
  ·rw[e3.name];exact hI.name n b e2
 ·rcases hback n a e with⟨e1,e2⟩|⟨e1,b,-,-,-,e5⟩
  ·rw[e2]at ek ⊢;exact hcx ek
  ·exact e5 ek
 ·rcases hback n a e with⟨e1,e2⟩|⟨e1,b,e2,e3,e4,-⟩
  ·rw[e2]at ek ⊢;exact hseg ek
  ·have hs:=hI.seg n b e2 (by rw[<-e3.kind];exact ek)
   have hnm:=hI.name n b e2;have hne':b.name≠x.name:=by rw[hnm];exact e1
   have hf:g'.fr a.name=g.fr b.name:=by rw[e3.name];exact(hl _ hne').fr
   refine⟨by rw[e3.name,(hl _ hne').fr];exact hmv.Cw hs.inn hne',by rw[hf,e3.pages];exact hs.len,by rw[e3.pages];exact hs.p16,fun j hj=>?_⟩;rw[e3.pages]at hj;rw[e4,hf,hs.data j hj,hmv.kV hs.inn hne' j (by rw[hs.len];exact hj)]
 ·rcases hback n a e with⟨e1,e2⟩|⟨e1,b,e2,e3,-⟩
  ·rw[e1];rw[e2]at ek;exact hno ek
  ·rw[(hl n e1).fr];exact hI.rD n b e2 (by rw[<-e3.kind];exact ek)
 ·rcases hback n a e with⟨e1,e2⟩|⟨e1,b,e2,e3,-⟩
  ·rw[e2]at ek ⊢;exact .inl (hth ek)
  ·have hs:=hI.yS n b e2 (by rw[<-e3.kind];exact ek)
   have hnm:=hI.name n b e2;have hne':b.name≠x.name:=by rw[hnm];exact e1
   have hl':=hl _ hne';unfold Es at hs ⊢;rw[e3.name,hl'.root,hl'.tabs,hN.1,hN.2.1,hN.2.2];rcases hs with t|⟨t1,t2,t3,t4⟩
   ·exact .inl t
   ·exact .inr ⟨t1.mv hmv hne',t2,t3,fun p hp hF=>(t4 p hp hF).mono hK e3 hfr hI.name⟩
 ·rw[ht.2.1]at hf
  rw[ht.1]at hk2 ⊢;rw[ht.2.2];obtain⟨b,e1,t1,t2⟩:=hI.fC i hi hf k hk hk2;obtain⟨a,e2,e3⟩:=hK _ _ e1;exact⟨a,e2,t1,t2.mono hK e3 hfr hI.name⟩
 ·rw[Bd]
  split
  ·refine List.nodup_cons.2 ⟨fun q=>?_,hI.lD.1⟩
   obtain⟨o,e,-⟩:=(hI.lD.2 _).1 q;rw[hx]at e;cases e
  ·exact hI.lD.1
 ·rw[Bd]
  constructor
  ·intro q
   have:(n=x.name/\x.kind=3)\/n∈g.lD:=by
    split at q
    ·rename_i h3
     rcases List.mem_cons.1 q with q|q
     ·exact .inl ⟨q,h3⟩
     ·exact .inr q
    ·exact .inr q
   rcases this with⟨e1,e2⟩|q
   ·exact⟨x,by rw[Bf,aA (by rw[e1];exact fun q=>hne q.symm),aD e1],e2⟩
   ·obtain⟨a,e1,e2⟩:=(hI.lD.2 n).1 q
    obtain⟨b,hb,hv'⟩:=hK n a e1;exact⟨b,hb,by rw[hv'.kind];exact e2⟩
  ·rintro⟨a,e,ek⟩
   rcases hback n a e with⟨e1,e2⟩|⟨e1,b,e2,e3,-⟩
   ·rw[aD (by rw[<-e2];exact ek),e1];exact bq
   ·have:n∈g.lD:=(hI.lD.2 n).2 ⟨b,e2,by rw[<-e3.kind];exact ek⟩
    split
    ·exact List.mem_cons_of_mem _ this
    ·exact this
 ·show(g'.P.left:Int)=room+mV g'
  rw[hleft];congr 1
  have hsame:(g.lD.map fun n=>8-g'.tabs n)=g.lD.map fun n=>8-g.tabs n:=by
   refine List.map_congr_left fun n hn=>?_
   obtain⟨o,e,-⟩:=(hI.lD.2 n).1 hn;rw[(hl n (fun q=>by rw[q,hx]at e;cases e)).tabs]
  unfold mV;rw[Bd];by_cases e3:x.kind=3
  ·rw[aD e3,aD e3,bW,List.sum_cons,hsame,(hth e3).2];omega
  ·rw[aA e3,aA e3,hsame];omega
 ·rw[Bf]at e
  by_cases e1:n=hm.name
  ·rw[aD e1]at e;cases e
  ·rw[aA e1]at e
   by_cases e2:n=x.name
   ·rw[aD e2]at e;cases e
   ·rw[aA e2]at e
    rw[hmv.n,hmv.cnt n h0 e2];exact hI.yw n h0 e
theorem kQ(P:Pool)(o:Int)(ho:o≠0)(hl:1<=P.left):dQ P (P.alloc o) o/\(P.alloc o).left+1=P.left/\bY (P.alloc o).O o P.n=bY P.O o P.n+1:=by
 obtain⟨r,-,-,-,-,h1,h2,h3⟩:=Tab.begin P o ho hl;exact⟨h1,h2,h3⟩
theorem cZ.room{w:World}{g:Gh}{K:Km}(h:cZ w g K)(r:Int):cZ w g { K with room:=r }:=⟨h.tags,h.kS,h.gZ,h.tab,h.pool,h.cores,h.slot,h.objs⟩
theorem abu(K:Km)(a x c:Ob)(e:c.name=a.name)(hne:a.name≠x.name):((K.set a).set x).set c=(K.set x).set c:=by
 rw[Km.set_comm K a x hne,Km.set_set _ a c e]
theorem oF{w':World}{g g1:Gh}{K:Km}{hm:Ob}{kind:Int}{l:dn}{n count:Int}(hI:Inv g K)(hh:K.obj hm.name=some hm)(hk:hm.kind=1)(hn:kind=1\/kind=2->0<=n)(hc:kind=1->0<=count/\count<4194304)
  (a1:(if kind=1 then 1+count else 1)<=hm.names.left) (a2:dH kind n+(if kind=1 then n else 0)<=hm.purse.left) (a3:dH kind n<=K.room) (a5:K.obj hm.names.next=none)
  {h2:Ob} (hh2:h2.name=hm.name) (f1:cZ w' g1 (((K.set h2).set (jo hm kind l n count)).set (iW hm kind n count)))
  (hmv:dQ g.P g1.P hm.names.next) (hl:∀m,m≠hm.names.next->dO g g1 m) (hN:g1.N=g.N/\g1.F=g.F/\g1.Y=g.Y) (ht:g1.fC=g.fC/\g1.flush=g.flush/\g1.last=g.last) (hA:∀b m i,g1.A b=some (m,i)->g.A b=some (m,i)\/m=hm.names.next\/m=hm.name)
  (hseg:kind=2->IX g1 (jo hm kind l n count)) (hno:kind≠2->g1.fr hm.names.next=[]) (hth:kind=3->g1.root hm.names.next=0/\g1.tabs hm.names.next=0) (Bd:g1.lD=if kind=3 then hm.names.next::g.lD else g.lD)
  (hleft:(g1.P.left:Int)+(if kind=2 then 1+n else 1)=g.P.left) :
  cZ w' g1 { (K.set (jo hm kind l n count)).set (iW hm kind n count)with room:=K.room-dH kind n }/\Inv g1 { (K.set (jo hm kind l n count)).set (iW hm kind n count)with room:=K.room-dH kind n }:=by
 have hne:hm.name≠hm.names.next:=fun e=>by rw[e,a5]at hh;cases hh
 have hco:=hI.cont _ _ hh hk
 have lG:1<=dH kind n:=by
  unfold dH;split
  ·have:=hn (.inr (by assumption));omega
  ·split<;>omega
 rw[abu K h2 (jo hm kind l n count) (iW hm kind n count) hh2.symm (by rw[hh2];exact hne)]at f1;have e1:=hco.names.next;have e2:=hco.names.hi;have e3:=hco.next;have e4:=hco.used;have e5:=hco.given;have e6:=hco.sum;have e7:=hco.lim;unfold rT.left at a1;unfold iC.left at a2;refine⟨f1.room _,Inv.add (x:=jo hm kind l n count) (hm:=hm) (h':=iW hm kind n count) hI hh a5 ⟨rfl,rfl,rfl,rfl,rfl,rfl⟩ rfl (fun _=>?_) (fun e=>?_) hmv hl hN ht hA hseg hno hth Bd _ (by omega) ?_⟩
 ·by_cases k1:kind=1
  ·have hn:=hn (.inl k1)
   have hc:=hc k1;rw[aD k1]at a1 a2;refine⟨⟨⟨?_,?_⟩,?_⟩,?_,?_,?_,?_,e7⟩
   ·show 0<=hm.names.next+1;omega
   ·show hm.names.next+1<=if kind=1 then hm.names.hi-count else hm.names.hi
    rw[aD k1];omega
   ·show(if kind=1 then hm.names.hi-count else hm.names.hi)<=_
    rw[aD k1];omega
   ·show 1<=hm.names.next+1;omega
   ·show 0<=hm.purse.used+dH kind n;omega
   ·show 0<=if kind=1 then hm.purse.given+n else hm.purse.given
    rw[aD k1];omega
   ·show hm.purse.used+dH kind n+(if kind=1 then hm.purse.given+n else hm.purse.given)<=hm.purse.lim
    rw[aD k1];omega
  ·rw[aA k1]at a1 a2
   refine⟨⟨⟨?_,?_⟩,?_⟩,?_,?_,?_,?_,e7⟩
   ·show 0<=hm.names.next+1;omega
   ·show hm.names.next+1<=if kind=1 then hm.names.hi-count else hm.names.hi
    rw[aA k1];omega
   ·show(if kind=1 then hm.names.hi-count else hm.names.hi)<=_
    rw[aA k1];omega
   ·show 1<=hm.names.next+1;omega
   ·show 0<=hm.purse.used+dH kind n;omega
   ·show 0<=if kind=1 then hm.purse.given+n else hm.purse.given
    rw[aA k1];omega
   ·show hm.purse.used+dH kind n+(if kind=1 then hm.purse.given+n else hm.purse.given)<=hm.purse.lim
    rw[aA k1];omega
 ·have k1:kind=1:=e
  have hn:=hn (.inl k1);have hc:=hc k1;rw[aD k1]at a1 a2;have hn1:(jo hm kind l n count).names=⟨hm.names.hi-count,hm.names.hi-count,hm.names.hi⟩:=aD k1;have hp1:(jo hm kind l n count).purse=⟨n,0,0⟩:=aD k1;refine⟨by rw[hn1];exact⟨⟨by show 0<=hm.names.hi-count;omega,by show hm.names.hi-count<=hm.names.hi;omega⟩,e2⟩,by rw[hn1];show 1<=hm.names.hi-count;omega,by rw[hp1];exact Int.le_refl _,by rw[hp1];exact Int.le_refl _,by rw[hp1];show(0:Int)+0<=n;omega,by rw[hp1];show n<=_;omega⟩
 ·have hr:=hI.room.2
  show(g1.P.left:Int)=K.room-dH kind n+(mV g+if kind=3 then 8 else 0)
  unfold dH;by_cases k2:kind=2
  ·rw[aD k2]at hleft ⊢
   rw[aA (by omega)];omega
  ·rw[aA k2]at hleft ⊢
   by_cases k3:kind=3
   ·rw[aD k3,aD k3];omega
   ·rw[aA k3,aA k3];omega
end Go.Proofs.YtiadbhiadhgjkaaGreatDoor
namespace Go.Proofs.YtiadbhiadhgjkaaGreatDoor
open Go.RowKit
attribute [local irreducible] World.setCell World.alloc World.drew World.setRow Calls Code.wp
theorem AB(w:World):(Instr.makeMap 135 none).run Tryz.prog w=.ok (.map (some w.heap.size)) (w.alloc (.map #[] 0)):=by kernel_rfl
theorem Mr(w:World) :
  Calls Tryz.prog 33 #[] w fun e w'=>e=.returned (.pointer (some ⟨w.heap.size+1,0,none⟩))/\aR w' (w.heap.size+1) #[.map (some w.heap.size)] 137/\MapAt w' w.heap.size []/\Below w.heap.size w w':=by
 have hmm:=AB w;go_enter Tryz.func33,Tryz.ntmps33
 go_wp2
 go_ret;refine⟨rfl,?_,(MapAt.new w).alloc _,((aC _ w).alloc (aj _) _).alloc (by simp) _⟩;have:=aR.new (w.alloc (.map #[] 0)) #[.map (some w.heap.size)] 137;rw[au]at this;exact this
theorem Ny(lo n:Int)(w:World)(h1:1<=lo/\lo<=4194304)(h2:0<=n/\n<=4194304-lo) :
  Calls Tryz.prog 35 #[.int .u64 lo,.int .i64 n] w fun e w'=>e=.returned (.tuple #[rT.v ⟨lo,lo,lo+n⟩,.bool true])/\Below w.heap.size w w':=by
 have q1:decide (lo<1)=false:=by simp;omega
 have q2:decide (4194304<lo)=false:=by simp;omega
 have q3:decide (n<0)=false:=by simp;omega
 have q4:decide (4194304-lo<n)=false:=by simp;omega
 have hw:IntKind.u64.wrap n=n:=IntWalk.u64_in _ (by omega);have hw2:IntKind.u64.wrap (4194304-lo)=4194304-lo:=IntWalk.u64_in _ (by omega);have hw3:IntKind.u64.wrap (lo+n)=lo+n:=IntWalk.u64_in _ (by omega);go_enter Tryz.func35,Tryz.ntmps35
 go_wp2
 refine bodyPost_ret (v:=.tuple #[rT.v ⟨lo,lo,lo+n⟩,.bool true]) (by simp[results,Tryz.results35,go_sem,rT.v]) rfl ⟨rfl,?_⟩;exact(aC _ w).alloc (aj _) _
def yx(left:Int):Value:=.agg #[.int .i64 0,.int .i64 left,.int .u64 0,.int .u64 0,.int .u64 0,.int .u64 0,.int .u64 0,.int .u64 0,.int .u64 0,.int .u64 0,.int .u64 0]
theorem Ld(g n cap:Nat)(left:Int)(w:World)(hn:0<n)(h1:w.cell? ⟨g,1,none⟩=some (.int .i64 left)) :
  Calls Tryz.prog 66 #[.slice (some ⟨g,0,none⟩) n cap] w fun e w'=>e=.returned (yx left)/\Below w.heap.size w w':=by
 have hn2:(0:Int)<n:=by omega
 have hlt:g<w.heap.size:=by
  simp only[World.cell?]at h1
  cases e:w.heap[g]? with
  | none=>rw[e]at h1;simp at h1
  | some o=>exact(aU.1 e).1
 go_enter Tryz.func66,Tryz.ntmps66
 go_wp2
 refine bodyPost_ret (v:=yx left) (by simp[results,Tryz.results66,go_sem,yx]) rfl ⟨rfl,?_⟩;exact(aC _ w).alloc (aj _) _
theorem JM{P P':Pool}{o:Int}{L:List Int}{q d:Nat}{B:Nat->Int}(h:jr P P' L q d B)(hI:iP P o L):dQ P P' o:=by
 refine⟨h.n,fun i _ _ _=>by rw[h.O],fun o' _ _=>by rw[h.O],fun i hi h0 h1=>h.other i fun f hf e=>?_⟩;have:=hI.at hf;rw[<-e]at this;exact h1 this
theorem PE(tb mb xb:Nat)(w:World)(hT:aR w tb #[.map (some mb)] 137)(hM:MapAt w mb [])(h2:w.cell? ⟨xb,2,none⟩=some (.int .u64 1))(h6:w.cell? ⟨xb,6,none⟩=some (.int .u64 0)) :
  Calls Tryz.prog 36 #[.pointer (some ⟨tb,0,none⟩),.pointer (some ⟨xb,0,none⟩)] w fun e w'=>e=.returned (.bool true)/\MapAt w' mb (put [] 1 (.pointer (some ⟨xb,0,none⟩)))/\Kept (·=mb) w w':=by
 have hl:∀wz,MapAt wz mb []->∀n,(Instr.lookup 135 (.map (some mb)) (.int .u64 n) false).run Tryz.prog wz=.ok (.pointer none) wz:=fun wz hz n =>
  hz.wY (P:=Tryz.prog) Tryz.underlying135 Tryz.underlying37 (z:=.pointer none) (fun w=>by kernel_rfl) n
 have hl1:=hl w hM 1;have Ve:=hl w.drew hM.drew 1;have hl2:=hl w.drew hM.drew 0;have Vd:=hl w.drew.drew hM.drew.drew 0;obtain⟨w4,hup,hm4,hk4⟩:=(hM.drew.drew.drew).wX (P:=Tryz.prog) Tryz.underlying135 Tryz.underlying37 1 (.pointer (some ⟨xb,0,none⟩));have hc:=hT.cell;have HM:=ah (And.intro hm4 ((Kept.refl (·=mb) w).drew.drew.drew.trans hk4));clear hl hM hT hm4 hk4;go_enter Tryz.func36,Tryz.ntmps36
 go_wp2_with fail
 go_region
 go_wp2_with fail
 clear hl1 Ve;go_region
 clear hl2 Vd;go_wp2_with fail
 go_region
 go_wp2_with fail
 go_ret;exact⟨rfl,HM.out⟩
end Go.Proofs.YtiadbhiadhgjkaaGreatDoor
