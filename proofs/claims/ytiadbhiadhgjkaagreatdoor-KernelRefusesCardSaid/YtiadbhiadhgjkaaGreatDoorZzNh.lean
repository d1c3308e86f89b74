import Derived.Test.YtiadbhiadhgjkaaGreatDoorZzQa
import Derived.Test.YtiadbhiadhgjkaaGreatDoorZzNf
import Derived.Test.YtiadbhiadhgjkaaGreatDoorZzLib
import Derived.OrdersHeld
import Derived.Deep.RegionHeld
namespace Go.Proofs.YtiadbhiadhgjkaaGreatDoor
open Go.RowKit
def pG(o:Ob):Bool:=o.maps.all (fun m=>m.fits)&&decide (o.maps.length<=1000000)
def dx(K:Km):Prop:=∀n s,K.obj n=some s->pG s=true
theorem dx.kok{K:Km}(h:dx K):Qw K:=by
 have h2:∀n s,K.obj n=some s->(∀m∈s.maps,m.fits=true)/\s.maps.length<=1000000:=fun n s hs=>by
  have:=h n s hs;unfold pG at this;simpa using this
 exact⟨fun n o ho=>(h2 n o ho).1,fun n s hs=>(h2 n s hs).2⟩
theorem dx.set{K:Km}(h:dx K){o:Ob}(ho:pG o=true):dx (K.set o):=fun n s hs=>by
 unfold Km.set at hs;simp only at hs;by_cases e:n=o.name
 ·rw[aD e]at hs;cases hs;exact ho
 ·rw[aA e]at hs;exact h n s hs
theorem dx.place{K K':Km}{h x:Ob}{kind:Int}{l:dn}{n count:Int}(hK:dx K)(hh:pG h=true)(e:K.place h kind l n count=.ok K' x):dx K'/\x.maps=[]:=by
 obtain⟨a1,a2,a3,a4,a5,rfl,rfl⟩:=kD e;refine⟨?_,rfl⟩;exact(hK.set (o:=jo h kind l n count) rfl).set (o:=iW h kind n count) hh
theorem UD{o:Ob}(h:o.maps=[]):pG o=true:=by unfold pG;rw[h];rfl
theorem dx.lS{K K':Km}{made made':List Int}{o:dR}(hK:dx K)(e:lS K made o=some (K',made')):dx K':=by
 unfold Go.Proofs.YtiadbhiadhgjkaaGreatDoor.lS at e;split at e
 ·split at e
  ·cases e
  ·rename_i h hh
   split at e
   ·split at e
    ·rename_i K1 x hp
     obtain⟨h1,h2⟩:=hK.place (hK _ _ hh) hp;simp only[Option.some.injEq,Prod.mk.injEq]at e;obtain⟨rfl,-⟩:=e;split
     ·exact h1.set (UD h2)
     ·split
      ·exact h1
      ·exact h1
    ·cases e
   ·cases e
 ·cases e
theorem dx.gF:∀{os:List dR} {K K':Km} {made made':List Int},dx K->gF K made os=some (K',made')->dx K'
 | [],K,K',made,made',h,e=>by
  unfold Go.Proofs.YtiadbhiadhgjkaaGreatDoor.gF at e;cases e;exact h
 | o::os,K,K',made,made',h,e=>by
  unfold Go.Proofs.YtiadbhiadhgjkaaGreatDoor.gF at e;split at e
  ·rename_i K1 m1 h1
   exact dx.gF (h.lS h1) e
  ·cases e
def nR(made:List Int)(os:List dR):Bool:=os.all fun o=>o.maps.all fun m=>(jI made m).fits
theorem dx.lN{K K':Km}{made:List Int}{cores:Int}{i:Nat}{o:dR}(hK:dx K)(hg:(o.maps.all fun m=>(jI made m).fits)=true)(e:lN K made cores i o=some K'):dx K':=by
 unfold Go.Proofs.YtiadbhiadhgjkaaGreatDoor.lN at e;split at e
 ·cases e
 ·rename_i x hx
  split at e
  ·rename_i hc
   simp only[Option.some.injEq]at e;subst e;have hxo:=hK _ _ hx;split
   ·rename_i hk
    refine hK.set ?_;unfold pG at hxo ⊢;simp only[aM,List.all_append,List.all_map,aY]at hxo ⊢;refine⟨⟨hxo.1,by simpa[Function.comp_def]using hg⟩,?_⟩;rw[aM]at hc;have hf:=hc.2;unfold uY at hf;simp[hk]at hf;simp;omega
   ·split
    ·exact hK.set hxo
    ·exact hK
  ·cases e
theorem dx.iH:∀{os:List dR} {K K':Km} {made:List Int} {cores:Int} {i:Nat},dx K->nR made os=true->iH K made cores i os=some K'->dx K'
 | [],K,K',made,cores,i,h,hg,e=>by
  unfold Go.Proofs.YtiadbhiadhgjkaaGreatDoor.iH at e;cases e;exact h
 | o::os,K,K',made,cores,i,h,hg,e=>by
  unfold nR at hg;rw[bT,aM]at hg;unfold Go.Proofs.YtiadbhiadhgjkaaGreatDoor.iH at e;split at e
  ·rename_i K1 h1
   exact dx.iH (h.lN hg.1 h1) hg.2 e
  ·cases e
theorem NA{c:mU}{K:Km}(h:tu c=some K)(hg:∀K1 made,gF (km0 c) [1] c.objs=some (K1,made)->nR made c.objs=true):Qw K:=by
 obtain⟨hr,K1,made,K2,h1,h2,h3,rfl⟩:=nM h
 have h0:dx (km0 c):=fun n s hs=>by
  unfold km0 at hs;simp only at hs;split at hs
  ·cases hs;rfl
  ·cases hs
 have hB:=dx.iH (h0.gF h1) (hg _ _ h1) h2;exact dx.kok (K:=rV K2 c made) hB
theorem zR{K:Km}:∀{l:List Int} {os:List Ob},K.pq l=some os->∀o∈os,∃n,K.obj n=some o
 | [],os,h,o,ho=>by cases h;cases ho
 | n::r,os,h,o,ho=>by
  unfold Km.pq at h
  cases e:K.obj n with
  | none=>rw[e]at h;cases h
  | some x =>
   rw[e]at h
   cases e2:K.pq r with
   | none=>rw[e2]at h;cases h
   | some t =>
    rw[e2]at h;simp only[Option.map_some,Option.some.injEq]at h;subst h;rcases List.mem_cons.1 ho with rfl|ho
    ·exact⟨n,e⟩
    ·exact zR e2 o ho
theorem Ay{K:Km}{c on:Int}{l:List Ob}(h:K.jv c on=some l):∀o∈l,∃n,K.obj n=some o:=fun o ho=>by
 unfold Km.jv at h
 cases hc:K.obj c with
 | none=>rw[hc]at h;cases h;cases ho
 | some x =>
  rw[hc]at h;simp only at h;split at h
  ·split at h
   ·cases hk:K.pq x.kids with
    | none=>rw[hk]at h;cases h
    | some os =>
     rw[hk]at h;simp only[Option.map_some,Option.some.injEq]at h;subst h;exact zR hk o (List.mem_filter.1 ho).1
   ·cases h
  ·cases h;cases ho
theorem ER{K:Km}{i:Nat}{o:Ob}(h:K.pQ i=some (some o)):∃n,K.obj n=some o:=by
 unfold Km.pQ at h;split at h
 ·cases h
 ·cases h
 ·rename_i x l hl
  simp only[Option.some.injEq]at h;exact Ay hl o (bG h)
theorem dx.obj{K K':Km}(h:dx K)(e:K'.obj=K.obj):dx K':=fun n s hs=>h n s (by rw[<-e];exact hs)
theorem dx.wR{K K':Km}{o:Ob}{x:Int}(h:dx K)(ho:pG o=true)(e:K.wR o=some (K',x)):dx K':=by
 unfold Km.wR at e
 cases hi:oJ K o with
 | none=>rw[hi]at e;cases e
 | some p =>
  rw[hi]at e;simp only[Option.map_some,Option.some.injEq]at e;have hw:∀t,pG (o.eF t)=true:=fun t=>ho
  split at e
  ·cases e;exact h.set (hw _)
  ·split at e
   ·cases e;exact h.set (hw _)
   ·split at e
    ·cases e;exact h.set (hw _)
    ·cases e;exact h.set (hw _)
theorem dx.nJ{rE:Km->Ob->Option (Km×Int)}{wt:Km->Ob->Nat->Option (Km×Int)}(hm:∀K K' o x,dx K->pG o=true->rE K o=some (K',x)->dx K')(hw:∀K K' o i x,dx K->pG o=true->wt K o i=some (K',x)->dx K')
  {K K':Km} {i:Nat} {ev:Ev} (h:dx K) (e:K.nJ rE wt i=some (K',ev)):dx K':=by
 have hp:dx (K.picked i):=h.obj rfl;have hn:∀Q:Km,dx Q->dx (Q.jC i):=fun Q hQ=>hQ.obj rfl
 unfold Km.nJ at e;split at e
 ·cases e
 ·cases e;exact hn _ hp
 ·rename_i o ho
  obtain⟨n,hno⟩:=ER ho;have ru:=hp _ _ hno;split at e
  ·cases e
  ·rename_i p hd
   split at e
   ·cases e
    refine hn _ ?_;unfold YN at hd;split at hd
    ·exact hm _ _ _ _ hp ru hd
    ·split at hd
     ·exact hw _ _ _ _ _ hp ru hd
     ·split at hd
      ·exact hp.wR ru hd
      ·cases hd;exact hp
   ·cases e
def RO(l:dn):Prop:=l.right=true/\eX.leq l.rest=true
theorem Lb(ls:List Line):((rP ls).take 576).length<=576:=by rw[List.length_take];omega
theorem oq:∀(l:List ko) (n:Int),(dP n l).length=3*l.length
 | [],_=>rfl
 | p::r,n=>by
  show(kU n p++dP (n+3) r).length=_
  rw[aO,oq r,aZ];show 3+_=_;omega
def dY:List dR:=[{ xB 1 with lab:=eX,pages:=120,names:=40 },{ xB 2 with lab:=eX,pages:=2,data:=iN },{ xB 2 with lab:=tH,pages:=1,data:=[1,2,3] },{ xB 6 with lab:=tH }]
theorem pO(l:List ko)(c:Int):(dX l c).objs=dY++dP 4 (l.take 4):=rfl
end Go.Proofs.YtiadbhiadhgjkaaGreatDoor
namespace Go.Proofs.YtiadbhiadhgjkaaGreatDoor
open Go.RowKit
attribute [local irreducible] World.setCell World.alloc World.drew World.setRow Calls Code.wp
structure PV where
 (lines:List Line)
 (seed:Ew)
 (home:Int)
def PV.t(p:PV):dn:=⟨2,p.seed.lab.ps⟩
def PV.lab(p:PV):dn:=if(p.t.right&&eX.leq p.t.rest)=true then p.t else eX
def PV.plain(p:PV):ko:=⟨p.lines,p.lab,p.home⟩
structure PV.ok(p:PV):Prop where
 len:p.lines.length<=100
 lines:∀l∈p.lines,l.ok
 lv:∀n∈p.seed.ls,yJ n
structure Eu(w:World)(p:PV)(lv sv:Value):Prop where
 lines:mY w lv p.lines
 seed:yP w sv p.seed.ls.length (p.seed.ls.map (Value.int .i64))
def Tj(p:PV)(q:Value×Value):List Value:=[q.1,.int .i64 p.seed.d,q.2,.int .i64 p.home]
def lU(w:World)(v:Value)(l:List PV)(Q:Nat->Value×Value):Prop :=
 (∀(j:Nat) (p:PV),l[j]? = some p->Eu w p (Q j).1 (Q j).2)/\∃a c,v=.slice a l.length c/\l.length<=c/\c<=maxLen /\
  (l.length=0\/∃b o,a=some ⟨b,o,none⟩/\b<w.heap.size/\∀(j:Nat) (p:PV),l[j]? = some p->∀i,i<4->w.cell? ⟨b,o+j*4+i,none⟩=(Tj p (Q j))[i]?)
theorem Eu.below{w w':World}{p:PV}{lv sv:Value}(h:Eu w p lv sv){B:Nat}(hb:Below B w w')(hB:w.heap.size<=B):Eu w' p lv sv:=⟨aJ.below h.lines hb hB,h.seed.below hb hB⟩
theorem lU.below{w w':World}{v:Value}{l:List PV}{Q:Nat->Value×Value}(h:lU w v l Q){B:Nat}(hb:Below B w w')(hB:w.heap.size<=B):lU w' v l Q:=by
 obtain⟨h1,a,c,rfl,h2,h3,h4⟩:=h;refine⟨fun j s hj=>(h1 j s hj).below hb hB,a,c,rfl,h2,h3,h4.imp id ?_⟩;rintro⟨b,o,rfl,hlt,hc⟩;exact⟨b,o,rfl,bA hlt hb.size,fun j s hj i hi=>by rw[hb.cell (p:=⟨b,o+j*4+i,none⟩) (bA hlt hB)];exact hc j s hj i hi⟩
theorem lU.at{w:World}{a:Option Addr}{c:Nat}{l:List PV}{Q:Nat->Value×Value}(h:lU w (.slice a l.length c) l Q){k:Nat}{p:PV}(hk:l[k]? = some p):∃b o,a=some ⟨b,o,none⟩/\b<w.heap.size/\Eu w p (Q k).1 (Q k).2/\∀i,i<4->w.cell? ⟨b,o+k*4+i,none⟩=(Tj p (Q k))[i]?:=by
 obtain⟨h1,a',c',e,_,_,h4⟩:=h
 cases e;have hlt:=(aW.1 hk).1;obtain⟨b,o,rfl,hb,hc⟩:=h4.resolve_left (by omega);exact⟨b,o,rfl,hb,h1 k p hk,hc k p hk⟩
structure qG(w:World)(cb b1:Nat)(x:Int)(sv ov:Value)(os:List dR)(wx:World):Prop where
 cfg:aR wx cb #[.int .i64 x,.int .i64 600,.int .i64 200,sv,ov] 81
 one:aR wx b1 #[.int .i64 2,.slice none 0 0] 43
 slots:jJ wx sv [(0,2),(1,1),(0,1)]
 objs:∃sl:List Ca,sl.length=os.length/\(∀(j:Nat) (o:dR) (s:Ca),os[j]? = some o->sl[j]? = some s->pI wx o s.ls s.lc s.vd s.vm)/\wx.ownsRow w.heap.size 120 12 ov os.length (jU os sl)
 eO:Below w.heap.size w wx
 ge:w.heap.size<=cb/\w.heap.size<=b1
theorem qG.below{w wx w':World}{cb b1:Nat}{x:Int}{sv ov:Value}{os:List dR}(h:qG w cb b1 x sv ov os wx)(k:Below wx.heap.size wx w'):qG w cb b1 x sv ov os w':=by
 obtain⟨sl,h1,h2,h3⟩:=h.objs;exact⟨h.cfg.below k h.cfg.lt,h.one.below k h.one.lt,aJ.below h.slots k (aj _),⟨sl,h1,fun j o s hj hs=>(h2 j o s hj hs).below k (aj _),dA h3 (Kept.of_below k) (fun _ _ q=>q)⟩,aT h.eO k,h.ge⟩
theorem JJ(wx:World):jJ (wx.alloc (.cells #[.int .u64 0,.int .i64 2,.int .u64 1,.int .i64 1,.int .u64 0,.int .i64 1] 127)) (.slice (some ⟨wx.heap.size,0,none⟩) 3 3) [(0,2),(1,1),(0,1)] :=
 ⟨_,3,rfl,aj _,by unfold maxLen;decide,.inr ⟨_,_,_,rfl,aR.new _ _ _,fun j u hj=>by
  have hl:=(aW.1 hj).1;have hl6:j<6:=hl;rw[<-hj];obtain rfl|rfl|rfl|rfl|rfl|rfl:j=0\/j=1\/j=2\/j=3\/j=4\/j=5:=by omega
  all_goals rfl⟩⟩
structure BK(w:World)(rb b1 b2:Nat)(x:Int)(a2:Option Addr)(k2:Nat)(W:World):Prop where
 res:aR W rb #[.int .i64 0,.int .i64 0,.int .i64 0,.slice none 0 0,.slice none 0 0] 81
 cfg:aR W (rb+1+1) #[.int .i64 x,.int .i64 600,.int .i64 200,.slice (some ⟨rb+1,0,none⟩) 3 3,.slice none 0 0] 81
 slots:jJ W (.slice (some ⟨rb+1,0,none⟩) 3 3) [(0,2),(1,1),(0,1)]
 one:aR W b1 #[.int .i64 2,.slice none 0 0] 43
 up:aR W b2 #[.int .i64 2,.slice a2 1 k2] 43
 ps:bg W (.slice a2 1 k2) [(1,4)]
 eO:Below w.heap.size w W
 ge:w.heap.size<=rb/\w.heap.size<=b1
theorem BK.below{w W W':World}{rb b1 b2:Nat}{x:Int}{a2:Option Addr}{k2:Nat}(h:BK w rb b1 b2 x a2 k2 W)(k:Below W.heap.size W W'):BK w rb b1 b2 x a2 k2 W' :=
 ⟨h.res.below k h.res.lt,h.cfg.below k h.cfg.lt,aJ.below h.slots k (aj _),h.one.below k h.one.lt,h.up.below k h.up.lt,aJ.below h.ps k (aj _),aT h.eO k,h.ge⟩
def kM(s2 vl vb:Value):Array Value:=#[.int .i64 1,.int .i64 0,.int .i64 2,.slice none 0 0,.int .i64 0,.slice none 0 0,.int .i64 120,.int .i64 40,.slice none 0 0,.slice none 0 0,.int .i64 0,.int .i64 0,.int .i64 2,.int .i64 0,.int .i64 2,.slice none 0 0,.int .i64 0,.slice none 0 0,.int .i64 2,.int .i64 0,vl,.slice none 0 0,.int .i64 0,.int .i64 0,.int .i64 2,.int .i64 0,.int .i64 2,s2,.int .i64 0,.slice none 0 0,.int .i64 1,.int .i64 0,vb,.slice none 0 0,.int .i64 0,.int .i64 0,.int .i64 6,.int .i64 0,.int .i64 2,s2,.int .i64 0,.slice none 0 0,.int .i64 0,.int .i64 0,.slice none 0 0,.slice none 0 0,.int .i64 0,.int .i64 0]
theorem Nj(W:World)(base:Nat)(ty:TypeId)(size n:Nat)(cs:Array Value)(hb:base<=W.heap.size)(hc:cs.size=n*size)(hn:n<=maxLen):(W.alloc (.cells cs ty)).ownsRow base ty size (.slice (some ⟨W.heap.size,0,none⟩) n n) n cs.toList :=
 ⟨by simpa using hc,.inr ⟨_,n,cs,rfl,hb,aR.new _ _ _,aj _,hn,hc,List.take_of_length_le (by rw[Array.length_toList,hc];exact aj _)⟩⟩
theorem Ae(W:World)(ds:List UInt8)(hn:ds.length<=maxLen):dV (W.alloc (.cells (ds.map fA).toArray 5)) (.slice (some ⟨W.heap.size,0,none⟩) ds.length ds.length) ds :=
 ⟨_,ds.length,rfl,aj _,hn,.inr ⟨_,_,_,rfl,aR.new _ _ _,fun j u hj=>by simpa using hj⟩⟩
theorem Cc{w W:World}{rb b1 b2:Nat}{x:Int}{a2:Option Addr}{k2:Nat}{vl vb:Value}(h:BK w rb b1 b2 x a2 k2 W)(hl:dV W vl iN)(hb:dV W vb [1,2,3]) :
  qG w (rb+1+1) b1 x (.slice (some ⟨rb+1,0,none⟩) 3 3) (.slice (some ⟨W.heap.size,0,none⟩) 4 4) dY ((W.alloc (.cells (kM (.slice a2 1 k2) vl vb) 120)).setCell ⟨rb+1+1,4,none⟩ (.slice (some ⟨W.heap.size,0,none⟩) 4 4)) /\
  aR ((W.alloc (.cells (kM (.slice a2 1 k2) vl vb) 120)).setCell ⟨rb+1+1,4,none⟩ (.slice (some ⟨W.heap.size,0,none⟩) 4 4)) rb #[.int .i64 0,.int .i64 0,.int .i64 0,.slice none 0 0,.slice none 0 0] 81 /\
  aR ((W.alloc (.cells (kM (.slice a2 1 k2) vl vb) 120)).setCell ⟨rb+1+1,4,none⟩ (.slice (some ⟨W.heap.size,0,none⟩) 4 4)) b2 #[.int .i64 2,.slice a2 1 k2] 43:=by
 have hA:Below W.heap.size W (W.alloc (.cells (kM (.slice a2 1 k2) vl vb) 120)):=(aC _ W).alloc (aj _) _;have hS:=h.below hA
 have hne:b1≠rb+1+1:=fun e=>by
  have h1:=hS.one;rw[e]at h1;have:=h1.symm.trans hS.cfg;simp at this
 have kc:Kept (·=rb+1+1) (W.alloc (.cells (kM (.slice a2 1 k2) vl vb) 120)) ((W.alloc (.cells (kM (.slice a2 1 k2) vl vb) 120)).setCell ⟨rb+1+1,4,none⟩ (.slice (some ⟨W.heap.size,0,none⟩) 4 4)):=(Kept.refl _ _).bC _ _ _ rfl;have hT:=Ag hS.cfg;have hp:∀{v:Value} {ps:List (Nat×Nat)},bg W v ps->bg ((W.alloc (.cells (kM (.slice a2 1 k2) vl vb) 120)).setCell ⟨rb+1+1,4,none⟩ (.slice (some ⟨W.heap.size,0,none⟩) 4 4)) v ps:=fun q=>iK (aJ.below q hA (aj _)) kc hT (by decide)
 have hd:∀{v:Value} {ps:List UInt8},dV W v ps->dV ((W.alloc (.cells (kM (.slice a2 1 k2) vl vb) 120)).setCell ⟨rb+1+1,4,none⟩ (.slice (some ⟨W.heap.size,0,none⟩) 4 4)) v ps:=fun q=>iK (aJ.below q hA (aj _)) kc hT (by decide)
 refine⟨⟨(hS.cfg.set 4 _).cells (by simp only[ay,aG,aH]),hS.one.aI (a:=⟨rb+1+1,4,none⟩) (Ne.symm hne) _,iK hS.slots kc hT (by decide),
  ⟨[⟨.slice none 0 0,.slice none 0 0,.slice none 0 0,.slice none 0 0⟩,⟨.slice none 0 0,.slice none 0 0,vl,.slice none 0 0⟩,⟨.slice a2 1 k2,.slice none 0 0,vb,.slice none 0 0⟩,⟨.slice a2 1 k2,.slice none 0 0,.slice none 0 0,.slice none 0 0⟩],by rfl,fun j o s hj hs=>?_,?_⟩,(hS.eO).setCell (p:=⟨rb+1+1,4,none⟩) (by have:=h.ge.1;show w.heap.size<=rb+1+1;omega) _,⟨by have:=h.ge.1;omega,h.ge.2⟩⟩,hS.res.aI (a:=⟨rb+1+1,4,none⟩) (by show rb+1+1≠rb;omega) _,iO hS.up kc hT (by decide)⟩
 ·match j,hj,hs with
  | 0,hj,hs=>cases hj;cases hs;exact⟨aJ.nil _ _,aJ.nil _ _,aJ.nil _ _,aJ.nil _ _⟩
  | 1,hj,hs=>cases hj;cases hs;exact⟨aJ.nil _ _,aJ.nil _ _,hd hl,aJ.nil _ _⟩
  | 2,hj,hs=>cases hj;cases hs;exact⟨hp h.ps,aJ.nil _ _,hd hb,aJ.nil _ _⟩
  | 3,hj,hs=>cases hj;cases hs;exact⟨hp h.ps,aJ.nil _ _,aJ.nil _ _,aJ.nil _ _⟩
 ·exact wG (Nj W w.heap.size 120 12 4 (kM (.slice a2 1 k2) vl vb) h.eO.size rfl (by unfold maxLen;decide)) kc hT (by decide)
theorem sM{w W:World}{rb b1 b2:Nat}{x:Int}{a2:Option Addr}{k2:Nat}{vl vb:Value}(h:BK w rb b1 b2 x a2 k2 W)(hl:dV W vl iN)(hb:dV W vb [1,2,3]) :
  qG w (rb+1+1) b1 x (.slice (some ⟨rb+1,0,none⟩) 3 3) (.slice (some ⟨W.heap.size,0,none⟩) 4 4) dY ((W.setCell ⟨rb+1+1,4,none⟩ (.slice (some ⟨W.heap.size,0,none⟩) 4 4)).alloc (.cells (kM (.slice a2 1 k2) vl vb) 120)) /\
  aR ((W.setCell ⟨rb+1+1,4,none⟩ (.slice (some ⟨W.heap.size,0,none⟩) 4 4)).alloc (.cells (kM (.slice a2 1 k2) vl vb) 120)) rb #[.int .i64 0,.int .i64 0,.int .i64 0,.slice none 0 0,.slice none 0 0] 81 /\
  aR ((W.setCell ⟨rb+1+1,4,none⟩ (.slice (some ⟨W.heap.size,0,none⟩) 4 4)).alloc (.cells (kM (.slice a2 1 k2) vl vb) 120)) b2 #[.int .i64 2,.slice a2 1 k2] 43:=by
 have:=Cc h hl hb;rw[World.setCell_alloc_past _ _ _ _ h.cfg.lt]at this;exact this
theorem Ap{w W:World}{rb b1 b2:Nat}{x:Int}{a2:Option Addr}{k2:Nat}{vl:Value}(h:BK w rb b1 b2 x a2 k2 W)(hl:dV W vl iN) :
  qG w (rb+1+1) b1 x (.slice (some ⟨rb+1,0,none⟩) 3 3) (.slice (some ⟨W.heap.size+1,0,none⟩) 4 4) dY (((W.setCell ⟨rb+1+1,4,none⟩ (.slice (some ⟨W.heap.size+1,0,none⟩) 4 4)).alloc (.cells #[.int .u8 1,.int .u8 2,.int .u8 3] 5)).alloc (.cells (kM (.slice a2 1 k2) vl (.slice (some ⟨W.heap.size,0,none⟩) 3 3)) 120)) /\
  aR (((W.setCell ⟨rb+1+1,4,none⟩ (.slice (some ⟨W.heap.size+1,0,none⟩) 4 4)).alloc (.cells #[.int .u8 1,.int .u8 2,.int .u8 3] 5)).alloc (.cells (kM (.slice a2 1 k2) vl (.slice (some ⟨W.heap.size,0,none⟩) 3 3)) 120)) rb #[.int .i64 0,.int .i64 0,.int .i64 0,.slice none 0 0,.slice none 0 0] 81 /\
  aR (((W.setCell ⟨rb+1+1,4,none⟩ (.slice (some ⟨W.heap.size+1,0,none⟩) 4 4)).alloc (.cells #[.int .u8 1,.int .u8 2,.int .u8 3] 5)).alloc (.cells (kM (.slice a2 1 k2) vl (.slice (some ⟨W.heap.size,0,none⟩) 3 3)) 120)) b2 #[.int .i64 2,.slice a2 1 k2] 43:=by
 have hB:Below W.heap.size W (W.alloc (.cells #[.int .u8 1,.int .u8 2,.int .u8 3] 5)):=(aC _ W).alloc (aj _) _;have hd:dV (W.alloc (.cells #[.int .u8 1,.int .u8 2,.int .u8 3] 5)) (.slice (some ⟨W.heap.size,0,none⟩) 3 3) [1,2,3]:=Ae W [1,2,3] (by unfold maxLen;decide);have:=sM (h.below hB) (aJ.below hl hB (aj _)) hd;rw[au,World.setCell_alloc_past _ _ _ _ h.cfg.lt]at this;exact this
structure Er(w:World)(rb b1:Nat)(x:Int)(sv ov:Value)(os:List dR)(tb:Nat)(p:PV)(fv gv:Value)(W:World):Prop where
 mem:qG w (rb+1+1) b1 x sv ov os W
 res:aR W rb #[.int .i64 0,.int .i64 0,.int .i64 0,.slice none 0 0,.slice none 0 0] 81
 prog:aR W tb #[fv,.int .i64 p.seed.d,gv,.int .i64 p.home] 100
 lines:mY W fv p.lines
theorem Er.below{w W W':World}{rb b1:Nat}{x:Int}{sv ov:Value}{os:List dR}{tb:Nat}{p:PV}{fv gv:Value}(h:Er w rb b1 x sv ov os tb p fv gv W)(k:Below W.heap.size W W'):Er w rb b1 x sv ov os tb p fv gv W' :=
 ⟨h.mem.below k,h.res.below k h.res.lt,h.prog.below k h.prog.lt,aJ.below h.lines k (aj _)⟩
structure GV(W:World)(tl:Nat)(l:dn)(ta:Option Addr)(tc:Nat):Prop where
 blk:aR W tl #[.int .i64 (l.d:Nat),.slice ta l.ps.length tc] 43
 ps:bg W (.slice ta l.ps.length tc) l.ps
theorem GV.below{W W':World}{tl:Nat}{l:dn}{ta:Option Addr}{tc:Nat}(h:GV W tl l ta tc)(k:Below W.heap.size W W'):GV W' tl l ta tc:=⟨h.blk.below k h.blk.lt,aJ.below h.ps k (aj _)⟩
theorem GV.Tt{W:World}{tl:Nat}{l:dn}{ta:Option Addr}{tc:Nat}(h:GV W tl l ta tc):bU W (.agg #[.int .i64 (l.d:Nat),.slice ta l.ps.length tc]) l:=⟨_,rfl,h.ps⟩
theorem sW{w w':World}{o:dR}{ls lc vd vm:Value}(h:pI w o ls lc vd vm){T:Nat->Prop}{ty2:TypeId}(k:Kept T w w')(hT:∀b,T b->∃cs fz,w.heap[b]? = some (.cells cs ty2 fz))(hne:ty2≠111/\ty2≠125/\ty2≠5):pI w' o ls lc vd vm :=
 h.Cn k (fun b cs ty fz ht hh=>by
  obtain⟨cs',fz',e2⟩:=hT b ht;rw[hh]at e2;simp only[Option.some.injEq,Obj.cells.injEq]at e2;rw[e2.2.1];exact hne)
theorem Er.other{w W W':World}{rb b1:Nat}{x:Int}{sv ov:Value}{os:List dR}{tb:Nat}{p:PV}{fv gv:Value}{tl:Nat}{cs:Array Value}(h:Er w rb b1 x sv ov os tb p fv gv W)(hl:aR W tl cs 43)(k:Kept (·=tl) W W')(h1:tl≠b1)(hg:w.heap.size<=tl):Er w rb b1 x sv ov os tb p fv gv W':=by
 have hT:=Ag hl;obtain⟨sl,e1,e2,e3⟩:=h.mem.objs
 exact⟨⟨iO h.mem.cfg k hT (by decide),k.blk h.mem.one (Ne.symm h1),iK h.mem.slots k hT (by decide),⟨sl,e1,fun j o s hj hs=>sW (e2 j o s hj hs) k hT ⟨by decide,by decide,by decide⟩,wG e3 k hT (by decide)⟩,
  ((Kept.of_below (S:=fun _=>False) h.mem.eO).then k (fun i hi e=>by have e':i=tl:=e;omega)).below (aj _) (fun _ _ f=>f),h.mem.ge⟩,iO h.res k hT (by decide),iO h.prog k hT (by decide),iK h.lines k hT (by decide)⟩
structure yG(w:World)(ov:Value)(os:List dR)(sl:List Ca)(W:World):Prop where
 len:sl.length=os.length
 vals:∀(j:Nat) (o:dR) (s:Ca),os[j]? = some o->sl[j]? = some s->pI W o s.ls s.lc s.vd s.vm
 row:W.ownsRow w.heap.size 120 12 ov os.length (jU os sl)
theorem yG.below{w W W':World}{ov:Value}{os:List dR}{sl:List Ca}(h:yG w ov os sl W)(k:Below W.heap.size W W'):yG w ov os sl W' :=
 ⟨h.len,fun j o s hj hs=>(h.vals j o s hj hs).below k (aj _),dA h.row (Kept.of_below k) (fun _ _ q=>q)⟩
theorem qG.split{w W:World}{cb b1:Nat}{x:Int}{sv ov:Value}{os:List dR}(h:qG w cb b1 x sv ov os W):∃sl,yG w ov os sl W:=by
 obtain⟨sl,h1,h2,h3⟩:=h.objs;exact⟨sl,h1,h2,h3⟩
theorem zP(os2:List dR)(ss2:List Ca):∀(os:List dR) (ss:List Ca),ss.length=os.length->jU (os++os2) (ss++ss2)=jU os ss++jU os2 ss2
 | [],[],_=>by simp[jU]
 | [],y::ss,e=>by simp at e
 | x::os,[],e=>by simp at e
 | x::os,y::ss,e=>by
  show Dc x y.ls y.lc y.vd y.vm++jU (os++os2) (ss++ss2)=_
  rw[zP os2 ss2 os ss (by simpa using e)];show _=(Dc x y.ls y.lc y.vd y.vm++jU os ss)++_
  rw[List.append_assoc]
theorem EN{w W w12:World}{rb b1:Nat}{x:Int}{sv ov:Value}{os:List dR}{sl:List Ca}(h:qG w (rb+1+1) b1 x sv ov os W)(hres:aR W rb #[.int .i64 0,.int .i64 0,.int .i64 0,.slice none 0 0,.slice none 0 0] 81)
  (ho:yG w ov os sl W) {os2:List dR} {sl2:List Ca} (hl2:sl2.length=os2.length) (hv2:∀(j:Nat) (o:dR) (s:Ca),os2[j]? = some o->sl2[j]? = some s->pI W o s.ls s.lc s.vd s.vm) {g5 cap n:Nat} (hn:n=os.length+os2.length)
  (hown:w12.ownsRow w.heap.size 120 12 (.slice (some ⟨g5,0,none⟩) n cap) n (jU os sl++jU os2 sl2)) (hgrow:W.grownBy w12 ov.ownBlock) :
  qG w (rb+1+1) b1 x sv (.slice (some ⟨g5,0,none⟩) n cap) (os++os2) (w12.setCell ⟨rb+1+1,4,none⟩ (.slice (some ⟨g5,0,none⟩) n cap)) /\
  aR (w12.setCell ⟨rb+1+1,4,none⟩ (.slice (some ⟨g5,0,none⟩) n cap)) rb #[.int .i64 0,.int .i64 0,.int .i64 0,.slice none 0 0,.slice none 0 0] 81:=by
 subst hn;have hT:=Ij ho.row;have hk:=dG hgrow;have hc12:=iO h.cfg hk hT (by decide);have DJ:=Ag hc12;have kc:Kept (·=rb+1+1) w12 (w12.setCell ⟨rb+1+1,4,none⟩ (.slice (some ⟨g5,0,none⟩) (os.length+os2.length) cap)):=(Kept.refl _ _).bC _ _ _ rfl;refine⟨⟨(hc12.set 4 _).cells (by simp only[ay,aG,aH]),iO (iO h.one hk hT (by decide)) kc DJ (by decide),iK (iK h.slots hk hT (by decide)) kc DJ (by decide),⟨sl++sl2,by rw[aO,aO,ho.len,hl2],fun j o s hj hs=>?_,?_⟩,?_,h.ge⟩,?_⟩
 ·have hOV:pI W o s.ls s.lc s.vd s.vm:=by
   rcases Nat.lt_or_ge j os.length with hj1|hj1
   ·rw[List.getElem?_append_left hj1]at hj
    rw[List.getElem?_append_left (by rw[ho.len];exact hj1)]at hs;exact ho.vals j o s hj hs
   ·rw[List.getElem?_append_right hj1]at hj
    rw[List.getElem?_append_right (by rw[ho.len];exact hj1),ho.len]at hs;exact hv2 _ o s hj hs
  exact sW (sW hOV hk hT ⟨by decide,by decide,by decide⟩) kc DJ ⟨by decide,by decide,by decide⟩
 ·rw[aO,zP os2 sl2 os sl ho.len]
  exact wG hown kc DJ (by decide)
 ·have hb:Below w.heap.size w w12:=h.eO.grown hgrow h.eO.size (fun b e=>(ho.row.lt b e).1)
  exact hb.setCell (p:=⟨rb+1+1,4,none⟩) (by have:=h.ge.1;exact this) _
 ·refine(iO hres hk hT (by decide)).aI (a:=⟨rb+1+1,4,none⟩) ?_ _
  show rb+1+1≠rb
  omega
theorem zJ(d:Int):∀(ls:List Int) (i:Nat),∀q∈ng d i ls,q.1<=40/\q.2<5
 | [],_,q,h=>by cases h
 | n::r,i,q,h=>by
  unfold ng at h;rcases List.mem_append.1 h with h|h
  ·split at h
   ·simp at h
    subst h;rename_i hc;exact⟨by show 3*i+1<=40;omega,by show(n%5).toNat<5;omega⟩
   ·cases h
  ·exact zJ d r (i+1) q h
theorem PV.QG(p:PV)(v:Value)(w:World)(h:bU w v p.t):Calls Tryz.prog 25 #[v] w fun e w'=>e=.returned (.bool p.t.right)/\Below w.heap.size w w' :=
 jD p.t (by show 2<4294967296;omega) (fun q hq=>by have:=zJ _ _ _ q hq;omega) v w h
def PV.good(p:PV):Bool:=p.t.right&&eX.leq p.t.rest
theorem PV.xI(p:PV):p.lab=if p.good=true then p.t else eX:=rfl
theorem MG(g n c m:Nat)(hm:m<=c)(w:World):(Instr.slice 63 (.slice (some ⟨g,0,none⟩) n c) none (some (.int .i64 m)) none).run Tryz.prog w=.ok (.slice (some ⟨g,0,none⟩) m c) w:=by
 have h0:(0:Int)<=m:=by omega
 have h1:(m:Int)<=c:=by omega
 go_simp
 try rfl
theorem Lc(ls:List Line):0<(mX ls).length:=by
 unfold mX;split
 ·exact Nat.zero_lt_succ _
 ·rw[aO]
  have:(Ins.enc ⟨29,15,0,0,-((pY ls).length:Int)⟩).length=8:=rfl
  omega
theorem Ef{W:World}{ca:Option Addr}{cl cc m:Nat}{ls:List Line}(h:aJ W 5 (.slice ca cl cc) cl (gU (mX ls)))(hok:∀l∈ls,l.ok)(hcl:(mX ls).length=cl)(hm:m=min cl 576):dV W (.slice ca m cc) ((rP ls).take 576):=by
 have hlen:((rP ls).take 576).length=m:=by
  unfold rP;rw[List.length_take,List.length_map,hcl,hm,Nat.min_comm]
 obtain⟨a',c',e,h1,h2,h3⟩:=h
 cases e;show aJ W _ (.slice ca m cc) ((rP ls).take 576).length _
 rw[hlen];refine⟨ca,cc,rfl,by omega,h2,?_⟩;rcases h3 with h3|⟨b,cs,fz,rfl,hh,hc⟩
 ·exact .inl (by omega)
 ·refine .inr ⟨b,cs,fz,rfl,hh,fun j u hj=>hc j u ?_⟩
  rw[dF,List.getElem?_take]at hj;split at hj
  ·unfold rP at hj
   rw[dF]at hj;unfold gU;rw[dF]
   cases hx:(mX ls)[j]? with
   | none=>rw[hx]at hj;cases hj
   | some x =>
    rw[hx]at hj;have hb:=La hok x (bG hx);simp only[Option.map_some,Option.some.injEq]at hj ⊢;rw[<-hj];unfold fA
    have e1:(UInt8.ofNat x.toNat).toNat=x.toNat:=by
     simp only[UInt8.toNat_ofNat'];omega
    rw[e1];congr 1
    omega
  ·cases hj
def qg(N:Nat)(home:Int)(lab:dn)(vs vm vd:Value):Array Value:=#[.int .i64 3,.int .i64 (home%2),.int .i64 (lab.d:Nat),vs,.int .i64 4,.slice none 0 0,.int .i64 0,.int .i64 0,.slice none 0 0,.slice none 0 0,.int .i64 ((N:Int)+2),.int .i64 0,.int .i64 4,.int .i64 0,.int .i64 2,.slice none 0 0,.int .i64 0,.slice none 0 0,.int .i64 0,.int .i64 0,.slice none 0 0,vm,.int .i64 0,.int .i64 0,.int .i64 2,.int .i64 0,.int .i64 2,.slice none 0 0,.int .i64 0,.slice none 0 0,.int .i64 9,.int .i64 0,vd,.slice none 0 0,.int .i64 0,.int .i64 0]
def XH(N:Nat):Array Value:=#[.int .i64 0,.int .u64 ((N:Int)+3),.int .i64 0,.int .i64 9,.bool false,.int .i64 32,.int .u64 2,.int .i64 0,.int .i64 2,.bool true,.int .i64 34,.int .u64 3,.int .i64 0,.int .i64 1,.bool true]
theorem Dn(W:World)(N:Nat):iM (W.alloc (.cells (XH N) 125)) (.slice (some ⟨W.heap.size,0,none⟩) 3 3) [⟨0,(N:Int)+3,0,9,false⟩,⟨32,2,0,2,true⟩,⟨34,3,0,1,true⟩] :=
 ⟨_,3,rfl,aj _,by unfold maxLen;decide,.inr ⟨_,_,_,rfl,aR.new _ _ _,fun j u hj=>by rw[<-Array.getElem?_toList];exact hj⟩⟩
theorem vG(p:ko):∀(l:List ko) (n:Int),dP n (l++[p])=dP n l++kU (n+3*(l.length:Int)) p
 | [],n=>by
  show kU n p++[]=[]++kU (n+3*((0:Nat):Int)) p
  rw[List.append_nil,List.nil_append];congr 1
  omega
 | q::r,n=>by
  show kU n q++dP (n+3) (r++[p])=(kU n q++dP (n+3) r)++_
  rw[vG p r (n+3),List.append_assoc,aZ];congr 3
  omega
theorem vF{w W w12:World}{rb b1:Nat}{x:Int}{sv ov:Value}{l:List PV}{k:Nat}{p:PV}{sl:List Ca}{tb tl:Nat}{fv gv:Value}{sa:Option Addr}{sc:Nat}{vm vd:Value}{N g5 cap:Nat}
  (hp:l[k]? = some p) (hN:4+3*k=N) (h:Er w rb b1 x sv ov (dY++dP 4 ((l.take k).map PV.plain)) tb p fv gv W) (hl:GV W tl p.lab sa sc) (ho:yG w ov (dY++dP 4 ((l.take k).map PV.plain)) sl W)
  (hm:iM W vm [⟨0,(N:Int)+3,0,9,false⟩,⟨32,2,0,2,true⟩,⟨34,3,0,1,true⟩]) (hd:dV W vd ((rP p.lines).take 576))
  (hown:w12.ownsRow w.heap.size 120 12 (.slice (some ⟨g5,0,none⟩) (N+3) cap) (N+3) (jU (dY++dP 4 ((l.take k).map PV.plain)) sl++(qg N p.home p.lab (.slice sa p.lab.ps.length sc) vm vd).toList)) (hgrow:W.grownBy w12 ov.ownBlock) :
  qG w (rb+1+1) b1 x sv (.slice (some ⟨g5,0,none⟩) (N+3) cap) (dY++dP 4 ((l.take (k+1)).map PV.plain)) (w12.setCell ⟨rb+1+1,4,none⟩ (.slice (some ⟨g5,0,none⟩) (N+3) cap)) /\
  aR (w12.setCell ⟨rb+1+1,4,none⟩ (.slice (some ⟨g5,0,none⟩) (N+3) cap)) rb #[.int .i64 0,.int .i64 0,.int .i64 0,.slice none 0 0,.slice none 0 0] 81:=by
 have hlt:=(aW.1 hp).1
 have hos:(dY++dP 4 ((l.take k).map PV.plain)).length=N:=by
  rw[aO,oq,List.length_map,List.length_take];show 4+_=_
  omega
 have e:dY++dP 4 ((l.take (k+1)).map PV.plain)=(dY++dP 4 ((l.take k).map PV.plain))++kU N p.plain:=by
  rw[List.take_add_one,hp,List.map_append];show dY++dP 4 ((l.take k).map PV.plain++[p.plain])=_
  rw[vG,List.append_assoc,List.length_map,List.length_take];congr 3
  omega
 rw[e];refine EN (os2:=kU N p.plain) (sl2:=[⟨.slice sa p.lab.ps.length sc,.slice none 0 0,.slice none 0 0,.slice none 0 0⟩,⟨.slice none 0 0,.slice none 0 0,.slice none 0 0,vm⟩,⟨.slice none 0 0,.slice none 0 0,vd,.slice none 0 0⟩]) h.mem h.res ho (by rfl) (fun j o s hj hs=>?_) (by rw[hos];rfl) ?_ hgrow
 ·match j,hj,hs with
  | 0,hj,hs=>cases hj;cases hs;exact⟨hl.ps,aJ.nil _ _,aJ.nil _ _,aJ.nil _ _⟩
  | 1,hj,hs=>cases hj;cases hs;exact⟨aJ.nil _ _,aJ.nil _ _,aJ.nil _ _,hm⟩
  | 2,hj,hs=>cases hj;cases hs;exact⟨aJ.nil _ _,aJ.nil _ _,hd,aJ.nil _ _⟩
 ·exact hown
theorem vI{w W w12:World}{rb b1:Nat}{x:Int}{sv ov:Value}{os:List dR}{p:PV}{sl:List Ca}{tb tl:Nat}{fv gv:Value}{sa:Option Addr}{sc:Nat}
  (h:Er w rb b1 x sv ov os tb p fv gv W) (hl:GV W tl p.lab sa sc) (ho:yG w ov os sl W) (hgrow:W.grownBy w12 ov.ownBlock) :
  (w12.cell? ⟨rb+1+1,4,none⟩=some ov/\w12.cell? ⟨tl,0,none⟩=some (.int .i64 (p.lab.d:Nat))/\w12.cell? ⟨tl,1,none⟩=some (.slice sa p.lab.ps.length sc)/\w12.cell? ⟨tb,3,none⟩=some (.int .i64 p.home)/\w12.cell? ⟨b1,0,none⟩=some (.int .i64 2)/\w12.cell? ⟨b1,1,none⟩=some (.slice none 0 0))/\w12.frozen? ⟨rb+1+1,4,none⟩=false/\rb+1+1<w12.heap.size:=by
 have hT:=Ij ho.row;have hk:=dG hgrow;have hc:=iO h.mem.cfg hk hT (by decide);have hb:=iO hl.blk hk hT (by decide);have hp:=iO h.prog hk hT (by decide);have ho:=iO h.mem.one hk hT (by decide);exact⟨⟨(hc.cell 4).trans rfl,(hb.cell 0).trans rfl,(hb.cell 1).trans rfl,(hp.cell 3).trans rfl,(ho.cell 0).trans rfl,(ho.cell 1).trans rfl⟩,hc.free 4,hc.lt⟩
theorem KC:(Tryz.prog.info? 120).map (fun i=>(i.zero,i.size,i.bytes))=some (some (.agg #[.int .i64 0,.int .i64 0,.int .i64 0,.slice none 0 0,.int .i64 0,.slice none 0 0,.int .i64 0,.int .i64 0,.slice none 0 0,.slice none 0 0,.int .i64 0,.int .i64 0]),12,160):=by kernel_rfl
end Go.Proofs.YtiadbhiadhgjkaaGreatDoor
namespace Go.Proofs.YtiadbhiadhgjkaaGreatDoor
section
variable {P:Program}{ops:Array Oper}{Q:Exit->Act->World->Prop}{md:Region.Mode}{S:World->Prop}{n:Nat}
def ku(P:Program)(md:Region.Mode)(ops:Array Oper)(Q:Exit->Act->World->Prop)(S:World->Prop)(n:Nat):Nat->Array Bool->Act->World->Prop
 | 0,l,a,w=>Region.ready md ops l=[]/\Q .normal a w
 | g+1,l,a,w=>(Region.ready md ops l=[]->Q .normal a w) /\
   ∀i∈Region.ready md ops l,wpOp P ops Q i (fun a' w'=>((l.setIfInBounds i true).getD n false=false->S w')/\ku P md ops Q S n g (l.setIfInBounds i true) a' w') a w
theorem wO:∀(g:Nat) (l:Array Bool) (a:Act) (w:World),ku P md ops Q S n g l a w->wpAny P md ops Q g l a w
 | 0,_,_,_,h=>h
 | g+1,_,_,_,h=>⟨h.1,fun i hi=>wpOp_mono (fun a' w' h'=>wO g _ a' w' h'.2) (h.2 i hi)⟩
def Au(md:Region.Mode)(ops:Array Oper)(n i:Nat):Bool:=match ops[n]? with
 | some o=>o.after.any fun e=>Region.binds md e&&e.on==i
 | none=>false
theorem Ci{i:Nat}(h:Au md ops n i=true):∃o,ops[n]? = some o/\∃e∈o.after,Region.binds md e=true/\e.on=i:=by
 unfold Au at h
 cases ho:ops[n]? with
 | none=>rw[ho]at h;cases h
 | some o =>
  rw[ho]at h;obtain⟨e,he,hb⟩:=Array.any_eq_true'.1 h;rw[aM,beq_iff_eq]at hb;exact⟨o,rfl,e,he,hb.1,hb.2⟩
theorem zh{l:Array Bool}{i:Nat}(h:l.getD i true=false):l.getD i false=false:=by
 simp only[Array.getD_eq_getD_getElem?]at h ⊢
 cases hl:l[i]? with
 | none=>rfl
 | some b=>rw[hl]at h;exact h
theorem qz{l:Array Bool}{i j:Nat}(h:i≠j):(l.setIfInBounds i true).getD j false=l.getD j false:=by
 simp only[Array.getD_eq_getD_getElem?,bX h]
theorem Ao{i:Nat}{oi:Oper}{v:Value}(hi:ops[i]? = some oi)(hsel:∀(j:Nat) (o:Oper) cs b,ops[j]? = some o->o.op≠.select cs b)(hQ:∀c a w,Q (.panic c) (a.put oi.dst v) w->Q (.panic c) a w)(hn:Au md ops n i=true)(hni:n≠i) :
  ∀(g:Nat) (l:Array Bool) (a:Act) (w:World),
   (∀j oj,ops[j]? = some oj->j≠i->l.getD j true=false->(∀e∈oj.after,Region.binds md e=true->e.on≠i)->oi.apart ops oj=true) ->
   i∈Region.ready md ops l->l.getD n false=false->YieldsIf P ops S oi v a->S w->ku P md ops Q S n g (l.setIfInBounds i true) (a.put oi.dst v) w->ku P md ops Q S n (g+1) l a w:=by
 obtain⟨on,hon,en,hen,hbn,acj⟩:=Ci hn
 have own:∀{g:Nat} {l:Array Bool} {a:Act} {w:World},l.getD n false=false->YieldsIf P ops S oi v a->S w->ku P md ops Q S n g (l.setIfInBounds i true) (a.put oi.dst v) w ->
   wpOp P ops Q i (fun a' w'=>((l.setIfInBounds i true).getD n false=false->S w')/\ku P md ops Q S n g (l.setIfInBounds i true) a' w') a w:=fun _ hy hS H=>hy.wpOp hi hS ⟨fun _=>hS,H⟩
 intro g;induction g with
 | zero =>
  intro l a w _ hr hln hy hS H;refine⟨fun h=>(by rw[h]at hr;cases hr),fun j hj=>?_⟩;by_cases hji:j=i
  ·subst hji;exact own hln hy hS H
  ·have:=ready_mono hj hji
   rw[H.1]at this
   cases this
 | succ g ih =>
  intro l a w hfree hr hln hy hS H;refine⟨fun h=>(by rw[h]at hr;cases hr),fun j hj=>?_⟩;by_cases hji:j=i
  ·subst hji;exact own hln hy hS H
  ·obtain⟨hjun,oj,hoj,hall⟩:=mem_ready.1 hj
   have hil:l.getD i false=false:=zh (mem_ready.1 hr).1
   have hnot:∀e∈oj.after,Region.binds md e=true->e.on≠i:=fun e he hb heq=>by
    have h1:=hall e he hb;rw[heq,hil]at h1;cases h1
   have hjn:j≠n:=fun e=>by
    subst e;rw[hoj]at hon
    cases hon;exact hnot en hen hbn acj
   have h2:=wpOp_putIf hoj (hfree j oj hoj hji hjun hnot) (fun cs b=>hsel i oi cs b hi) (fun cs b=>hsel j oj cs b hoj) hQ hy (H.2 j (ready_mono hj hji))
   have hfree':∀k ok,ops[k]? = some ok->k≠i->(l.setIfInBounds j true).getD k true=false->(∀e∈ok.after,Region.binds md e=true->e.on≠i)->oi.apart ops ok=true:=fun k ok hk hki hun hno=>by
    refine hfree k ok hk hki ?_ hno;by_cases hjk:j=k
    ·subst hjk;exact hjun
    ·rw[getD_set_ne true hjk]at hun;exact hun
   have hlj:(l.setIfInBounds j true).getD n false=false:=by rw[qz hjn];exact hln
   refine wpOp_mono (fun a' w' h3=>?_) h2;have hS':S w':=h3.2.1 (by rw[qz hjn,qz (Ne.symm hni)];exact hln);refine⟨fun _=>hS',ih (l.setIfInBounds j true) a' w' hfree' (ready_mono hr (Ne.symm hji)) hlj h3.1 hS' ?_⟩;rw[Array.setIfInBounds_comm _ _ hji];exact h3.2.2
theorem bM{i:Nat}{oi:Oper}{v:Value}{g:Nat}{l:Array Bool}{a:Act}{w:World}(hi:ops[i]? = some oi)(hs:Region.noSelect ops=true)(hf:Region.free md ops l i=true)(hr:(Region.ready md ops l).contains i=true)
  (hn:Au md ops n i=true) (hni:n≠i) (hl:l.getD n false=false) (hQ:∀c a w,Q (.panic c) (a.put oi.dst v) w->Q (.panic c) a w) (hy:YieldsIf P ops S oi v a) (hS:S w)
  (h:ku P md ops Q S n g (l.setIfInBounds i true) (a.put oi.dst v) w):ku P md ops Q S n (g+1) l a w :=
 Ao hi (Region.noSelect_spec hs) hQ hn hni g l a w (Region.free_spec hi hf) (by simpa using hr) hl hy hS h
def gB(P:Program)(md:Region.Mode)(ops:Array Oper)(Q:Exit->Act->World->Prop)(S:World->Prop)(n g:Nat)(l:Array Bool)(a:Act)(w:World)(rs:List Nat):Prop :=
 ∀i∈rs,wpOp P ops Q i (fun a' w'=>((l.setIfInBounds i true).getD n false=false->S w')/\ku P md ops Q S n g (l.setIfInBounds i true) a' w') a w
theorem gB.nil{g:Nat}{l:Array Bool}{a:Act}{w:World}:gB P md ops Q S n g l a w []:=fun _ h=>by cases h
theorem gB.cons{g:Nat}{l:Array Bool}{a:Act}{w:World}{i:Nat}{o:Oper}{rs:List Nat}(ho:ops[i]? = some o)
  (h:∀K':Act->World->Prop,RowKit.Hid (∀a w,((l.setIfInBounds i true).getD n false=false->S w)->ku P md ops Q S n g (l.setIfInBounds i true) a w->K' a w)->if Region.wanted o (yielded ops a.tmps)=true then Oper.wp P o a w K' Q else K' (a.put o.dst undef) w)
  (hs:gB P md ops Q S n g l a w rs):gB P md ops Q S n g l a w (i::rs):=fun j hj=>by
 rcases List.mem_cons.1 hj with rfl|hj
 ·exact wpOp_step ho (fun K' hK=>h K' (ah (fun a w hS hW=>hK a w ⟨hS,hW⟩)))
 ·exact hs j hj
theorem gD{rs:List Nat}{g:Nat}{l:Array Bool}{a:Act}{w:World}(hr:Region.ready md ops l=rs)(hne:rs≠[])(h:gB P md ops Q S n g l a w rs):ku P md ops Q S n (g+1) l a w :=
 ⟨fun h0=>absurd (hr ▸ h0) hne,hr ▸ h⟩
theorem vE{l:Array Bool}{a:Act}{w:World}(hr:Region.ready md ops l=[])(h:Q .normal a w):∀g,ku P md ops Q S n g l a w
 | 0=>⟨hr,h⟩
 | _+1=>⟨fun _=>h,by rw[hr];simp⟩
theorem EM(S:World->Prop)(n:Nat){id:Nat}{a:Act}{w:World}(hm:P.follows .mixedOrders=true)(h:ku P .any ops Q S n ops.size (Array.replicate ops.size false) a w.drew):(Code.region id ops true).wp P Q a w :=
 wp_region_any hm (wO _ _ _ _ h)
end
end Go.Proofs.YtiadbhiadhgjkaaGreatDoor
