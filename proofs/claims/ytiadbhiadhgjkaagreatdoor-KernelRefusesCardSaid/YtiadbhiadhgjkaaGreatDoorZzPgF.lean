import Derived.Test.YtiadbhiadhgjkaaGreatDoorZzSgR
import Derived.Test.YtiadbhiadhgjkaaGreatDoorZzWoHm
set_option maxRecDepth 100000
set_option maxHeartbeats 4000000
namespace Go.Proofs.YtiadbhiadhgjkaaGreatDoor
open Go.RowKit
attribute [local irreducible] World.setCell World.alloc World.drew World.setRow Calls Code.wp row
def gL(N:Nat->Int)(p:Nat):Nat:=if N (nd p 1)=0 then 3 else if N (nd p 2)=0 then 2 else if N (nd p 3)=0 then 1 else 0
theorem nN(N:Nat->Int)(p a:Nat)(ha:a<3)(h:∀j,j<=a->N (nd p j)≠0)(h0:N (nd p (a+1))=0):gL N p=3-a:=by
 unfold gL;obtain rfl|rfl|rfl:a=0\/a=1\/a=2:=by omega
 ·rw[aD h0]
 ·rw[aA (h 1 (by omega)),aD h0]
 ·rw[aA (h 1 (by omega)),aA (h 2 (by omega)),aD h0]
theorem xD(N:Nat->Int)(p:Nat)(h:∀j,j<=3->N (nd p j)≠0):gL N p=0:=by
 unfold gL;rw[aA (h 1 (by omega)),aA (h 2 (by omega)),aA (h 3 (by omega))]
structure Down(w wx:World)(pb db ob:Nat)(P:Pool)(r o:Int)(N F:Nat->Int)(Y:Nat->Bool)(p l a:Nat)(P':Pool)(N':Nat->Int):Prop where
 al:a<=l
 pool:bB wx pb db ob P'
 tab:Tab P' r o N' F Y
 mv:dQ P P' o
 left:P'.left+(l-a)=P.left
 cnt:bY P'.O o P.n=bY P.O o P.n+(l-a)
 old:∀n,N n≠0->N' n=N n
 new:∀n,N' n≠0↔N n≠0\/∃j,a<j/\j<=l/\n=nd p j
 was:∀j,j<=a->N (nd p j)≠0
 gap:a<l->N (nd p (a+1))=0
 here:N' (nd p l)≠0
 kept:Kept (PS pb db ob) w wx
section
variable {w wx wy:World}{pb db ob:Nat}{P P':Pool}{r o:Int}{N N' F:Nat->Int}{Y:Nat->Bool}{p l a:Nat}
theorem Down.start(hP:bB w pb db ob P)(hT:Tab P r o N F Y):Down w w pb db ob P r o N F Y p 0 0 P N :=
 ⟨aj _,hP,hT,dQ.refl _ _,by omega,by omega,fun _ _=>rfl,fun n=>⟨.inl,fun h=>h.elim id (fun⟨j,h1,h2,_⟩=>absurd h1 (by omega))⟩,fun j hj=>by
  obtain rfl:j=0:=by omega
  show N 0≠0;rw[hT.root];exact hT.r0,fun h=>absurd h (by omega),by show N 0≠0;rw[hT.root];exact hT.r0,Kept.refl _ _⟩
theorem FP(p i j:Nat)(hp:p<4096)(hi:i<=3)(hj:j<=3)(h:nd p i=nd p j):i=j:=by
 obtain rfl|rfl|rfl|rfl:i=0\/i=1\/i=2\/i=3:=by omega
 all_goals obtain rfl|rfl|rfl|rfl:j=0\/j=1\/j=2\/j=3:=by omega
 all_goals simp only[nd]at h
 all_goals first|rfl|omega
theorem Tab.gap(hT:Tab P r o N F Y)(hp:p<4096)(i j:Nat)(hij:i<=j)(hj:j<=3)(h0:N (nd p i)=0):N (nd p j)=0:=by
 induction j with
 | zero =>
  obtain rfl:i=0:=by omega
  exact h0
 | succ j ih =>
  by_cases e:i=j+1
  ·rw[<-e];exact h0
  ·by_cases h:N (nd p (j+1))=0
   ·exact h
   ·have:=hT.up _ (xE p j) (jq p (j+1) hp) h
    rw[Di p j hp (by omega)]at this;exact absurd (ih (by omega) (by omega)) this
theorem Down.skip(h:Down w wx pb db ob P r o N F Y p l a P' N')(hT:Tab P r o N F Y)(hp:p<4096)(hl:l<3)(hc:N' (nd p (l+1))≠0):a=l/\Down w wx pb db ob P r o N F Y p (l+1) (l+1) P' N':=by
 have hN:N (nd p (l+1))≠0:=by
  rcases(h.new _).1 hc with h1|⟨j,h1,h2,h3⟩
  ·exact h1
  ·exact absurd (FP p _ _ hp (by omega) (by omega) h3) (by omega)
 have hal:a=l:=by
  have:=h.al;rcases Nat.lt_or_ge a l with h1|h1
  ·exact absurd (hT.gap hp (a+1) (l+1) (by omega) (by omega) (h.gap h1)) hN
  ·omega
 subst hal;refine⟨rfl,aj _,h.pool,h.tab,h.mv,by have:=h.left;omega,by have:=h.cnt;omega,h.old,fun n=>⟨fun hn=>?_,fun hn=>?_⟩,fun j hj=>?_,fun h=>absurd h (by omega),hc,h.kept⟩
 ·rcases(h.new n).1 hn with h1|⟨j,h1,h2,_⟩
  ·exact .inl h1
  ·omega
 ·rcases hn with h1|⟨j,h1,h2,_⟩
  ·exact(h.new n).2 (.inl h1)
  ·omega
 ·by_cases e:j=a+1
  ·rw[e];exact hN
  ·exact h.was j (by omega)
theorem Down.make(h:Down w wx pb db ob P r o N F Y p l a P' N')(hl:l<3)(hc:N' (nd p (l+1))=0)(t:Int)(ht:t≠0)
  (hT':Tab ((P'.alloc o).gI (N' (nd p l)) (p/8^(3-l)%8) (t*256+1)) r o (dU N' (nd p (l+1)) t) F Y) (hmv:dQ P' ((P'.alloc o).gI (N' (nd p l)) (p/8^(3-l)%8) (t*256+1)) o)
  (hll:((P'.alloc o).gI (N' (nd p l)) (p/8^(3-l)%8) (t*256+1)).left+1=P'.left) (hcc:bY ((P'.alloc o).gI (N' (nd p l)) (p/8^(3-l)%8) (t*256+1)).O o P'.n=bY P'.O o P'.n+1)
  (hP:bB wy pb db ob ((P'.alloc o).gI (N' (nd p l)) (p/8^(3-l)%8) (t*256+1))) (hK:Kept (PS pb db ob) wx wy) :
  Down w wy pb db ob P r o N F Y p (l+1) a ((P'.alloc o).gI (N' (nd p l)) (p/8^(3-l)%8) (t*256+1)) (dU N' (nd p (l+1)) t):=by
 have hal:=h.al
 have hN0:N (nd p (l+1))=0:=by
  by_cases e:N (nd p (l+1))=0
  ·exact e
  ·rw[h.old _ e]at hc;exact absurd hc e
 have Bj:=h.left;have aeU:=h.cnt;rw[h.mv.n]at hcc;refine⟨by omega,hP,hT',h.mv.trans hmv,by omega,by omega,fun n hn=>?_,fun n=>⟨fun hn=>?_,fun hn=>?_⟩,h.was,fun _=>?_,by rw[dZ];exact ht,h.kept.trans hK⟩
 ·rw[bL _ _ _ _ (by rintro rfl;exact hn hN0)];exact h.old n hn
 ·by_cases e:n=nd p (l+1)
  ·exact .inr ⟨l+1,by omega,aj _,e⟩
  ·rw[bL _ _ _ _ e]at hn
   rcases(h.new n).1 hn with h1|⟨j,h1,h2,h3⟩
   ·exact .inl h1
   ·exact .inr ⟨j,h1,by omega,h3⟩
 ·by_cases e:n=nd p (l+1)
  ·rw[e,dZ];exact ht
  ·rw[bL _ _ _ _ e]
   rcases hn with h1|⟨j,h1,h2,h3⟩
   ·exact(h.new n).2 (.inl h1)
   ·refine(h.new n).2 (.inr ⟨j,h1,?_,h3⟩)
    have:j≠l+1:=by rintro rfl;exact e h3
    omega
 ·by_cases e:a<l
  ·exact h.gap e
  ·obtain rfl:a=l:=by omega
   exact hN0
end
theorem AO{w w':World}{S:Nat->Prop}{base e size n:Nat}{v:Value}{xs:List Value}(h:w.ownsRow base e size v n xs)(hk:Kept S w w')(hS:∀k,S k->k<base):w'.ownsRow base e size v n xs:=by
 rcases h.2 with⟨h1,h2⟩|⟨g,cap,cur,h1,h2,h3,h4⟩
 ·exact⟨h.1,.inl ⟨h1,h2⟩⟩
 ·exact⟨h.1,.inr ⟨g,cap,cur,h1,h2,hk.blk (b:=g) h3 (fun e=>by have:=hS g e;omega),h4⟩⟩
theorem Down.grown{w wx w':World}{pb db ob:Nat}{P P':Pool}{r o:Int}{N N' F:Nat->Int}{Y:Nat->Bool}{p l a:Nat}{x:Obj}{row:Option Nat}(h:Down w wx pb db ob P r o N F Y p l a P' N')(hg:(wx.alloc x).grownBy w' row)(hP:bB w pb db ob P)(hr:∀k,row=some k->w.heap.size<=k) :
  Down w w' pb db ob P r o N F Y p l a P' N':=by
 have hs:=h.kept.size;have hb:Below w.heap.size (wx.alloc x) w':=⟨hg.os,hg.tape,hg.output,hg.size,fun k hk=>hg.block k (by simp;omega) (fun e=>by have:=hr k e.symm;omega)⟩;have hK:Kept (fun k=>w.heap.size<=k) wx w':=((Kept.refl _ wx).alloc x).trans ⟨hb.os,hb.tape,hb.output,hb.size,fun k _ hn=>hb.block k (by omega)⟩;have h1:=hP.hp.lt;have h2:=hP.hd.lt;have h3:=hP.ho.lt;exact⟨h.al,h.pool.kept hK (by omega) (by omega) (by omega),h.tab,h.mv,h.left,h.cnt,h.old,h.new,h.was,h.gap,h.here,⟨hK.os.trans h.kept.os,hK.tape.trans h.kept.tape,hK.output.trans h.kept.output,bD h.kept.size hK.size,fun k hk hn=>(hK.block k (by omega) (by omega)).trans (h.kept.block k hk hn)⟩⟩
structure BU(w w':World)(pb db ob:Nat)(P:Pool)(r o:Int)(N F:Nat->Int)(Y:Nat->Bool)(p:Nat)(f:Int)(b:Bool)(P':Pool)(N':Nat->Int):Prop where
 pool:bB w' pb db ob P'
 tab:Tab P' r o N' (dU F p f) (yV Y p b)
 mv:dQ P P' o
 left:P'.left+gL N p=P.left
 cnt:bY P'.O o P.n=bY P.O o P.n+gL N p
 old:∀n,N n≠0->N' n=N n
 new:∀n,N' n≠0↔N n≠0\/n=nd p 1\/n=nd p 2\/n=nd p 3
 kept:Kept (PS pb db ob) w w'
theorem DT(pb db ob:Nat)(P:Pool)(r o:Int)(N F:Nat->Int)(Y:Nat->Bool)(p:Nat)(f most:Int)(b:Bool)(w:World)(hP:bB w pb db ob P)(hT:Tab P r o N F Y)(hp:p<4096)
  (hf1:1<=f) (hf2:f<=4294967295) (hm:(gL N p:Int)<=most) (hl:gL N p<=P.left) :
  Calls Tryz.prog 322 #[.pointer (some ⟨pb,0,none⟩),.int .i64 r,.int .i64 p,.int .i64 f,.bool b,.int .u64 o,.int .i64 most] w fun e w' =>
   e=.returned (.tuple #[.int .i64 (gL N p:Nat),.bool true])/\∃P' N',BU w w' pb db ob P r o N F Y p f b P' N':=by
 have hro:P.owner r≠0:=by rw[hT.Cz];exact hT.o0
 have abK:(P.owner r==0)=false:=by simpa using hro
 have hpi:(p:Int)<4096:=by omega
 have HP:=ah hP;have HT:=ah hT;have Hm:=ah hm;have Hl:=ah hl;have hpn:=hP.hi;obtain⟨i0,hi,hz0,hz1,hz2⟩:=info_parts Bb;have Hi:=ah hi;have lJ:=ah hz0;have lI:=ah hz1;have kT:=ah hz2;clear hP hT hm hl hi hz0 hz1 hz2 hro;go_enter Tryz.func322,Tryz.ntmps322
 go_wp2_with fail
 refine(kE pb db ob P r _ HP.out).mono ?_;rintro e w' ⟨rfl,rfl⟩;go_wp2_with fail
 go_loopg [16,17,42] 3 (fun g mv at_ i wx=>∃(l a:Nat) (P':Pool) (N':Nat->Int) (xs:List Value),l+g=3/\i=.int .i64 l/\at_=.int .i64 (N' (nd p l))/\wx.ownsRow w.heap.size 3 1 mv (l-a) xs/\Down w wx pb db ob P r o N F Y p l a P' N')
 case atStart=>exact⟨0,0,P,N,[],rfl,rfl,by show Value.int .i64 r=.int .i64 (N 0);rw[HT.out.root],cu _ _ _ _,Down.start HP.out HT.out⟩
 case round =>
  obtain⟨l,a,P',N',xs,hg,rfl,rfl,hown,hD⟩:=hrel;have kZ:=ah hown;have HD:=ah hD;have hal:=hD.al;have Oc:=hD.kept.size;have Wm:=ah hD.pool;obtain⟨t,ht⟩:∃t,N' (nd p l)=t:=⟨_,rfl⟩;have hto:P'.owner t≠0:=by rw[<-ht,hD.tab.own _ (jq p l hp) hD.here];exact hD.tab.o0
  have VZ:=ah hto;clear hown hD hto;by_cases hl3:l<3
  ·have lF:(l:Int)<3:=by omega
   rw[ht];have Ht:=ah ht;clear ht;go_wp2_with fail
   refine(mh l p _ (by omega) hp).mono ?_;rintro e w' ⟨rfl,rfl⟩;obtain⟨i,hi⟩:∃i,p/8^(3-l)%8=i:=⟨_,rfl⟩;have hi8:i<8:=by omega
   rw[hi];have Xe:=ah hi;clear hi;go_wp2_with fail
   refine(nU pb db ob P' t i _ Wm.out VZ.out hi8).mono ?_;rintro e w2 ⟨rfl,hb2⟩;have hst:=HD.out.tab.step p l hp hl3 (by rw[Ht.out];have:=HD.out.here;rw[Ht.out]at this;exact this);rw[Ht.out,Xe.out]at hst;have uD:=ah (kZ.out.kept (row:=none) ⟨hb2.os,hb2.tape,hb2.output,hb2.size,fun b hb _=>hb2.block b hb⟩ (by by_cases h:u16.ownBlock=none;exact .inl h;exact .inr h))
   have HD2:Hid (Down w w2 pb db ob P r o N F Y p l a P' N') :=
    ⟨HD.out.al,HD.out.pool.below hb2,HD.out.tab,HD.out.mv,HD.out.left,HD.out.cnt,HD.out.old,HD.out.new,HD.out.was,HD.out.gap,HD.out.here,HD.out.kept.trans (Kept.of_below hb2)⟩
   have hsz2:=hb2.size;clear hb2 HD kZ Wm;by_cases hc:N' (nd p (l+1))=0
   ·rw[aD hc]at hst
    have xO:P'.n=P.n:=HD2.out.mv.n
    have rG:l-a<gL N p:=by
     have hN0:N (nd p (l+1))=0:=by
      by_cases e:N (nd p (l+1))=0
      ·exact e
      ·rw[HD2.out.old _ e]at hc;exact absurd hc e
     by_cases e:a<l
     ·rw[nN N p a (by omega) HD2.out.was (HD2.out.gap e)];omega
     ·obtain rfl:a=l:=by omega
      rw[nN N p a hl3 HD2.out.was hN0];omega
    have Bj:=HD2.out.left;have hpl:1<=P'.left:=by have:=Hl.out;omega
    have hh0:=HD2.out.here;have hcc:8*nd p l+1+p/8^(3-l)%8=nd p (l+1):=tC p l hp hl3;obtain⟨t',hr,ht1,ht2,hT',hmv,hll,hcn⟩:=HD2.out.tab.grow (nd p l) (p/8^(3-l)%8) (jq p l hp) (Nat.mod_lt _ (by omega)) hh0 (by rw[hcc];exact jq p (l+1) hp) (by rw[hcc];exact hc) hpl (by omega);rw[hcc]at hT';have Xm:=ah hT';have zq:=ah hmv;have Hll:=ah hll;have LJ:=ah hcn;have Hr:=ah hr;have Hc:=ah hc;have ht3:t'<=4096:=by omega
    have htb:(t'==0)=false:=by simp;omega
    have hor:bits .or .u64 (t'*256) 1=t'*256+1:=xA t' 1 (by omega) (by omega) (by omega) (by omega);have ha:bits .and .u64 0 1=0:=by decide
    have hlm:((l-a:Nat):Int)<most:=by have:=Hm.out;omega
    obtain⟨A,C,hA⟩:∃A C,u16=.slice A (l-a) C:=by
     rcases uD.out.2 with⟨e,h0⟩|⟨g,cap,cur,e,_⟩
     ·exact⟨none,0,by rw[e,h0]⟩
     ·exact⟨_,_,e⟩
    subst hA;obtain⟨c',hc'⟩:∃c',l-a=c':=⟨_,rfl⟩;rw[hc']at hlm rG ⊢;have EB:Hid (w2.ownsRow w.heap.size 3 1 (.slice A c' C) c' xs):=by have:=uD.out;rw[hc']at this;exact this
    have LK:=ah hc';have hc3:c'<=3:=by omega
    have Vb:IntKind.i64.wrap ((c':Int))=(c':Int):=aV _ (by omega);rw[hst];clear hst hc hT' hmv hll hcn hr hc' hcc hh0 uD hpl Bj rG xO Vb;go_wp2_with fail
    refine(jk pb db ob P' o _ HD2.out.pool).mono ?_;rintro e w3 ⟨rfl,hP3,hK3⟩;rw[Hr.out];have Qf:=ah hP3;have wM:=ah hK3
    have PO:Hid (w3.ownsRow w.heap.size 3 1 (.slice A c' C) c' xs):=AO EB.out hK3 (fun k hk=>by
     rcases hk with e|e|e<;>subst e
     ·exact HP.out.hp.lt
     ·exact HP.out.hd.lt
     ·exact HP.out.ho.lt)
    clear hP3 hK3;go_wp2_with fail
    all_goals
     refine(ow pb db ob _ t i (t'*256+1) _ Qf.out hi8 (by omega) (by omega)).mono ?_;rintro e w4 ⟨rfl,DK,hK4⟩
     have uz:=ah (AO PO.out hK4 (fun k hk=>by
      rcases hk with e|e|e<;>subst e
      ·exact HP.out.hp.lt
      ·exact HP.out.hd.lt
      ·exact HP.out.ho.lt))
     have XO:=bD (bD Oc hsz2) (bD wM.out.size hK4.size)
     have HD5:Hid (Down w w4 pb db ob P r o N F Y p (l+1) a ((P'.alloc o).gI (N' (nd p l)) (p/8^(3-l)%8) (t'*256+1)) (dU N' (nd p (l+1)) t')) :=
      HD2.out.make hl3 Hc.out t' (by omega) Xm.out zq.out Hll.out LJ.out (by rw[Ht.out,Xe.out];exact DK) (wM.out.trans hK4)
     clear DK hK4;go_wp2_with (at_builtin;refine wpList_append_own _ rfl _ _ 34 rfl w.heap.size 3 i0 (.int .i64 0) 1 8 Tryz.underlying34 Hi.out lJ.out lI.out kT.out rfl (by decide) _ _ _ rfl (uz.out.alloc _) ⟨w4.heap.size,0,none⟩ 1 1 [.int .i64 t'] rfl rfl (cell_one_new' _ _ _) (fun u hu=>by simp at hu;subst hu;rfl) (by unfold maxLen;omega) (by omega) (by simp;omega) ?_;intro v' w6 hown6 dN _)
     have HD6:=ah (HD5.out.grown (row:=(Value.slice A c' C).ownBlock) dN HP.out (fun k hk=>(uz.out.lt k hk).1));go_roundg (3-(l+1))
     case measure=>omega
     case rel=>exact⟨l+1,a,_,_,_,by omega,by go_num,by rw[dZ],by rw[show l+1-a=c'+1 by have:=LK.out;omega];exact hown6,HD6.out⟩
   ·rw[aA hc]at hst
    obtain⟨c1,c2⟩:=HD2.out.tab.bd _ (jq p (l+1) hp) hc;obtain⟨c,hcc⟩:∃c,N' (nd p (l+1))=c:=⟨_,rfl⟩;have xO:P'.n=P.n:=HD2.out.mv.n;obtain⟨e1,hD3⟩:=HD2.out.skip HT.out hp hl3 hc;rw[hcc]at hst c1 c2;have c3:c<=4096:=by omega
    have ha:bits .and .u64 (c*256+1) 1=1:=by rw[mM _ (by omega) (by omega)];omega
    have hd:(c*256+1)/256=c:=by omega
    rw[hst];have Jf:=ah hcc;have HD3:=ah hD3;subst e1;clear hst hcc hc hD3 xO;go_wp2_with fail
    go_roundg (3-(a+1))
    case measure=>omega
    case rel=>exact⟨a+1,a+1,P',N',xs,by omega,by go_num,by rw[Jf.out],by have:=uD.out;rw[Nat.sub_self]at this ⊢;exact this,HD3.out⟩
  ·obtain rfl:l=3:=by omega
   have hna:∀n,N' n≠0↔N n≠0\/n=nd p 1\/n=nd p 2\/n=nd p 3:=fun n=>by
    rw[HD.out.new n];constructor
    ·rintro(h|⟨j,h1,h2,h3⟩)
     ·exact .inl h
     ·right
      obtain rfl|rfl|rfl:j=1\/j=2\/j=3:=by omega
      ·exact .inl h3
      ·exact .inr (.inl h3)
      ·exact .inr (.inr h3)
    ·have key:∀j,1<=j->j<=3->n=nd p j->N n≠0\/∃j,a<j/\j<=3/\n=nd p j:=fun j h1 h2 h3=>by
      by_cases e:a<j
      ·exact .inr ⟨j,e,h2,h3⟩
      ·exact .inl (by rw[h3];exact HD.out.was j (by omega))
     rintro(h|h|h|h)
     ·exact .inl h
     ·exact key 1 (by omega) (by omega) h
     ·exact key 2 (by omega) (by omega) h
     ·exact key 3 (by omega) (by omega) h
   have rG:3-a=gL N p:=by
    by_cases e:a<3
    ·rw[nN N p a e HD.out.was (HD.out.gap e)]
    ·rw[xD N p (fun j hj=>HD.out.was j (by omega))];omega
   have Yl:nd p 3=73+p/8:=rfl;have hh:=HD.out.here;rw[Yl]at hh;obtain⟨hT',RB⟩:=HD.out.tab.told p hp hh f b (by omega) hf2;rw[aA (by omega)]at hT' RB;rw[<-Yl,ht]at hT' RB;have Xm:=ah hT';have Zp:=ah (HD.out.mv.trans RB);have Hna:=ah hna;have Jd:=ah rG
   obtain⟨A,C,hA⟩:∃A C,u16=.slice A (3-a) C:=by
    rcases kZ.out.2 with⟨e,h0⟩|⟨g,cap,cur,e,_⟩
    ·exact⟨none,0,by rw[e,h0]⟩
    ·exact⟨_,_,e⟩
   subst hA;rw[rG,ht];clear hT' RB hna rG hh ht;have hor:bits .or .u64 (f*256) 1=f*256+1:=xA f 1 (by omega) (by omega) (by omega) (by omega);have hor2:bits .or .u64 (f*256+1) 2=f*256+3:=QY f (by omega) hf2;have hi3:p/8^(3-3)%8=p%8:=by simp
   have Hi3:=ah hi3;clear hi3;have hn3:¬((3:Nat):Int)<3:=by omega
   have hwf:IntKind.u64.wrap f=f:=by rw[IntKind.wrap_u64];omega
   cases b
   ·have HT2:Hid (Tab (P'.gI t (p%8) (f*256+1)) r o N' (dU F p f) (yV Y p false)):=by show Tab _ _ _ _ _ _;have:=Xm.out;simpa using this
    have Wo:Hid (dQ P (P'.gI t (p%8) (f*256+1)) o):=by show dQ _ _ _;have:=Zp.out;simpa using this
    go_wp2_with fail
    refine(mh 3 p _ (by omega) hp).mono ?_;rintro e w' ⟨rfl,rfl⟩;rw[Hi3.out];go_wp2_with fail
    refine(ow pb db ob P' t (p%8) (f*256+1) _ Wm.out (by omega) (by omega) (by omega)).mono ?_;rintro e w4 ⟨rfl,DK,hK4⟩;have ZJ:=ah DK;have Ib:=ah (HD.out.kept.trans hK4);clear DK hK4;go_wp2_with fail
    go_ret2
    exact⟨rfl,_,N',ZJ.out,HT2.out,Wo.out,by unfold Pool.left;rw[pV,jT];have:=HD.out.left;have:=Jd.out;unfold Pool.left at *;omega,by rw[jT];have:=HD.out.cnt;have:=Jd.out;omega,HD.out.old,Hna.out,Ib.out⟩
   ·have HT2:Hid (Tab (P'.gI t (p%8) (f*256+3)) r o N' (dU F p f) (yV Y p true)):=by
     have:=Xm.out;rw[aD rfl,show f*256+1+2=f*256+3 by omega]at this;exact this
    have Wo:Hid (dQ P (P'.gI t (p%8) (f*256+3)) o):=by
     have:=Zp.out;rw[aD rfl,show f*256+1+2=f*256+3 by omega]at this;exact this
    go_wp2_with fail
    refine(mh 3 p _ (by omega) hp).mono ?_;rintro e w' ⟨rfl,rfl⟩;rw[Hi3.out];go_wp2_with fail
    refine(ow pb db ob P' t (p%8) (f*256+3) _ Wm.out (by omega) (by omega) (by omega)).mono ?_;rintro e w4 ⟨rfl,DK,hK4⟩;have ZJ:=ah DK;have Ib:=ah (HD.out.kept.trans hK4);clear DK hK4;go_wp2_with fail
    go_ret2
    exact⟨rfl,_,N',ZJ.out,HT2.out,Wo.out,by unfold Pool.left;rw[pV,jT];have:=HD.out.left;have:=Jd.out;unfold Pool.left at *;omega,by rw[jT];have:=HD.out.cnt;have:=Jd.out;omega,HD.out.old,Hna.out,Ib.out⟩
end Go.Proofs.YtiadbhiadhgjkaaGreatDoor
