import Derived.Test.YtiadbhiadhgjkaaGreatDoorZzKe
import Derived.StillTailTactics
set_option maxRecDepth 100000
set_option maxHeartbeats 1000000
namespace Go.Proofs.YtiadbhiadhgjkaaGreatDoor
open Go.RowKit
attribute [local irreducible] World.setCell World.alloc World.drew World.setRow Calls Code.wp
theorem uj(w:World)(b:Nat)(o:Ob)(s:Os)(mt:Int)(T:Value)(L:List Int)(hB:aR w b (jO o s mt T) 68)(hF:lC w (b+1) s.fr L)(h16:L.length<=16) :
  Calls Tryz.prog 84 #[.pointer (some ⟨b,0,none⟩)] w fun e w'=>e=.returned (.int .i64 (dH o.kind (L.length:Nat)))/\w=w':=by
 have hS:=ah (show iZ w b 16 (jO o s mt T) (b+1) s.fr L from⟨hB,rfl,hF,by omega,h16⟩);have c3:w.cell? ⟨b,3,none⟩=some (.int .i64 o.kind):=(hB.cell 3).trans rfl;clear hB hF;by_cases h2:o.kind=2
 ·rw[h2]at c3 ⊢
  go_enter Tryz.func84,Tryz.ntmps84
  go_wp2_with fail
  refine(nK b 16 _ _ _ L _ hS.out).mono ?_;rintro e w' ⟨rfl,rfl⟩;go_wp2_with fail
  go_ret;exact⟨rfl,rfl⟩
 ·have h2b:(o.kind==2)=false:=by simpa using h2
  by_cases h3:o.kind=3
  ·rw[h3]at c3 ⊢
   go_enter Tryz.func84,Tryz.ntmps84
   go_wp2_with fail
   go_ret;exact⟨rfl,rfl⟩
  ·have h3b:(o.kind==3)=false:=by simpa using h3
   have hc:dH o.kind (L.length:Nat)=1:=by unfold dH;rw[aA h2,aA h3]
   rw[hc];go_enter Tryz.func84,Tryz.ntmps84
   go_wp2_with fail
   go_ret;exact⟨rfl,rfl⟩
theorem kD{K K':Km}{h x:Ob}{kind:Int}{l:dn}{n count:Int}(e:K.place h kind l n count=.ok K' x) :
  (if kind=1 then 1+count else 1)<=h.names.left/\dH kind n+(if kind=1 then n else 0)<=h.purse.left/\dH kind n<=K.room/\h.kids.length<=1000000/\K.obj h.names.next=none /\
  K'={ (K.set (jo h kind l n count)).set (iW h kind n count)with room:=K.room-dH kind n }/\x=jo h kind l n count:=by
 unfold Km.place at e;by_cases q1:h.names.left<(if kind=1 then 1+count else 1)
 ·rw[aD q1]at e;cases e
 rw[aA q1]at e;by_cases q2:h.purse.left<dH kind n+(if kind=1 then n else 0)
 ·rw[aD q2]at e;cases e
 rw[aA q2]at e;by_cases q3:K.room<dH kind n\/1000000<h.kids.length\/(K.obj h.names.next).isSome
 ·rw[aD q3]at e;cases e
 rw[aA q3]at e;simp only[not_or]at q3;simp only[Zf.ok.injEq]at e;exact⟨by omega,by omega,by omega,by omega,by simpa using q3.2.2,e.1.symm,e.2.symm⟩
def uy(w:World)(g:Gh)(K':Km)(x:Ob)(e:Ending)(w':World):Prop:=∃g',e=.returned (.tuple #[.pointer (some ⟨g'.bl x.name,0,none⟩),.int .i64 0])/\cZ w' g' K'/\Inv g' K'/\Ext g g' w w'/\(∀n,n≠x.name->dO g g' n)/\(x.kind=3->g'.root x.name=0/\g'.tabs x.name=0)
theorem vK(w:World)(g:Gh)(K K':Km)(hm x:Ob)(kind:Int)(l:dn)(lv:Value)(n count:Int)(h:cZ w g K)(hI:Inv g K)(hh:K.obj hm.name=some hm)(hk:hm.kind=1)(hl:bU w lv l)(hok:fV l)
  (h1:kind≠1) (h2:kind≠2) (h3:kind≠3) (e:K.place hm kind l n count=.ok K' x) :
  Calls Tryz.prog 63 #[.pointer (some ⟨g.kb,0,none⟩),.pointer (some ⟨g.bl hm.name,0,none⟩),.int .i64 kind,lv,.int .i64 n,.int .i64 count] w fun e w' =>
   uy w g K' x e w':=by
 obtain⟨a1,a2,a3,a4,a5,rfl,rfl⟩:=kD e;have HA:=ah (And.intro a1 (And.intro a2 a3));rw[aA h1]at a1 a2;have hc1:dH kind n=1:=by unfold dH;rw[aA h2,aA h3]
 have hc0:dH kind ((0:Nat):Int)=1:=by unfold dH;rw[aA h2,aA h3]
 rw[hc1]at a2 a3;have b1:(kind==1)=false:=by simpa using h1
 have b2:(kind==2)=false:=by simpa using h2
 have b3:(kind==3)=false:=by simpa using h3
 obtain⟨ls,rfl,hls⟩:=hl;obtain⟨la,lc,rfl,-,-⟩:=aJ.form hls;have hco:=hI.cont _ _ hh hk;have hno:=hI.own;obtain⟨s,T,hO⟩:=h.at hh;have c2:=hO.name;have hblt:=hO.blk.lt;have H:=ah h;have HI:=ah hI;have HL:=ah hls;have HH:=ah hh;have HO:=ah hO;have HC:=ah hco;have H1:=ah h1;have H2:=ah h2;have H3:=ah h3;clear h hI hls e h1 h2 h3 hco hO hno;go_enter Tryz.func63,Tryz.ntmps63
 go_wp2_with fail
 go_region
 go_wp2_with fail
 refine mq fun w2 hw2=>?_
 generalize hxb:w.heap.size+1=xb;have hb2:Below w.heap.size w w2:=by rw[hw2];exact(((aC _ w).alloc (aj _) _).alloc (by simp) _).drew
 have HM:Hid (Mk w w2 g g K xb (ob0 0 kind l hm.name) ⟨.slice none 0 0,.slice none 0 0,.slice none 0 0,.slice none 0 0,.slice la l.ps.length lc,.slice none 0 0,.slice none 0 0,fun _=>.slice none 0 0,0⟩ 0 (.pointer none) 0) :=
  ⟨H.out.below hb2,Ext.below hb2,by
   rw[hw2,<-hxb,<-au w (.cells #[.int .i64 (l.d:Nat),.slice la l.ps.length lc] 43)];exact((aR.new _ _ _).drew).cells rfl,aJ.below HL.out hb2 (aj _),H.out.kS _ (by omega),fun q=>absurd rfl q⟩
 have qX:=ah (HO.out.below hb2);clear hw2 hb2 c2 hblt;have lG:=uj _ _ _ _ _ _ [] HM.out.blk (.inl ⟨rfl,rfl⟩) (by simp);rw[show dH (ob0 0 kind l hm.name).kind (([]:List Int).length:Nat)=1 from hc0]at lG;refine lG.mono ?_;rintro e w' ⟨rfl,rfl⟩;clear lG;obtain⟨c12,c13,c14⟩:=qX.out.names;go_wp2_with fail
 refine(lW hm.names _ HC.out.names).mono ?_;rintro e w3 ⟨rfl,hb3⟩;have uH:=ah (HM.out.below hb3);have BO:=ah (qX.out.below hb3);have q1:¬hm.names.left<1:=by omega
 clear hb3 c12 c13 c14 HM qX;obtain⟨c9,c10,c11⟩:=BO.out.purse;go_wp2_with fail
 refine(lX hm.purse _ HC.out.sm).mono ?_;rintro e w4 ⟨rfl,hb4⟩;have Qh:=ah (uH.out.below hb4);have BN:=ah (BO.out.below hb4);have q2:¬hm.purse.left<1:=by omega
 clear hb4 c9 c10 c11 uH BO;go_wp2_with fail
 refine(qL hm.names _ 12 _ _ _ BN.out.blk (lZ _ _ _ _) HC.out.names a1).mono ?_;rintro e w5 ⟨rfl,hP⟩;have hn1:(K.set (hm.bR ⟨hm.names.lo,hm.names.next+1,hm.names.hi⟩)).obj hm.name=some (hm.bR ⟨hm.names.lo,hm.names.next+1,hm.names.hi⟩):=aD rfl;have BQ:=ah (Qh.out.names hh BN.out hP);clear hP;have x2:w5.cell? ⟨xb,2,none⟩=some (.int .u64 0):=(BQ.out.blk.cell 2).trans rfl;have f2:w5.frozen? ⟨xb,2,none⟩=false:=BQ.out.blk.free 2;have BP:=ah (BQ.out.sO (x':=(ob0 0 kind l hm.name).fP hm.names.next) 2 (.int .u64 hm.names.next) rfl ⟨rfl,rfl⟩ (by omega));obtain⟨s6,T6,Iw⟩:=BP.out.kin.at hn1;have sK:=ah Iw;clear Iw;go_wp2_with fail
 refine(nI hm.purse _ _ 9 _ _ _ sK.out.blk (kF _ _ _ _) HC.out.sm ⟨by omega,by omega⟩).mono ?_;rintro e w7 ⟨rfl,hP⟩;have Qg:=ah (BP.out.purse hn1 sK.out hP);clear hP x2 f2 Qh BN BQ
 have Hg:Hid (Mk w w7 g g (K.set ((hm.bR ⟨hm.names.lo,hm.names.next+1,hm.names.hi⟩).dB ⟨hm.purse.lim,hm.purse.used+1,hm.purse.given⟩)) xb ((ob0 0 kind l hm.name).fP hm.names.next) (fJ fB (.slice la l.ps.length lc)) 0 (.pointer none) 0):=by
  rw[<-Km.set_set K (hm.bR ⟨hm.names.lo,hm.names.next+1,hm.names.hi⟩) ((hm.bR ⟨hm.names.lo,hm.names.next+1,hm.names.hi⟩).dB ⟨hm.purse.lim,hm.purse.used+1,hm.purse.given⟩) rfl];exact Qg.out
 clear Qg BP sK;obtain⟨kc0,kc1⟩:=Hg.out.kin.iV;have x2:w7.cell? ⟨xb,2,none⟩=some (.int .u64 hm.names.next):=(Hg.out.blk.cell 2).trans rfl;have Jh:=ah (Hg.out.below ((aC _ w7).drew))
 have qK:Hid (∀wz,wz=w7.drew->Calls Tryz.prog 38 #[.pointer (some ⟨g.pb,0,none⟩),.int .u64 hm.names.next] wz fun e w'=>∃v,e=.returned v/\(v=.int .i64 (g.P.bJ hm.names.next)/\Mk w w' g { g with P:=g.P.alloc hm.names.next } (K.set ((hm.bR ⟨hm.names.lo,hm.names.next+1,hm.names.hi⟩).dB ⟨hm.purse.lim,hm.purse.used+1,hm.purse.given⟩)) xb ((ob0 0 kind l hm.name).fP hm.names.next) (fJ fB (.slice la l.ps.length lc)) 0 (.pointer none) 0)):=fun wz ez=>by
  rw[ez];refine(jk g.pb g.db g.ob g.P hm.names.next _ Jh.out.kin.pool).mono ?_;rintro e w' ⟨rfl,h1,h2⟩;exact⟨_,rfl,rfl,Jh.out.pool h1 h2⟩
 go_wp2_with fail
 go_region_law (refine cB (by rfl) (bP (vs:=#[.pointer (some ⟨g.pb,0,none⟩),.int .u64 hm.names.next]) (by simp[Act.eval]) (bE Tryz.func38 (by kernel_rfl) rfl)) (qK.out _ (by first|rfl|exact drew_eq w7)) ?_;rintro v w9 ⟨rfl,hm9⟩;have x8:w9.cell? ⟨xb,8,none⟩=some (.int .i64 0):=(hm9.blk.cell 8).trans rfl;have f8:w9.frozen? ⟨xb,8,none⟩=false:=hm9.blk.free 8)
 all_goals
  have lu:=ah (hm9.sO (x':=(ob0 0 kind l hm.name).fP hm.names.next) (WM:=g.P.bJ hm.names.next) 8 (.int .i64 (g.P.bJ hm.names.next)) rfl ⟨rfl,rfl⟩ (by omega));obtain⟨kc2,-⟩:=lu.out.kin.iV;clear hm9 x8 f8 kc0 kc1 x2;go_wp2_with fail
  have hpb:=lu.out.kin.pool.hp.lt;have hdb:=lu.out.kin.pool.hd.lt;have ru:=lu.out.kin.pool.ho.lt
  have hKn:(K.set ((hm.bR ⟨hm.names.lo,hm.names.next+1,hm.names.hi⟩).dB ⟨hm.purse.lim,hm.purse.used+1,hm.purse.given⟩)).obj hm.names.next=none:=by
   rw[Km.aI _ _ (fun e=>by rw[e]at a5;rw[show K.obj ((hm.bR ⟨hm.names.lo,hm.names.next+1,hm.names.hi⟩).dB ⟨hm.purse.lim,hm.purse.used+1,hm.purse.given⟩).name=some hm from hh]at a5;cases a5)];exact a5
  obtain⟨k1,k2,k3⟩:=lu.out.enter (tb:=0) ⟨rfl,rfl,rfl,rfl,rfl,rfl⟩ (by show 0<hm.names.next;have:=HC.out.next;omega) hok hKn (fun b i e=>by
   rcases HI.out.own b _ i e with e1|⟨o,e1⟩
   ·have:=HC.out.next
    have e2:hm.names.next=0:=e1;omega
   ·rw[show K.obj ((ob0 0 kind l hm.name).fP hm.names.next).name=none from a5]at e1;cases e1) (.inl ⟨rfl,rfl⟩) (fun c hc=>by cases hc) (fun e3=>absurd e3 H3.out) (fun _=>rfl) ⟨by have:=H.out.pool.hp.lt;show g.pb<xb;omega,by have:=H.out.pool.hd.lt;show g.db<xb;omega,by have:=H.out.pool.ho.lt;show g.ob<xb;omega⟩ (by omega)
  have hadd:=wK _ _ _ k1 _ ((hm.bR ⟨hm.names.lo,hm.names.next+1,hm.names.hi⟩).dB ⟨hm.purse.lim,hm.purse.used+1,hm.purse.given⟩) k2 hKn (Km.dz K _) hk a4;rw[show(Gh.add _ _ _ _ _ _ _ _).bl _=xb from aD rfl]at hadd;refine hadd.mono ?_;clear hadd;rintro e w12 ⟨rfl,b,f1,f2⟩;go_wp2_with fail
  go_ret2
  have hx0:(ob0 0 kind l hm.name).fP hm.names.next=jo hm kind l n count:=by unfold jo;rw[aA H1.out,aA H2.out,aA H1.out];rfl
  have hh0:({ ((hm.bR ⟨hm.names.lo,hm.names.next+1,hm.names.hi⟩).dB ⟨hm.purse.lim,hm.purse.used+1,hm.purse.given⟩)with kids:=((hm.bR ⟨hm.names.lo,hm.names.next+1,hm.names.hi⟩).dB ⟨hm.purse.lim,hm.purse.used+1,hm.purse.given⟩).kids++[((ob0 0 kind l hm.name).fP hm.names.next).name] }:Ob)=iW hm kind n count:=by unfold iW;rw[aA H1.out,aA H1.out,hc1];rfl
  rw[hh0,hx0]at f1;obtain⟨m1,m2,m3⟩:=kQ g.P hm.names.next (by have:=HC.out.next;omega) (by have:=HI.out.room;have:=nD HI.out;omega)
  obtain⟨r1,r2⟩:=oF (h2:=(hm.bR ⟨hm.names.lo,hm.names.next+1,hm.names.hi⟩).dB ⟨hm.purse.lim,hm.purse.used+1,hm.purse.given⟩) HI.out hh hk (fun q=>absurd q (not_or.2 ⟨H1.out,H2.out⟩)) (fun q=>absurd q H1.out) HA.out.1 HA.out.2.1 HA.out.2.2 a5 rfl f1 m1 (fun m hm'=>⟨aA hm',aA hm',aA hm',aA hm',aA hm',aA hm'⟩) ⟨rfl,rfl,rfl⟩ ⟨rfl,rfl,rfl⟩ (fun c m i e=>by
    rw[Gh.jm]at e;split at e
    ·cases e;exact .inr (.inr rfl)
    ·have e':(if c=xb then some (hm.names.next,0)else if fB.ownBlock=some c then some (hm.names.next,3)else if _/\c=0 then some (hm.names.next,10)else g.A c)=some (m,i):=e
     split at e'
     ·cases e';exact .inr (.inl rfl)
     split at e'
     ·cases e';exact .inr (.inl rfl)
     split at e'
     ·cases e';exact .inr (.inl rfl)
     ·exact .inl e') (fun q=>absurd q H2.out) (fun _=>aD rfl) (fun q=>absurd q H3.out) (by
    show(if decide (kind=3)=true then _ else _)=_
    rw[aA (by simpa using H3.out),aA H3.out]) (by rw[aA H2.out];show((g.P.alloc hm.names.next).left:Int)+1=_;omega)
  refine⟨_,?_,r1,r2,k3.trans f2,fun m hm'=>⟨aA hm',aA hm',aA hm',aA hm',aA hm',aA hm'⟩,fun q=>absurd q H3.out⟩;show Ending.returned (.tuple #[.pointer (some ⟨xb,0,none⟩),.int .i64 0])=Ending.returned (.tuple #[.pointer (some ⟨if hm.names.next=hm.names.next then xb else _,0,none⟩),.int .i64 0])
  rw[aD rfl]
theorem JV(w:World)(g:Gh)(K K':Km)(hm x:Ob)(l:dn)(lv:Value)(n count:Int)(h:cZ w g K)(hI:Inv g K)(hh:K.obj hm.name=some hm)(hk:hm.kind=1)(hl:bU w lv l)(hok:fV l)
  (e:K.place hm 3 l n count=.ok K' x) :
  Calls Tryz.prog 63 #[.pointer (some ⟨g.kb,0,none⟩),.pointer (some ⟨g.bl hm.name,0,none⟩),.int .i64 3,lv,.int .i64 n,.int .i64 count] w fun e w' =>
   uy w g K' x e w':=by
 obtain⟨a1,a2,a3,a4,a5,rfl,rfl⟩:=kD e;have HA:=ah (And.intro a1 (And.intro a2 a3));rw[aA (by decide)]at a1 a2;have hc1:dH 3 n=9:=rfl;have hc0:dH 3 ((0:Nat):Int)=9:=rfl;rw[hc1]at a2 a3;obtain⟨ls,rfl,hls⟩:=hl;obtain⟨la,lc,rfl,-,-⟩:=aJ.form hls;have hco:=hI.cont _ _ hh hk;have hno:=hI.own;obtain⟨s,T,hO⟩:=h.at hh;have c2:=hO.name;have hblt:=hO.blk.lt;have H:=ah h;have HI:=ah hI;have HL:=ah hls;have HH:=ah hh;have HO:=ah hO;have HC:=ah hco;clear h hI hls e hco hO hno;go_enter Tryz.func63,Tryz.ntmps63
 go_wp2_with fail
 go_region
 go_wp2_with fail
 refine mq fun w2 hw2=>?_
 generalize hxb:w.heap.size+1=xb;have hb2:Below w.heap.size w w2:=by rw[hw2];exact((((aC _ w).alloc (aj _) _).alloc (by simp) _).alloc (by simp;omega) _).drew
 have HM:Hid (Mk w w2 g g K xb (ob0 0 3 l hm.name) ⟨.slice none 0 0,.slice none 0 0,.slice none 0 0,.slice none 0 0,.slice la l.ps.length lc,.slice none 0 0,.slice none 0 0,fun _=>.slice none 0 0,0⟩ 0 (.pointer (some ⟨xb+1,0,none⟩)) (xb+1)) :=
  ⟨H.out.below hb2,Ext.below hb2,by
   rw[hw2,<-hxb,<-au w (.cells #[.int .i64 (l.d:Nat),.slice la l.ps.length lc] 43)];exact((aR.new _ _ _).alloc _).drew.cells rfl,aJ.below HL.out hb2 (aj _),H.out.kS _ (by omega),fun _=>⟨by
   have e:=(aR.new ((w.alloc (.cells #[.int .i64 (l.d:Nat),.slice la l.ps.length lc] 43)).alloc (.cells (jO (ob0 0 3 l hm.name) ⟨.slice none 0 0,.slice none 0 0,.slice none 0 0,.slice none 0 0,.slice la l.ps.length lc,.slice none 0 0,.slice none 0 0,fun _=>.slice none 0 0,0⟩ 0 (.pointer (some ⟨w.heap.size+1+1,0,none⟩))) 68)) (jw th0 Gp 0 0) 52).drew;rw[au,au]at e;rw[hw2,<-hxb];exact e,H.out.kS _ (by omega),by omega,by omega⟩⟩
 have qX:=ah (HO.out.below hb2);clear hw2 hb2 c2 hblt;have lG:=uj _ _ _ _ _ _ [] HM.out.blk (.inl ⟨rfl,rfl⟩) (by simp);rw[show dH (ob0 0 3 l hm.name).kind (([]:List Int).length:Nat)=9 from hc0]at lG;refine lG.mono ?_;rintro e w' ⟨rfl,rfl⟩;clear lG;obtain⟨c12,c13,c14⟩:=qX.out.names;go_wp2_with fail
 refine(lW hm.names _ HC.out.names).mono ?_;rintro e w3 ⟨rfl,hb3⟩;have uH:=ah (HM.out.below hb3);have BO:=ah (qX.out.below hb3);have q1:¬hm.names.left<1:=by omega
 clear hb3 c12 c13 c14 HM qX;obtain⟨c9,c10,c11⟩:=BO.out.purse;go_wp2_with fail
 refine(lX hm.purse _ HC.out.sm).mono ?_;rintro e w4 ⟨rfl,hb4⟩;have Qh:=ah (uH.out.below hb4);have BN:=ah (BO.out.below hb4);have q2:¬hm.purse.left<9:=by omega
 clear hb4 c9 c10 c11 uH BO;go_wp2_with fail
 refine(qL hm.names _ 12 _ _ _ BN.out.blk (lZ _ _ _ _) HC.out.names a1).mono ?_;rintro e w5 ⟨rfl,hP⟩;have hn1:(K.set (hm.bR ⟨hm.names.lo,hm.names.next+1,hm.names.hi⟩)).obj hm.name=some (hm.bR ⟨hm.names.lo,hm.names.next+1,hm.names.hi⟩):=aD rfl;have BQ:=ah (Qh.out.names hh BN.out hP);clear hP;have x2:w5.cell? ⟨xb,2,none⟩=some (.int .u64 0):=(BQ.out.blk.cell 2).trans rfl;have f2:w5.frozen? ⟨xb,2,none⟩=false:=BQ.out.blk.free 2;have BP:=ah (BQ.out.sO (x':=(ob0 0 3 l hm.name).fP hm.names.next) 2 (.int .u64 hm.names.next) rfl ⟨rfl,rfl⟩ (by omega));obtain⟨s6,T6,Iw⟩:=BP.out.kin.at hn1;have sK:=ah Iw;clear Iw;go_wp2_with fail
 refine(nI hm.purse _ _ 9 _ _ _ sK.out.blk (kF _ _ _ _) HC.out.sm ⟨by omega,by omega⟩).mono ?_;rintro e w7 ⟨rfl,hP⟩;have Qg:=ah (BP.out.purse hn1 sK.out hP);clear hP x2 f2 Qh BN BQ
 have Hg:Hid (Mk w w7 g g (K.set ((hm.bR ⟨hm.names.lo,hm.names.next+1,hm.names.hi⟩).dB ⟨hm.purse.lim,hm.purse.used+9,hm.purse.given⟩)) xb ((ob0 0 3 l hm.name).fP hm.names.next) (fJ fB (.slice la l.ps.length lc)) 0 (.pointer (some ⟨xb+1,0,none⟩)) (xb+1)):=by
  rw[<-Km.set_set K (hm.bR ⟨hm.names.lo,hm.names.next+1,hm.names.hi⟩) ((hm.bR ⟨hm.names.lo,hm.names.next+1,hm.names.hi⟩).dB ⟨hm.purse.lim,hm.purse.used+9,hm.purse.given⟩) rfl];exact Qg.out
 clear Qg BP sK;obtain⟨kc0,kc1⟩:=Hg.out.kin.iV;have x2:w7.cell? ⟨xb,2,none⟩=some (.int .u64 hm.names.next):=(Hg.out.blk.cell 2).trans rfl;have Jh:=ah (Hg.out.below ((aC _ w7).drew))
 have qK:Hid (∀wz,wz=w7.drew->Calls Tryz.prog 38 #[.pointer (some ⟨g.pb,0,none⟩),.int .u64 hm.names.next] wz fun e w'=>∃v,e=.returned v/\(v=.int .i64 (g.P.bJ hm.names.next)/\Mk w w' g { g with P:=g.P.alloc hm.names.next } (K.set ((hm.bR ⟨hm.names.lo,hm.names.next+1,hm.names.hi⟩).dB ⟨hm.purse.lim,hm.purse.used+9,hm.purse.given⟩)) xb ((ob0 0 3 l hm.name).fP hm.names.next) (fJ fB (.slice la l.ps.length lc)) 0 (.pointer (some ⟨xb+1,0,none⟩)) (xb+1))):=fun wz ez=>by
  rw[ez];refine(jk g.pb g.db g.ob g.P hm.names.next _ Jh.out.kin.pool).mono ?_;rintro e w' ⟨rfl,h1,h2⟩;exact⟨_,rfl,rfl,Jh.out.pool h1 h2⟩
 go_wp2_with fail
 go_region_law (refine cB (by rfl) (bP (vs:=#[.pointer (some ⟨g.pb,0,none⟩),.int .u64 hm.names.next]) (by simp[Act.eval]) (bE Tryz.func38 (by kernel_rfl) rfl)) (qK.out _ (by first|rfl|exact drew_eq w7)) ?_;rintro v w9 ⟨rfl,hm9⟩;have x8:w9.cell? ⟨xb,8,none⟩=some (.int .i64 0):=(hm9.blk.cell 8).trans rfl;have f8:w9.frozen? ⟨xb,8,none⟩=false:=hm9.blk.free 8)
 all_goals
  have lu:=ah (hm9.sO (x':=(ob0 0 3 l hm.name).fP hm.names.next) (WM:=g.P.bJ hm.names.next) 8 (.int .i64 (g.P.bJ hm.names.next)) rfl ⟨rfl,rfl⟩ (by omega));obtain⟨kc2,-⟩:=lu.out.kin.iV;clear hm9 x8 f8 kc0 kc1 x2;go_wp2_with fail
  have hpb:=lu.out.kin.pool.hp.lt;have hdb:=lu.out.kin.pool.hd.lt;have ru:=lu.out.kin.pool.ho.lt
  have hKn:(K.set ((hm.bR ⟨hm.names.lo,hm.names.next+1,hm.names.hi⟩).dB ⟨hm.purse.lim,hm.purse.used+9,hm.purse.given⟩)).obj hm.names.next=none:=by
   rw[Km.aI _ _ (fun e=>by rw[e]at a5;rw[show K.obj ((hm.bR ⟨hm.names.lo,hm.names.next+1,hm.names.hi⟩).dB ⟨hm.purse.lim,hm.purse.used+9,hm.purse.given⟩).name=some hm from hh]at a5;cases a5)];exact a5
  obtain⟨k1,k2,k3⟩:=lu.out.enter (tb:=xb+1) ⟨rfl,rfl,rfl,rfl,rfl,rfl⟩ (by show 0<hm.names.next;have:=HC.out.next;omega) hok hKn (fun b i e=>by
   rcases HI.out.own b _ i e with e1|⟨o,e1⟩
   ·have:=HC.out.next
    have e2:hm.names.next=0:=e1;omega
   ·rw[show K.obj ((ob0 0 3 l hm.name).fP hm.names.next).name=none from a5]at e1;cases e1) (.inl ⟨rfl,rfl⟩) (fun c hc=>by cases hc) (fun _=>⟨rfl,by omega,rfl,rfl⟩) (fun e3=>absurd rfl e3) ⟨by have:=H.out.pool.hp.lt;show g.pb<xb;omega,by have:=H.out.pool.hd.lt;show g.db<xb;omega,by have:=H.out.pool.ho.lt;show g.ob<xb;omega⟩ (by omega)
  have hadd:=wK _ _ _ k1 _ ((hm.bR ⟨hm.names.lo,hm.names.next+1,hm.names.hi⟩).dB ⟨hm.purse.lim,hm.purse.used+9,hm.purse.given⟩) k2 hKn (Km.dz K _) hk a4;rw[show(Gh.add _ _ _ _ _ _ _ _).bl _=xb from aD rfl]at hadd;refine hadd.mono ?_;clear hadd;rintro e w12 ⟨rfl,b,f1,f2⟩;go_wp2_with fail
  go_ret2
  have hx0:(ob0 0 3 l hm.name).fP hm.names.next=jo hm 3 l n count:=rfl;have hh0:({ ((hm.bR ⟨hm.names.lo,hm.names.next+1,hm.names.hi⟩).dB ⟨hm.purse.lim,hm.purse.used+9,hm.purse.given⟩)with kids:=((hm.bR ⟨hm.names.lo,hm.names.next+1,hm.names.hi⟩).dB ⟨hm.purse.lim,hm.purse.used+9,hm.purse.given⟩).kids++[((ob0 0 3 l hm.name).fP hm.names.next).name] }:Ob)=iW hm 3 n count:=rfl;rw[hh0,hx0]at f1;obtain⟨m1,m2,m3⟩:=kQ g.P hm.names.next (by have:=HC.out.next;omega) (by have:=HI.out.room;have:=nD HI.out;omega)
  obtain⟨r1,r2⟩:=oF (h2:=(hm.bR ⟨hm.names.lo,hm.names.next+1,hm.names.hi⟩).dB ⟨hm.purse.lim,hm.purse.used+9,hm.purse.given⟩) HI.out hh hk (fun q=>absurd q (by decide)) (fun q=>absurd q (by decide)) HA.out.1 HA.out.2.1 HA.out.2.2 a5 rfl f1 m1 (fun m hm'=>⟨aA hm',aA hm',aA hm',aA hm',aA hm',aA hm'⟩) ⟨rfl,rfl,rfl⟩ ⟨rfl,rfl,rfl⟩ (fun c m i e=>by
    rw[Gh.jm]at e;split at e
    ·cases e;exact .inr (.inr rfl)
    ·have e':(if c=xb then some (hm.names.next,0)else if fB.ownBlock=some c then some (hm.names.next,3)else if _/\c=xb+1 then some (hm.names.next,10)else g.A c)=some (m,i):=e
     split at e'
     ·cases e';exact .inr (.inl rfl)
     split at e'
     ·cases e';exact .inr (.inl rfl)
     split at e'
     ·cases e';exact .inr (.inl rfl)
     ·exact .inl e') (fun q=>absurd q (by decide)) (fun _=>aD rfl) (fun _=>⟨aD rfl,aD rfl⟩) (by
    rfl) (by rw[aA (by decide)];show((g.P.alloc hm.names.next).left:Int)+1=_;omega)
  refine⟨_,?_,r1,r2,k3.trans f2,fun m hm'=>⟨aA hm',aA hm',aA hm',aA hm',aA hm',aA hm'⟩,fun _=>⟨aD rfl,aD rfl⟩⟩;show Ending.returned (.tuple #[.pointer (some ⟨xb,0,none⟩),.int .i64 0])=Ending.returned (.tuple #[.pointer (some ⟨if hm.names.next=hm.names.next then xb else _,0,none⟩),.int .i64 0])
  rw[aD rfl]
end Go.Proofs.YtiadbhiadhgjkaaGreatDoor
