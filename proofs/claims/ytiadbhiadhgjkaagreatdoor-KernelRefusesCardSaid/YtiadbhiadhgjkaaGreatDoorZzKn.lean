import Derived.Test.YtiadbhiadhgjkaaGreatDoorZzKc
import Derived.Test.YtiadbhiadhgjkaaGreatDoorZzWoRr
import Derived.Test.YtiadbhiadhgjkaaGreatDoorZzKf
set_option maxRecDepth 100000
set_option maxHeartbeats 1000000
namespace Go.Proofs.YtiadbhiadhgjkaaGreatDoor
open Go.RowKit
attribute [local irreducible] World.setCell World.alloc World.drew World.setRow Calls Code.wp
theorem FE(w:World)(g:Gh)(K K':Km)(hm x:Ob)(l:dn)(lv:Value)(n count:Int)(h:cZ w g K)(hI:Inv g K)(hh:K.obj hm.name=some hm)(hk:hm.kind=1)(hl:bU w lv l)(hok:fV l)
  (hn:0<=n) (hc:0<=count) (e:K.place hm 1 l n count=.ok K' x) :
  Calls Tryz.prog 63 #[.pointer (some ⟨g.kb,0,none⟩),.pointer (some ⟨g.bl hm.name,0,none⟩),.int .i64 1,lv,.int .i64 n,.int .i64 count] w fun e w' =>
   uy w g K' x e w':=by
 obtain⟨a1,a2,a3,a4,a5,rfl,rfl⟩:=kD e;rw[aD rfl]at a1 a2;have hc1:dH 1 n=1:=rfl;have hc0:dH 1 ((0:Nat):Int)=1:=rfl;rw[hc1]at a2 a3;obtain⟨ls,rfl,hls⟩:=hl;obtain⟨la,lc,rfl,-,-⟩:=aJ.form hls;have hco:=hI.cont _ _ hh hk;have hno:=hI.own;obtain⟨s,T,hO⟩:=h.at hh;have c2:=hO.name;have hblt:=hO.blk.lt;have H:=ah h;have HI:=ah hI;have HL:=ah hls;have HH:=ah hh;have HO:=ah hO;have HC:=ah hco;have hcb:count<=4194304:=by have:=hco.names.hi;have:=hco.names.next;unfold rT.left at a1;omega
 have hnb:n<=1099511627776:=by have:=hco.lim;have:=hco.used;have:=hco.given;unfold iC.left at a2;omega
 clear h hI hls e hco hO hno;go_enter Tryz.func63,Tryz.ntmps63
 go_wp2_with fail
 go_region
 go_wp2_with fail
 refine mq fun w2 hw2=>?_
 generalize hxb:w.heap.size+1=xb;have hb2:Below w.heap.size w w2:=by rw[hw2];exact(((aC _ w).alloc (aj _) _).alloc (by simp) _).drew
 have HM:Hid (Mk w w2 g g K xb (ob0 0 1 l hm.name) ⟨.slice none 0 0,.slice none 0 0,.slice none 0 0,.slice none 0 0,.slice la l.ps.length lc,.slice none 0 0,.slice none 0 0,fun _=>.slice none 0 0,0⟩ 0 (.pointer none) 0) :=
  ⟨H.out.below hb2,Ext.below hb2,by
   rw[hw2,<-hxb,<-au w (.cells #[.int .i64 (l.d:Nat),.slice la l.ps.length lc] 43)];exact((aR.new _ _ _).drew).cells rfl,aJ.below HL.out hb2 (aj _),H.out.kS _ (by omega),fun q=>absurd rfl q⟩
 have qX:=ah (HO.out.below hb2);clear hw2 hb2 c2 hblt;have lG:=uj _ _ _ _ _ _ [] HM.out.blk (.inl ⟨rfl,rfl⟩) (by simp);rw[show dH (ob0 0 1 l hm.name).kind (([]:List Int).length:Nat)=1 from hc0]at lG;refine lG.mono ?_;rintro e w' ⟨rfl,rfl⟩;clear lG;obtain⟨c12,c13,c14⟩:=qX.out.names;go_wp2_with fail
 refine(lW hm.names _ HC.out.names).mono ?_;rintro e w3 ⟨rfl,hb3⟩;have uH:=ah (HM.out.below hb3);have BO:=ah (qX.out.below hb3);have q1:¬hm.names.left<1+count:=by omega
 clear hb3 c12 c13 c14 HM qX;obtain⟨c9,c10,c11⟩:=BO.out.purse;go_wp2_with fail
 refine(lX hm.purse _ HC.out.sm).mono ?_;rintro e w4 ⟨rfl,hb4⟩;have Qh:=ah (uH.out.below hb4);have BN:=ah (BO.out.below hb4);have q2:¬hm.purse.left<1+n:=by omega
 clear hb4 c9 c10 c11 uH BO;go_wp2_with fail
 refine(qL hm.names _ 12 _ _ _ BN.out.blk (lZ _ _ _ _) HC.out.names (by omega)).mono ?_;rintro e w5 ⟨rfl,hP⟩;have hn1:(K.set (hm.bR ⟨hm.names.lo,hm.names.next+1,hm.names.hi⟩)).obj hm.name=some (hm.bR ⟨hm.names.lo,hm.names.next+1,hm.names.hi⟩):=aD rfl;have BQ:=ah (Qh.out.names hh BN.out hP);clear hP;have x2:w5.cell? ⟨xb,2,none⟩=some (.int .u64 0):=(BQ.out.blk.cell 2).trans rfl;have f2:w5.frozen? ⟨xb,2,none⟩=false:=BQ.out.blk.free 2;have BP:=ah (BQ.out.sO (x':=(ob0 0 1 l hm.name).fP hm.names.next) 2 (.int .u64 hm.names.next) rfl ⟨rfl,rfl⟩ (by omega));obtain⟨s6,T6,Iw⟩:=BP.out.kin.at hn1;have sK:=ah Iw;clear Iw;go_wp2_with fail
 refine(nI hm.purse _ _ 9 _ _ _ sK.out.blk (kF _ _ _ _) HC.out.sm ⟨by omega,by omega⟩).mono ?_;rintro e w7 ⟨rfl,hP⟩;have Qg:=ah (BP.out.purse hn1 sK.out hP);clear hP x2 f2 Qh BN BQ
 have Hg:Hid (Mk w w7 g g (K.set ((hm.bR ⟨hm.names.lo,hm.names.next+1,hm.names.hi⟩).dB ⟨hm.purse.lim,hm.purse.used+1,hm.purse.given⟩)) xb ((ob0 0 1 l hm.name).fP hm.names.next) (fJ fB (.slice la l.ps.length lc)) 0 (.pointer none) 0):=by
  rw[<-Km.set_set K (hm.bR ⟨hm.names.lo,hm.names.next+1,hm.names.hi⟩) ((hm.bR ⟨hm.names.lo,hm.names.next+1,hm.names.hi⟩).dB ⟨hm.purse.lim,hm.purse.used+1,hm.purse.given⟩) rfl];exact Qg.out
 clear Qg BP sK;obtain⟨kc0,kc1⟩:=Hg.out.kin.iV;have x2:w7.cell? ⟨xb,2,none⟩=some (.int .u64 hm.names.next):=(Hg.out.blk.cell 2).trans rfl;have Jh:=ah (Hg.out.below ((aC _ w7).drew))
 have qK:Hid (∀wz,wz=w7.drew->Calls Tryz.prog 38 #[.pointer (some ⟨g.pb,0,none⟩),.int .u64 hm.names.next] wz fun e w'=>∃v,e=.returned v/\(v=.int .i64 (g.P.bJ hm.names.next)/\Mk w w' g { g with P:=g.P.alloc hm.names.next } (K.set ((hm.bR ⟨hm.names.lo,hm.names.next+1,hm.names.hi⟩).dB ⟨hm.purse.lim,hm.purse.used+1,hm.purse.given⟩)) xb ((ob0 0 1 l hm.name).fP hm.names.next) (fJ fB (.slice la l.ps.length lc)) 0 (.pointer none) 0)):=fun wz ez=>by
  rw[ez];refine(jk g.pb g.db g.ob g.P hm.names.next _ Jh.out.kin.pool).mono ?_;rintro e w' ⟨rfl,h1,h2⟩;exact⟨_,rfl,rfl,Jh.out.pool h1 h2⟩
 go_wp2_with fail
 go_region_law (refine cB (by rfl) (bP (vs:=#[.pointer (some ⟨g.pb,0,none⟩),.int .u64 hm.names.next]) (by simp[Act.eval]) (bE Tryz.func38 (by kernel_rfl) rfl)) (qK.out _ (by first|rfl|exact drew_eq w7)) ?_;rintro v w9 ⟨rfl,hm9⟩;have x8:w9.cell? ⟨xb,8,none⟩=some (.int .i64 0):=(hm9.blk.cell 8).trans rfl;have f8:w9.frozen? ⟨xb,8,none⟩=false:=hm9.blk.free 8)
 all_goals
  have lu:=ah (hm9.sO (x':=(ob0 0 1 l hm.name).fP hm.names.next) (WM:=g.P.bJ hm.names.next) 8 (.int .i64 (g.P.bJ hm.names.next)) rfl ⟨rfl,rfl⟩ (by omega));clear x8 f8 kc0 kc1;go_wp2_with fail
  obtain⟨wz,hwz⟩:∃wz,wz=w9.setCell ⟨xb,8,none⟩ (.int .i64 (g.P.bJ hm.names.next)):=⟨_,rfl⟩;rw[<-hwz]at lu ⊢;clear hm9 hwz x2;obtain⟨h2,hh2⟩:∃h2,h2=(hm.bR ⟨hm.names.lo,hm.names.next+1,hm.names.hi⟩).dB ⟨hm.purse.lim,hm.purse.used+1,hm.purse.given⟩:=⟨_,rfl⟩;have Vj:h2.name=hm.name:=by rw[hh2];rfl
  have RG:h2.purse=⟨hm.purse.lim,hm.purse.used+1,hm.purse.given⟩:=by rw[hh2];rfl
  have Yv:h2.names=⟨hm.names.lo,hm.names.next+1,hm.names.hi⟩:=by rw[hh2];rfl
  have Ia:=lu.out;rw[<-hh2]at Ia;obtain⟨s12,T12,Vu⟩:=Ia.kin.at (Km.dz K h2);have HN:=ah (And.intro Vj (And.intro RG (And.intro Yv hh2)));have hp12:hm.purse.lim-(hm.purse.used+1)-hm.purse.given=hm.purse.left-1:=by unfold iC.left;omega
  have Oz:=JX h2.purse n _ 9 _ _ _ Vu.blk (kF _ _ _ _) (by rw[RG];have:=HC.out.used;have:=HC.out.given;have:=HC.out.sum;have:=HC.out.lim;exact⟨⟨by show _<=hm.purse.lim;omega,by show hm.purse.lim<=_;omega⟩,⟨by show _<=hm.purse.used+1;omega,by show hm.purse.used+1<=_;unfold iC.left at a2;omega⟩,by show _<=hm.purse.given;omega,by show hm.purse.given<=_;omega⟩) ⟨hn,by rw[RG];show n<=hm.purse.lim-(hm.purse.used+1)-hm.purse.given;omega⟩;rw[Vj]at Oz;have HG:=ah Oz;have ael:=ah Vu;have ZR:=ah Ia;clear Oz Vu Ia hh2 Vj RG Yv hp12;refine HG.out.mono ?_;rintro e w13 ⟨rfl,hP⟩;rw[<-HN.out.1]at hP;have zw:=ZR.out.purse (Km.dz K h2) ael.out hP;rw[Km.set_set K h2 (h2.dB ⟨h2.purse.lim,h2.purse.used,h2.purse.given+n⟩) rfl]at zw;clear hP;have y9:w13.cell? ⟨xb,9,none⟩=some (.int .i64 0):=(zw.blk.cell 9).trans rfl;have y10:w13.cell? ⟨xb,10,none⟩=some (.int .i64 0):=(zw.blk.cell 10).trans rfl;have y11:w13.cell? ⟨xb,11,none⟩=some (.int .i64 0):=(zw.blk.cell 11).trans rfl;have yf:=zw.blk.free
  have ZQ:=((zw.sO (x':=((ob0 0 1 l hm.name).fP hm.names.next).dB ⟨n,0,0⟩) 9 (.int .i64 n) rfl ⟨rfl,rfl⟩ (by omega)).sO (x':=((ob0 0 1 l hm.name).fP hm.names.next).dB ⟨n,0,0⟩) 10 (.int .i64 0) rfl ⟨rfl,rfl⟩ (by omega)).sO (x':=((ob0 0 1 l hm.name).fP hm.names.next).dB ⟨n,0,0⟩) 11 (.int .i64 0) rfl ⟨rfl,rfl⟩ (by omega);have Ud:=ah ZQ;clear ZQ zw;unfold iC.v;go_wp2_with fail
  refine mq fun w14 hw14=>?_
  have ZP:Hid (Mk w w14 g { g with P:=g.P.alloc hm.names.next } (K.set (h2.dB ⟨h2.purse.lim,h2.purse.used,h2.purse.given+n⟩)) xb (((ob0 0 1 l hm.name).fP hm.names.next).dB ⟨n,0,0⟩) (fJ fB (.slice la l.ps.length lc)) (g.P.bJ hm.names.next) (.pointer none) 0):=by rw[hw14];exact Ud.out
  clear hw14 Ud y9 y10 y11 yf;obtain⟨h3,hh3⟩:∃h3,h3=h2.dB ⟨h2.purse.lim,h2.purse.used,h2.purse.given+n⟩:=⟨_,rfl⟩;have Vi:h3.name=hm.name:=by rw[hh3];exact HN.out.1
  have RF:h3.names=⟨hm.names.lo,hm.names.next+1,hm.names.hi⟩:=by rw[hh3];exact HN.out.2.2.1
  have SV:=ZP.out;rw[<-hh3]at SV;obtain⟨s16,T16,Vt⟩:=SV.kin.at (Km.dz K h3);have Od:=JH h3.names count _ 12 _ _ _ Vt.blk (lZ _ _ _ _) (by rw[RF];have:=HC.out.names.next;have:=HC.out.names.hi;unfold rT.left at a1;exact⟨⟨by show 0<=hm.names.next+1;omega,by show hm.names.next+1<=hm.names.hi;omega⟩,by show hm.names.hi<=_;omega⟩) ⟨hc,by rw[RF];unfold rT.left at a1 ⊢;show count<=hm.names.hi-(hm.names.next+1);omega⟩;rw[Vi]at Od;have HS:=ah Od;have aek:=ah Vt;have ZO:=ah SV;have Jg:=ah (And.intro Vi (And.intro RF hh3));clear Od Vt SV hh3 Vi RF ZP;refine HS.out.mono ?_;rintro e w17 ⟨rfl,hP⟩;rw[<-Jg.out.1]at hP;have zu:=ZO.out.names (Km.dz K h3) aek.out hP;rw[Km.set_set K h3 (h3.bR ⟨h3.names.lo,h3.names.next,h3.names.hi-count⟩) rfl]at zu;clear hP;have y12:w17.cell? ⟨xb,12,none⟩=some (.int .u64 0):=(zu.blk.cell 12).trans rfl;have y13:w17.cell? ⟨xb,13,none⟩=some (.int .u64 0):=(zu.blk.cell 13).trans rfl;have y14:w17.cell? ⟨xb,14,none⟩=some (.int .u64 0):=(zu.blk.cell 14).trans rfl;have yf:=zu.blk.free;have kc9:=zu.kin.iV.1
  have hkx:g.kb≠xb:=fun e=>by
   have h1:=zu.kin.tags.kb;have h2:=zu.no;have h3:g.A g.kb=some (0,0):=h1;have h4:g.A xb=none:=h2;rw[e,h4]at h3;cases h3
  have ZN:=((zu.sO (x':=((((ob0 0 1 l hm.name).fP hm.names.next).dB ⟨n,0,0⟩).bR ⟨h3.names.hi-count,0,0⟩)) 12 (.int .u64 (h3.names.hi-count)) rfl ⟨rfl,rfl⟩ (by omega)).sO (x':=((((ob0 0 1 l hm.name).fP hm.names.next).dB ⟨n,0,0⟩).bR ⟨h3.names.hi-count,h3.names.hi-count,0⟩)) 13 (.int .u64 (h3.names.hi-count)) rfl ⟨rfl,rfl⟩ (by omega)).sO (x':=((((ob0 0 1 l hm.name).fP hm.names.next).dB ⟨n,0,0⟩).bR ⟨h3.names.hi-count,h3.names.hi-count,h3.names.hi⟩)) 14 (.int .u64 h3.names.hi) rfl ⟨rfl,rfl⟩ (by omega);have Uc:=ah ZN;clear ZN zu;unfold rT.v;go_wp2_with fail
  refine mq fun w18 hw18=>?_
  have WB:=Uc.out;rw[<-hw18]at WB;have ZM:=ah WB;clear hw18 Uc WB y12 y13 y14 yf kc9 hkx
  have hKn:(K.set (h3.bR ⟨h3.names.lo,h3.names.next,h3.names.hi-count⟩)).obj hm.names.next=none:=by
   rw[Km.aI _ _ (fun e=>by
    have e2:hm.names.next=hm.name:=e.trans Jg.out.1;rw[e2,hh]at a5;cases a5)]
   exact a5
  obtain⟨k1,k2,k3⟩:=ZM.out.enter (tb:=0) ⟨rfl,rfl,rfl,rfl,rfl,rfl⟩ (by show 0<hm.names.next;have:=HC.out.next;omega) hok hKn (fun b i e=>by
   rcases HI.out.own b _ i e with e1|⟨o,e1⟩
   ·have:=HC.out.next
    have e2:hm.names.next=0:=e1;omega
   ·have e2:K.obj hm.names.next=some o:=e1
    rw[a5]at e2;cases e2) (.inl ⟨rfl,rfl⟩) (fun c hc=>by cases hc) (fun e3=>absurd (show(1:Int)=3 from e3) (by decide)) (fun _=>rfl) ⟨by have:=H.out.pool.hp.lt;show g.pb<xb;omega,by have:=H.out.pool.hd.lt;show g.db<xb;omega,by have:=H.out.pool.ho.lt;show g.ob<xb;omega⟩ (by omega)
  have hhk:(h3.bR ⟨h3.names.lo,h3.names.next,h3.names.hi-count⟩).kind=1:=by rw[Jg.out.2.2,HN.out.2.2.2];exact hk
  have Vh:(h3.bR ⟨h3.names.lo,h3.names.next,h3.names.hi-count⟩).kids=hm.kids:=by rw[Jg.out.2.2,HN.out.2.2.2];rfl
  have hadd:=wK _ _ _ k1 _ (h3.bR ⟨h3.names.lo,h3.names.next,h3.names.hi-count⟩) k2 hKn (by
   show(K.set (h3.bR ⟨h3.names.lo,h3.names.next,h3.names.hi-count⟩)).obj hm.name=_
   rw[<-Jg.out.1];exact Km.dz K (h3.bR ⟨h3.names.lo,h3.names.next,h3.names.hi-count⟩)) hhk (by rw[Vh];exact a4)
  rw[show(Gh.add _ _ _ _ _ _ _ _).bl _=xb from aD rfl]at hadd;refine hadd.mono ?_;clear hadd;rintro e w20 ⟨rfl,b,f1,f2⟩;go_wp2_with fail
  go_ret2
  have hx0:((((ob0 0 1 l hm.name).fP hm.names.next).dB ⟨n,0,0⟩).bR ⟨h3.names.hi-count,h3.names.hi-count,h3.names.hi⟩)=jo hm 1 l n count:=by rw[Jg.out.2.1];rfl
  have hh0:({ (h3.bR ⟨h3.names.lo,h3.names.next,h3.names.hi-count⟩)with kids:=(h3.bR ⟨h3.names.lo,h3.names.next,h3.names.hi-count⟩).kids++[((((ob0 0 1 l hm.name).fP hm.names.next).dB ⟨n,0,0⟩).bR ⟨h3.names.hi-count,h3.names.hi-count,h3.names.hi⟩).name] }:Ob)=iW hm 1 n count:=by
   rw[Jg.out.2.2,HN.out.2.2.2];rfl
  rw[hh0,hx0]at f1;obtain⟨m1,m2,m3⟩:=kQ g.P hm.names.next (by have:=HC.out.next;omega) (by have:=HI.out.room;have:=nD HI.out;omega)
  obtain⟨r1,r2⟩:=oF (kind:=1) (h2:=h3.bR ⟨h3.names.lo,h3.names.next,h3.names.hi-count⟩) HI.out hh hk (fun _=>hn) (fun _=>⟨hc,by have:=HC.out.names.next;have:=HC.out.names.hi;have:=HC.out.next;unfold rT.left at a1;omega⟩) (by rw[aD rfl];exact a1) (by rw[aD rfl];exact a2) a3 a5 Jg.out.1 f1 m1 (fun m hm'=>⟨aA hm',aA hm',aA hm',aA hm',aA hm',aA hm'⟩) ⟨rfl,rfl,rfl⟩ ⟨rfl,rfl,rfl⟩ (fun c m i e=>by
    rw[Gh.jm]at e;split at e
    ·cases e;exact .inr (.inr Jg.out.1)
    ·have e':(if c=xb then some (hm.names.next,0)else if fB.ownBlock=some c then some (hm.names.next,3)else if _/\c=0 then some (hm.names.next,10)else g.A c)=some (m,i):=e
     split at e'
     ·cases e';exact .inr (.inl rfl)
     split at e'
     ·cases e';exact .inr (.inl rfl)
     split at e'
     ·cases e';exact .inr (.inl rfl)
     ·exact .inl e') (fun q=>absurd q (by decide)) (fun _=>aD rfl) (fun q=>absurd q (by decide)) rfl (by rw[aA (by decide)];show((g.P.alloc hm.names.next).left:Int)+1=_;omega)
  refine⟨_,?_,r1,r2,k3.trans f2,fun m hm'=>⟨aA hm',aA hm',aA hm',aA hm',aA hm',aA hm'⟩,fun q=>absurd (show(1:Int)=3 from q) (by decide)⟩;show Ending.returned (.tuple #[.pointer (some ⟨xb,0,none⟩),.int .i64 0])=Ending.returned (.tuple #[.pointer (some ⟨if hm.names.next=hm.names.next then xb else _,0,none⟩),.int .i64 0])
  rw[aD rfl]
attribute [local go_sem] Oper.semAt_some
theorem rX{K:Km}{h:Ob}{kind:Int}{l:dn}{n count:Int}(h1:kind≠1)(h2:kind≠2):K.place h kind l n count=K.place h kind l 0 0:=by
 unfold Km.place dH jo iW dH;simp[h1,h2]
theorem CV{K:Km}{h:Ob}{l:dn}{n count:Int}:K.place h 2 l n count=K.place h 2 l n 0:=by
 unfold Km.place dH jo iW dH;simp
theorem FH(w:World)(g:Gh)(K K':Km)(hm x:Ob)(o:dR)(lv:Value)(h:cZ w g K)(hI:Inv g K)(hh:K.obj hm.name=some hm)(hk:hm.kind=1)(hl:bU w lv o.lab){m:Nat}(hok:sG o m=true)
  (e:K.place hm o.kind o.lab (if o.kind=1\/o.kind=2 then o.pages else 0) (if o.kind=1 then o.names else 0)=.ok K' x) :
  Calls Tryz.prog 63 #[.pointer (some ⟨g.kb,0,none⟩),.pointer (some ⟨g.bl hm.name,0,none⟩),.int .i64 o.kind,lv,.int .i64 o.pages,.int .i64 o.names] w fun e w'=>uy w g K' x e w':=by
 unfold sG at hok;simp only[aM,Bool.or_eq_true,aY]at hok;obtain⟨o1,o2,o3⟩:=hok;have hlo:=iE o1;rcases o3 with(((⟨k1,k2⟩|⟨k1,k2⟩)|k1)|k1)|k1
 ·rw[k1]at e ⊢
  rw[aD (.inl rfl),aD rfl]at e;exact FE w g K K' hm x o.lab lv o.pages o.names h hI hh hk hl hlo k2.1 k2.2 e
 ·rw[k1]at e ⊢
  rw[aD (.inr rfl),aA (by decide),<-CV (count:=o.names)]at e;obtain⟨n,hn⟩:∃n:Nat,o.pages=(n:Int):=⟨o.pages.toNat,by omega⟩;rw[hn]at e ⊢;exact JW w g K K' hm x o.lab lv n o.names h hI hh hk hl hlo (by omega) e
 ·rw[k1]at e ⊢
  rw[aA (by decide),aA (by decide),<-rX (n:=o.pages) (count:=o.names) (by decide) (by decide)]at e;exact JV w g K K' hm x o.lab lv o.pages o.names h hI hh hk hl hlo e
 ·rw[k1]at e ⊢
  rw[aA (by decide),aA (by decide),<-rX (n:=o.pages) (count:=o.names) (by decide) (by decide)]at e;exact vK w g K K' hm x 4 o.lab lv o.pages o.names h hI hh hk hl hlo (by decide) (by decide) (by decide) e
 ·rw[k1]at e ⊢
  rw[aA (by decide),aA (by decide),<-rX (n:=o.pages) (count:=o.names) (by decide) (by decide)]at e;exact vK w g K K' hm x 6 o.lab lv o.pages o.names h hI hh hk hl hlo (by decide) (by decide) (by decide) e
end Go.Proofs.YtiadbhiadhgjkaaGreatDoor
namespace Go.Proofs.YtiadbhiadhgjkaaGreatDoor
open Go.RowKit
theorem fK{w:World}{a b:Nat}{cs ds:Array Value}{t u:TypeId}(h:aR w a cs t)(k:aR w b ds u)(hn:t≠u):a≠b:=by
 rintro rfl;unfold aR at h k;rw[h]at k;simp only[Option.some.injEq,Obj.cells.injEq]at k;exact hn k.2.1
theorem iL{w:World}{a b:Nat}{cs:Array Value}{t:TypeId}{es:List (Int×Value)}(h:aR w a cs t)(k:MapAt w b es):a≠b:=by
 rintro rfl;obtain⟨arr,clock,e,-⟩:=k.at_;unfold aR at h;rw[h]at e;cases e
theorem map_lt{w:World}{b:Nat}{es:List (Int×Value)}(k:MapAt w b es):b<w.heap.size:=by
 obtain⟨arr,clock,e,-⟩:=k.at_;exact(aU.1 e).1
def pl0:Pl:=⟨fun _=>0,fun _=>0,fun _=>false,0⟩
def gh0(kb tb mb pb db ob rb:Nat)(P:Pool)(f:Int):Gh :=
 ⟨kb,tb,mb,pb,db,ob,0,fun b=>if b=rb then some (1,0)else if b=kb then some (0,0)else if b=tb then some (0,1)else if b=mb then some (0,2)else if b=pb then some (0,3)else if b=db then some (0,4)else if b=ob then some (0,5)else none,
  fun _=>rb,fun _=>0,P,fun _=>f,fun _=>[],fun _=>0,fun _=>0,fun _ _=>0,fun _ _=>0,fun _ _=>false,fun _=>pl0,fun _=>true,fun _=>0,[]⟩
structure GU(w:World)(kb tb mb pb db ob rb:Nat)(P:Pool)(f:Int)(c:mU):Prop where
 gZ:aR w kb #[.pointer (some ⟨tb,0,none⟩),.pointer (some ⟨pb,0,none⟩),fB,fB,fB,.bool false] 88
 tab:aR w tb #[.map (some mb)] 137
 map:MapAt w mb [(1,.pointer (some ⟨rb,0,none⟩))]
 pool:bB w pb db ob P
 root:aR w rb (jO (xk c) (fJ fB fB) f (.pointer none)) 68
 late:pb<rb/\db<rb/\ob<rb
section
variable {w:World}{kb tb mb pb db ob rb:Nat}{P:Pool}{f:Int}{c:mU}
theorem qO{n:Int}{o:Ob}(e:(km0 c).obj n=some o):n=1/\o=xk c:=by
 change (if n=1 then some (xk c)else none)=some o at e;split at e
 ·rename_i h;cases e;exact⟨h,rfl⟩
 ·cases e
theorem GU.kin(h:GU w kb tb mb pb db ob rb P f c):cZ w (gh0 kb tb mb pb db ob rb P f) (km0 c):=by
 have hd:=h.pool.hd;have ho:=h.pool.ho;have hp:=h.pool.hp;have n1:=fK h.gZ h.root (by decide);have n2:=fK h.tab h.root (by decide);have n3:=iL h.root h.map;have n4:=fK hp h.root (by decide);have n5:=fK hd h.root (by decide);have n6:=fK ho h.root (by decide);have n7:=fK h.tab h.gZ (by decide);have n8:=iL h.gZ h.map;have n9:=fK hp h.gZ (by decide);have n10:=fK hd h.gZ (by decide);have n11:=fK ho h.gZ (by decide);have n12:=iL h.tab h.map;have n13:=fK hp h.tab (by decide);have n14:=fK hd h.tab (by decide);have n15:=fK ho h.tab (by decide);have n16:=iL hp h.map;have n17:=iL hd h.map;have n18:=iL ho h.map;have n19:=h.pool.n1;have n20:=h.pool.n2;have n21:=h.pool.n3;have l1:=h.gZ.lt;have l2:=h.tab.lt;have l3:=map_lt h.map;have l4:=hp.lt;have l5:=hd.lt;have l6:=ho.lt;have l7:=h.root.lt;refine⟨⟨?_,?_,?_,?_,?_,?_⟩,fun b hb=>?_,⟨fB,fB,fB,.inl ⟨rfl,rfl⟩,h.gZ,Own.nil _ _ _ _ _,gq _ _ _⟩,⟨h.tab,_,h.map,fun n=>?_⟩,h.pool,⟨fun q=>absurd q (Nat.lt_irrefl 0),fun i q=>absurd q (Nat.not_lt_zero i),by show(0:Nat)<=4;decide,by show(0:Nat)<=8;decide⟩,fun s hs=>(by cases hs),fun n o e=>?_⟩
 ·show(if kb=rb then _ else if kb=kb then _ else _)=_
  rw[aA n1,aD rfl]
 ·show(if tb=rb then _ else if tb=kb then _ else if tb=tb then _ else _)=_
  rw[aA n2,aA n7,aD rfl]
 ·show(if mb=rb then _ else if mb=kb then _ else if mb=tb then _ else if mb=mb then _ else _)=_
  rw[aA (Ne.symm n3),aA (Ne.symm n8),aA (Ne.symm n12),aD rfl]
 ·show(if pb=rb then _ else if pb=kb then _ else if pb=tb then _ else if pb=mb then _ else if pb=pb then _ else _)=_
  rw[aA n4,aA n9,aA n13,aA n16,aD rfl]
 ·show(if db=rb then _ else if db=kb then _ else if db=tb then _ else if db=mb then _ else if db=pb then _ else if db=db then _ else _)=_
  rw[aA n5,aA n10,aA n14,aA n17,aA (Ne.symm n19),aD rfl]
 ·show(if ob=rb then _ else if ob=kb then _ else if ob=tb then _ else if ob=mb then _ else if ob=pb then _ else if ob=db then _ else if ob=ob then _ else _)=_
  rw[aA n6,aA n11,aA n15,aA n18,aA (Ne.symm n20),aA (Ne.symm n21),aD rfl]
 ·show(if b=rb then _ else if b=kb then _ else if b=tb then _ else if b=mb then _ else if b=pb then _ else if b=db then _ else if b=ob then _ else none)=_
  rw[aA (by omega),aA (by omega),aA (by omega),aA (by omega),aA (by omega),aA (by omega),aA (by omega)]
 ·show look [(1,_)] n=((if n=1 then some (xk c)else none).map _)
  by_cases e:n=1
  ·rw[e];rfl
  ·have:((1:Int)==n)=false:=by simpa using fun q=>e q.symm
   rw[aA e];simp[look,this]
 ·obtain⟨rfl,rfl⟩:=qO e
  refine⟨rfl,⟨by show(0:Int)<1;decide,aD rfl,h.late,fJ fB fB,.pointer none,h.root,?_,fun q=>absurd q (by show ¬((1:Int)=3);decide),fun _=>rfl⟩⟩;exact⟨aJ.nil _ _,aJ.nil _ _,gq _ _ _,gq _ _ _,.inl ⟨rfl,rfl⟩,fun c hc=>(by cases hc),Own.nil _ _ _ _ _,gq _ _ _,(show(0:Nat)<8 by decide),(show(0:Nat)<=8 by decide),fun i p hp=>(by cases hp),⟨by show(2:Nat)<1000;decide,by show(0:Nat)<=1000;decide,fun p hp=>(by cases hp)⟩,Ga⟩
theorem RP{b i:Nat}{n:Int}(e:(gh0 kb tb mb pb db ob rb P f).A b=some (n,i)):n=0\/n=1:=by
 change (if b=rb then some ((1:Int),0)else if b=kb then some (0,0)else if b=tb then some (0,1)else if b=mb then some (0,2)else if b=pb then some (0,3)else if b=db then some (0,4)else if b=ob then some (0,5)else none)=some (n,i)at e;repeat' split at e
 all_goals first
  | (cases e;exact .inl rfl)
  | (cases e;exact .inr rfl)
  | cases e
theorem JN(hc:1<=c.frames/\c.frames<=4096/\0<=c.names/\c.names<=4194302)(hl:(P.left:Int)=c.frames-1)(hcnt:∀n,n≠0->n≠1->bY P.O n P.n=0):BInv (gh0 kb tb mb pb db ob rb P f) (km0 c):=by
 obtain⟨c1,c2,c3,c4⟩:=hc;refine⟨⟨fun b n i e=>?_,fun n o e=>?_,fun n o e ek=>?_,fun n o e ek=>?_,fun n o e ek=>rfl,fun n o e ek=>?_,fun i hi=>absurd hi (Nat.not_lt_zero i),fun i hi=>absurd hi (Nat.not_lt_zero i),⟨List.nodup_nil,fun n=>⟨fun q=>(by cases q),fun⟨o,e,ek⟩=>?_⟩⟩,⟨?_,?_⟩,fun n h0 e=>hcnt n h0 ?_⟩,rfl,fun n o e ek=>⟨rfl,rfl⟩⟩
 ·rcases RP e with h|h
  ·exact .inl h
  ·exact .inr ⟨xk c,by rw[h];rfl⟩
 ·obtain⟨rfl,rfl⟩:=qO e;rfl
 ·obtain⟨rfl,rfl⟩:=qO e
  refine⟨⟨?_,?_⟩,?_,?_,?_,?_,?_⟩
  ·show(0:Int)<=2/\(2:Int)<=2+c.names
   omega
  ·show 2+c.names<=4194304
   omega
  ·show(1:Int)<=2
   decide
  ·show(0:Int)<=1
   decide
  ·show(0:Int)<=0
   decide
  ·show(1:Int)+0<=c.frames
   omega
  ·show c.frames<=1099511627776
   omega
 ·obtain⟨rfl,rfl⟩:=qO e
  exact absurd ek (by show ¬((1:Int)=2);decide)
 ·obtain⟨rfl,rfl⟩:=qO e
  exact absurd ek (by show ¬((1:Int)=3);decide)
 ·obtain⟨rfl,rfl⟩:=qO e
  exact absurd ek (by show ¬((1:Int)=3);decide)
 ·show 0<=c.frames-1
  omega
 ·show(P.left:Int)=c.frames-1+0
  omega
 ·rintro rfl
  cases e
theorem zk(o:Int)(n:Nat)(h:o≠0):bY (fun _=>0) o n=0:=by
 induction n with
 | zero=>rfl
 | succ n ih=>unfold bY;rw[ih,aA (Ne.symm h)]
theorem NM(n:Nat)(h:1<=n):(((fD n).alloc 1).left:Int)=n-1/\((fD n).alloc 1).n=n/\∀k,k≠0->k≠1->bY ((fD n).alloc 1).O k ((fD n).alloc 1).n=0:=by
 have hl:(fD n).left=n:=qB n;obtain⟨h1,h2,h3⟩:=kQ (fD n) 1 (by decide) (by rw[hl];exact h);rw[hl]at h2;refine⟨by omega,h1.n,fun k k0 k1=>?_⟩;rw[h1.n,h1.cnt k k0 k1];exact zk k n k0
end
structure mP(w00:World)(cb:Nat)(cs:Array Value)(kb tb mb pb db ob:Nat)(P:Pool)(es:List (Int×Value))(w:World):Prop where
 gZ:aR w kb #[.pointer (some ⟨tb,0,none⟩),.pointer (some ⟨pb,0,none⟩),fB,fB,fB,.bool false] 88
 tab:aR w tb #[.map (some mb)] 137
 map:MapAt w mb es
 pool:bB w pb db ob P
 box:aR w cb cs 81
 eO:Below w00.heap.size w00 w
 lo:w00.heap.size<=kb/\w00.heap.size<=tb/\w00.heap.size<=mb/\w00.heap.size<=pb/\w00.heap.size<=db/\w00.heap.size<=ob
section
variable {w00 w w':World}{cb kb tb mb pb db ob rb:Nat}{cs:Array Value}{P:Pool}{es:List (Int×Value)}{f:Int}
theorem mP.below(h:mP w00 cb cs kb tb mb pb db ob P es w)(k:Below w.heap.size w w'):mP w00 cb cs kb tb mb pb db ob P es w' :=
 ⟨h.gZ.below k h.gZ.lt,h.tab.below k h.tab.lt,h.map.below k (map_lt h.map),h.pool.below k,h.box.below k h.box.lt,h.eO.trans (k.mono h.eO.size),h.lo⟩
theorem mP.wrote(h:mP w00 cb cs kb tb mb pb db ob P es w){S:Nat->Prop}(k:Kept S w w')(hk:¬S kb)(ht:¬S tb)(hc:¬S cb)(hs:∀b,b<w00.heap.size->¬S b){es':List (Int×Value)}(hM:MapAt w' mb es'){P':Pool}(hP:bB w' pb db ob P'):mP w00 cb cs kb tb mb pb db ob P' es' w' :=
 ⟨k.blk h.gZ hk,k.blk h.tab ht,hM,hP,k.blk h.box hc,h.eO.trans (k.below h.eO.size hs),h.lo⟩
theorem mP.free(h:mP w00 cb cs kb tb mb pb db ob P es w)(hr:w00.heap.size<=rb):∀b,b<w00.heap.size->(gh0 kb tb mb pb db ob rb P f).A b=none:=fun b hb=>by
 obtain⟨h1,h2,h3,h4,h5,h6⟩:=h.lo;show(if b=rb then _ else if b=kb then _ else if b=tb then _ else if b=mb then _ else if b=pb then _ else if b=db then _ else if b=ob then _ else none)=_
 rw[aA (by omega),aA (by omega),aA (by omega),aA (by omega),aA (by omega),aA (by omega),aA (by omega)]
end
section
variable {w w':World}{g g':Gh}{K:Km}
theorem cZ.Ma(h:cZ w g K){S:Nat->Prop}(k:Kept S w w')(hm:dS w S)(hS:∀b,S b->b<w.heap.size->g.A b=some (0,0)\/g.A b=some (0,7)\/g.A b=some (0,8))(l:dK g g')(hl:∀n,dO g g' n)(ht2:g'.fC=g.fC/\g'.flush=g.flush/\g'.last=g.last)(hP:g'.P=g.P)
  (hnew:∀b,b<w.heap.size->g.A b=none->g'.A b=none) (Bg:∀b,w'.heap.size<=b->g'.A b=none) {slots:List (Int×Int)} {eU:List Int} {done:Bool} (hK:vC w' g' K.nc slots eU done) (hsl:∀s∈slots,1<=s.2/\s.2<=16) (hlen:slots.length=K.slots.length\/(K.nc=0/\slots.length<=8)) :
  cZ w' g' { K with slots:=slots,eU:=eU,done:=done }/\Ext g g' w w':=by
 have h0:∀b i,1<=i->i<=6->S b->b<w.heap.size->g.A b≠some (0,i):=fun b i h1 h6 q ql e=>by
  rcases hS b q ql with e1|e1|e1<;>· rw[e1]at e;cases e;omega
 have hn:∀b (n:Int) i,0<n->S b->b<w.heap.size->g.A b≠some (n,i):=fun b n i hp q ql e=>by
  rcases hS b q ql with e1|e1|e1<;>· rw[e1]at e;cases e;omega
 have hc:=h.cores.kept k l (fun b q ql=>h0 b 6 (by omega) (by omega) q ql) ht2
 refine⟨⟨h.tags.alike l,Bg,hK,h.tab.kept h.tags k l (fun b q ql=>⟨h0 b 1 (by omega) (by omega) q ql,h0 b 2 (by omega) (by omega) q ql⟩) (fun _=>rfl) (fun n _ _=>(hl n).bl),by rw[hP];exact h.pool.tagged h.tags k l (fun b q ql i h3 h5=>h0 b i (by omega) (by omega) q ql),?_,hsl,
  fun n o e=>⟨(h.objs n o e).1,(h.objs n o e).2.kept k hm (fun b q ql i=>hn b _ i (h.objs n o e).2.pos q ql) l.A (hl _) ⟨l.pb,l.db,l.ob⟩⟩⟩,Ext.wrote l k (fun b q ql=>by rcases hS b q ql with e|e|e<;>exact⟨_,e⟩) hnew (fun n _=>⟨(hl n).bl,(hl n).tl⟩)⟩
 show qY w' g' K.nc K.cores slots.length
 rcases hlen with e|⟨e1,e2⟩
 ·rw[e];exact hc
 ·exact⟨fun q=>by omega,fun i hi=>by omega,by omega,e2⟩
theorem cZ.XC(h:cZ w g K){cv sv dv:Value}(hB:aR w g.kb (pz g cv sv dv K.done) 88){v:Value}{e size n0:Nat}{xs:List Value}{j:Nat}(hj:j=7\/j=8)(hv:Own w g.A (0,j) e size v n0 xs)(he:e≠111/\e≠5)
  {w5:World} (hk:Kept (fun b=>v.ownBlock=some b) w w5) {g5 cap n ci:Nat} {ys:List Value} (hrow:w5.ownsRow 0 e size (.slice (some ⟨g5,0,none⟩) n cap) n ys) (hg5:v.ownBlock=some g5\/w.heap.size<=g5) (hlt:g5<w5.heap.size)
  {slots:List (Int×Int)} {eU:List Int} (hsl:∀s∈slots,1<=s.2/\s.2<=16) (hlen:slots.length=K.slots.length\/(K.nc=0/\slots.length<=8))
  (hK:Own (w5.setCell ⟨g.kb,ci,none⟩ (.slice (some ⟨g5,0,none⟩) n cap)) (g.own g5 (0,j)).A (0,j) e size (.slice (some ⟨g5,0,none⟩) n cap) n ys->Kept (kR v g.kb) w (w5.setCell ⟨g.kb,ci,none⟩ (.slice (some ⟨g5,0,none⟩) n cap))->dK g (g.own g5 (0,j))->(∀b,kR v g.kb b->g.A b=some (0,j)\/g.A b=some (0,0))->aR (w5.setCell ⟨g.kb,ci,none⟩ (.slice (some ⟨g5,0,none⟩) n cap)) g.kb ((pz g cv sv dv K.done).setIfInBounds ci (.slice (some ⟨g5,0,none⟩) n cap)) 88 ->
   vC (w5.setCell ⟨g.kb,ci,none⟩ (.slice (some ⟨g5,0,none⟩) n cap)) (g.own g5 (0,j)) K.nc slots eU K.done) :
  cZ (w5.setCell ⟨g.kb,ci,none⟩ (.slice (some ⟨g5,0,none⟩) n cap)) (g.own g5 (0,j)) { K with slots:=slots,eU:=eU }/\Ext g (g.own g5 (0,j)) w (w5.setCell ⟨g.kb,ci,none⟩ (.slice (some ⟨g5,0,none⟩) n cap)):=by
 have hkk:=qQ (B:=g.kb) (ci:=ci) hk (.slice (some ⟨g5,0,none⟩) n cap);have hm:dS w (kR v g.kb):=nQ hB hv.row (by decide) he;have hold:=qy (hv:=hv.tag) h.kS hg5
 have hs:∀b,kR v g.kb b->g.A b=some (0,j)\/g.A b=some (0,0):=fun b q=>by
  rcases q with q|q
  ·exact .inl (hv.tag b q)
  ·rw[q];exact .inr h.tags.kb
 have hsz:(w5.setCell ⟨g.kb,ci,none⟩ (.slice (some ⟨g5,0,none⟩) n cap)).heap.size=w5.heap.size:=by simp[World.setCell]
 have hj0:((0:Int),j)≠(0,0):=fun e=>by have:=congrArg Prod.snd e;simp only at this;omega
 have hne:g.kb≠g5:=fun e=>by
  rcases hg5 with e1|e1
  ·have:=hv.tag _ e1;rw[<-e,h.tags.kb]at this;injection this with this;exact hj0 this.symm
  ·have:=hB.lt;omega
 have ni:aR w5 g.kb (pz g cv sv dv K.done) 88:=hk.blk hB (fun e=>by have:=hv.tag _ e;rw[h.tags.kb]at this;injection this with this;exact hj0 this.symm);have hl0:=dK.own g (b:=g5) (tg:=(0,j)) hold;refine h.Ma hkk hm (fun b q _=>?_) hl0 (fun m=>dO.own g g5 _ m) ⟨rfl,rfl,rfl⟩ rfl ?_ ?_ (hK ⟨dA hrow ((Kept.refl (·=g.kb) w5).bC _ _ _ rfl) (fun b hb q=>by cases hb;exact hne q.symm),fun b hb=>by cases hb;exact aD rfl⟩ hkk hl0 hs (ni.set ci _)) hsl hlen
 ·rcases hs b q with e1|e1
  ·rcases hj with rfl|rfl
   ·exact .inr (.inl e1)
   ·exact .inr (.inr e1)
  ·exact .inl e1
 ·intro b hb e
  rw[Gh.jm,aA];· exact e
  rintro rfl;rcases hg5 with e1|e1
  ·have:=hv.tag _ e1;rw[e]at this;cases this
  ·omega
 ·intro b hb
  rw[hsz]at hb;rw[Gh.jm,aA (by omega)];exact h.kS b (bD hk.size hb)
theorem cZ.QV(h:cZ w g K){cv sv dv:Value}(hcv:Jj g K.nc cv)(hB:aR w g.kb (pz g cv sv dv K.done) 88)(hsv:Own w g.A (0,7) 127 2 sv K.slots.length (K.slots.flatMap jS))(hv:eB w g.A (0,8) dv K.eU)
  {w5:World} (hk:Kept (fun b=>dv.ownBlock=some b) w w5) {g5 cap:Nat} {x:Int} (hrow:w5.ownsRow 0 37 1 (.slice (some ⟨g5,0,none⟩) (K.eU.length+1) cap) (K.eU.length+1) (K.eU.map (.int .u64)++[.int .u64 x])) (hg5:dv.ownBlock=some g5\/w.heap.size<=g5) (hlt:g5<w5.heap.size) :
  cZ (w5.setCell ⟨g.kb,4,none⟩ (.slice (some ⟨g5,0,none⟩) (K.eU.length+1) cap)) (g.own g5 (0,8)) { K with eU:=K.eU++[x] }/\Ext g (g.own g5 (0,8)) w (w5.setCell ⟨g.kb,4,none⟩ (.slice (some ⟨g5,0,none⟩) (K.eU.length+1) cap)):=by
 refine h.XC hB (.inr rfl) hv (by decide) hk hrow hg5 hlt h.slot (.inl rfl) (fun o1 o2 o3 o4 o5=>⟨cv,sv,_,hcv,o5,Own.kept hsv o2 (fun b q _ e=>?_) o3.A,?_⟩)
 ·rcases o4 b q with e1|e1<;>· rw[e1]at e;cases e
 ·unfold eB
  rw[List.map_append,aO];exact o1
theorem cZ.MZ(h:cZ w g K)(hnc:K.nc=0){cv sv dv:Value}(hcv:Jj g K.nc cv)(hB:aR w g.kb (pz g cv sv dv K.done) 88)(hsv:Own w g.A (0,7) 127 2 sv K.slots.length (K.slots.flatMap jS))(hv:eB w g.A (0,8) dv K.eU)
  {w5:World} (hk:Kept (fun b=>sv.ownBlock=some b) w w5) {g5 cap:Nat} {x:Int×Int} (hrow:w5.ownsRow 0 127 2 (.slice (some ⟨g5,0,none⟩) (K.slots.length+1) cap) (K.slots.length+1) (K.slots.flatMap jS++jS x)) (hg5:sv.ownBlock=some g5\/w.heap.size<=g5) (hlt:g5<w5.heap.size) (hx:1<=x.2/\x.2<=16) (h8:K.slots.length<8) :
  cZ (w5.setCell ⟨g.kb,3,none⟩ (.slice (some ⟨g5,0,none⟩) (K.slots.length+1) cap)) (g.own g5 (0,7)) { K with slots:=K.slots++[x] }/\Ext g (g.own g5 (0,7)) w (w5.setCell ⟨g.kb,3,none⟩ (.slice (some ⟨g5,0,none⟩) (K.slots.length+1) cap)):=by
 refine h.XC hB (.inl rfl) hsv (by decide) hk hrow hg5 hlt (fun s hs=>?_) (.inr ⟨hnc,by rw[aO];show _+1<=8;omega⟩) (fun o1 o2 o3 o4 o5=>⟨cv,_,dv,hcv,o5,?_,Own.kept hv o2 (fun b q _ e=>?_) o3.A⟩)
 ·rcases List.mem_append.1 hs with hs|hs
  ·exact h.slot s hs
  ·simp at hs;subst hs;exact hx
 ·rw[aO,List.flatMap_append]
  have:([x]:List (Int×Int)).flatMap jS=jS x:=by simp
  rw[this];exact o1
 ·rcases o4 b q with e1|e1<;>· rw[e1]at e;cases e
end
structure fO(w00:World)(lo:Nat)(GD:List (Nat×Array Value×TypeId))(w:World)(g:Gh)(K:Km)(mv:Value)(made:List Int):Prop where
 kin:cZ w g K
 inv:BInv g K
 le:lo<=w.heap.size
 eO:Below lo w00 w
 free:∀b,b<lo->g.A b=none
 row:w.ownsRow lo 37 1 mv made.length (made.map (.int .u64))
 Fw:∀b,mv.ownBlock=some b->g.A b=none
 box:∀t∈GD,aR w t.1 t.2.1 t.2.2/\g.A t.1=none/\mv.ownBlock≠some t.1
section
variable {w00 w w':World}{lo:Nat}{GD:List (Nat×Array Value×TypeId)}{g g':Gh}{K K':Km}{mv:Value}{made:List Int}
theorem fO.step(h:fO w00 lo GD w g K mv made)(k:cZ w' g' K')(i:BInv g' K')(e:Ext g g' w w'):fO w00 lo GD w' g' K' mv made :=
 ⟨k,i,bD h.le e.kept.size,h.eO.trans (e.kept.below h.le (fun b hb q=>q (h.free b hb))),fun b hb=>e.tag b (bA hb h.le) (h.free b hb),dA h.row e.kept (fun b hb q=>q (h.Fw b hb)),fun b hb=>e.tag b (uO h.row hb) (h.Fw b hb),
  fun t ht=>⟨e.kept.blk (h.box t ht).1 (fun q=>q (h.box t ht).2.1),e.tag _ (h.box t ht).1.lt (h.box t ht).2.1,(h.box t ht).2.2⟩⟩
theorem fO.below(h:fO w00 lo GD w g K mv made)(k:Below w.heap.size w w'):fO w00 lo GD w' g K mv made:=h.step (h.kin.below k) h.inv (Ext.below k)
theorem fO.BJ(h:fO w00 lo GD w g K mv made)(cs:Array Value)(ty:TypeId):fO w00 lo ((w.heap.size,cs,ty)::GD) (w.alloc (.cells cs ty)) g K mv made:=by
 have hb:=(aC w.heap.size w).alloc (aj _) (.cells cs ty);have h':=h.below hb;refine⟨h'.kin,h'.inv,h'.le,h'.eO,h'.free,h'.row,h'.Fw,fun t ht=>?_⟩;rcases List.mem_cons.1 ht with e|e
 ·subst e
  exact⟨aR.new _ _ _,h.kin.kS _ (aj _),fun q=>by have:=uO h.row q;omega⟩
 ·exact h'.box t e
theorem fO.drop{t:Nat×Array Value×TypeId}(h:fO w00 lo (t::GD) w g K mv made):fO w00 lo GD w g K mv made:=⟨h.kin,h.inv,h.le,h.eO,h.free,h.row,h.Fw,fun t ht=>h.box t (List.mem_cons_of_mem _ ht)⟩
theorem fO.DY{t u:Nat×Array Value×TypeId}(h:fO w00 lo [t,u] w g K mv made):fO w00 lo [u] w g K mv made:=h.drop
theorem fO.more(h:fO w00 lo GD w g K mv made){g5 cap:Nat}{x:Int}(hrow:w'.ownsRow lo 37 1 (.slice (some ⟨g5,0,none⟩) (made.length+1) cap) (made.length+1) (made.map (.int .u64)++[.int .u64 x]))(hg:Kept (fun b=>mv.ownBlock=some b) w w')(hg5:mv.ownBlock=some g5\/w.heap.size<=g5):fO w00 lo GD w' g K (.slice (some ⟨g5,0,none⟩) (made.length+1) cap) (made++[x]):=by
 have hm:dS w (fun b=>mv.ownBlock=some b):=fun b cs ty fz q hh=>by
  obtain⟨cur,hc,-⟩:=jA h.row q;rw[hc]at hh;cases hh;decide
 refine⟨h.kin.kept hg hm (fun b q _=>.inl (h.Fw b q)),h.inv,bD h.le hg.size,h.eO.trans (hg.below h.le (fun b hb q=>by obtain⟨cur,-,e⟩:=jA h.row q;omega)),h.free,?_,fun b hb=>?_,fun t ht=>⟨hg.blk (h.box t ht).1 (h.box t ht).2.2,(h.box t ht).2.1,fun q=>?_⟩⟩
 ·rw[List.map_append,aO];exact hrow
 ·cases hb
  rcases hg5 with e|e
  ·exact h.Fw _ e
  ·exact h.kin.kS _ e
 ·cases q
  rcases hg5 with e|e
  ·exact(h.box t ht).2.2 e
  ·exact absurd (h.box t ht).1.lt (Nat.not_lt.2 e)
theorem BInv.more{x:Ob}(h:BInv g K)(hI:Inv g' K')(hxn:K.obj x.name=none)(hnc:K'.nc=0)(hl:∀n,n≠x.name->dO g g' n)(hx:x.kind=3->g'.root x.name=0/\g'.tabs x.name=0)(hK:∀n o,K'.obj n=some o->(n=x.name/\o.kind=x.kind)\/∃b,K.obj n=some b/\b.kind=o.kind):BInv g' K':=by
 refine⟨hI,hnc,fun n o e ek=>?_⟩;rcases hK n o e with⟨e1,e2⟩|⟨b,e1,e2⟩
 ·rw[e1];exact hx (by rw[<-e2];exact ek)
 ·by_cases q:n=x.name
  ·rw[q,hxn]at e1;cases e1
  ·obtain⟨t1,t2⟩:=h.th n b e1 (by rw[e2];exact ek)
   exact⟨by rw[(hl n q).root];exact t1,by rw[(hl n q).tabs];exact t2⟩
end
theorem BF{K K2:Km}{made Tq:List Int}{o:dR}(e:lS K made o=some (K2,Tq)):sG o made.length=true/\∃h K' x,K.obj (made.getD o.parent.toNat 0)=some h/\h.kind=1 /\
  K.place h o.kind o.lab (if o.kind=1\/o.kind=2 then o.pages else 0) (if o.kind=1 then o.names else 0)=.ok K' x/\K2=(if o.kind=2 then K'.set { x with data:=nV o.data }else if o.kind=6 then { K' with eU:=K'.eU++[x.name] }else K')/\Tq=made++[x.name]:=by
 unfold lS at e;by_cases h1:sG o made.length=true
 ·rw[aD h1]at e
  cases h2:K.obj (made.getD o.parent.toNat 0)with
  | none=>rw[h2]at e;cases e
  | some h =>
   rw[h2]at e;simp only at e;by_cases h3:h.kind=1
   ·rw[aD h3]at e
    cases h4:K.place h o.kind o.lab (if o.kind=1\/o.kind=2 then o.pages else 0) (if o.kind=1 then o.names else 0)with
    | err c=>rw[h4]at e;cases e
    | out=>rw[h4]at e;cases e
    | ok K' x =>
     rw[h4]at e;simp only[Option.some.injEq,Prod.mk.injEq]at e;exact⟨h1,h,K',x,rfl,h3,h4,e.1.symm,e.2.symm⟩
   ·rw[aA h3]at e;cases e
 ·rw[aA h1]at e;cases e
theorem BG{K:Km}{made:List Int}{o:dR}{os:List dR}{r:Km×List Int}(e:gF K made (o::os)=some r):∃K' made',lS K made o=some (K',made')/\gF K' made' os=some r:=by
 unfold gF at e
 cases h:lS K made o with
 | none=>rw[h]at e;cases e
 | some p=>rw[h]at e;exact⟨p.1,p.2,rfl,e⟩
theorem BInv.own{g:Gh}{K:Km}(h:BInv g K)(b:Nat)(tg:Int×Nat)(h0:tg.1=0)(eU:List Int):BInv (g.own b tg) { K with eU:=eU }:=by
 refine⟨⟨fun c n i e=>?_,h.inv.name,h.inv.cont,fun n o e k=>⟨(h.inv.seg n o e k).inn,(h.inv.seg n o e k).len,(h.inv.seg n o e k).p16,(h.inv.seg n o e k).data⟩,h.inv.rD,h.inv.yS,h.inv.fC,h.inv.tn,h.inv.lD,h.inv.room,h.inv.yw⟩,h.nc,h.th⟩;rw[Gh.jm]at e;split at e
 ·cases e;exact .inl h0
 ·exact h.inv.own c n i e
theorem BInv.slots{g:Gh}{K:Km}(h:BInv g K)(slots:List (Int×Int)):BInv g { K with slots:=slots } :=
 ⟨⟨h.inv.own,h.inv.name,h.inv.cont,h.inv.seg,h.inv.rD,h.inv.yS,h.inv.fC,h.inv.tn,h.inv.lD,h.inv.room,h.inv.yw⟩,h.nc,h.th⟩
theorem Gf:(Tryz.prog.info? 127).map (fun i=>(i.zero,i.size,i.bytes))=some (some (.agg #[.int .u64 0,.int .i64 0]),2,16):=by kernel_rfl
structure Placed(K K':Km)(x:Ob)(kind n:Int):Prop where
 new:K.obj x.name=none
 nc:K'.nc=K.nc
 slots:K'.slots=K.slots
 eU:K'.eU=K.eU
 there:K'.obj x.name=some x
 kd:x.kind=kind
 data:x.data=fun _=>0
 pages:kind=2->x.pages=n.toNat
 old:∀n o,K'.obj n=some o->(n=x.name/\o.kind=x.kind)\/∃b,K.obj n=some b/\b.kind=o.kind
theorem placed{K K':Km}{h x:Ob}{kind:Int}{l:dn}{n count:Int}(hh:K.obj h.name=some h)(e:K.place h kind l n count=.ok K' x):Placed K K' x kind n:=by
 obtain⟨-,-,-,-,a5,rfl,rfl⟩:=kD e;have hne:h.names.next≠h.name:=fun q=>by rw[q,hh]at a5;cases a5
 have Bf:∀m,({ (K.set (jo h kind l n count)).set (iW h kind n count)with room:=K.room-dH kind n }:Km).obj m=if m=h.name then some (iW h kind n count)else if m=h.names.next then some (jo h kind l n count)else K.obj m:=fun _=>rfl
 refine⟨a5,rfl,rfl,rfl,?_,rfl,rfl,fun q=>aD q,fun m o e=>?_⟩
 ·rw[Bf]
  show(if h.names.next=h.name then _ else if h.names.next=h.names.next then _ else _)=_
  rw[aA hne,aD rfl]
 ·rw[Bf]at e
  by_cases q:m=h.name
  ·rw[aD q]at e;cases e
   exact .inr ⟨h,by rw[q];exact hh,rfl⟩
  ·rw[aA q]at e
   by_cases q2:m=h.names.next
   ·rw[aD q2]at e;cases e;exact .inl ⟨q2,rfl⟩
   ·rw[aA q2]at e;exact .inr ⟨o,e,rfl⟩
end Go.Proofs.YtiadbhiadhgjkaaGreatDoor
namespace Go.Proofs.YtiadbhiadhgjkaaGreatDoor
open Go.RowKit
attribute [local irreducible] World.setCell World.alloc World.drew World.setRow Calls Code.wp
theorem Bq{K K2:Km}{made:List Int}{cores:Int}{i:Nat}{o:dR}(e:lN K made cores i o=some K2):∃x,K.obj (made.getD (i+1) 0)=some x/\x.kind=o.kind/\uY o x made.length=true /\
  K2=(if o.kind=4 then K.set { x with maps:=x.maps++o.maps.map (jI made) }else if o.kind=3 then K.set (x.eF (uI x o made cores))else K):=by
 unfold lN at e
 cases h:K.obj (made.getD (i+1) 0)with
 | none=>rw[h]at e;cases e
 | some x =>
  rw[h]at e;simp only at e;by_cases q:(decide (x.kind=o.kind)&&uY o x made.length)=true
  ·rw[aD q]at e
   simp only[Option.some.injEq]at e;simp only[aM,aY]at q;exact⟨x,rfl,q.1,q.2,e.symm⟩
  ·rw[aA q]at e;cases e
theorem Br{K:Km}{made:List Int}{cores:Int}{i:Nat}{o:dR}{os:List dR}{r:Km}(e:iH K made cores i (o::os)=some r):∃K',lN K made cores i o=some K'/\iH K' made cores (i+1) os=some r:=by
 unfold iH at e
 cases h:lN K made cores i o with
 | none=>rw[h]at e;cases e
 | some p=>rw[h]at e;exact⟨p,rfl,e⟩
theorem KP{w00 w:World}{lo:Nat}{GD:List (Nat×Array Value×TypeId)}{g:Gh}{K:Km}{mv:Value}{made:List Int}(h:fO w00 lo GD w g K mv made)(hlo:lo=w00.heap.size){o:dR}{ls lc vd vm:Value}(hv:pI w00 o ls lc vd vm){x:Ob}(hx:K.obj x.name=some x)(hk:x.kind=o.kind)
  {cores:Int} (hc:1<=cores/\cores<=4) (hok:uY o x made.length=true) (hml:made.length<=1000) {K2:Km} (hK2:K2=(if o.kind=4 then K.set { x with maps:=x.maps++o.maps.map (jI made) }else if o.kind=3 then K.set (x.eF (uI x o made cores))else K)) :
  Calls Tryz.prog 65 #[.pointer (some ⟨g.kb,0,none⟩),.pointer (some ⟨g.bl x.name,0,none⟩),wP o ls lc vd vm,mv,.int .i64 cores] w fun e w' =>
   e=.returned (.tuple #[])/\∃g',fO w00 lo GD w' g' K2 mv made/\g'.kb=g.kb/\K2.slots=K.slots:=by
 have hvw:=hv.below h.eO (by omega);unfold uY at hok;simp only[Bool.or_eq_true,aM,aY,List.all_eq_true]at hok;rcases hok with(⟨k1,s1,s2,s3⟩|⟨k1,s1,s2,s3,s4⟩)|⟨k1,s1⟩
 ·rw[aD k1]at hK2
  refine(Gq w g K h.kin x hx (hk.trans k1) o ls lc vd vm mv made cores hvw k1 s1 (fun wx kw=>?_) (fun m hm=>s2 m hm) s3 (by omega)).mono ?_
  ·have hb:=h.eO.trans (kw.below h.le (fun b hb q=>q (h.free b hb)))
   refine⟨aJ.below hv.maps hb (by omega),aJ.own (dA h.row kw (fun b hb q=>q (h.Fw b hb)))⟩
  ·rintro e w' ⟨rfl,g',f1,f2,f3,⟨f4,-,-,-,-,-,-,f5⟩,f6⟩
   rw[List.take_length]at f1;refine⟨rfl,g',?_,f2.al.kb,by rw[hK2];rfl⟩;rw[hK2];refine h.step f1 (h.inv.set hx rfl rfl (fun q=>?_) (fun q=>?_) (by rw[f4];exact dQ.refl _ _) (by rw[f4]) f3 f5 (fun b n i e=>(f6 b n i e))) f2
   ·have:x.kind=1:=q
    omega
   ·have:x.kind=2:=q
    omega
 ·rw[aA (by omega),aD k1]at hK2
  refine(DU w g K h.kin x hx (hk.trans k1) o ls lc vd vm mv made cores hvw k1 (aJ.own h.row) s1 s2 hc s4 (iE s3)).mono ?_;rintro e w' ⟨rfl,f1,f2⟩;refine⟨rfl,g,?_,rfl,by rw[hK2];rfl⟩;rw[hK2];refine h.step f1 (h.inv.set hx rfl rfl (fun q=>?_) (fun q=>?_) (dQ.refl _ _) rfl (fun n=>dO.refl g n) rfl (fun b n i e=>.inl e)) f2
  ·have:x.kind=1:=q
   omega
  ·have:x.kind=2:=q
   omega
 ·rw[aA k1.2.1,aA k1.1]at hK2
  refine(Gr _ _ o ls lc vd vm mv cores w hvw k1.1 k1.2.1 k1.2.2 s1).mono ?_;rintro e w' ⟨rfl,f1⟩;exact⟨rfl,g,by rw[hK2];exact h.below f1,rfl,by rw[hK2]⟩
end Go.Proofs.YtiadbhiadhgjkaaGreatDoor
namespace Go.Proofs.YtiadbhiadhgjkaaGreatDoor
open Go.RowKit
structure GX(w:World)(g:Gh)(K:Km)(cv:Value):Prop where
 tags:qH g
 kS:∀b,w.heap.size<=b->g.A b=none
 gZ:∃sv dv,aR w g.kb (pz g cv sv dv K.done) 88/\Own w g.A (0,7) 127 2 sv K.slots.length (K.slots.flatMap jS)/\eB w g.A (0,8) dv K.eU
 tab:vQ w g K.obj
 pool:bB w g.pb g.db g.ob g.P
 slot:∀s∈K.slots,1<=s.2/\s.2<=16
 objs:∀n o,K.obj n=some o->o.name=n/\vZ w g o
def core0(left:Int):mZ:=⟨0,left,0,fun _=>0,0⟩
def yg(left:Int):List Value:=coreC (core0 left) Pl.zero false 0
def oO(left:Int):Nat->List Value
 | 0=>[]
 | n+1=>oO left n++yg left
theorem sF(left:Int)(n:Nat):(oO left n).length=n*27:=by
 induction n with
 | zero=>rfl
 | succ n ih=>unfold oO;rw[aO,ih,Nat.succ_mul];rfl
theorem Ac(left:Int):∀n i j,i<n->j<27->(oO left n)[i*27+j]? = (yg left)[j]?
 | 0,i,j,h,_=>by omega
 | n+1,i,j,h,hj=>by
  unfold oO;by_cases q:i<n
  ·rw[List.getElem?_append_left (by rw[sF];omega)];exact Ac left n i j q hj
  ·obtain rfl:i=n:=by omega
   rw[List.getElem?_append_right (by rw[sF];omega),sF];congr 1;omega
section
variable {w w' w5:World}{g:Gh}{K:Km}{cv:Value}
theorem cZ.toM(h:cZ w g K)(hnc:K.nc=0):GX w g K (.slice none 0 0):=by
 obtain⟨cv,sv,dv,h1,h2,h3,h4⟩:=h.gZ.ex;rcases h1 with⟨-,rfl⟩|⟨cap,-,-,-,hp⟩
 ·exact⟨h.tags,h.kS,⟨sv,dv,h2,h3,h4⟩,h.tab,h.pool,h.slot,h.objs⟩
 ·omega
theorem GX.put(h:GX w g K cv){n0:Nat}{xs ys:List Value}(hv:Own w g.A (0,6) 162 27 cv n0 xs)(hk:Kept (fun b=>cv.ownBlock=some b) w w5){g5 cap n:Nat}(hrow:w5.ownsRow 0 162 27 (.slice (some ⟨g5,0,none⟩) n cap) n ys)(hg5:cv.ownBlock=some g5\/w.heap.size<=g5)(hlt:g5<w5.heap.size) :
  GX (w5.setCell ⟨g.kb,2,none⟩ (.slice (some ⟨g5,0,none⟩) n cap)) (g.own g5 (0,6)) K (.slice (some ⟨g5,0,none⟩) n cap)/\Own (w5.setCell ⟨g.kb,2,none⟩ (.slice (some ⟨g5,0,none⟩) n cap)) (g.own g5 (0,6)).A (0,6) 162 27 (.slice (some ⟨g5,0,none⟩) n cap) n ys/\Ext g (g.own g5 (0,6)) w (w5.setCell ⟨g.kb,2,none⟩ (.slice (some ⟨g5,0,none⟩) n cap)):=by
 obtain⟨sv,dv,hB,hsv,hdv⟩:=h.gZ;have k:=qQ (B:=g.kb) (ci:=2) hk (.slice (some ⟨g5,0,none⟩) n cap);have hm:dS w (kR cv g.kb):=nQ hB hv.row (by decide) (by decide);have hold:=qy (hv:=hv.tag) h.kS hg5
 have hs:∀b,kR cv g.kb b->g.A b=some (0,6)\/g.A b=some (0,0):=fun b q=>by
  rcases q with q|q
  ·exact .inl (hv.tag b q)
  ·rw[q];exact .inr h.tags.kb
 have hsz:(w5.setCell ⟨g.kb,2,none⟩ (.slice (some ⟨g5,0,none⟩) n cap)).heap.size=w5.heap.size:=by simp[World.setCell]
 have hne:g.kb≠g5:=fun e=>by
  rcases hg5 with e1|e1
  ·have:=hv.tag _ e1;rw[<-e,h.tags.kb]at this;cases this
  ·have:=hB.lt;omega
 have ni:aR w5 g.kb (pz g cv sv dv K.done) 88:=hk.blk hB (fun e=>by have:=hv.tag _ e;rw[h.tags.kb]at this;cases this);have l:=dK.own g (b:=g5) (tg:=(0,6)) hold
 have h0:∀b i,i≠6->i≠0->kR cv g.kb b->g.A b≠some (0,i):=fun b i h6 h0 q e=>by
  rcases hs b q with e1|e1<;>· rw[e1]at e;cases e;omega
 have hn:∀b (m:Int) i,0<m->kR cv g.kb b->g.A b≠some (m,i):=fun b m i hp q e=>by
  rcases hs b q with e1|e1<;>· rw[e1]at e;cases e;omega
 refine⟨⟨h.tags.alike l,fun b hb=>?_,⟨sv,dv,ni.set 2 _,Own.kept hsv k (fun b q _=>h0 b 7 (by omega) (by omega) q) l.A,Own.kept hdv k (fun b q _=>h0 b 8 (by omega) (by omega) q) l.A⟩,h.tab.kept h.tags k l (fun b q _=>⟨h0 b 1 (by omega) (by omega) q,h0 b 2 (by omega) (by omega) q⟩) (fun _=>rfl) (fun _ _ _=>rfl),
  h.pool.tagged h.tags k l (fun b q _ i h3 h5=>h0 b i (by omega) (by omega) q),h.slot,fun m o e=>⟨(h.objs m o e).1,(h.objs m o e).2.kept k hm (fun b q _ i=>hn b _ i (h.objs m o e).2.pos q) l.A (dO.own g g5 _ _) ⟨rfl,rfl,rfl⟩⟩⟩,
  ⟨dA hrow ((Kept.refl (·=g.kb) w5).bC _ _ _ rfl) (fun b hb q=>by cases hb;exact hne q.symm),fun b hb=>by cases hb;exact aD rfl⟩,
  Ext.wrote l k (fun b q _=>by rcases hs b q with e|e<;>exact⟨_,e⟩) (fun b hb e=>?_) (fun _ _=>⟨rfl,rfl⟩)⟩
 ·rw[hsz]at hb
  rw[Gh.jm,aA (by omega)];exact h.kS b (bD hk.size hb)
 ·rw[Gh.jm,aA];· exact e
  rintro rfl;rcases hg5 with e1|e1
  ·have:=hv.tag _ e1;rw[e]at this;cases this
  ·omega
theorem GX.done(h:GX w g K cv){n:Nat}{left:Int}(hn:1<=n/\n<=4)(hs:1<=K.slots.length/\K.slots.length<=8)(hl:1<=left/\left<=16)(hv:Own w g.A (0,6) 162 27 cv n (oO left n)) :
  ∃b,cZ w { g with cb:=b,fC:=fun _=>Pl.zero,flush:=fun _=>false,last:=fun _=>0 } { K with nc:=n,cores:=fun _=>core0 left }:=by
 obtain⟨sv,dv,hB,hsv,hdv⟩:=h.gZ;rcases hv.row.2 with⟨-,e⟩|⟨b,cap,cur,rfl,-,hh,h1,h2,h3,h4⟩
 ·omega
 ·refine⟨b,⟨h.tags.kb,h.tags.tb,h.tags.mb,h.tags.pb,h.tags.db,h.tags.ob⟩,h.kS,⟨_,sv,dv,.inr ⟨cap,rfl,h1,h2,by show 0<n;omega⟩,hB,hsv,hdv⟩,⟨h.tab.tab,h.tab.map⟩,h.pool,⟨fun _=>⟨hv.tag b rfl,cur,hh,fun i hi=>?_⟩,fun i hi=>⟨⟨Int.le_refl _,by show(0:Int)<((K.slots.length:Nat):Int);omega⟩,hl,⟨Int.le_refl _,by show(0:Int)<=_;omega⟩,fun j=>⟨Int.le_refl _,by show(0:Int)<=_;omega⟩,⟨Int.le_refl _,by show(0:Int)<=_;omega⟩⟩,hn.2,hs.2⟩,h.slot,fun m o e=>⟨(h.objs m o e).1,⟨(h.objs m o e).2.pos,(h.objs m o e).2.tag,(h.objs m o e).2.late,(h.objs m o e).2.ex⟩⟩⟩
  intro j hj;have hj':j<27:=hj;have hi':i<n:=hi;have e1:=Ac left n i j hi' hj';rw[<-h4]at e1;show cur[i*27+j]? = (yg left)[j]?
  rw[<-e1,List.getElem?_take_of_lt (by omega),Array.getElem?_toList]
theorem BInv.done{left:Int}{n b:Nat}(h:BInv g K):Inv { g with cb:=b,fC:=fun _=>Pl.zero,flush:=fun _=>false,last:=fun _=>0 } { K with nc:=n,cores:=fun _=>core0 left } :=
 ⟨h.inv.own,h.inv.name,h.inv.cont,fun m o e k=>⟨(h.inv.seg m o e k).inn,(h.inv.seg m o e k).len,(h.inv.seg m o e k).p16,(h.inv.seg m o e k).data⟩,h.inv.rD,fun m o e k=>.inl (by rw[h.inv.name m o e];exact h.th m o e k),fun _ _ _ k _ hf=>absurd rfl hf,fun _ _=>⟨Int.le_refl _,by show(0:Int)<4;decide⟩,h.inv.lD,h.inv.room,h.inv.yw⟩
end
end Go.Proofs.YtiadbhiadhgjkaaGreatDoor
