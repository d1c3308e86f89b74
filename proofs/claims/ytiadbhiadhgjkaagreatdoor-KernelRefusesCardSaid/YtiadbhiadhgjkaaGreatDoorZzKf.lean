import Derived.Test.YtiadbhiadhgjkaaGreatDoorZzKc
set_option maxRecDepth 100000
set_option maxHeartbeats 1000000
namespace Go.Proofs.YtiadbhiadhgjkaaGreatDoor
open Go.RowKit
attribute [local irreducible] World.setCell World.alloc World.drew World.setRow Calls Code.wp
theorem Mk.resize{w0 w w':World}{g0 g:Gh}{K:Km}{xb tb:Nat}{x:Ob}{lp T v':Value}{mt o:Int}{n:Nat}{L':List Int}{P':Pool}(h:Mk w0 w g0 g K xb x (fJ fB lp) mt T tb)
  (hR:iy w w' xb 16 g.pb g.db g.ob (jO x (fJ fB lp) mt T) (xb+1) fB [] g.P o n v' L' P') (h0:w0.heap.size<=xb):Mk w0 w' g0 { g with P:=P' } K xb (x.Av n) (fJ v' lp) mt T tb:=by
 have hm:dS w (RS g.pb g.db g.ob xb fB):=fun b cs ty fz q hh=>by
  rcases q with q|q|q
  ·exact sU h.kin.pool b cs ty fz q hh
  ·exact dS.of h.blk (by decide) b cs ty fz q hh
  ·cases q
 have hn:∀b,PS g.pb g.db g.ob b->∃i,g.A b=some (0,i):=fun b q=>by
  rcases q with q|q|q
  ·exact⟨3,by rw[q];exact h.kin.tags.pb⟩
  ·exact⟨4,by rw[q];exact h.kin.tags.db⟩
  ·exact⟨5,by rw[q];exact h.kin.tags.ob⟩
 refine⟨h.kin.wD hR.kept hm (fun b q _=>?_) hR.pool,⟨h.ext.al.trans ⟨rfl,rfl,rfl,rfl,rfl,rfl,rfl,fun _ _ e=>e⟩,h.ext.kept.then hR.kept (fun i hi q e=>?_),h.ext.tag,h.ext.bl⟩,?_,bg.mild h.lab hR.kept hm,h.no,fun e=>⟨hR.kept.blk (h.th e).1 (fun q=>?_),(h.th e).2⟩⟩
 ·rcases q with q|q|q
  ·exact .inr q
  ·rw[q];exact .inl (.inl h.no)
  ·cases q
 ·rcases q with q|q|q
  ·obtain⟨j,e1⟩:=hn i q
   have:=h.ext.tag i hi e;rw[this]at e1;cases e1
  ·omega
  ·cases q
 ·have:=hR.seg.hb
  exact this.cells rfl
 ·rcases q with q|q|q
  ·obtain⟨j,e1⟩:=hn tb q
   rw[(h.th e).2.1]at e1;cases e1
  ·exact(h.th e).2.2.1 q
  ·cases q
theorem JW(w:World)(g:Gh)(K K':Km)(hm x:Ob)(l:dn)(lv:Value)(n:Nat)(count:Int)(h:cZ w g K)(hI:Inv g K)(hh:K.obj hm.name=some hm)(hk:hm.kind=1)(hl:bU w lv l)(hok:fV l)
  (hn:n<=16) (e:K.place hm 2 l (n:Int) count=.ok K' x) :
  Calls Tryz.prog 63 #[.pointer (some ⟨g.kb,0,none⟩),.pointer (some ⟨g.bl hm.name,0,none⟩),.int .i64 2,lv,.int .i64 (n:Int),.int .i64 count] w fun e w' =>
   uy w g K' x e w':=by
 obtain⟨a1,a2,a3,a4,a5,rfl,rfl⟩:=kD e;have HA:=ah (And.intro a1 (And.intro a2 a3));rw[aA (by decide)]at a1 a2;have hc1:dH 2 (n:Int)=1+n:=rfl;have hc0:dH 2 ((0:Nat):Int)=1:=rfl;rw[hc1]at a2 a3;obtain⟨ls,rfl,hls⟩:=hl;obtain⟨la,lc,rfl,-,-⟩:=aJ.form hls;have hco:=hI.cont _ _ hh hk;have hno:=hI.own;obtain⟨s,T,hO⟩:=h.at hh;have c2:=hO.name;have hblt:=hO.blk.lt;have H:=ah h;have HI:=ah hI;have HL:=ah hls;have HH:=ah hh;have HO:=ah hO;have HC:=ah hco;clear h hI hls e hco hO hno;go_enter Tryz.func63,Tryz.ntmps63
 go_wp2_with fail
 go_region
 go_wp2_with fail
 refine mq fun w2 hw2=>?_
 generalize hxb:w.heap.size+1=xb;have hb2:Below w.heap.size w w2:=by rw[hw2];exact(((aC _ w).alloc (aj _) _).alloc (by simp) _).drew
 have HM:Hid (Mk w w2 g g K xb (ob0 0 2 l hm.name) ⟨.slice none 0 0,.slice none 0 0,.slice none 0 0,.slice none 0 0,.slice la l.ps.length lc,.slice none 0 0,.slice none 0 0,fun _=>.slice none 0 0,0⟩ 0 (.pointer none) 0) :=
  ⟨H.out.below hb2,Ext.below hb2,by
   rw[hw2,<-hxb,<-au w (.cells #[.int .i64 (l.d:Nat),.slice la l.ps.length lc] 43)];exact((aR.new _ _ _).drew).cells rfl,aJ.below HL.out hb2 (aj _),H.out.kS _ (by omega),fun q=>absurd rfl q⟩
 have qX:=ah (HO.out.below hb2);clear hw2 hb2 c2 hblt;have lG:=uj _ _ _ _ _ _ [] HM.out.blk (.inl ⟨rfl,rfl⟩) (by simp);rw[show dH (ob0 0 2 l hm.name).kind (([]:List Int).length:Nat)=1 from hc0]at lG;refine lG.mono ?_;rintro e w' ⟨rfl,rfl⟩;clear lG;obtain⟨c12,c13,c14⟩:=qX.out.names;go_wp2_with fail
 refine(lW hm.names _ HC.out.names).mono ?_;rintro e w3 ⟨rfl,hb3⟩;have uH:=ah (HM.out.below hb3);have BO:=ah (qX.out.below hb3);have q1:¬hm.names.left<1:=by omega
 clear hb3 c12 c13 c14 HM qX;obtain⟨c9,c10,c11⟩:=BO.out.purse;go_wp2_with fail
 refine(lX hm.purse _ HC.out.sm).mono ?_;rintro e w4 ⟨rfl,hb4⟩;have Qh:=ah (uH.out.below hb4);have BN:=ah (BO.out.below hb4);have q2:¬hm.purse.left<1+(n:Int):=by omega
 clear hb4 c9 c10 c11 uH BO;go_wp2_with fail
 refine(qL hm.names _ 12 _ _ _ BN.out.blk (lZ _ _ _ _) HC.out.names a1).mono ?_;rintro e w5 ⟨rfl,hP⟩;have hn1:(K.set (hm.bR ⟨hm.names.lo,hm.names.next+1,hm.names.hi⟩)).obj hm.name=some (hm.bR ⟨hm.names.lo,hm.names.next+1,hm.names.hi⟩):=aD rfl;have BQ:=ah (Qh.out.names hh BN.out hP);clear hP;have x2:w5.cell? ⟨xb,2,none⟩=some (.int .u64 0):=(BQ.out.blk.cell 2).trans rfl;have f2:w5.frozen? ⟨xb,2,none⟩=false:=BQ.out.blk.free 2;have BP:=ah (BQ.out.sO (x':=(ob0 0 2 l hm.name).fP hm.names.next) 2 (.int .u64 hm.names.next) rfl ⟨rfl,rfl⟩ (by omega));obtain⟨s6,T6,Iw⟩:=BP.out.kin.at hn1;have sK:=ah Iw;clear Iw;go_wp2_with fail
 refine(nI hm.purse _ _ 9 _ _ _ sK.out.blk (kF _ _ _ _) HC.out.sm ⟨by omega,by omega⟩).mono ?_;rintro e w7 ⟨rfl,hP⟩;have Qg:=ah (BP.out.purse hn1 sK.out hP);clear hP x2 f2 Qh BN BQ
 have Hg:Hid (Mk w w7 g g (K.set ((hm.bR ⟨hm.names.lo,hm.names.next+1,hm.names.hi⟩).dB ⟨hm.purse.lim,hm.purse.used+(1+n),hm.purse.given⟩)) xb ((ob0 0 2 l hm.name).fP hm.names.next) (fJ fB (.slice la l.ps.length lc)) 0 (.pointer none) 0):=by
  rw[<-Km.set_set K (hm.bR ⟨hm.names.lo,hm.names.next+1,hm.names.hi⟩) ((hm.bR ⟨hm.names.lo,hm.names.next+1,hm.names.hi⟩).dB ⟨hm.purse.lim,hm.purse.used+(1+n),hm.purse.given⟩) rfl];exact Qg.out
 clear Qg BP sK;obtain⟨kc0,kc1⟩:=Hg.out.kin.iV;have x2:w7.cell? ⟨xb,2,none⟩=some (.int .u64 hm.names.next):=(Hg.out.blk.cell 2).trans rfl;have Jh:=ah (Hg.out.below ((aC _ w7).drew))
 have qK:Hid (∀wz,wz=w7.drew->Calls Tryz.prog 38 #[.pointer (some ⟨g.pb,0,none⟩),.int .u64 hm.names.next] wz fun e w'=>∃v,e=.returned v/\(v=.int .i64 (g.P.bJ hm.names.next)/\Mk w w' g { g with P:=g.P.alloc hm.names.next } (K.set ((hm.bR ⟨hm.names.lo,hm.names.next+1,hm.names.hi⟩).dB ⟨hm.purse.lim,hm.purse.used+(1+n),hm.purse.given⟩)) xb ((ob0 0 2 l hm.name).fP hm.names.next) (fJ fB (.slice la l.ps.length lc)) 0 (.pointer none) 0)):=fun wz ez=>by
  rw[ez];refine(jk g.pb g.db g.ob g.P hm.names.next _ Jh.out.kin.pool).mono ?_;rintro e w' ⟨rfl,h1,h2⟩;exact⟨_,rfl,rfl,Jh.out.pool h1 h2⟩
 go_wp2_with fail
 go_region_law (refine cB (by rfl) (bP (vs:=#[.pointer (some ⟨g.pb,0,none⟩),.int .u64 hm.names.next]) (by simp[Act.eval]) (bE Tryz.func38 (by kernel_rfl) rfl)) (qK.out _ (by first|rfl|exact drew_eq w7)) ?_;rintro v w9 ⟨rfl,hm9⟩;have x8:w9.cell? ⟨xb,8,none⟩=some (.int .i64 0):=(hm9.blk.cell 8).trans rfl;have f8:w9.frozen? ⟨xb,8,none⟩=false:=hm9.blk.free 8)
 all_goals
  have lu:=ah (hm9.sO (x':=(ob0 0 2 l hm.name).fP hm.names.next) (WM:=g.P.bJ hm.names.next) 8 (.int .i64 (g.P.bJ hm.names.next)) rfl ⟨rfl,rfl⟩ (by omega));clear x8 f8 kc0 kc1;go_wp2_with fail
  obtain⟨wz,hwz⟩:∃wz,wz=w9.setCell ⟨xb,8,none⟩ (.int .i64 (g.P.bJ hm.names.next)):=⟨_,rfl⟩;rw[<-hwz]at lu ⊢;clear hm9 hwz x2;have TG:=kQ g.P hm.names.next (by have:=HC.out.next;omega) (by have:=HI.out.room;have:=nD HI.out;omega)
  have hseg:Hid (Seg wz xb 16 g.pb g.db g.ob (jO ((ob0 0 2 l hm.name).fP hm.names.next) (fJ fB (.slice la l.ps.length lc)) (g.P.bJ hm.names.next) (.pointer none)) (xb+1) fB [] (g.P.alloc hm.names.next) hm.names.next) :=
   ⟨⟨lu.out.blk,rfl,.inl ⟨rfl,rfl⟩,by omega,by simp⟩,lu.out.kin.pool,⟨List.nodup_nil,fun f hf=>by simp at hf,by have:=HC.out.next;omega,by
    show bY _ _ (g.P.alloc hm.names.next).n=0+1
    rw[TG.1.n,TG.2.2,HI.out.yw _ (by have:=HC.out.next;omega) a5]⟩,lu.out.blk.lt,⟨by have:=H.out.pool.hp.lt;omega,by have:=H.out.pool.hd.lt;omega,by have:=H.out.pool.ho.lt;omega⟩⟩
  have Tv:MP (g.P.alloc hm.names.next) [] hm.names.next (n:Int)=true:=(Cv _ _ _ _).2 ⟨by omega,by omega,by
   have:=HI.out.room;have:=nD HI.out;have:=TG.2.1;simp only[List.length_nil];omega,by have:=HC.out.next;omega⟩
  obtain⟨-,kc3⟩:=lu.out.kin.iV;have x2:wz.cell? ⟨xb,2,none⟩=some (.int .u64 hm.names.next):=(lu.out.blk.cell 2).trans rfl;have HMF:=ah TG;clear TG
  have qK:Hid (∀wy,wy=wz.drew->Calls Tryz.prog 89 #[.pointer (some ⟨xb,16,none⟩),.pointer (some ⟨g.pb,0,none⟩),.int .u64 hm.names.next,.int .i64 (n:Int)] wy fun e w'=>∃v,e=.returned v/\(v=.bool true/\∃v' L' P',iy (wz.drew) w' xb 16 g.pb g.db g.ob (jO ((ob0 0 2 l hm.name).fP hm.names.next) (fJ fB (.slice la l.ps.length lc)) (g.P.bJ hm.names.next) (.pointer none)) (xb+1) fB [] (g.P.alloc hm.names.next) hm.names.next n v' L' P')):=fun wy ez=>by
   rw[ez];refine((hseg.out.below ((aC _ _).drew)).resize n Tv).mono ?_;rintro e w' ⟨rfl,v',L',P',h1,-⟩;exact⟨_,rfl,rfl,v',L',P',h1⟩
  have Ia:=ah (lu.out.below ((aC _ _).drew));clear hseg Tv;go_region_law (refine cB (by rfl) (bP (vs:=#[.pointer (some ⟨xb,16,none⟩),.pointer (some ⟨g.pb,0,none⟩),.int .u64 hm.names.next,.int .i64 (n:Int)]) (by simp[Act.eval]) (bE Tryz.func89 (by kernel_rfl) rfl)) (qK.out _ (by first|rfl|exact drew_eq _)) ?_;rintro v w10 ⟨rfl,v',L',P',hR⟩)
  all_goals
   have zw:=ah (Ia.out.resize hR (by omega));have YE:=hR.seg.hv;have hRo:=hR.own;have hRi:=hR.inn;have hRl:=hR.len;have hRm:=hR.mv;have hRt:=hR.left;have hRd:=hR.data;have HR:=ah (And.intro YE (And.intro hRo (And.intro hRi (And.intro hRl (And.intro hRm (And.intro hRt hRd))))));clear hR YE hRo hRi hRl hRm hRt hRd kc3 x2;obtain⟨kc4,-⟩:=zw.out.kin.iV;go_wp2_with fail
   have hKn:(K.set ((hm.bR ⟨hm.names.lo,hm.names.next+1,hm.names.hi⟩).dB ⟨hm.purse.lim,hm.purse.used+(1+n),hm.purse.given⟩)).obj hm.names.next=none:=by
    rw[Km.aI _ _ (fun e=>by rw[e]at a5;rw[show K.obj ((hm.bR ⟨hm.names.lo,hm.names.next+1,hm.names.hi⟩).dB ⟨hm.purse.lim,hm.purse.used+(1+n),hm.purse.given⟩).name=some hm from hh]at a5;cases a5)];exact a5
   have hxz:w.heap.size+1+1<=wz.heap.size:=by have:=lu.out.blk.lt;omega
   obtain⟨k1,k2,k3⟩:=zw.out.enter (tb:=0) (L:=L') ⟨rfl,rfl,rfl,rfl,rfl,rfl⟩ (by show 0<hm.names.next;have:=HC.out.next;omega) hok hKn (fun b i e=>by
    rcases HI.out.own b _ i e with e1|⟨o,e1⟩
    ·have:=HC.out.next
     have e2:hm.names.next=0:=e1;omega
    ·rw[show K.obj (((ob0 0 2 l hm.name).fP hm.names.next).Av n).name=none from a5]at e1;cases e1) HR.out.1 (fun c hc=>by
    have e0:wz.drew.heap.size=wz.heap.size:=by simp
    rcases HR.out.2.1 c hc with q|q
    ·cases q
    ·rw[e0]at q
     exact⟨Ia.out.kin.kS c (by rw[e0];exact q),by omega,by omega⟩) (fun e3=>absurd (show(2:Int)=3 from e3) (by decide)) (fun _=>rfl) ⟨by have:=H.out.pool.hp.lt;show g.pb<xb;omega,by have:=H.out.pool.hd.lt;show g.db<xb;omega,by have:=H.out.pool.ho.lt;show g.ob<xb;omega⟩ (by omega)
   have hadd:=wK _ _ _ k1 _ ((hm.bR ⟨hm.names.lo,hm.names.next+1,hm.names.hi⟩).dB ⟨hm.purse.lim,hm.purse.used+(1+n),hm.purse.given⟩) k2 hKn (Km.dz K _) hk a4;rw[show(Gh.add _ _ _ _ _ _ _ _).bl _=xb from aD rfl]at hadd;refine hadd.mono ?_;clear hadd;rintro e w12 ⟨rfl,b,f1,f2⟩;go_wp2_with fail
   go_ret2
   have hx0:((ob0 0 2 l hm.name).fP hm.names.next).Av n=jo hm 2 l n count:=rfl;have hh0:({ ((hm.bR ⟨hm.names.lo,hm.names.next+1,hm.names.hi⟩).dB ⟨hm.purse.lim,hm.purse.used+(1+n),hm.purse.given⟩)with kids:=((hm.bR ⟨hm.names.lo,hm.names.next+1,hm.names.hi⟩).dB ⟨hm.purse.lim,hm.purse.used+(1+n),hm.purse.given⟩).kids++[(((ob0 0 2 l hm.name).fP hm.names.next).Av n).name] }:Ob)=iW hm 2 n count:=rfl;rw[hh0,hx0]at f1;obtain⟨YE,hRo,hRi,hRl,hRm,hRt,hRd⟩:=HR.out
   obtain⟨r1,r2⟩:=oF (n:=(n:Int)) (h2:=(hm.bR ⟨hm.names.lo,hm.names.next+1,hm.names.hi⟩).dB ⟨hm.purse.lim,hm.purse.used+(1+n),hm.purse.given⟩) HI.out hh hk (fun _=>by omega) (fun q=>absurd q (by decide)) HA.out.1 HA.out.2.1 HA.out.2.2 a5 rfl f1 (HMF.out.1.trans hRm) (fun m hm'=>⟨aA hm',aA hm',aA hm',aA hm',aA hm',aA hm'⟩) ⟨rfl,rfl,rfl⟩ ⟨rfl,rfl,rfl⟩ (fun c m i e=>by
    rw[Gh.jm]at e;split at e
    ·cases e;exact .inr (.inr rfl)
    ·have e':(if c=xb then some (hm.names.next,0)else if v'.ownBlock=some c then some (hm.names.next,3)else if _/\c=0 then some (hm.names.next,10)else g.A c)=some (m,i):=e
     split at e'
     ·cases e';exact .inr (.inl rfl)
     split at e'
     ·cases e';exact .inr (.inl rfl)
     split at e'
     ·cases e';exact .inr (.inl rfl)
     ·exact .inl e') (fun _=>⟨by
      show iP P' hm.names.next (if hm.names.next=hm.names.next then L' else _)
      rw[aD rfl];exact hRi,by
      show(if hm.names.next=hm.names.next then L' else _).length=n
      rw[aD rfl];exact hRl,hn,fun j hj=>by
      show(0:Int)=kV P' (if hm.names.next=hm.names.next then L' else _) j
      rw[aD rfl,hRd j hj,aA (by simp)]⟩) (fun q=>absurd rfl q) (fun q=>absurd q (by decide)) rfl (by
     rw[aD rfl];have:=HMF.out.2.1;show(P'.left:Int)+(1+n)=_
     simp only[List.length_nil]at hRt;omega)
   refine⟨_,?_,r1,r2,k3.trans f2,fun m hm'=>⟨aA hm',aA hm',aA hm',aA hm',aA hm',aA hm'⟩,fun q=>absurd (show(2:Int)=3 from q) (by decide)⟩;show Ending.returned (.tuple #[.pointer (some ⟨xb,0,none⟩),.int .i64 0])=Ending.returned (.tuple #[.pointer (some ⟨if hm.names.next=hm.names.next then xb else _,0,none⟩),.int .i64 0])
   rw[aD rfl]
end Go.Proofs.YtiadbhiadhgjkaaGreatDoor
