import Derived.Test.YtiadbhiadhgjkaaGreatDoorZzPgF
import Derived.Deep.LoopGhost
set_option maxRecDepth 100000
set_option maxHeartbeats 4000000
namespace Go.Proofs.YtiadbhiadhgjkaaGreatDoor
open Go.RowKit
theorem yt(N M:Nat->Int)(k:Nat)(h:∀j,j<k->N j=M j):gu N k=gu M k:=by
 induction k with
 | zero=>rfl
 | succ k ih=>unfold gu;rw[ih (fun j hj=>h j (by omega)),h k (by omega)]
theorem Eh(N:Nat->Int)(c k:Nat)(hc:c<k)(h:N c≠0):gu (dU N c 0) k+1=gu N k:=by
 induction k with
 | zero=>omega
 | succ k ih =>
  unfold gu;by_cases e:c=k
  ·subst e
   rw[yt (dU N c 0) N c (fun j hj=>bL _ _ _ _ (by omega)),dZ,aD rfl,aA h]
  ·have:=ih (by omega)
   rw[bL _ _ _ _ (show k≠c by omega)];omega
section
variable {P:Pool}{r o:Int}{N F:Nat->Int}{Y:Nat->Bool}
theorem Tab.cut(h:Tab P r o N F Y)(n i:Nat)(hn:n<585)(hi:i<8)(h0:N n≠0)(hc:8*n+1+i<585)(hN:N (8*n+1+i)≠0)
  (hk:∀j,j<8->8*(8*n+1+i)+1+j<585->N (8*(8*n+1+i)+1+j)=0) (hF:∀p,p<4096->73+p/8=8*n+1+i->F p=0) :
  Tab ((P.free (N (8*n+1+i))).gI (N n) i 0) r o (dU N (8*n+1+i) 0) F Y/\dQ P ((P.free (N (8*n+1+i))).gI (N n) i 0) o /\
   ((P.free (N (8*n+1+i))).gI (N n) i 0).left=P.left+1/\bY ((P.free (N (8*n+1+i))).gI (N n) i 0).O o P.n+1=bY P.O o P.n:=by
 obtain⟨c,hce⟩:∃c,8*n+1+i=c:=⟨_,rfl⟩;rw[hce]at hc hN hk hF ⊢;have hwc:=h.own c hc hN;obtain⟨t1,t2⟩:=h.bd c hc hN;have abG:=P.eZ _ (by rw[hwc];exact h.o0);have hac:P.O ((N c).toNat-1)=o:=by unfold Pool.owner at hwc;rw[aD abG]at hwc;exact hwc
 have hfr:P.free (N c)=⟨P.n,dU P.O ((N c).toNat-1) 0,P.D⟩:=by
  unfold Pool.free;rw[aD (by rw[hwc];exact h.o0)]
 obtain⟨nb1,nb2⟩:=h.bd n hn h0
 have Yz:∀m,m<585->N m≠0->m≠c->(N m).toNat-1≠(N c).toNat-1:=fun m hm hm0 hne e=>by
  obtain⟨b1,b2⟩:=h.bd m hm hm0;exact hne (h.inj m c hm hc hm0 hN (by omega))
 have hown1:∀m,m<585->N m≠0->m≠c->(P.free (N c)).owner (N m)=o:=fun m hm hm0 hne=>by
  obtain⟨b1,b2⟩:=h.bd m hm hm0;have hw:=h.own m hm hm0;have hth:=P.eZ _ (by rw[hw];exact h.o0);unfold Pool.owner at hw;rw[aD hth]at hw;rw[hfr];unfold Pool.owner;rw[aD (by rw[Pool.dM];exact⟨b1,b2⟩)];show dU P.O _ 0 _=o
  rw[bL _ _ _ _ (Yz m hm hm0 hne)];exact hw
 have Qu:=fu P.O o 0 ((N c).toNat-1) P.n (by omega);rw[hac,aD rfl,aA (fun e=>h.o0 e.symm)]at Qu;have hfu:=iX P.O 0 ((N c).toNat-1) P.n (by omega);rw[hac,aA h.o0,aD rfl]at hfu
 have zf:dQ P (P.free (N c)) o:=by
  rw[hfr];refine⟨rfl,fun j hj h0 h1=>?_,fun o' h0 h1=>?_,fun _ _ _ _=>rfl⟩
  ·show dU P.O _ 0 j=_
   rw[bL _ _ _ _ (by rintro rfl;exact h1 hac)]
  ·have hc:=fu P.O o' 0 ((N c).toNat-1) P.n (by omega)
   rw[hac,aA (fun e=>h1 e.symm),aA (fun e=>h0 e.symm)]at hc;exact hc
 have hDf:(P.free (N c)).D=P.D:=by rw[hfr]
 have hOf:(P.free (N c)).O=dU P.O ((N c).toNat-1) 0:=by rw[hfr]
 have hnf:(P.free (N c)).n=P.n:=by rw[hfr]
 have UU:(P.free (N c)).owner (N n)≠0:=by rw[hown1 n hn h0 (by omega)];exact h.o0
 have hset:∀t' j,j<8->1<=t'->Go.Proofs.YtiadbhiadhgjkaaGreatDoor.ent ((P.free (N c)).gI (N n) i 0) t' j=if t'=N n/\j=i then 0 else Go.Proofs.YtiadbhiadhgjkaaGreatDoor.ent P t' j:=fun t' j hj ht'=>by
  rw[qC _ _ _ _ _ _ hi hj UU nb1 ht' (by omega) (by omega)];have:Go.Proofs.YtiadbhiadhgjkaaGreatDoor.ent (P.free (N c)) t' j=Go.Proofs.YtiadbhiadhgjkaaGreatDoor.ent P t' j:=by unfold Go.Proofs.YtiadbhiadhgjkaaGreatDoor.ent;rw[hDf]
  rw[this]
 have hN':∀m,m≠c->dU N c 0 m=N m:=fun m hm=>bL _ _ _ _ hm
 have hNc:dU N c 0 c=0:=dZ _ _ _;have hne:∀m,dU N c 0 m≠0->m≠c:=fun m hm e=>hm (by rw[e,hNc])
 refine⟨⟨by rw[hN' 0 (by omega)];exact h.root,h.r0,h.o0,fun m hm hm0 j hj=>?_,fun m m' hm hm' hm0 hm0' e=>?_,fun m hm hm0=>?_,fun m hp hm hm0=>?_,fun p hp hF'=>?_,h.lf⟩,zf.trans (wE _ _ o _ _ hi (hown1 n hn h0 (by omega)) h.o0),by unfold Pool.left;rw[pV,jT,hOf,hnf];omega,by rw[jT,hOf];omega⟩
 ·have hmc:=hne m hm0
  rw[hN' m hmc]at hm0 ⊢;have hb:=h.bd m hm hm0;rw[hset _ j hj hb.1];by_cases e2:m=n/\j=i
  ·obtain⟨rfl,rfl⟩:=e2
   rw[aD ⟨rfl,rfl⟩,hce,aD hc,hNc,aD rfl]
  ·have e3:¬(N m=N n/\j=i):=by
    rintro⟨e4,e5⟩;exact e2 ⟨h.inj m n hm hn hm0 h0 e4,e5⟩
   rw[aA e3,h.ent m hm hm0 j hj];by_cases hb:8*m+1+j<585
   ·rw[aD hb,aD hb,hN' _ (by intro e;exact e2 ⟨by omega,by omega⟩)]
   ·rw[aA hb,aA hb]
 ·rw[hN' m (hne m hm0),hN' m' (hne m' hm0')]at e
  have a1:=hne m hm0;have a2:=hne m' hm0';rw[hN' m a1]at hm0;rw[hN' m' a2]at hm0';exact h.inj m m' hm hm' hm0 hm0' e
 ·have a1:=hne m hm0
  rw[hN' m a1]at hm0 ⊢;rw[oC];exact hown1 m hm hm0 a1
 ·have a1:=hne m hm0
  rw[hN' m a1]at hm0;have:=h.up m hp hm hm0
  rw[hN' _ (by
   intro e2;have:m=8*c+1+(m-1)%8:=by omega
   exact hm0 (by rw[this];exact hk _ (by omega) (by omega)))]
  exact this
 ·have:=h.qh p hp hF'
  rw[hN' _ (by intro e2;exact hF' (hF p hp e2))];exact this
end
theorem Bw(N:Nat->Int)(k:Nat):gu N k<=k:=by
 induction k with
 | zero=>exact aj _
 | succ k ih=>unfold gu;split<;>omega
def desc(m k:Nat):Prop:=k≠0/\((k-1)/8=m\/((k-1)/8-1)/8=m\/(((k-1)/8-1)/8-1)/8=m)
def lvl(l m:Nat):Prop:=(l=0/\m=0)\/(l=1/\1<=m/\m<9)\/(l=2/\9<=m/\m<73)\/(l=3/\73<=m/\m<585)
def under(m p:Nat):Prop:=73+p/8=m\/desc m (73+p/8)
theorem Ab(m:Nat):¬desc m m:=by unfold desc;omega
theorem DZ(m i:Nat)(hi:i<8):desc m (8*m+1+i):=by unfold desc;omega
theorem IG(m i k:Nat)(hi:i<8)(hk:k<585)(h:desc (8*m+1+i) k):desc m k:=by unfold desc at h ⊢;omega
theorem Mi(m i p:Nat)(hi:i<8)(hp:p<4096)(h:under (8*m+1+i) p):under m p:=by
 unfold under at h ⊢;rcases h with h|h
 ·right;rw[h];exact DZ m i hi
 ·right;exact IG m i _ hi (by omega) h
theorem Jw(Y:Nat->Bool)(p:Nat):yV Y p (Y p)=Y:=by
 funext j;unfold yV;split
 ·rename_i h;rw[h]
 ·rfl
structure Dropped(w wx:World)(pb db ob:Nat)(P:Pool)(r o:Int)(N F:Nat->Int)(Y:Nat->Bool)(m k:Nat)(P':Pool)(N' F':Nat->Int):Prop where
 pool:bB wx pb db ob P'
 tab:Tab P' r o N' F' Y
 mv:dQ P P' o
 le:gu N' 585<=gu N 585
 left:P'.left=P.left+(gu N 585-gu N' 585)
 cnt:bY P'.O o P.n+(gu N 585-gu N' 585)=bY P.O o P.n
 out:∀j,j<585->¬desc m j->N' j=N j
 Nn:∀p,p<4096->¬under m p->F' p=F p
 done:∀j,j<k->8*m+1+j<585->N' (8*m+1+j)=0
 IE:∀j,j<k->585<=8*m+1+j->F' (8*m+1+j-585)=0
 kept:Kept (PS pb db ob) w wx
section
variable {w wx wy:World}{pb db ob:Nat}{P P' P1:Pool}{r o:Int}{N F N' F' N1 F1:Nat->Int}{Y:Nat->Bool}{m k:Nat}
theorem Dropped.start(hP:bB w pb db ob P)(hT:Tab P r o N F Y):Dropped w w pb db ob P r o N F Y m 0 P N F :=
 ⟨hP,hT,dQ.refl _ _,aj _,by omega,by omega,fun _ _ _=>rfl,fun _ _ _=>rfl,fun j h=>absurd h (by omega),fun j h=>absurd h (by omega),Kept.refl _ _⟩
theorem Dropped.skip(h:Dropped w wx pb db ob P r o N F Y m k P' N' F')(h1:8*m+1+k<585->N' (8*m+1+k)=0)(h2:585<=8*m+1+k->F' (8*m+1+k-585)=0):Dropped w wx pb db ob P r o N F Y m (k+1) P' N' F' :=
 ⟨h.pool,h.tab,h.mv,h.le,h.left,h.cnt,h.out,h.Nn,fun j hj hc=>by
  by_cases e:j=k
  ·subst e;exact h1 hc
  ·exact h.done j (by omega) hc,fun j hj hc=>by
  by_cases e:j=k
  ·subst e;exact h2 hc
  ·exact h.IE j (by omega) hc,h.kept⟩
theorem Dropped.below(h:Dropped w wx pb db ob P r o N F Y m k P' N' F')(hb:Below wx.heap.size wx wy):Dropped w wy pb db ob P r o N F Y m k P' N' F' :=
 ⟨h.pool.below hb,h.tab,h.mv,h.le,h.left,h.cnt,h.out,h.Nn,h.done,h.IE,h.kept.trans (Kept.of_below hb)⟩
theorem Dropped.leaf(h:Dropped w wx pb db ob P r o N F Y m k P' N' F')(hm:m<585)(h0:N' m≠0)(hk:k<8)(hc:585<=8*m+1+k)
  (hP:bB wy pb db ob (P'.gI (N' m) k 0)) (hK:Kept (PS pb db ob) wx wy):Dropped w wy pb db ob P r o N F Y m (k+1) (P'.gI (N' m) k 0) N' (dU F' (8*m+1+k-585) 0):=by
 obtain⟨p,hp⟩:∃p,8*m+1+k-585=p:=⟨_,rfl⟩;have e1:73+p/8=m:=by omega
 have e2:p%8=k:=by omega
 obtain⟨hT,hM⟩:=h.tab.told p (by omega) (by rw[e1];exact h0) 0 (Y p) (by omega) (by omega);rw[aD rfl,e1,e2,Jw]at hT;rw[aD rfl,e1,e2]at hM;rw[hp];refine⟨hP,hT,h.mv.trans hM,h.le,by unfold Pool.left;rw[pV,jT];exact h.left,by rw[jT];exact h.cnt,h.out,fun q hq hu=>?_,fun j hj hcj=>?_,fun j hj hcj=>?_,h.kept.trans hK⟩
 ·rw[bL _ _ _ _ (by rintro rfl;exact hu (.inl e1))];exact h.Nn q hq hu
 ·exact h.done j (by omega) hcj
 ·by_cases e:j=k
  ·subst e;rw[hp,dZ]
  ·rw[bL _ _ _ _ (by omega)];exact h.IE j (by omega) hcj
theorem Dropped.branch(h:Dropped w wx pb db ob P r o N F Y m k P' N' F')(hm:m<585)(h0:N' m≠0)(hk:k<8)(hc:8*m+1+k<585)(hN:N' (8*m+1+k)≠0){wb:World}
  (hB:Dropped wx wb pb db ob P' r o N' F' Y (8*m+1+k) 8 P1 N1 F1)
  (hP:bB wy pb db ob ((P1.free (N' (8*m+1+k))).gI (N' m) k 0)) (hK:Kept (PS pb db ob) wb wy) :
  Dropped w wy pb db ob P r o N F Y m (k+1) ((P1.free (N' (8*m+1+k))).gI (N' m) k 0) (dU N1 (8*m+1+k) 0) F1/\gu (dU N1 (8*m+1+k) 0) 585+1=gu N1 585:=by
 have e1:N1 (8*m+1+k)=N' (8*m+1+k):=hB.out _ hc (Ab _);have e0:N1 m=N' m:=hB.out m hm (by unfold desc;omega)
 obtain⟨hT,hM,hL,hC⟩:=hB.tab.cut m k hm hk (by rw[e0];exact h0) hc (by rw[e1];exact hN) (fun j hj hcj=>hB.done j hj hcj) (fun p hp hpe=>by
  have:=hB.IE (p%8) (by omega) (by omega);rw[show 8*(8*m+1+k)+1+p%8-585=p by omega]at this;exact this)
 rw[e1,e0]at hT hM hL hC;have hcc:=Eh N1 (8*m+1+k) 585 hc (by rw[e1];exact hN);have a1:=hB.le;have a2:=h.le;have a3:=hB.left;have a4:=h.left;have a5:=hB.cnt;have a6:=h.cnt;rw[h.mv.n]at a5;rw[hB.mv.n,h.mv.n]at hC;refine⟨⟨hP,hT,(h.mv.trans hB.mv).trans hM,by omega,by omega,by omega,fun j hj hd=>?_,fun p hp hu=>?_,fun j hj hcj=>?_,fun j hj hcj=>?_,(h.kept.trans hB.kept).trans hK⟩,hcc⟩
 ·rw[bL _ _ _ _ (by rintro rfl;exact hd (DZ m k hk)),hB.out j hj (fun e=>hd (IG m k j hk hj e))];exact h.out j hj hd
 ·rw[hB.Nn p hp (fun e=>hu (Mi m k p hk hp e))];exact h.Nn p hp hu
 ·by_cases e:j=k
  ·subst e;exact dZ _ _ _
  ·rw[bL _ _ _ _ (by omega),hB.out _ hcj (by unfold desc;omega)];exact h.done j (by omega) hcj
 ·omega
end
attribute [local irreducible] World.setCell World.alloc World.drew World.setRow Calls Code.wp row
def Qo(pb db ob:Nat)(P:Pool)(r o:Int)(N F:Nat->Int)(Y:Nat->Bool)(m:Nat)(w:World)(e:Ending)(w':World):Prop :=
 ∃P' N' F',e=.returned (.int .i64 ((gu N 585-gu N' 585:Nat):Int))/\Dropped w w' pb db ob P r o N F Y m 8 P' N' F'
theorem OP(pb db ob:Nat)(r o:Int)(Y:Nat->Bool):∀(d l m:Nat) (P:Pool) (N F:Nat->Int) (w:World),l+d=3->lvl l m->bB w pb db ob P->Tab P r o N F Y->N m≠0 ->
  Calls Tryz.prog 255 #[.pointer (some ⟨pb,0,none⟩),.int .i64 (N m),.int .i64 l] w (Qo pb db ob P r o N F Y m w):=by
 intro d;induction d with
 | zero =>
  intro l m P N F w hl hv hP hT h0;obtain rfl:l=3:=by omega
  have hm:73<=m/\m<585:=by unfold lvl at hv;omega
  obtain⟨t,ht⟩:∃t,N m=t:=⟨_,rfl⟩;have HS:=ah (Dropped.start (m:=m) hP hT);have Ht:=ah ht;have H0:=ah h0;have hcl:=Bw N 585;rw[ht];clear hP hT h0 hv ht;go_enter Tryz.func255,Tryz.ntmps255
  go_wp2_with fail
  go_loopg [7,8,9,10] 8 (fun g n _ _ i wx=>∃(k:Nat) (P':Pool) (N' F':Nat->Int),k+g=8/\i=.int .i64 k/\n=.int .i64 0/\N'=N/\Dropped w wx pb db ob P r o N F Y m k P' N' F')
  case atStart=>exact⟨0,P,N,F,rfl,rfl,rfl,rfl,HS.out⟩
  case round =>
   clear HS;obtain⟨k,P',N',F',hk,rfl,rfl,hNN,hD⟩:=hrel;subst hNN;have HD:=ah hD;clear hD;by_cases hlt:k<8
   ·have hto:P'.owner t≠0:=by rw[<-Ht.out,HD.out.tab.own m hm.2 H0.out];exact HD.out.tab.o0
    have hent:=HD.out.tab.ent m hm.2 H0.out k hlt;rw[aA (by omega),Ht.out]at hent;have VZ:=ah hto;have PZ:=ah hent;have hbd:=HD.out.pool.bd;have Vo:=VE P' hbd t k;clear hto hent hbd;go_wp2_with fail
    refine(nU pb db ob P' t k _ HD.out.pool VZ.out hlt).mono ?_;rintro e w2 ⟨rfl,hb2⟩;have HD2:=ah (HD.out.below hb2);clear hb2;by_cases hF:F' (8*m+1+k-585)=0
    ·have he:ent P' t k=0:=by rw[PZ.out];unfold vM;rw[aD hF]
     have ha:bits .and .u64 0 1=0:=by decide
     have HF:=ah hF;rw[he];clear he hF Vo;go_wp2_with fail
     go_roundg (8-(k+1))
     case measure=>omega
     case rel=>exact⟨k+1,P',_,F',by omega,by go_num,rfl,rfl,HD2.out.skip (fun h=>by omega) (fun _=>HF.out)⟩
    ·have he:ent P' t k%2=1:=by
      rw[PZ.out];unfold vM;rw[aA hF];split<;>omega
     obtain⟨x,hx⟩:∃x,ent P' t k=x:=⟨_,rfl⟩;rw[hx]at he Vo ⊢;have ha:bits .and .u64 x 1=1:=by rw[mM _ Vo.1 Vo.2];exact he
     have hl3:¬((3:Nat):Int)<3:=by omega
     clear he hx Vo hF;go_wp2_with fail
     refine(ow pb db ob P' t k 0 _ HD2.out.pool hlt (by omega) (by omega)).mono ?_;rintro e w3 ⟨rfl,hP3,hK3⟩;have HD3:=ah (HD2.out.leaf hm.2 H0.out hlt (by omega) (by rw[Ht.out];exact hP3) hK3);clear hP3 hK3;go_wp2_with fail
     go_roundg (8-(k+1))
     case measure=>omega
     case rel=>exact⟨k+1,_,_,_,by omega,by go_num,rfl,rfl,HD3.out⟩
   ·obtain rfl:k=8:=by omega
    have hlt':¬((8:Nat):Int)<8:=by omega
    clear hlt;go_wp2_with fail
    go_ret;exact⟨P',_,F',by rw[Nat.sub_self];rfl,HD.out⟩
 | succ d ih =>
  intro l m P N F w hl hv hP hT h0;have hm:m<73:=by unfold lvl at hv;omega
  have hv':∀k,k<8->lvl (l+1) (8*m+1+k):=fun k hk=>by unfold lvl at hv ⊢;omega
  have Hv:=ah hv';obtain⟨t,ht⟩:∃t,N m=t:=⟨_,rfl⟩;have HS:=ah (Dropped.start (m:=m) hP hT);have Ht:=ah ht;have H0:=ah h0;have Ih:=ah ih;have hcl:=Bw N 585;have hl3:(l:Int)<3:=by omega
  have hpn:=hP.hi;rw[ht];clear hP hT h0 hv hv' ht ih;go_enter Tryz.func255,Tryz.ntmps255
  go_wp2_with fail
  go_loopg [7,8,9,10] 8 (fun g n _ _ i wx=>∃(k:Nat) (P':Pool) (N' F':Nat->Int),k+g=8/\i=.int .i64 k/\n=.int .i64 ((gu N 585-gu N' 585:Nat):Int)/\Dropped w wx pb db ob P r o N F Y m k P' N' F')
  case atStart=>exact⟨0,P,N,F,rfl,rfl,by rw[Nat.sub_self];rfl,HS.out⟩
  case round =>
   clear HS;obtain⟨k,P',N',F',hk,rfl,rfl,hD⟩:=hrel;have HD:=ah hD;have hle:=hD.le;obtain⟨q,hq⟩:∃q,gu N 585-gu N' 585=q:=⟨_,rfl⟩;have hq585:q<=585:=by omega
   have Hq:=ah hq;rw[hq];have hNm:N' m=t:=by rw[hD.out m (by omega) (Ab m),Ht.out]
   have Xq:=ah hNm;have xO:P'.n=P.n:=hD.mv.n;clear hD hq hNm;by_cases hlt:k<8
   ·have ht0:t≠0:=by rw[<-Ht.out];exact H0.out
    have hto:P'.owner t≠0:=by rw[<-Xq.out,HD.out.tab.own m (by omega) (by rw[Xq.out];exact ht0)];exact HD.out.tab.o0
    have hent:=HD.out.tab.ent m (by omega) (by rw[Xq.out];exact ht0) k hlt;rw[aD (by omega),Xq.out]at hent;have VZ:=ah hto;have PZ:=ah hent;have Ht0:=ah ht0;clear hto hent ht0;go_wp2_with fail
    refine(nU pb db ob P' t k _ HD.out.pool VZ.out hlt).mono ?_;rintro e w2 ⟨rfl,hb2⟩;have HD2:=ah (HD.out.below hb2);clear hb2 HD;by_cases hc:N' (8*m+1+k)=0
    ·have he:ent P' t k=0:=by rw[PZ.out,aD hc]
     have ha:bits .and .u64 0 1=0:=by decide
     have Hc:=ah hc;rw[he];clear he hc hle xO;go_wp2_with fail
     go_roundg (8-(k+1))
     case measure=>omega
     case rel=>exact⟨k+1,P',N',F',by omega,by go_num,by rw[Hq.out],HD2.out.skip (fun _=>Hc.out) (fun h=>by omega)⟩
    ·have he:ent P' t k=N' (8*m+1+k)*256+1:=by rw[PZ.out,aA hc]
     obtain⟨b1,b2⟩:=HD2.out.tab.bd (8*m+1+k) (by omega) hc;obtain⟨c,hcc⟩:∃c,N' (8*m+1+k)=c:=⟨_,rfl⟩;rw[hcc]at he b1 b2 hc;have Jf:=ah hcc;have Hc:=ah hc;have c3:c<=4096:=by omega
     have ha:bits .and .u64 (c*256+1) 1=1:=by rw[mM _ (by omega) (by omega)];omega
     have hd:(c*256+1)/256=c:=by omega
     rw[he];have ih':=Ih.out (l+1) (8*m+1+k) P' N' F' w2 (by omega) (Hv.out k hlt) HD2.out.pool HD2.out.tab (by rw[hcc];exact hc);rw[hcc]at ih';have el:((l+1:Nat):Int)=(l:Int)+1:=by omega
     rw[el]at ih';have Ih':=ah ih';clear he hcc hc hle xO el ih';go_wp2_with fail
     refine Ih'.out.mono ?_;rintro e w3 ⟨P1,N1,F1,rfl,hD3⟩;have HD3:=ah hD3;have hle3:=hD3.le;have acs:=Bw N' 585;obtain⟨q1,hq1⟩:∃q1,gu N' 585-gu N1 585=q1:=⟨_,rfl⟩;have ahM:q1<=585:=by omega
     have Hq1:=ah hq1;rw[hq1];clear hD3 hle3 acs hq1 Ih';go_wp2_with fail
     refine(xS pb db ob P1 c _ HD3.out.pool).mono ?_;rintro e w4 ⟨rfl,DK,hK4⟩;have ZJ:=ah DK;have Ib:=ah hK4;clear DK hK4;go_wp2_with fail
     refine(ow pb db ob (P1.free c) t k 0 _ ZJ.out hlt (by omega) (by omega)).mono ?_;rintro e w5 ⟨rfl,Gn,DL⟩;obtain⟨hD6,hcut⟩:=HD2.out.branch (by omega) (by rw[Xq.out];exact Ht0.out) hlt (by omega) (by rw[Jf.out];exact Hc.out) HD3.out (by rw[Xq.out,Jf.out];exact Gn) (Ib.out.trans DL);have HD6:=ah hD6
     have Hqq:Hid (gu N 585-gu (dU N1 (8*m+1+k) 0) 585=q+(q1+1)):=by
      have h1:=Hq.out;have h2:=Hq1.out;have h3:=HD2.out.le;have h4:=HD3.out.le;unfold Hid;omega
     clear Gn DL hD6 hcut;go_wp2_with fail
     go_roundg (8-(k+1))
     case measure=>omega
     case rel=>exact⟨k+1,_,_,_,by omega,by go_num,by rw[Hqq.out];go_num,HD6.out⟩
   ·obtain rfl:k=8:=by omega
    have hlt':¬((8:Nat):Int)<8:=by omega
    clear hlt hle xO;go_wp2_with fail
    go_ret;exact⟨P',N',F',by rw[Hq.out];rfl,HD.out⟩
end Go.Proofs.YtiadbhiadhgjkaaGreatDoor
namespace Go.Proofs.YtiadbhiadhgjkaaGreatDoor
open Go.RowKit
def vJ(r:Int):Nat->Int:=fun n=>if n=0 then r else 0
def noF:Nat->Int:=fun _=>0
def noY:Nat->Bool:=fun _=>false
theorem Tab.begin(P:Pool)(o:Int)(ho:o≠0)(hl:1<=P.left) :
  ∃r,P.bJ o=r/\1<=r/\r<=P.n/\Tab (P.alloc o) r o (vJ r) noF noY/\dQ P (P.alloc o) o/\(P.alloc o).left+1=P.left/\bY (P.alloc o).O o P.n=bY P.O o P.n+1:=by
 have xR:firstFree P.O P.n<P.n:=by
  have h1:=iG P.O P.n;rcases Nat.lt_or_ge (firstFree P.O P.n) P.n with h2|h2
  ·exact h2
  ·have:=(mK P.O P.n).2 (by omega)
   unfold Pool.left at hl;omega
 have hz0:=iY P.O P.n xR;obtain⟨z,hz⟩:∃z,firstFree P.O P.n=z:=⟨_,rfl⟩;have hcc:o≠0/\firstFree P.O P.n<P.n:=⟨ho,xR⟩;have hr:P.bJ o=(z:Int)+1:=by unfold Pool.bJ;rw[aD hcc,hz]
 have ha:P.alloc o=⟨P.n,dU P.O z o,fun j=>if z*64<=j/\j<z*64+64 then 0 else P.D j⟩:=by unfold Pool.alloc;rw[aD hcc,hz]
 rw[hz]at xR hz0;have Qu:=fu P.O o o z P.n xR;rw[hz0,aA (fun e=>ho e.symm),aD rfl]at Qu;have hfu:=iX P.O o z P.n xR;rw[hz0,aD rfl,aA ho]at hfu
 have hroot:∀n,vJ ((z:Int)+1) n≠0->n=0:=fun n h=>by
  unfold vJ at h;split at h
  ·assumption
  ·exact absurd rfl h
 have h00:vJ ((z:Int)+1) 0=(z:Int)+1:=rfl;refine⟨(z:Int)+1,hr,by omega,by omega,⟨h00,by omega,ho,fun n hn h0 i hi=>?_,fun n m _ _ h1 h2 _=>by rw[hroot n h1,hroot m h2],fun n hn h0=>?_,fun n hp hn h0=>absurd (hroot n h0) (by omega),fun p _ h=>absurd rfl h,fun p _=>⟨by simp[noF],by simp[noF]⟩⟩,?_,?_,?_⟩
 ·obtain rfl:=hroot n h0
  rw[h00,aD (by omega),DV _ _ _ hi (fun q hq=>by
   rw[ha];show(if _ then _ else _)=_;rw[aD (by omega)])]
  have:vJ ((z:Int)+1) (8*0+1+i)=0:=by unfold vJ;rw[aA (by omega)]
  rw[this,aD rfl]
 ·obtain rfl:=hroot n h0
  rw[h00,ha];unfold Pool.owner;rw[aD (by rw[Pool.dM];exact⟨by omega,by show(z:Int)+1<=P.n;omega⟩)];show dU P.O z o _=o
  rw[show((z:Int)+1).toNat-1=z by omega,dZ]
 ·rw[ha]
  refine⟨rfl,fun j hj h0 h1=>?_,fun o' h0 h1=>?_,fun j hj h0 h1=>?_⟩
  ·show dU P.O z o j=_
   rw[bL _ _ _ _ (by rintro rfl;exact h0 hz0)]
  ·have hc:=fu P.O o' o z P.n xR
   rw[hz0,aA (fun e=>h0 e.symm),aA (fun e=>h1 e.symm)]at hc;exact hc
  ·show(if _ then _ else _)=_
   rw[aA];intro e;have:j/64=z:=by omega
   rw[this]at h0;exact h0 hz0
 ·rw[ha];unfold Pool.left;simp only;omega
 ·rw[ha];exact Qu
theorem Tab.mv{P P':Pool}{r o o':Int}{N F:Nat->Int}{Y:Nat->Bool}(h:Tab P r o N F Y)(hm:dQ P P' o')(hne:o≠o'):Tab P' r o N F Y:=by
 refine⟨h.root,h.r0,h.o0,fun n hn h0 i hi=>?_,h.inj,fun n hn h0=>?_,h.up,h.qh,h.lf⟩
 ·rw[<-h.ent n hn h0 i hi]
  obtain⟨b1,b2⟩:=h.bd n hn h0;have hw:=h.own n hn h0;have hth:=P.eZ _ (by rw[hw];exact h.o0);unfold Pool.owner at hw;rw[aD hth]at hw;refine zZ P P' _ _ hi fun j hj=>?_
  exact hm.D j (by omega) (by rw[hj,hw];exact h.o0) (by rw[hj,hw];exact hne)
 ·obtain⟨b1,b2⟩:=h.bd n hn h0
  have hw:=h.own n hn h0;have hth:=P.eZ _ (by rw[hw];exact h.o0);unfold Pool.owner at hw ⊢;rw[aD hth]at hw;rw[aD (by rw[Pool.dM,hm.n];exact⟨b1,b2⟩),hm.O _ (by omega) (by rw[hw];exact h.o0) (by rw[hw];exact hne),hw]
attribute [local irreducible] World.setCell World.alloc World.drew World.setRow Calls Code.wp row
theorem qW(N:Nat->Int)(h0:N 0≠0)(h:∀j,0<j->j<585->N j=0):∀k,0<k->k<=585->gu N k=1
 | 0,h,_=>absurd h (by omega)
 | 1,_,_=>by unfold gu gu;rw[aA h0]
 | k+2,_,hk=>by
  unfold gu;rw[qW N h0 h (k+1) (by omega) (by omega),aD (h (k+1) (by omega) (by omega))]
structure wN(w w':World)(pb db ob:Nat)(P:Pool)(r o:Int)(N:Nat->Int)(Y:Nat->Bool)(P':Pool):Prop where
 pool:bB w' pb db ob P'
 tab:∃N' F',Tab P' r o N' F' Y/\(∀j,0<j->j<585->N' j=0)/\(∀p,p<4096->F' p=0)
 mv:dQ P P' o
 left:P'.left+1=P.left+gu N 585
 cnt:bY P'.O o P.n+gu N 585=bY P.O o P.n+1
 kept:Kept (PS pb db ob) w w'
theorem OQ(pb db ob:Nat)(P:Pool)(r o:Int)(N F:Nat->Int)(Y:Nat->Bool)(w:World)(hP:bB w pb db ob P)(hT:Tab P r o N F Y) :
  Calls Tryz.prog 213 #[.pointer (some ⟨pb,0,none⟩),.int .i64 r] w fun e w' =>
   e=.returned (.int .i64 ((gu N 585-1:Nat):Int))/\∃P',wN w w' pb db ob P r o N Y P':=by
 have hr:=hT.root;have h00:N 0≠0:=by rw[hr];exact hT.r0
 have hd:=OP pb db ob r o Y 3 0 0 P N F w (by omega) (.inl ⟨rfl,rfl⟩) hP hT h00;rw[hr]at hd;have Hd:=ah hd;have Hr:=ah hr;have H00:=ah h00;clear hP hT hd hr h00;go_enter Tryz.func213,Tryz.ntmps213
 go_wp2_with fail
 refine Hd.out.mono ?_;rintro e w2 ⟨P',N',F',rfl,hD⟩;have h0':N' 0=r:=hD.tab.root
 have hup:∀j,0<j->j<585->N' j=0:=by
  intro j;induction j using Nat.strongRecOn with
  | _ j ih =>
   intro hj hj2;by_cases hp:(j-1)/8=0
   ·have:=hD.done (j-1) (by omega) (by omega)
    rwa [show 8*0+1+(j-1)=j by omega]at this
   ·by_cases h:N' j=0
    ·exact h
    ·exact absurd (ih ((j-1)/8) (by omega) (by omega) (by omega)) (hD.tab.up j hj hj2 h)
 have hc1:gu N' 585=1:=qW N' (by rw[h0'];exact hD.tab.r0) hup 585 (by omega) (by omega)
 have hall:wN w w2 pb db ob P r o N Y P':=by
  have a1:=hD.left;have a2:=hD.cnt;have a3:=hD.le;refine⟨hD.pool,⟨N',F',hD.tab,hup,fun p hp=>?_⟩,hD.mv,by omega,by omega,hD.kept⟩;by_cases h:F' p=0
  ·exact h
  ·exact absurd (hup _ (by omega) (by omega)) (hD.tab.qh p hp h)
 have Qa:=ah hall;rw[hc1];clear hD hup hc1 h0' hall;go_wp2_with fail
 go_ret;exact⟨rfl,P',Qa.out⟩
theorem CY(va:Int)(w:World)(h0:0<=va)(h1:va<=262143) :
  Calls Tryz.prog 277 #[.int .i64 va] w fun e w'=>e=.returned (.int .i64 (va/64))/\w=w':=by
 go_enter Tryz.func277,Tryz.ntmps277
 go_wp2_with fail
 go_ret;exact⟨rfl,rfl⟩
theorem rZ(va:Int)(w:World)(h0:0<=va)(h1:va<=262143) :
  Calls Tryz.prog 279 #[.int .i64 va] w fun e w'=>e=.returned (.int .i64 (va%64))/\w=w':=by
 go_enter Tryz.func279,Tryz.ntmps279
 go_wp2_with fail
 go_ret;exact⟨rfl,rfl⟩
def eT(P:Pool):List Int->Pool
 | []=>P
 | t::ts=>eT (P.free t) ts
theorem xU(P:Pool)(a b:List Int):eT P (a++b)=eT (eT P a) b:=by
 induction a generalizing P with
 | nil=>rfl
 | cons t a ih=>exact ih _
theorem OE(P:Pool)(t o:Int)(ho:o≠0)(hw:P.owner t=o) :
  P.free t=⟨P.n,dU P.O (t.toNat-1) 0,P.D⟩/\dQ P (P.free t) o/\(P.free t).left=P.left+1/\bY (P.free t).O o P.n+1=bY P.O o P.n/\∀f,f≠t->1<=f->(P.free t).owner f=P.owner f:=by
 have hth:=P.eZ _ (by rw[hw];exact ho);obtain⟨t1,t2⟩:=(P.dM t).1 hth;have ha:P.O (t.toNat-1)=o:=by unfold Pool.owner at hw;rw[aD hth]at hw;exact hw
 have hfr:P.free t=⟨P.n,dU P.O (t.toNat-1) 0,P.D⟩:=by unfold Pool.free;rw[aD (by rw[hw];exact ho)]
 have Qu:=fu P.O o 0 (t.toNat-1) P.n (by omega);rw[ha,aD rfl,aA (fun e=>ho e.symm)]at Qu;have hfu:=iX P.O 0 (t.toNat-1) P.n (by omega);rw[ha,aA ho,aD rfl]at hfu;refine⟨hfr,?_,by rw[hfr];unfold Pool.left;simp only;omega,by rw[hfr];simp only;omega,fun f hf hf1=>?_⟩
 ·rw[hfr]
  refine⟨rfl,fun j hj h0 h1=>?_,fun o' h0 h1=>?_,fun _ _ _ _=>rfl⟩
  ·show dU P.O _ 0 j=_
   rw[bL _ _ _ _ (by rintro rfl;exact h1 ha)]
  ·have hc:=fu P.O o' 0 (t.toNat-1) P.n (by omega)
   rw[ha,aA (fun e=>h1 e.symm),aA (fun e=>h0 e.symm)]at hc;exact hc
 ·rw[hfr]
  unfold Pool.owner;by_cases hb:f<=P.n
  ·rw[aD (by rw[Pool.dM];exact⟨hf1,hb⟩),aD ((P.dM f).2 ⟨hf1,hb⟩)]
   show dU P.O _ 0 _=_
   rw[bL _ _ _ _ (by omega)]
  ·rw[aA (fun h=>hb ((Pool.dM (⟨P.n,dU P.O (t.toNat-1) 0,P.D⟩:Pool) f).1 h).2),aA (fun h=>hb ((P.dM f).1 h).2)]
theorem tV(o:Int)(ho:o≠0):∀(ts:List Int) (P:Pool),ts.Nodup->(∀t∈ts,P.owner t=o) ->
  (eT P ts).n=P.n/\(eT P ts).D=P.D/\dQ P (eT P ts) o/\(eT P ts).left=P.left+ts.length/\bY (eT P ts).O o P.n+ts.length=bY P.O o P.n/\∀f,f ∉ ts->1<=f->(eT P ts).owner f=P.owner f
 | [],P,_,_=>⟨rfl,rfl,dQ.refl _ _,rfl,rfl,fun _ _ _=>rfl⟩
 | t::ts,P,hn,hw=>by
  rw[List.nodup_cons]at hn;obtain⟨h1,h2,h3,h4,h5⟩:=OE P t o ho (hw t (by simp));have hb:∀s∈ts,1<=s:=fun s hs=>((P.dM s).1 (P.eZ _ (by rw[hw s (by simp[hs])];exact ho))).1
  obtain⟨g1,g2,g3,g4,g5,g6⟩:=tV o ho ts (P.free t) hn.2 (fun s hs=>by
   rw[h5 s (fun e=>hn.1 (e ▸ hs)) (hb s hs)];exact hw s (by simp[hs]))
  have hnn:(P.free t).n=P.n:=by rw[h1]
  have hDD:(P.free t).D=P.D:=by rw[h1]
  show(eT (P.free t) ts).n=_/\_
  refine⟨g1.trans hnn,g2.trans hDD,h2.trans g3,by rw[show eT P (t::ts)=eT (P.free t) ts from rfl,g4,h3,aZ];omega,?_,fun f hf hf1=>?_⟩
  ·rw[hnn]at g5
   rw[show eT P (t::ts)=eT (P.free t) ts from rfl,aZ];omega
  ·rw[show eT P (t::ts)=eT (P.free t) ts from rfl,g6 f (fun h=>hf (by simp[h])) hf1]
   exact h5 f (fun e=>hf (by simp[e])) hf1
section
variable {w wx:World}{pb db ob:Nat}{P P':Pool}{r o:Int}{N N' F:Nat->Int}{Y:Nat->Bool}{p l a:Nat}
def jZ(N':Nat->Int)(p a l:Nat):List Int:=(List.range (l-a)).map fun j=>N' (nd p (a+1+j))
theorem nO(N':Nat->Int)(p a l:Nat):(jZ N' p a l).length=l-a:=by simp[jZ]
def pR(P':Pool)(N N':Nat->Int)(p a l:Nat):Pool:=eT (if a<l then P'.gI (N (nd p a)) (p/8^(3-a)%8) 0 else P') (jZ N' p a l)
theorem Down.undo(h:Down w wx pb db ob P r o N F Y p l a P' N')(hT:Tab P r o N F Y)(hp:p<4096)(hl:l<=3) :
  Tab (pR P' N N' p a l) r o N F Y/\dQ P (pR P' N N' p a l) o/\(pR P' N N' p a l).left=P.left/\bY (pR P' N N' p a l).O o P.n=bY P.O o P.n:=by
 have hal:=h.al;obtain⟨P1,hP1⟩:∃P1,(if a<l then P'.gI (N (nd p a)) (p/8^(3-a)%8) 0 else P')=P1:=⟨_,rfl⟩;have hnj:∀j,j<l-a->N' (nd p (a+1+j))≠0:=fun j hj=>(h.new _).2 (.inr ⟨a+1+j,by omega,by omega,rfl⟩)
 have hN0:∀j,a<j->j<=3->a<l->N (nd p j)=0:=fun j h1 h2 h3=>hT.gap hp (a+1) j (by omega) h2 (h.gap h3)
 have hna:N (nd p a)≠0:=h.was a (aj _);have hna':N' (nd p a)=N (nd p a):=h.old _ hna;have hlt:∀j,nd p j<585:=fun j=>jq p j hp
 have hown':P'.owner (N (nd p a))=o:=by rw[<-hna'];exact h.tab.own _ (hlt a) (by rw[hna'];exact hna)
 have hb':1<=N (nd p a):=by rw[<-hna'];exact(h.tab.bd _ (hlt a) (by rw[hna'];exact hna)).1
 have hi8:p/8^(3-a)%8<8:=Nat.mod_lt _ (by omega);have hown1:∀f,P1.owner f=P'.owner f:=fun f=>by rw[<-hP1];split<;>first|exact oC _ _ _ _ _|rfl
 have hn1:P1.n=P'.n:=by rw[<-hP1];split<;>first|exact pV _ _ _ _|rfl
 have hO1:P1.O=P'.O:=by rw[<-hP1];split<;>first|exact jT _ _ _ _|rfl
 have zf:dQ P' P1 o:=by
  rw[<-hP1];split
  ·exact wE _ _ o _ _ hi8 hown' hT.o0
  ·exact dQ.refl _ _
 have hnd:(jZ N' p a l).Nodup:=by
  unfold jZ;refine List.Pairwise.map (R:=fun x y:Nat=>x<l-a/\y<l-a/\x≠y) _ (fun x y ⟨hx,hy,hxy⟩ e=>?_) ?_
  ·have:=h.tab.inj _ _ (hlt _) (hlt _) (hnj x hx) (hnj y hy) e
   have:=FP p _ _ hp (by omega) (by omega) this;omega
  ·exact List.Pairwise.imp_of_mem (fun {x y} hx hy hxy=>⟨by simpa using hx,by simpa using hy,hxy⟩) (List.nodup_range (n:=l-a))
 have hmo:∀t∈jZ N' p a l,P1.owner t=o:=fun t ht=>by
  obtain⟨j,hj,rfl⟩:=List.mem_map.1 ht;rw[hown1];exact h.tab.own _ (hlt _) (hnj j (by simpa using hj))
 obtain⟨g1,g2,g3,g4,g5,g6⟩:=tV o hT.o0 (jZ N' p a l) P1 hnd hmo;have hE:pR P' N N' p a l=eT P1 (jZ N' p a l):=by unfold pR;rw[hP1]
 rw[hE];have hpn:P'.n=P.n:=h.mv.n;rw[hn1,hpn]at g5;have hleft:=h.left;have hcnt:=h.cnt;have hl1:P1.left=P'.left:=by unfold Pool.left;rw[hn1,hO1]
 rw[nO]at g4 g5;refine⟨⟨hT.root,hT.r0,hT.o0,fun n hn h0 i hi=>?_,hT.inj,fun n hn h0=>?_,hT.up,hT.qh,hT.lf⟩,h.mv.trans (zf.trans g3),by omega,by rw[hO1]at g5;omega⟩
 ·
  have hnn:=h.old n h0;have h0':N' n≠0:=by rw[hnn];exact h0
  have hbn:1<=N n:=by rw[<-hnn];exact(h.tab.bd n hn h0').1
  have e1:Go.Proofs.YtiadbhiadhgjkaaGreatDoor.ent (eT P1 (jZ N' p a l)) (N n) i=Go.Proofs.YtiadbhiadhgjkaaGreatDoor.ent P1 (N n) i:=by unfold Go.Proofs.YtiadbhiadhgjkaaGreatDoor.ent;rw[g2]
  rw[e1];have e2:=h.tab.ent n hn h0' i hi;rw[hnn]at e2;by_cases c:a<l/\n=nd p a/\i=p/8^(3-a)%8
  ·obtain⟨c1,rfl,rfl⟩:=c
   rw[<-hP1,aD c1,qC _ _ _ _ _ _ hi8 hi8 (by rw[hown'];exact hT.o0) hb' hb' (by omega) (by omega),aD ⟨rfl,rfl⟩,tC p a hp (by omega),aD (hlt _),hN0 (a+1) (by omega) (by omega) c1,aD rfl]
  ·have e3:Go.Proofs.YtiadbhiadhgjkaaGreatDoor.ent P1 (N n) i=Go.Proofs.YtiadbhiadhgjkaaGreatDoor.ent P' (N n) i:=by
    rw[<-hP1];split
    ·rename_i c1
     rw[qC _ _ _ _ _ _ hi8 hi (by rw[hown'];exact hT.o0) hb' hbn (by omega) (by omega),aA];rintro⟨e4,e5⟩;refine c ⟨c1,?_,e5⟩;rw[<-hnn,<-hna']at e4;exact h.tab.inj n _ hn (hlt a) h0' (by rw[hna'];exact hna) e4
    ·rfl
   rw[e3,e2];by_cases hb:8*n+1+i<585
   ·rw[aD hb,aD hb]
    have:N' (8*n+1+i)=N (8*n+1+i):=by
     by_cases q:N (8*n+1+i)=0
     ·by_cases q':N' (8*n+1+i)=0
      ·rw[q,q']
      ·exfalso
       rcases(h.new _).1 q' with q2|⟨j,j1,j2,j3⟩
       ·exact q2 q
       ·have hup:=Di p (j-1) hp (by omega)
        rw[show j-1+1=j by omega,<-j3]at hup;have UW:n=nd p (j-1):=by omega
        by_cases hj:j=a+1
        ·subst hj
         refine c ⟨by omega,by rw[UW];rfl,?_⟩;have hs:=tC p a hp (by omega);rw[show nd p a=n by rw[UW];rfl]at hs;omega
        ·exact h0 (by rw[UW];exact hN0 (j-1) (by omega) (by omega) (by omega))
     ·exact h.old _ q
    rw[this]
   ·rw[aA hb,aA hb]
 ·have hnn:=h.old n h0
  have h0':N' n≠0:=by rw[hnn];exact h0
  have hbn:=(h.tab.bd n hn h0').1;rw[hnn]at hbn;rw[g6 (N n) ?_ hbn,hown1,<-hnn]
  ·exact h.tab.own n hn h0'
  ·intro hm
   obtain⟨j,hj,e⟩:=List.mem_map.1 hm;have hj':j<l-a:=by simpa using hj
   rw[<-hnn]at e;have:=h.tab.inj _ n (hlt _) hn (hnj j hj') h0' e;exact h0 (by rw[<-this];exact hN0 _ (by omega) (by omega) (by omega))
end
theorem Mh(pb db ob:Nat)(P:Pool)(ts:List Int)(A:Option Addr)(C g:Nat)(t:Int)(i:Nat)(w:World)(hP:bB w pb db ob P)(hi:i<8)(hl:ts.length<=3)(hA:0<ts.length->A=some ⟨g,0,none⟩)
  (hc:∀j,j<ts.length->w.cell? ⟨g,j,none⟩=some (.int .i64 (ts.getD j 0))) (hg:¬PS pb db ob g) :
  Calls Tryz.prog 323 #[.pointer (some ⟨pb,0,none⟩),.slice A ts.length C,.int .i64 t,.int .i64 i] w fun e w'=>e=.returned (.tuple #[])/\bB w' pb db ob (eT (if 0<ts.length then P.gI t i 0 else P) ts)/\Kept (PS pb db ob) w w':=by
 have HP:=ah hP;have HA:=ah hA;have Hc:=ah hc;clear hP hA hc;by_cases h0:0<ts.length
 ·obtain rfl:=HA.out h0
  have h0':(0:Int)<(ts.length:Int):=by omega
  rw[aD h0];obtain⟨n,hn⟩:∃n,ts.length=n:=⟨_,rfl⟩;have Hn:=ah hn;rw[hn]at h0 h0' hl Hc ⊢;clear hn;go_enter Tryz.func323,Tryz.ntmps323
  go_wp2_with fail
  refine(ow pb db ob P t i 0 _ HP.out hi (by omega) (by omega)).mono ?_;rintro e w2 ⟨rfl,hP2,hK2⟩;have LC:=ah hP2;have WC:=ah hK2;clear hP2 hK2;go_wp2_with fail
  go_loopg [19] n (fun gh k wx=>∃j:Nat,j+gh=n/\k=.int .i64 j/\bB wx pb db ob (eT (P.gI t i 0) (ts.take j))/\Kept (PS pb db ob) w wx)
  case atStart=>exact⟨0,by omega,rfl,LC.out,WC.out⟩
  case round =>
   obtain⟨j,hj,rfl,hPj,hKj⟩:=hrel;have HPj:=ah hPj;have HKj:=ah hKj;clear hPj hKj;by_cases hlt:j<n
   ·have hjn:(j:Int)<(n:Int):=by omega
    have hcl:wr.cell? ⟨g,j,none⟩=some (.int .i64 (ts.getD j 0)):=by
     rw[World.cell?_of_block (HKj.out.block g (IJ (Hc.out j hlt)) hg)];exact Hc.out j hlt
    have hts:eT (P.gI t i 0) (ts.take (j+1))=(eT (P.gI t i 0) (ts.take j)).free (ts.getD j 0):=by
     have:ts.take (j+1)=ts.take j++[ts.getD j 0]:=by
      rw[List.take_succ_eq_append_getElem (by have:=Hn.out;omega)];simp[List.getD,show j<ts.length by have:=Hn.out;omega]
     rw[this,xU];rfl
    have Hts:=ah hts;obtain⟨f,hf⟩:∃f,ts.getD j 0=f:=⟨_,rfl⟩;rw[hf]at hcl Hts;clear hts hf;go_wp2_with fail
    refine(xS pb db ob _ f _ HPj.out).mono ?_;rintro e w3 ⟨rfl,hP3,hK3⟩;have Qf:=ah hP3;have wM:=ah (HKj.out.trans hK3);clear hP3 hK3;go_wp2_with fail
    go_roundg (n-(j+1))
    case measure=>omega
    case rel=>exact⟨j+1,by omega,by go_num,by rw[Hts.out];exact Qf.out,wM.out⟩
   ·obtain rfl:j=n:=by omega
    go_wp2_with fail
    go_end0
    refine⟨rfl,?_,HKj.out⟩;have:=HPj.out;rw[List.take_of_length_le (by have:=Hn.out;omega)]at this;exact this
 ·have h0':ts.length=0:=by omega
  obtain rfl:ts=[]:=List.eq_nil_of_length_eq_zero h0';go_enter Tryz.func323,Tryz.ntmps323
  go_wp2_with fail
  refine wp_loop_rounds 1 ?_;rw[rounds_succ];go_wp2_with fail
  go_end0
  exact⟨rfl,HP.out,Kept.refl _ _⟩
theorem FW{N':Nat->Int}{p a l:Nat}{t:Int}(hp:p<4096)(ha:a<=l)(hl:l<3):jZ (dU N' (nd p (l+1)) t) p a (l+1)=jZ N' p a l++[t]:=by
 unfold jZ;rw[show l+1-a=(l-a)+1 by omega,List.range_succ,List.map_append];congr 1
 ·refine List.map_congr_left fun j hj=>?_
  have hj':j<l-a:=by simpa using hj
  exact bL _ _ _ _ (fun e=>by have:=FP p _ _ hp (by omega) (by omega) e;omega)
 ·simp[show a+1+(l-a)=l+1 by omega,dZ]
theorem uQ(N':Nat->Int)(p a:Nat):jZ N' p a a=[]:=by simp[jZ]
end Go.Proofs.YtiadbhiadhgjkaaGreatDoor
