import Derived.Test.YtiadbhiadhgjkaaGreatDoorZzMap
import Derived.Test.YtiadbhiadhgjkaaGreatDoorZzPgD
set_option maxRecDepth 100000
set_option maxHeartbeats 4000000
namespace Go.Proofs.YtiadbhiadhgjkaaGreatDoor
open Go.RowKit
theorem qV(c:mZ)(t:Pl)(fl:Bool)(la:Int):(coreC c t fl la).length=27:=rfl
def Gh.core(g:Gh)(i:Nat)(t:Pl)(fl:Bool)(la:Int):Gh:={ g with fC:=fun j=>if j=i then t else g.fC j,flush:=fun j=>if j=i then fl else g.flush j,last:=fun j=>if j=i then la else g.last j }
theorem cZ.core{w w':World}{g:Gh}{K:Km}(h:cZ w g K){i:Nat}(hi:i<K.nc){cs cs':Array Value}(hB:aR w g.cb cs 162)(hin:∀j,j<K.nc->In cs (j*27) (coreC (K.cores j) (g.fC j) (g.flush j) (g.last j)))
  (hB':aR w' g.cb cs' 162) (ho:Out (i*27) 27 cs cs') (k:Kept (·=g.cb) w w') {c:mZ} {t:Pl} {fl:Bool} {la:Int} (hi':In cs' (i*27) (coreC c t fl la)) (hok:yR c K.slots.length) :
  cZ w' (g.core i t fl la) (K.core i c):=by
 have hC:=h.cores;obtain⟨htag,-⟩:=hC.ex (by omega);refine h.MN (S:=(·=g.cb)) (f:=fun j=>if j=i then c else K.cores j) (fC:=fun j=>if j=i then t else g.fC j) (flush:=fun j=>if j=i then fl else g.flush j) (last:=fun j=>if j=i then la else g.last j) k (dS.of hB (by decide)) htag (fun b q _=>.inr q) ⟨fun _=>⟨htag,cs',hB',fun j hj=>?_⟩,fun j hj=>?_,hC.nc,hC.ns⟩
 ·by_cases e:j=i
  ·subst e
   show In cs' (j*27) (coreC (if j=j then c else _) (if j=j then t else _) (if j=j then fl else _) (if j=j then la else _))
   rw[aD rfl,aD rfl,aD rfl,aD rfl];exact hi'
  ·show In cs' (j*27) (coreC (if j=i then c else _) (if j=i then t else _) (if j=i then fl else _) (if j=i then la else _))
   rw[aA e,aA e,aA e,aA e];intro q hq;rw[qV]at hq;have hne:¬(i*27<=j*27+q/\j*27+q<i*27+27):=by omega
   rw[ho.2 _ hne];exact hin j hj q (by rw[qV];exact hq)
 ·show yR (if j=i then c else K.cores j) _
  by_cases e:j=i
  ·rw[aD e];exact hok
  ·rw[aA e];exact hC.ok j hj
theorem cZ.qU{w w':World}{g:Gh}{K:Km}(h:cZ w g K){i:Nat}(hi:i<K.nc){cs:Array Value}(hB:aR w g.cb cs 162)(hin:∀j,j<K.nc->In cs (j*27) (coreC (K.cores j) (g.fC j) (g.flush j) (g.last j)))
  {p n:Nat} {l:List Value} (hP:Piece w w' g.cb 162 (i*27+p) cs n l) (hpn:p+n<=27) {c:mZ} {t:Pl} {fl:Bool} {la:Int} (hok:yR c K.slots.length)
  (he:∀k,k<27->(coreC c t fl la)[k]? = if p<=k/\k<p+n then l[k-p]? else(coreC (K.cores i) (g.fC i) (g.flush i) (g.last i))[k]?) :
  cZ w' (g.core i t fl la) (K.core i c)/\Ext g (g.core i t fl la) w w':=by
 obtain⟨cs',p1,p2,p3,p4,p5⟩:=hP;obtain⟨htag,-⟩:=h.cores.ex (by omega);refine⟨h.core hi hB hin p1 (p3.wide (by omega) (by omega)) p4 ?_ hok,Ext.wrote ⟨rfl,rfl,rfl,rfl,rfl,rfl,rfl,fun _ _ e=>e⟩ p4 (fun b q _=>⟨(0,6),by rw[q];exact htag⟩) (fun _ _ e=>e) (fun _ _=>⟨rfl,rfl⟩)⟩;exact(hin i hi).join p l p2 (by rw[p5];exact p3) rfl (fun k hk=>by rw[p5];exact he k hk)
theorem wC(x:Int):IntKind.u64.wrap x=wu x:=rfl
end Go.Proofs.YtiadbhiadhgjkaaGreatDoor
namespace Go.Proofs.YtiadbhiadhgjkaaGreatDoor
open Go.RowKit
attribute [local irreducible] World.setCell World.alloc World.drew World.setRow Calls Code.wp
theorem Own.JK{w:World}{A:Nat->Option (Int×Nat)}{tg:Int×Nat}{sv:Value}{sl:List (Int×Int)}(h:Own w A tg 127 2 sv sl.length (sl.flatMap jS))(hp:0<sl.length) :
  ∃sb cap,sv=.slice (some ⟨sb,0,none⟩) sl.length cap/\A sb=some tg/\∀j,j<sl.length->w.cell? ⟨sb,j*2,none⟩=some (.int .u64 (sl.getD j (0,0)).1)/\w.cell? ⟨sb,j*2+1,none⟩=some (.int .i64 (sl.getD j (0,0)).2):=by
 obtain⟨hlen,⟨-,h0⟩|⟨sb,cap,cur,rfl,-,hcur,h1,h2,h3,h4⟩⟩:=h.row
 ·omega
 ·refine⟨sb,cap,rfl,h.tag sb rfl,fun j hj=>?_⟩
  have hB:aR w sb cur 127:=hcur;have hx:sl[j]? = some (sl.getD j (0,0)):=by simp[List.getD,hj]
  have hc:∀i,i<2->cur[j*2+i]? = (jS (sl.getD j (0,0)))[i]?:=fun i hi=>by
   rw[<-gP jS 2 (fun _=>rfl) sl j _ hx i hi,<-h4,List.getElem?_take,aD (by omega),Array.getElem?_toList]
  exact⟨(hB.cell _).trans (hc 0 (by omega)),(hB.cell _).trans (hc 1 (by omega))⟩
theorem Gh.ji(g:Gh)(i:Nat):g.core i (g.fC i) (g.flush i) (g.last i)=g:=by
 have e:∀{α:Type} (f:Nat->α),(fun j=>if j=i then f i else f j)=f:=fun f=>by
  funext j;by_cases h:j=i
  ·rw[aD h,h]
  ·rw[aA h]
 show { g with fC:=_,flush:=_,last:=_ }=g
 rw[e g.fC,e g.flush,e g.last]
theorem Td(x:Int):0<=wu x/\wu x<=18446744073709551615:=by unfold wu;omega
theorem lV{α:Type}(f:Nat->α)(i:Nat)(a:α):upd f i a i=a:=aD rfl
theorem ou{α:Type}(f:Nat->α)(i j:Nat)(a:α)(h:j≠i):upd f i a j=f j:=aA h
theorem Km.ji(K:Km)(i:Nat):K.core i (K.cores i)=K:=by
 show { K with cores:=fun j=>if j=i then K.cores i else K.cores j }=K
 have:(fun j=>if j=i then K.cores i else K.cores j)=K.cores:=by
  funext j;by_cases h:j=i
  ·rw[aD h,h]
  ·rw[aA h]
 rw[this]
theorem xJ(w:World)(g:Gh)(K:Km)(h:cZ w g K)(i:Nat)(hi:i<K.nc) :
  Calls Tryz.prog 42 #[.pointer (some ⟨g.cb,i*27+11,none⟩)] w fun e w'=>e=.returned (.tuple #[])/\cZ w' (g.core i Pl.zero (g.flush i) (g.last i)) K/\Ext g (g.core i Pl.zero (g.flush i) (g.last i)) w w':=by
 obtain⟨htag,cs,hB,hin⟩:=h.cores.ex (by omega)
 have hI:In cs (i*27+11) (g.fC i).list:=(hin i hi).sub 11 _ (fun k hk=>match k,hk with
  | 0,_=>rfl
  | 1,_=>rfl
  | 2,_=>rfl
  | 3,_=>rfl
  | 4,_=>rfl
  | 5,_=>rfl
  | 6,_=>rfl
  | 7,_=>rfl
  | 8,_=>rfl
  | 9,_=>rfl
  | 10,_=>rfl
  | 11,_=>rfl
  | 12,_=>rfl)
 refine(EX g.cb (i*27+11) _ (g.fC i) cs w hB hI).mono ?_;rintro e w' ⟨rfl,hP⟩
 obtain⟨k1,k2⟩:=h.qU hi hB hin (p:=11) hP (by decide) (c:=K.cores i) (t:=Pl.zero) (fl:=g.flush i) (la:=g.last i) (h.cores.ok i hi) (fun k hk=>by
  by_cases e:11<=k/\k<24
  ·rw[aD e]
   obtain⟨j,rfl⟩:∃j,k=11+j:=⟨k-11,by omega⟩;rw[show 11+j-11=j by omega];have hj:j<13:=by omega
   match j,hj with
   | 0,_=>rfl
   | 1,_=>rfl
   | 2,_=>rfl
   | 3,_=>rfl
   | 4,_=>rfl
   | 5,_=>rfl
   | 6,_=>rfl
   | 7,_=>rfl
   | 8,_=>rfl
   | 9,_=>rfl
   | 10,_=>rfl
   | 11,_=>rfl
   | 12,_=>rfl
  ·rw[aA e]
   match k,hk,e with
   | 0,_,_=>rfl
   | 1,_,_=>rfl
   | 2,_,_=>rfl
   | 3,_,_=>rfl
   | 4,_,_=>rfl
   | 5,_,_=>rfl
   | 6,_,_=>rfl
   | 7,_,_=>rfl
   | 8,_,_=>rfl
   | 9,_,_=>rfl
   | 10,_,_=>rfl
   | 11,_,e=>exact absurd ⟨by decide,by decide⟩ e
   | 12,_,e=>exact absurd ⟨by decide,by decide⟩ e
   | 13,_,e=>exact absurd ⟨by decide,by decide⟩ e
   | 14,_,e=>exact absurd ⟨by decide,by decide⟩ e
   | 15,_,e=>exact absurd ⟨by decide,by decide⟩ e
   | 16,_,e=>exact absurd ⟨by decide,by decide⟩ e
   | 17,_,e=>exact absurd ⟨by decide,by decide⟩ e
   | 18,_,e=>exact absurd ⟨by decide,by decide⟩ e
   | 19,_,e=>exact absurd ⟨by decide,by decide⟩ e
   | 20,_,e=>exact absurd ⟨by decide,by decide⟩ e
   | 21,_,e=>exact absurd ⟨by decide,by decide⟩ e
   | 22,_,e=>exact absurd ⟨by decide,by decide⟩ e
   | 23,_,e=>exact absurd ⟨by decide,by decide⟩ e
   | 24,_,_=>rfl
   | 25,_,_=>rfl
   | 26,_,_=>rfl
   | k+27,hk,_=>exact absurd hk (by omega))
 rw[Km.ji]at k1;exact⟨rfl,k1,k2⟩
theorem Ck{w:World}{g:Gh}{K:Km}(h:cZ w g K){i:Nat}(hi:i<K.nc):∃s:Nat,(K.cores i).slot=(s:Int)/\s<8/\w.cell? ⟨g.cb,i*27,none⟩=some (.int .i64 s)/\w.cell? ⟨g.cb,i*27+3+s,none⟩=some (.int .u64 ((K.cores i).turns s)):=by
 obtain⟨htag,cs,hB,hin⟩:=h.cores.ex (by omega);have hok:=h.cores.ok i hi;have hn8:=h.cores.ns;have hsl:=hok.slot;obtain⟨s,hs⟩:∃s:Nat,(K.cores i).slot=(s:Int):=⟨(K.cores i).slot.toNat,by omega⟩;have hs8:s<8:=by omega
 refine⟨s,hs,hs8,by rw[<-hs];exact(hin i hi).cell hB 0 rfl,?_⟩;rw[Nat.add_assoc];match s,hs8 with
 | 0,_=>exact(hin i hi).cell hB 3 rfl
 | 1,_=>exact(hin i hi).cell hB 4 rfl
 | 2,_=>exact(hin i hi).cell hB 5 rfl
 | 3,_=>exact(hin i hi).cell hB 6 rfl
 | 4,_=>exact(hin i hi).cell hB 7 rfl
 | 5,_=>exact(hin i hi).cell hB 8 rfl
 | 6,_=>exact(hin i hi).cell hB 9 rfl
 | 7,_=>exact(hin i hi).cell hB 10 rfl
theorem Kw(w:World)(g:Gh)(K:Km)(h:cZ w g K)(i:Nat)(hi:i<K.nc)(n:Int)(hn:1<=n/\n<=1000000) :
  Calls Tryz.prog 93 #[.pointer (some ⟨g.cb,i*27,none⟩),.int .i64 n] w fun e w'=>e=.returned (.int .i64 ((K.cores i).turns (K.cores i).slot.toNat%n))/\Below w.heap.size w w':=by
 obtain⟨s,hs,hs8,h0,h1⟩:=Ck h hi;rw[hs,Int.toNat_natCast];exact KX g.cb (i*27) s _ n w hs8 h0 h1 hn ((h.cores.ok i hi).turns s)
theorem Ky(w:World)(g:Gh)(K:Km)(h:cZ w g K)(i:Nat)(hi:i<K.nc) :
  Calls Tryz.prog 92 #[.pointer (some ⟨g.cb,i*27,none⟩)] w fun e w'=>e=.returned (.int .i64 (K.cores i).slot)/\w=w':=by
 obtain⟨s,hs,hs8,h0,-⟩:=Ck h hi;rw[hs];clear hs hs8;go_enter Tryz.func92,Tryz.ntmps92
 go_wp2_with fail
 go_ret;exact⟨rfl,rfl⟩
end Go.Proofs.YtiadbhiadhgjkaaGreatDoor
namespace Go.Proofs.YtiadbhiadhgjkaaGreatDoor
open Go.RowKit
theorem Ii(n:Int)(f f':Int->Int):∀(l:List Int),l.Nodup->n∈l->(∀m∈l,m≠n->f' m=f m)->(l.map f').sum=(l.map f).sum+(f' n-f n)
 | [],_,hm,_=>by cases hm
 | a::l,hn,hm,he=>by
  rw[List.nodup_cons]at hn;rw[bW,bW,List.sum_cons,List.sum_cons];rcases List.mem_cons.1 hm with e|e
  ·subst e
   have h2:l.map f'=l.map f:=List.map_congr_left fun m hm'=>he m (List.mem_cons_of_mem _ hm') (by rintro rfl;exact hn.1 hm')
   rw[h2];omega
  ·have ih:=Ii n f f' l hn.2 e (fun m hm'=>he m (List.mem_cons_of_mem _ hm'))
   rw[ih,he a (bq ..) (by rintro rfl;exact hn.1 e)];omega
def gX{α:Type}(f:Int->α)(n:Int)(v:α):Int->α:=fun m=>if m=n then v else f m
theorem dI{α:Type}(f:Int->α)(n:Int)(v:α):gX f n v n=v:=aD rfl
theorem iT{α:Type}(f:Int->α)(n m:Int)(v:α)(h:m≠n):gX f n v m=f m:=aA h
def Gh.table(g:Gh)(n:Int)(P:Pool)(r t:Int)(N F:Nat->Int)(Y:Nat->Bool):Gh:={ g with P:=P,root:=gX g.root n r,tabs:=gX g.tabs n t,N:=gX g.N n N,F:=gX g.F n F,Y:=gX g.Y n Y }
theorem Gh.Co(g:Gh)(n:Int)(P:Pool)(r t:Int)(N F:Nat->Int)(Y:Nat->Bool){m:Int}(h:m≠n):dO g (g.table n P r t N F Y) m :=
 ⟨rfl,rfl,rfl,rfl,iT _ _ _ _ h,iT _ _ _ _ h⟩
structure Same(g g':Gh):Prop where
 fr:g'.fr=g.fr
 flush:g'.flush=g.flush
 last:g'.last=g.last
 bl:g'.bl=g.bl
 tl:g'.tl=g.tl
theorem Same.refl(g:Gh):Same g g:=⟨rfl,rfl,rfl,rfl,rfl⟩
theorem Same.trans{a b c:Gh}(h:Same a b)(k:Same b c):Same a c:=⟨k.fr.trans h.fr,k.flush.trans h.flush,k.last.trans h.last,k.bl.trans h.bl,k.tl.trans h.tl⟩
section
variable {w w':World}{g g':Gh}{K:Km}{o:Ob}
theorem Km.set_self(h:K.obj o.name=some o):K.set o=K:=by
 show { K with obj:=fun n=>if n=o.name then some o else K.obj n }=K
 have:(fun n=>if n=o.name then some o else K.obj n)=K.obj:=by
  funext n;by_cases e:n=o.name
  ·rw[aD e,e,h]
  ·rw[aA e]
 rw[this]
theorem Ob.Mf:o.eF o.th=o:=rfl
structure vP(g:Gh)(K:Km)(o:Ob):Prop where
 tab:Tab g.P (g.root o.name) o.name (g.N o.name) (g.F o.name) (g.Y o.name)
 cnt:g.tabs o.name=(gu (g.N o.name) 585:Nat)
 le:g.tabs o.name<=8
 lead:∀p,p<4096->g.F o.name p≠0->iA g K o p (g.F o.name p) (g.Y o.name p)
theorem Inv.table(hI:Inv g K)(ho:K.obj o.name=some o)(hk:o.kind=3){P':Pool}{r t:Int}{N F:Nat->Int}{Y:Nat->Bool}(hmv:dQ g.P P' o.name)
  (hT:Tab P' r o.name N F Y) (hc:t=(gu N 585:Nat)) (h8:t<=8) (hl:∀p,p<4096->F p≠0->iA g K o p (F p) (Y p)) (hleft:(P'.left:Int)+t=g.P.left+g.tabs o.name):Inv (g.table o.name P' r t N F Y) K:=by
 have hne:∀n a,K.obj n=some a->a.kind≠3->n≠o.name:=fun n a e q e2=>by rw[e2,ho]at e;cases e;exact q hk
 refine⟨hI.own,hI.name,hI.cont,fun n a e ek=>?_,hI.rD,fun n a e ek=>?_,hI.fC,hI.tn,hI.lD,⟨hI.room.1,?_⟩,fun n h0 e=>?_⟩
 ·have hs:=hI.seg n a e ek
  have hn:=hne n a e (by omega);have hnm:=hI.name n a e;have hn2:a.name≠o.name:=by rw[hnm];exact hn
  exact⟨hmv.Cw hs.inn hn2,hs.len,hs.p16,fun j hj=>by rw[hs.data j hj];exact(hmv.kV hs.inn hn2 j (by rw[hs.len];exact hj)).symm⟩
 ·have hnm:=hI.name n a e
  by_cases q:n=o.name
  ·have ea:a=o:=by rw[q,ho]at e;cases e;rfl
   subst ea;refine .inr ⟨?_,?_,?_,?_⟩
   ·show Tab P' (gX g.root _ r _) _ (gX g.N _ N _) (gX g.F _ F _) (gX g.Y _ Y _)
    rw[dI,dI,dI,dI];exact hT
   ·show gX g.tabs _ t _=(gu (gX g.N _ N _) 585:Nat)
    rw[dI,dI];exact hc
   ·show gX g.tabs _ t _<=8
    rw[dI];exact h8
   ·intro p hp
    show gX g.F _ F _ p≠0->iA _ _ _ _ (gX g.F _ F _ p) (gX g.Y _ Y _ p)
    rw[dI,dI];exact hl p hp
  ·have hq:a.name≠o.name:=by rw[hnm];exact q
   have:=hI.yS n a e ek;unfold Es at this ⊢;show(gX g.root _ r _=0/\gX g.tabs _ t _=0)\/(Tab P' (gX g.root _ r _) _ (gX g.N _ N _) (gX g.F _ F _) (gX g.Y _ Y _)/\gX g.tabs _ t _=(gu (gX g.N _ N _) 585:Nat)/\gX g.tabs _ t _<=8/\∀p,p<4096->gX g.F _ F _ p≠0->iA _ _ _ _ (gX g.F _ F _ p) (gX g.Y _ Y _ p))
   rw[iT _ _ _ _ hq,iT _ _ _ _ hq,iT _ _ _ _ hq,iT _ _ _ _ hq,iT _ _ _ _ hq];rcases this with e1|⟨e1,e2,e3,e4⟩
   ·exact .inl e1
   ·exact .inr ⟨e1.mv hmv hq,e2,e3,e4⟩
 ·have hm:o.name∈g.lD:=(hI.lD.2 o.name).2 ⟨o,ho,hk⟩
  have hs:mV (g.table o.name P' r t N F Y)=mV g+((8-t)-(8-g.tabs o.name)):=by
   have:=Ii o.name (fun n=>8-g.tabs n) (fun n=>8-gX g.tabs o.name t n) g.lD hI.lD.1 hm (fun m _ q=>by show 8-gX g.tabs o.name t m=8-g.tabs m;rw[iT _ _ _ _ q]);rw[dI]at this;exact this
  rw[hs];have:=hI.room.2;show(P'.left:Int)=K.room+_
  omega
 ·have hn:n≠o.name:=by rintro rfl;rw[ho]at e;cases e
  show bY P'.O n P'.n=0
  rw[hmv.n,hmv.cnt n h0 hn];exact hI.yw n h0 e
theorem cZ.pooled(h:cZ w g K)(k:Kept (PS g.pb g.db g.ob) w w'){P':Pool}(hP:bB w' g.pb g.db g.ob P'):cZ w' { g with P:=P' } K/\Ext g { g with P:=P' } w w':=by
 refine⟨h.wD k (sU h.pool) (fun b q _=>.inr q) hP,Ext.wrote ⟨rfl,rfl,rfl,rfl,rfl,rfl,rfl,fun _ _ e=>e⟩ k (fun b q _=>?_) (fun _ _ e=>e) (fun _ _=>⟨rfl,rfl⟩)⟩;rcases q with e|e|e
 ·rw[e];exact⟨_,h.tags.pb⟩
 ·rw[e];exact⟨_,h.tags.db⟩
 ·rw[e];exact⟨_,h.tags.ob⟩
theorem cZ.rooted(h:cZ w g K)(ho:K.obj o.name=some o)(hk:o.kind=3){x:Ts}(hT:rz w g o.name o.th x)(k:Kept (·=g.tl o.name) w w'){r t:Int}{N F:Nat->Int}{Y:Nat->Bool}
  (hB:aR w' (g.tl o.name) (jw o.th x r t) 52):cZ w' (g.table o.name g.P r t N F Y) K/\Ext g (g.table o.name g.P r t N F Y) w w':=by
 have hm:dS w (·=g.tl o.name):=dS.of hT.blk (by decide);have hr:=hT.rows.kept k hm (A':=g.A) (fun c q _ i hi e=>by rw[q,hT.tag]at e;cases e;omega) (fun _ _ e=>e)
 have:=h.yS (g':=g.table o.name g.P r t N F Y) ho hk k hm (fun b q _=>⟨10,aj _,by rw[q];exact hT.tag⟩) ⟨rfl,rfl,rfl,rfl,rfl,rfl,rfl,fun _ _ e=>e⟩ (fun n q=>g.Co o.name g.P r t N F Y q) ⟨rfl,rfl,rfl,rfl⟩ ⟨rfl,rfl,rfl⟩ rfl (fun _ _ e=>e) (fun b hb=>h.kS b (bD k.size hb)) (t:=o.th) (x:=x)
  (by show aR w' (g.tl o.name) (jw o.th x (gX g.root o.name r o.name) (gX g.tabs o.name t o.name)) _;rw[dI,dI];exact hB) hr
 rw[Ob.Mf,Km.set_self ho]at this;exact this
end
attribute [local irreducible] World.setCell World.alloc World.drew World.setRow Calls Code.wp
section
variable {w:World}{g:Gh}{K:Km}
theorem cZ.pl(h:cZ w g K){i:Nat}(hi:i<K.nc):∃cs,aR w g.cb cs 162/\In cs (i*27+11) (g.fC i).list:=by
 obtain⟨htag,cs,hB,hin⟩:=h.cores.ex (by omega)
 exact⟨cs,hB,(hin i hi).sub 11 _ (fun k hk=>match k,hk with
  | 0,_=>rfl
  | 1,_=>rfl
  | 2,_=>rfl
  | 3,_=>rfl
  | 4,_=>rfl
  | 5,_=>rfl
  | 6,_=>rfl
  | 7,_=>rfl
  | 8,_=>rfl
  | 9,_=>rfl
  | 10,_=>rfl
  | 11,_=>rfl
  | 12,_=>rfl)⟩
end
attribute [local go_sem] Oper.semAt_some
theorem yC(d:Nat):∀(l:List (Nat×Nat)) (g:Nat),l.length<=g->cO d d g l l=l.map fun p=>(p.1,p.2,p.2)
 | [],g,_=>by cases g<;>rfl
 | (c,x)::r,g,h=>by
  obtain⟨k,rfl⟩:∃k,g=k+1:=⟨g-1,by simp at h;omega⟩;show(if c<c then _ else if c<c then _ else(c,x,x)::cO d d k r r)=_
  rw[aA (Nat.lt_irrefl c),aA (Nat.lt_irrefl c),yC d r k (by simp at h;omega)];rfl
theorem mF(f:Nat->Nat->Nat)(l:dn):(dn.merge f l l).ps=l.ps.filterMap fun p=>if f p.2 p.2=f l.d l.d then none else some (p.1,f p.2 p.2):=by
 show(nZ l l).filterMap _=_
 unfold nZ;rw[yC _ _ _ (Nat.le_add_left _ _),List.filterMap_map];rfl
theorem yZ{f:Nat->Nat->Nat}{l:dn}(h:fV l)(hf:∀x,x<1000->f x x<1000):fV (dn.merge f l l):=by
 refine⟨hf _ h.d,?_,fun p hp=>?_⟩
 ·rw[mF];exact bD (List.length_filterMap_le _ _) h.n
 ·rw[mF,List.mem_filterMap]at hp
  obtain⟨q,hq,e⟩:=hp;split at e
  ·cases e
  ·cases e;exact⟨(h.ps q hq).1,hf _ (h.ps q hq).2⟩
theorem MW{l:dn}(h:fV l):fV l.raise:=yZ h (fun x hx=>by show(if x=0 then 5 else x)<1000;split<;>omega)
theorem JQ(l:dn)(v:Value)(w:World)(hok:fV l)(h:bU w v l) :
  Calls Tryz.prog 138 #[v] w fun e w'=>∃v,e=.returned v/\bU w' v l.raise/\Below w.heap.size w w':=by
 obtain⟨s,rfl,h1⟩:=h;obtain⟨a,c,rfl,-,-⟩:=aJ.form h1;obtain⟨h0,hh0⟩:∃h0,h0=w.heap.size:=⟨_,rfl⟩;obtain⟨w2,hw2⟩:∃w2:World,w2=(w.alloc (.cells #[.int .i64 (l.d:Nat),.slice a l.ps.length c] 43)).alloc (.cells #[.int .i64 0,.slice none 0 0] 43):=⟨_,rfl⟩;have hB2:Below w.heap.size w w2:=by rw[hw2];exact((aC _ w).alloc (aj _) _).alloc (by simp) _
 have hL:aR w2 h0 #[.int .i64 (l.d:Nat),.slice a l.ps.length c] 43:=by rw[hw2,hh0];exact(aR.new _ _ _).alloc _
 have hRb:aR w2 (h0+1) #[.int .i64 0,.slice none 0 0] 43:=by
  rw[hw2,hh0];have:=aR.new (w.alloc (.cells #[.int .i64 (l.d:Nat),.slice a l.ps.length c] 43)) #[.int .i64 0,.slice none 0 0] 43;rw[au]at this;exact this
 have Hm:=ah (wS l 0 5 (.agg #[.int .i64 (l.d:Nat),.slice a l.ps.length c]) w2 hok ⟨_,rfl,aJ.below h1 hB2 (aj _)⟩);have Oi:dn.merge (jM 0 5) l l=l.raise:=rfl;rw[Oi]at Hm;obtain⟨L,YI⟩:∃L,l.raise=L:=⟨_,rfl⟩;rw[YI]at Hm ⊢;have HR:=ah hRb;have HB2:=ah hB2;have HW2:=ah hw2;have oU:=ah hh0;have cl0:w2.cell? ⟨h0,0,none⟩=some (.int .i64 (l.d:Nat)):=by rw[hL.cell];rfl
 have cl1:w2.cell? ⟨h0,1,none⟩=some (.slice a l.ps.length c):=by rw[hL.cell];rfl
 clear h1 hw2 hh0 hB2 hL hRb Oi YI;go_enter Tryz.func138,Tryz.ntmps138
 go_upto_region 1 with fail
 rw[<-HW2.out,<-oU.out];go_wp2_with fail
 refine Hm.out.mono ?_;rintro e W3 ⟨v,rfl,hv,hb⟩;obtain⟨s,rfl,hs⟩:=hv;obtain⟨av,cv,rfl,-,-⟩:=aJ.form hs;have hr3:=aR.below HR.out hb HR.out.lt;have hcr:=hr3.cell;have hfr:=hr3.free
 have ZH:=ah (show bU ((W3.setCell ⟨h0+1,0,none⟩ (.int .i64 (L.d:Nat))).setCell ⟨h0+1,1,none⟩ (.slice av L.ps.length cv)) (.agg #[.int .i64 (L.d:Nat),.slice av L.ps.length cv]) L from
  ⟨_,rfl,aJ.kept hs (((Kept.refl (·=h0+1) W3).bC (h0+1) 0 _ rfl).bC (h0+1) 1 _ rfl) (fun b cs fz e hh=>by
   unfold aR at hr3;rw[e,hr3]at hh;simp at hh)⟩)
 have HX:Hid (aR ((W3.setCell ⟨h0+1,0,none⟩ (.int .i64 (L.d:Nat))).setCell ⟨h0+1,1,none⟩ (.slice av L.ps.length cv)) (h0+1) #[.int .i64 (L.d:Nat),.slice av L.ps.length cv] 43):=((hr3.set 0 _).set 1 _).cells rfl;have HB:Hid (Below w.heap.size w ((W3.setCell ⟨h0+1,0,none⟩ (.int .i64 (L.d:Nat))).setCell ⟨h0+1,1,none⟩ (.slice av L.ps.length cv))):=((aT HB2.out hb).setCell (p:=⟨h0+1,0,none⟩) (by have:=oU.out;show w.heap.size<=h0+1;omega) _).setCell (p:=⟨h0+1,1,none⟩) (by have:=oU.out;show w.heap.size<=h0+1;omega) _;clear hs hb hr3 cl0 cl1;go_wp2_with fail
 refine bodyPost_ret (results_cell_row rfl _ _ (h0+1) _ _ (0,0) _ rfl HX.out Tryz.underlying43 rfl (by kernel_rfl)) rfl ?_;exact⟨_,rfl,ZH.out,HB.out⟩
structure GR(w w2:World)(h0:Nat)(t o:dn)(ta oa:Option Addr)(tc oc:Nat):Prop where
 eO:Below w.heap.size w w2
 tb:aR w2 h0 #[.int .i64 (t.d:Nat),.slice ta t.ps.length tc] 43
 ob:aR w2 (h0+1) #[.int .i64 (o.d:Nat),.slice oa o.ps.length oc] 43
 tl:bU w2 (.agg #[.int .i64 (t.d:Nat),.slice ta t.ps.length tc]) t
 ol:bU w2 (.agg #[.int .i64 (o.d:Nat),.slice oa o.ps.length oc]) o
theorem Ie(w:World)(t o:dn)(ta oa:Option Addr)(tc oc:Nat)(t1:bg w (.slice ta t.ps.length tc) t.ps)(o1:bg w (.slice oa o.ps.length oc) o.ps) :
  GR w ((w.alloc (.cells #[.int .i64 (t.d:Nat),.slice ta t.ps.length tc] 43)).alloc (.cells #[.int .i64 (o.d:Nat),.slice oa o.ps.length oc] 43)) w.heap.size t o ta oa tc oc:=by
 have hB:Below w.heap.size w ((w.alloc (.cells #[.int .i64 (t.d:Nat),.slice ta t.ps.length tc] 43)).alloc (.cells #[.int .i64 (o.d:Nat),.slice oa o.ps.length oc] 43)):=((aC _ w).alloc (aj _) _).alloc (by simp) _;refine⟨hB,(aR.new _ _ _).alloc _,?_,⟨_,rfl,aJ.below t1 hB (aj _)⟩,⟨_,rfl,aJ.below o1 hB (aj _)⟩⟩;have:=aR.new (w.alloc (.cells #[.int .i64 (t.d:Nat),.slice ta t.ps.length tc] 43)) #[.int .i64 (o.d:Nat),.slice oa o.ps.length oc] 43;rw[au]at this;exact this
theorem GR.cells{w w2:World}{h0:Nat}{t o:dn}{ta oa:Option Addr}{tc oc:Nat}(h:GR w w2 h0 t o ta oa tc oc){w3:World}(k:Below w2.heap.size w2 w3) :
  (w3.cell? ⟨h0,0,none⟩=some (.int .i64 (t.d:Nat))/\w3.cell? ⟨h0,1,none⟩=some (.slice ta t.ps.length tc))/\w3.cell? ⟨h0+1,0,none⟩=some (.int .i64 (o.d:Nat))/\w3.cell? ⟨h0+1,1,none⟩=some (.slice oa o.ps.length oc):=by
 have h1:=h.tb.below k h.tb.lt;have h2:=h.ob.below k h.ob.lt;exact⟨⟨(h1.cell 0).trans rfl,(h1.cell 1).trans rfl⟩,(h2.cell 0).trans rfl,(h2.cell 1).trans rfl⟩
theorem uN(t o:dn)(vt vo:Value)(w:World)(ht:fV t)(ho:fV o)(hT:bU w vt t)(hO:bU w vo o) :
  Calls Tryz.prog 116 #[vt,vo] w fun e w'=>e=.returned (.bool (gT t o))/\Below w.heap.size w w':=by
 obtain⟨st,rfl,t1⟩:=hT;obtain⟨so,rfl,o1⟩:=hO;obtain⟨ta,tc,rfl,-,-⟩:=aJ.form t1;obtain⟨oa,oc,rfl,-,-⟩:=aJ.form o1;have H2:=Ie w t o ta oa tc oc t1 o1;generalize hw2:(w.alloc (.cells #[.int .i64 (t.d:Nat),.slice ta t.ps.length tc] 43)).alloc (.cells #[.int .i64 (o.d:Nat),.slice oa o.ps.length oc] 43)=w2 at H2;generalize hh0:w.heap.size=h0 at H2;obtain⟨⟨a0,a1⟩,b0,b1⟩:=H2.cells (aC _ w2);have HC:=ah (fun w3 k=>H2.cells (w3:=w3) k)
 have Hra:Hid (∀wz,wz=w2.drew->Calls Tryz.prog 138 #[.agg #[.int .i64 (t.d:Nat),.slice ta t.ps.length tc]] wz fun e w'=>∃v,e=.returned v/\(bU w' v t.raise/\Below w2.heap.size w2 w')):=fun wz ez=>by
  rw[ez];refine(JQ t _ w2.drew ht (H2.tl.below ((aC _ w2).drew) (aj _))).mono ?_;rintro e w' ⟨v,rfl,h1,h2⟩;rw[cK]at h2;exact⟨v,rfl,h1,(aC _ w2).drew.trans h2⟩
 have TS:Hid (∀v w3,bU w3 v t.raise->Below w2.heap.size w2 w3->Calls Tryz.prog 26 #[.agg #[.int .i64 (o.d:Nat),.slice oa o.ps.length oc],v] w3 fun e w'=>∃u,e=.returned u/\(u=.bool (gT t o)/\Below w2.heap.size w2 w')):=fun v w3 h1 h2=>by
  refine(qN o t.raise _ v w3 (H2.ol.below h2 (aj _)) h1 ⟨ho.n,(MW ht).n⟩).mono ?_;rintro e w' ⟨rfl,h3⟩;exact⟨_,rfl,rfl,aT h2 h3⟩
 have HB:=ah H2.eO;have HW:=ah hw2;have Hh:=ah hh0;clear t1 o1 H2 hw2 hh0 ht ho;go_enter Tryz.func116,Tryz.ntmps116
 go_upto_region 1 with fail
 rw[HW.out,Hh.out]
 go_region_law (first
  | (refine cB (by rfl) (bP (vs:=#[.agg #[.int .i64 (t.d:Nat),.slice ta t.ps.length tc]]) (by simp[Act.eval]) (bE Tryz.func138 (by kernel_rfl) rfl)) (Hra.out _ (by first|rfl|exact drew_eq w2)) ?_;rintro v w3 ⟨hv,hb⟩;obtain⟨⟨c0,c1⟩,d0,d1⟩:=HC.out w3 hb)
  | (refine cB (by rfl) (bP (vs:=#[.agg #[.int .i64 (o.d:Nat),.slice oa o.ps.length oc],v]) (by simp[Act.eval]) (bE Tryz.func26 (by kernel_rfl) rfl)) (TS.out v _ hv hb) ?_;rintro u w4 ⟨rfl,hb4⟩))
 all_goals
  go_wp2_with fail
  go_ret;have h2:=HB.out;have h3:=h2.size;rw[Hh.out]at h2 h3;exact⟨rfl,h2.trans (hb4.mono h3)⟩
theorem Ei(t o:dn)(vt vo:Value)(w:World)(ht:fV t)(ho:fV o)(hT:bU w vt t)(hO:bU w vo o) :
  Calls Tryz.prog 112 #[vt,vo] w fun e w'=>e=.returned (.bool (iw t o))/\Below w.heap.size w w':=by
 obtain⟨st,rfl,t1⟩:=hT;obtain⟨so,rfl,o1⟩:=hO;obtain⟨ta,tc,rfl,-,-⟩:=aJ.form t1;obtain⟨oa,oc,rfl,-,-⟩:=aJ.form o1;have H2:=Ie w t o ta oa tc oc t1 o1;generalize hw2:(w.alloc (.cells #[.int .i64 (t.d:Nat),.slice ta t.ps.length tc] 43)).alloc (.cells #[.int .i64 (o.d:Nat),.slice oa o.ps.length oc] 43)=w2 at H2;generalize hh0:w.heap.size=h0 at H2;obtain⟨⟨a0,a1⟩,b0,b1⟩:=H2.cells (aC _ w2);have HC:=ah (fun w3 k=>H2.cells (w3:=w3) k);have TS:=ah (qN t o _ _ w2 H2.tl H2.ol ⟨ht.n,ho.n⟩)
 have Hre:Hid (∀w3,Below w2.heap.size w2 w3->Calls Tryz.prog 116 #[.agg #[.int .i64 (t.d:Nat),.slice ta t.ps.length tc],.agg #[.int .i64 (o.d:Nat),.slice oa o.ps.length oc]] w3 fun e w'=>e=.returned (.bool (gT t o))/\Below w3.heap.size w3 w'):=fun w3 k =>
  uN t o _ _ w3 ht ho (H2.tl.below k (aj _)) (H2.ol.below k (aj _))
 have HB:=ah H2.eO;have HW:=ah hw2;have Hh:=ah hh0;have Hch:Hid (iw t o=(t.leq o&&gT t o)):=ah rfl;clear t1 o1 H2 hw2 hh0 ht ho;generalize t.leq o=q1 at TS Hch;generalize gT t o=q2 at Hre Hch;go_enter Tryz.func112,Tryz.ntmps112
 go_upto_region 1 with fail
 rw[HW.out,Hh.out];go_wp2_with fail
 refine TS.out.mono ?_;rintro e w3 ⟨rfl,hb⟩;obtain⟨⟨c0,c1⟩,d0,d1⟩:=HC.out w3 hb
 cases q1
 ·go_wp2_with fail
  go_ret;have h2:=HB.out;have h3:=h2.size;rw[Hh.out]at h2 h3;exact⟨by rw[Hch.out];rfl,h2.trans (hb.mono h3)⟩
 ·have HRe:=ah (Hre.out w3 hb)
  go_wp2_with fail
  refine HRe.out.mono ?_;rintro e w4 ⟨rfl,hb4⟩;go_wp2_with fail
  go_ret;have h2:=HB.out;have h3:=h2.size;rw[Hh.out]at h2 h3;exact⟨by rw[Hch.out];rfl,(h2.trans (hb.mono h3)).trans (hb4.mono (bD h3 hb.size))⟩
end Go.Proofs.YtiadbhiadhgjkaaGreatDoor
namespace Go.Proofs.YtiadbhiadhgjkaaGreatDoor
open Go.RowKit
attribute [local irreducible] World.setCell World.alloc World.drew World.setRow Calls Code.wp
def ny(K:Km):Prop:=∀n o,K.obj n=some o->∀m∈o.maps,m.fits=true
theorem uX{m:gy}(h:m.fits=true):(1<=m.n/\m.n<=16)/\(0<=m.at_/\m.at_+m.n<=4096)/\(0<=m.from_/\m.from_+m.n<=16)/\m.seg≠0:=by
 unfold gy.fits at h;simp only[aY]at h;exact⟨⟨h.1,h.2.1⟩,⟨h.2.2.1,by have:=h.2.2.2.1;omega⟩,⟨h.2.2.2.2.1,by have:=h.2.2.2.2.2.1;omega⟩,h.2.2.2.2.2.2⟩
theorem Kj{w:World}{a:Option Addr}{c:Nat}{l:List gy}(h:aJ w 125 (.slice a l.length c) l.length (l.flatMap oH)){k:Nat}{m:gy}(hk:l[k]? = some m) :
  ∃b,a=some ⟨b,0,none⟩/\b<w.heap.size/\w.cell? ⟨b,k*5,none⟩=some (.int .i64 m.at_)/\w.cell? ⟨b,k*5+1,none⟩=some (.int .u64 m.seg)/\w.cell? ⟨b,k*5+2,none⟩=some (.int .i64 m.from_)/\w.cell? ⟨b,k*5+3,none⟩=some (.int .i64 m.n)/\w.cell? ⟨b,k*5+4,none⟩=some (.bool m.wr):=by
 have hlt:=(aW.1 hk).1;obtain⟨b,e,hb,hc⟩:=aJ.cells h (by omega);have hf:=fun i (hi:i<5)=>gP oH 5 (fun _=>rfl) l k m hk i hi
 refine⟨b,e,hb,?_,hc _ _ ((hf 1 (by omega)).trans rfl),hc _ _ ((hf 2 (by omega)).trans rfl),hc _ _ ((hf 3 (by omega)).trans rfl),hc _ _ ((hf 4 (by omega)).trans rfl)⟩;have:=hc _ _ ((hf 0 (by omega)).trans rfl);exact this
def tZ(l:List gy)(p:Int):Value:=match ig l p with
 | none=>.tuple #[.agg #[.int .i64 0,.int .u64 0,.int .i64 0,.int .i64 0,.bool false],.bool false]
 | some m=>.tuple #[.agg #[.int .i64 m.at_,.int .u64 m.seg,.int .i64 m.from_,.int .i64 m.n,.bool m.wr],.bool true]
theorem Bp{l:List gy}{p:Int}{k:Nat}{m:gy}(hk:l[k]? = some m)(h:m.at_<=p/\p<m.at_+m.n)(hn:∀j,j<k->∀x,l[j]? = some x->¬(x.at_<=p/\p<x.at_+x.n)):ig l p=some m:=by
 induction l generalizing k with
 | nil=>cases hk
 | cons y r ih =>
  unfold ig at ih ⊢
  cases k with
  | zero =>
   simp only[aN,Option.some.injEq]at hk;subst hk;rw[List.find?_cons_of_pos];simp[h.1,h.2]
  | succ k =>
   have h0:=hn 0 (by omega) y (by simp);rw[List.find?_cons_of_neg (by simp only[aM,aY];exact h0)];exact ih (by simpa using hk) (fun j hj x hx=>hn (j+1) (by omega) x (by simpa using hx))
theorem Bo{l:List gy}{p:Int}(hn:∀j,j<l.length->∀x,l[j]? = some x->¬(x.at_<=p/\p<x.at_+x.n)):ig l p=none:=by
 unfold ig;rw[List.find?_eq_none];intro x hx;obtain⟨j,hj,e⟩:=List.mem_iff_getElem.1 hx;have:=hn j hj x (by rw[aQ hj,e]);simpa only[aM,aY]using this
theorem ug{l:List gy}{p:Int}{m:gy}(h:ig l p=some m):m∈l/\m.at_<=p/\p<m.at_+m.n:=by
 unfold ig at h;have h1:=List.mem_of_find?_eq_some h;have h2:=List.find?_some h;simp only[aM,aY]at h2;exact⟨h1,h2⟩
theorem OI(l:List gy)(p:Int)(v:Value)(w:World)(h:aJ w 125 v l.length (l.flatMap oH))(hf:∀m∈l,m.fits=true)(hl:l.length<=1000000) :
  Calls Tryz.prog 278 #[v,.int .i64 p] w fun e w'=>e=.returned (tZ l p)/\Below w.heap.size w w':=by
 obtain⟨a,c,rfl,-,-⟩:=aJ.form h;have HR:=ah h;have HF:=ah hf;obtain⟨h0,hh0⟩:∃h0,h0=w.heap.size:=⟨_,rfl⟩;have Hh:=ah hh0;have HT:Hid (aR (w.alloc (.cells #[.int .i64 0,.int .u64 0,.int .i64 0,.int .i64 0,.bool false] 125)) h0 #[.int .i64 0,.int .u64 0,.int .i64 0,.int .i64 0,.bool false] 125):=by rw[hh0];exact ah (aR.new _ _ _)
 have HB:Hid (Below h0 w (w.alloc (.cells #[.int .i64 0,.int .u64 0,.int .i64 0,.int .i64 0,.bool false] 125))):=by rw[hh0];exact ah ((aC _ w).alloc (aj _) _)
 clear h hf;go_enter Tryz.func278,Tryz.ntmps278
 go_wp2_with fail
 rw[<-hh0];clear hh0;go_loopg [7,10] l.length (fun g m i wx=>∃k:Nat,k+g=l.length/\i=.int .i64 k/\(∀j,j<k->∀x,l[j]? = some x->¬(x.at_<=p/\p<x.at_+x.n))/\Below h0 w wx/\aR wx h0 #[.int .i64 0,.int .u64 0,.int .i64 0,.int .i64 0,.bool false] 125)
 case atStart=>exact⟨0,by omega,rfl,fun j hj=>absurd hj (by omega),HB.out,HT.out⟩
 case round =>
  obtain⟨k,hg,rfl,hn,hb,hT⟩:=hrel;have HN:=ah hn;have Hb:=ah hb;have HT2:=ah hT;have hlt:=hT.lt;have hfr:=hT.free;by_cases hk:k<l.length
  ·have hx:l[k]? = some l[k]:=aQ hk
   obtain⟨m,hm⟩:∃m,l[k]=m:=⟨_,rfl⟩;rw[hm]at hx;have HX:=ah hx;have hfm:=uX (HF.out m (bG hx));obtain⟨b,rfl,hbl,m0,m1,m2,m3,m4⟩:=Kj HR.out hx;have hbw:b<h0:=by rw[Hh.out];exact hbl
   have r0:=(hb.cell (p:=⟨b,k*5,none⟩) hbw).trans m0;have r1:=(hb.cell (p:=⟨b,k*5+1,none⟩) hbw).trans m1;have r2:=(hb.cell (p:=⟨b,k*5+2,none⟩) hbw).trans m2;have r3:=(hb.cell (p:=⟨b,k*5+3,none⟩) hbw).trans m3;have r4:=(hb.cell (p:=⟨b,k*5+4,none⟩) hbw).trans m4;have hki:(k:Int)<(l.length:Int):=by omega
   have hsum:IntKind.i64.wrap (m.at_+m.n)=m.at_+m.n:=aV _ (by omega);have hk1:IntKind.i64.wrap ((k:Int)+1)=((k+1:Nat):Int):=aV _ (by omega);clear hn hb m0 m1 m2 m3 m4 hm hx hT;have HT3:=HT2.out.alloc (.cells #[.int .i64 m.at_,.int .u64 m.seg,.int .i64 m.from_,.int .i64 m.n,.bool m.wr] 125);have hTc:=HT3.cell;have hTf:=HT3.free;have hTw:=HT2.out.cell;have hne:¬h0=wr.heap.size:=by omega
   have Hb3:Hid (Below h0 w (wr.alloc (.cells #[.int .i64 m.at_,.int .u64 m.seg,.int .i64 m.from_,.int .i64 m.n,.bool m.wr] 125))):=ah (Hb.out.alloc (by have:=Hb.out.size;rw[<-Hh.out]at this;exact this) _);have HTn:=ah HT3;clear HT3;by_cases q:m.at_<=p/\p<m.at_+m.n
   ·have Q:Hid (tZ l p=.tuple #[.agg #[.int .i64 m.at_,.int .u64 m.seg,.int .i64 m.from_,.int .i64 m.n,.bool m.wr],.bool true]):=by
     have:=Bp HX.out q HN.out;unfold Hid tZ;rw[this]
    have q1:decide (m.at_<=p)=true:=bK q.1;have q2:decide (p<m.at_+m.n)=true:=bK q.2;clear hfm q
    have HX5:Hid (aR ((((((wr.setCell ⟨h0,0,none⟩ (.int .i64 m.at_)).setCell ⟨h0,1,none⟩ (.int .u64 m.seg)).setCell ⟨h0,2,none⟩ (.int .i64 m.from_)).setCell ⟨h0,3,none⟩ (.int .i64 m.n)).setCell ⟨h0,4,none⟩ (.bool m.wr)).alloc (.cells #[.int .i64 m.at_,.int .u64 m.seg,.int .i64 m.from_,.int .i64 m.n,.bool m.wr] 125)) h0 #[.int .i64 m.at_,.int .u64 m.seg,.int .i64 m.from_,.int .i64 m.n,.bool m.wr] 125) :=
     ah (((((((HT2.out.set 0 _).set 1 _).set 2 _).set 3 _).set 4 _).alloc _).cells (by simp only[ay,aG,aH]))
    have pK:Hid (Below h0 w ((((((wr.setCell ⟨h0,0,none⟩ (.int .i64 m.at_)).setCell ⟨h0,1,none⟩ (.int .u64 m.seg)).setCell ⟨h0,2,none⟩ (.int .i64 m.from_)).setCell ⟨h0,3,none⟩ (.int .i64 m.n)).setCell ⟨h0,4,none⟩ (.bool m.wr)).alloc (.cells #[.int .i64 m.at_,.int .u64 m.seg,.int .i64 m.from_,.int .i64 m.n,.bool m.wr] 125))) :=
     ah ((((((Hb.out.setCell (p:=⟨h0,0,none⟩) (aj _) _).setCell (p:=⟨h0,1,none⟩) (aj _) _).setCell (p:=⟨h0,2,none⟩) (aj _) _).setCell (p:=⟨h0,3,none⟩) (aj _) _).setCell (p:=⟨h0,4,none⟩) (aj _) _).alloc (by simp;omega) _)
    go_wp2_with fail
    have hXc:=HX5.out.cell;refine bodyPost_ret (v:=.tuple #[.agg #[.int .i64 m.at_,.int .u64 m.seg,.int .i64 m.from_,.int .i64 m.n,.bool m.wr],.bool true]) (by simp[results,Tryz.results278,go_sem,hXc]) rfl ⟨by rw[Q.out],?_⟩;have hl0:=Hh.out;rw[<-hl0];exact pK.out
   ·have HN2:Hid (∀j,j<k+1->∀x,l[j]? = some x->¬(x.at_<=p/\p<x.at_+x.n)):=fun j hj x hx=>by
     by_cases e:j=k
     ·subst e;rw[HX.out]at hx;cases hx;exact q
     ·exact HN.out j (by omega) x hx
    clear hfm;by_cases q1:m.at_<=p
    ·have e1:decide (m.at_<=p)=true:=bK q1
     have e2:decide (p<m.at_+m.n)=false:=aX (fun e=>q ⟨q1,e⟩);have q2:¬p<m.at_+m.n:=fun e=>q ⟨q1,e⟩
     clear q;go_wp2_with fail
     go_roundg (l.length-(k+1))
     case measure=>omega
     case rel=>exact⟨k+1,by omega,rfl,HN2.out,Hb3.out,HTn.out⟩
    ·have e1:decide (m.at_<=p)=false:=aX q1
     clear q;go_wp2_with fail
     go_roundg (l.length-(k+1))
     case measure=>omega
     case rel=>exact⟨k+1,by omega,rfl,HN2.out,Hb3.out,HTn.out⟩
  ·have hkl:k=l.length:=by omega
   have hge:¬(k:Int)<(l.length:Int):=by omega
   have Q:Hid (tZ l p=.tuple #[.agg #[.int .i64 0,.int .u64 0,.int .i64 0,.int .i64 0,.bool false],.bool false]):=by
    have:ig l p=none:=Bo (fun j hj=>HN.out j (by omega))
    unfold Hid tZ;rw[this]
   have hTc:=HT2.out.cell;clear hn hb hT hkl;go_wp2_with fail
   refine bodyPost_ret (v:=.tuple #[.agg #[.int .i64 0,.int .u64 0,.int .i64 0,.int .i64 0,.bool false],.bool false]) (by simp[results,Tryz.results278,go_sem,hTc]) rfl ⟨by rw[Q.out],?_⟩;have hl0:=Hh.out;have hb3:=Hb.out;rw[<-hl0];exact((((hb3.setCell (p:=⟨h0,0,none⟩) (aj _) _).setCell (p:=⟨h0,1,none⟩) (aj _) _).setCell (p:=⟨h0,2,none⟩) (aj _) _).setCell (p:=⟨h0,3,none⟩) (aj _) _).setCell (p:=⟨h0,4,none⟩) (aj _) _
theorem cZ.Ms{w w':World}{g:Gh}{K:Km}(h:cZ w g K){i:Nat}(hi:i<K.nc){cs:Array Value}(hB:aR w g.cb cs 162)(hin:∀j,j<K.nc->In cs (j*27) (coreC (K.cores j) (g.fC j) (g.flush j) (g.last j))){t:Pl}
  (hP:Piece w w' g.cb 162 (i*27+11) cs 13 t.list):cZ w' (g.core i t (g.flush i) (g.last i)) K/\Ext g (g.core i t (g.flush i) (g.last i)) w w':=by
 obtain⟨k1,k2⟩:=h.qU hi hB hin (p:=11) hP (by decide) (c:=K.cores i) (t:=t) (fl:=g.flush i) (la:=g.last i) (h.cores.ok i hi) (fun k hk=>by
  by_cases e:11<=k/\k<24
  ·rw[aD e]
   obtain⟨j,rfl⟩:∃j,k=11+j:=⟨k-11,by omega⟩;rw[show 11+j-11=j by omega];have hj:j<13:=by omega
   match j,hj with
   | 0,_=>rfl
   | 1,_=>rfl
   | 2,_=>rfl
   | 3,_=>rfl
   | 4,_=>rfl
   | 5,_=>rfl
   | 6,_=>rfl
   | 7,_=>rfl
   | 8,_=>rfl
   | 9,_=>rfl
   | 10,_=>rfl
   | 11,_=>rfl
   | 12,_=>rfl
  ·rw[aA e]
   match k,hk,e with
   | 0,_,_=>rfl
   | 1,_,_=>rfl
   | 2,_,_=>rfl
   | 3,_,_=>rfl
   | 4,_,_=>rfl
   | 5,_,_=>rfl
   | 6,_,_=>rfl
   | 7,_,_=>rfl
   | 8,_,_=>rfl
   | 9,_,_=>rfl
   | 10,_,_=>rfl
   | 11,_,e=>exact absurd ⟨by decide,by decide⟩ e
   | 12,_,e=>exact absurd ⟨by decide,by decide⟩ e
   | 13,_,e=>exact absurd ⟨by decide,by decide⟩ e
   | 14,_,e=>exact absurd ⟨by decide,by decide⟩ e
   | 15,_,e=>exact absurd ⟨by decide,by decide⟩ e
   | 16,_,e=>exact absurd ⟨by decide,by decide⟩ e
   | 17,_,e=>exact absurd ⟨by decide,by decide⟩ e
   | 18,_,e=>exact absurd ⟨by decide,by decide⟩ e
   | 19,_,e=>exact absurd ⟨by decide,by decide⟩ e
   | 20,_,e=>exact absurd ⟨by decide,by decide⟩ e
   | 21,_,e=>exact absurd ⟨by decide,by decide⟩ e
   | 22,_,e=>exact absurd ⟨by decide,by decide⟩ e
   | 23,_,e=>exact absurd ⟨by decide,by decide⟩ e
   | 24,_,_=>rfl
   | 25,_,_=>rfl
   | 26,_,_=>rfl
   | k+27,hk,_=>exact absurd hk (by omega))
 rw[Km.ji]at k1;exact⟨k1,k2⟩
theorem find_spec{t:Pl}{page:Int}{wr:Bool}(h:t.find page wr≠0):∃k,k<4/\t.f k=t.find page wr/\t.f k≠0/\t.p k=page/\(t.w k=true\/wr=false):=by
 have key:∀k,t.hit page wr k=true->t.f k≠0/\t.p k=page/\(t.w k=true\/wr=false):=fun k e=>by
  unfold Pl.hit at e;simp only[aM,bne_iff_ne,bF,beq_iff_eq,Bool.or_eq_true,Bool.not_eq_true']at e;exact⟨e.1.1,e.1.2,e.2⟩
 by_cases h0:t.hit page wr 0=true
 ·exact⟨0,by omega,(tY t page wr 0 (by omega) (fun j hj=>by omega) h0).symm,key 0 h0⟩
 have h0':t.hit page wr 0=false:=by simpa using h0
 by_cases h1:t.hit page wr 1=true
 ·exact⟨1,by omega,(tY t page wr 1 (by omega) (fun j hj=>by rcases(show j=0 by omega)with rfl;exact h0') h1).symm,key 1 h1⟩
 have h1':t.hit page wr 1=false:=by simpa using h1
 by_cases h2:t.hit page wr 2=true
 ·exact⟨2,by omega,(tY t page wr 2 (by omega) (fun j hj=>by rcases(show j=0\/j=1 by omega)with rfl|rfl<;>assumption) h2).symm,key 2 h2⟩
 have h2':t.hit page wr 2=false:=by simpa using h2
 by_cases h3:t.hit page wr 3=true
 ·exact⟨3,by omega,(tY t page wr 3 (by omega) (fun j hj=>by rcases(show j=0\/j=1\/j=2 by omega)with rfl|rfl|rfl<;>assumption) h3).symm,key 3 h3⟩
 have h3':t.hit page wr 3=false:=by simpa using h3
 exact absurd (by unfold Pl.find;simp[h0',h1',h2',h3']) h
theorem MX{t:Pl}{page frame:Int}{wr:Bool}(hn:0<=t.n/\t.n<4)(hf:1<=frame):(∀k,((t.put page frame wr).p k=t.p k/\(t.put page frame wr).f k=t.f k/\(t.put page frame wr).w k=t.w k)\/((t.put page frame wr).p k=page/\(t.put page frame wr).f k=frame/\(t.put page frame wr).w k=wr))/\0<=(t.put page frame wr).n/\(t.put page frame wr).n<4:=by
 have key:∀(j:Nat) (m k:Nat) (n:Int),(((t.store j page frame wr n).p k=t.p k/\(t.store j page frame wr n).f k=t.f k/\(t.store j page frame wr n).w k=t.w k)\/((t.store j page frame wr n).p k=page/\(t.store j page frame wr n).f k=frame/\(t.store j page frame wr n).w k=wr)):=fun j m k n=>by
  by_cases e:k=j
  ·subst e;exact .inr ⟨lV _ _ _,lV _ _ _,lV _ _ _⟩
  ·exact .inl ⟨ou _ _ _ _ e,ou _ _ _ _ e,ou _ _ _ _ e⟩
 unfold Pl.put;rw[aA (by omega)];split
 ·exact⟨fun k=>key _ 0 k _,by show 0<=(t.n+1)%4;omega,by show(t.n+1)%4<4;omega⟩
 ·exact⟨fun k=>key _ 0 k _,hn.1,hn.2⟩
def fU(g:Gh)(K:Km)(o:Ob)(va:Int)(wr:Bool):Int:=match K.bN o va with
 | some (s,a,may)=>if(wr&&!may)=true then 0 else(g.fr s).getD (a/64).toNat 0
 | none=>0
theorem vH{K:Km}{o:Ob}{va:Int}:K.bN o va=(K.bN o (va/64*64)).map fun r=>(r.1,r.2.1+va%64,r.2.2):=by
 have e:va/64*64+va%64=va:=by omega
 have:=ES (K:=K) (o:=o) (va/64) (va%64) (by omega) (by omega);rw[e]at this;exact this
theorem vO{g:Gh}{K:Km}{o:Ob}{va f:Int}{y wr:Bool}(hn:∀n o,K.obj n=some o->o.name=n)(h:iA g K o (va/64) f y)(hy:y=true\/wr=false):fU g K o va wr=f:=by
 obtain⟨s,a,may,h1,h2,h3⟩:=h;obtain⟨c,-,-,-,h4⟩:=kC hn h1;unfold fU;rw[vH,h1];simp only[Option.map_some]
 rw[aA (by
  rcases hy with e|e
  ·rw[h3 e];simp
  ·rw[e];simp),<-h2]
 congr 2
 omega
theorem Dt{g:Gh}{K:Km}{o:Ob}{va s a:Int}{may:Bool}(hn:∀n o,K.obj n=some o->o.name=n)(h:K.bN o va=some (s,a,may)):iA g K o (va/64) ((g.fr s).getD (a/64).toNat 0) may:=by
 rw[vH]at h
 cases e:K.bN o (va/64*64)with
 | none=>rw[e]at h;cases h
 | some r =>
  obtain⟨s',a',m'⟩:=r;rw[e]at h;simp only[Option.map_some,Option.some.injEq,Prod.mk.injEq]at h;obtain⟨rfl,rfl,rfl⟩:=h;obtain⟨c,-,-,-,h4⟩:=kC hn e;refine⟨_,_,_,e,?_,fun q=>q⟩;congr 2
  omega
theorem lK{K:Km}{o:Ob}{va s a:Int}{may:Bool}(hM:ny K)(h:K.bN o va=some (s,a,may)):0<=a:=by
 unfold Km.bN at h
 cases e1:K.obj o.th.space with
 | none=>rw[e1]at h;cases h
 | some sp =>
  rw[e1]at h;simp only at h;split at h
  ·cases e3:ig sp.maps (va/64)with
   | none=>rw[e3]at h;cases h
   | some m =>
    rw[e3]at h;simp only at h;obtain⟨mem,q1,q2⟩:=ug e3;obtain⟨-,-,⟨q3,-⟩,-⟩:=uX (hM _ _ e1 m mem)
    cases e4:K.obj m.seg with
    | none=>rw[e4]at h;cases h
    | some c =>
     rw[e4]at h;simp only at h;split at h
     ·simp only[Option.some.injEq,Prod.mk.injEq]at h
      obtain⟨h1,h2,h3⟩:=h;omega
     ·cases h
  ·cases h
theorem qR{g:Gh}{K:Km}{o:Ob}{va s a:Int}{may:Bool}(hI:Inv g K)(hM:ny K)(h:K.bN o va=some (s,a,may)):1<=(g.fr s).getD (a/64).toNat 0/\(g.fr s).getD (a/64).toNat 0<=g.P.n/\(a/64).toNat<(g.fr s).length:=by
 obtain⟨c,hc,hk,h1,-⟩:=kC hI.name h;have h0:=lK hM h;have hs:=hI.seg s c hc hk;have hnm:=hI.name s c hc;rw[<-hnm];have hlt:(a/64).toNat<(g.fr c.name).length:=by rw[hs.len];omega
 obtain⟨t1,t2⟩:=hs.inn.there (mJ hlt);exact⟨t1,t2,hlt⟩
theorem Du(w:World)(g:Gh)(K:Km)(h:cZ w g K)(hI:Inv g K)(i:Nat)(hi:i<K.nc)(o:Ob)(page frame:Int)(wr:Bool)(hf:1<=frame)(hla:g.last i=o.name)(ho:K.obj o.name=some o)(hp:0<=page/\page<4096)(hl:iA g K o page frame wr) :
  Calls Tryz.prog 320 #[.pointer (some ⟨g.cb,i*27+11,none⟩),.int .i64 page,.int .i64 frame,.bool wr] w fun e w'=>e=.returned (.tuple #[])/\∃g',cZ w' g' K/\Inv g' K/\Ext g g' w w'/\Same g g':=by
 obtain⟨htag,cs,hB,hin⟩:=h.cores.ex (by omega);obtain⟨cs',hB',hI'⟩:=h.pl hi
 have hIn:In cs (i*27+11) (g.fC i).list:=by
  have e:cs'=cs:=by unfold aR at hB hB';rw[hB]at hB';cases hB';rfl
  rw[<-e];exact hI'
 have hn:=hI.tn i hi;refine(Mq g.cb (i*27+11) _ (g.fC i) cs page frame wr w hB hIn (by omega) hn.1 hn.2).mono ?_;rintro e w' ⟨rfl,hP⟩;obtain⟨k1,k2⟩:=h.Ms hi hB hin hP;obtain⟨p1,p2⟩:=MX (t:=g.fC i) (page:=page) (frame:=frame) (wr:=wr) hn hf;refine⟨rfl,_,k1,?_,k2,⟨rfl,?_,?_,rfl,rfl⟩⟩
 ·have:=hI.cores (f:=K.cores) (fC:=fun j=>if j=i then(g.fC i).put page frame wr else g.fC j) (flush:=fun j=>if j=i then g.flush i else g.flush j) (last:=fun j=>if j=i then g.last i else g.last j) (fun j hj hfl k hk hk2=>?_) (fun j hj=>?_)
  ·exact this
  ·show ∃o,K.obj (if j=i then g.last i else g.last j)=some o/\(0<=(if j=i then(g.fC i).put page frame wr else g.fC j).p k/\(if j=i then(g.fC i).put page frame wr else g.fC j).p k<4096)/\iA g K o ((if j=i then(g.fC i).put page frame wr else g.fC j).p k) ((if j=i then(g.fC i).put page frame wr else g.fC j).f k) ((if j=i then(g.fC i).put page frame wr else g.fC j).w k)
   replace hfl:(if j=i then g.flush i else g.flush j)=false:=hfl;replace hk2:(if j=i then(g.fC i).put page frame wr else g.fC j).f k≠0:=hk2;by_cases e:j=i
   ·subst e
    rw[aD rfl]at hfl hk2 ⊢;rw[aD rfl];rcases p1 k with⟨q1,q2,q3⟩|⟨q1,q2,q3⟩
    ·rw[q2]at hk2
     rw[q1,q2,q3];exact hI.fC j hj hfl k hk hk2
    ·rw[q1,q2,q3]
     exact⟨o,by rw[hla];exact ho,hp,hl⟩
   ·rw[aA e]at hfl hk2 ⊢
    rw[aA e];exact hI.fC j hj hfl k hk hk2
  ·show 0<=(if j=i then(g.fC i).put page frame wr else g.fC j).n/\(if j=i then(g.fC i).put page frame wr else g.fC j).n<4
   by_cases e:j=i
   ·rw[aD e];exact p2
   ·rw[aA e];exact hI.tn j hj
 ·funext j
  show(if j=i then g.flush i else g.flush j)=g.flush j
  by_cases e:j=i
  ·rw[aD e,e]
  ·rw[aA e]
 ·funext j
  show(if j=i then g.last i else g.last j)=g.last j
  by_cases e:j=i
  ·rw[aD e,e]
  ·rw[aA e]
end Go.Proofs.YtiadbhiadhgjkaaGreatDoor
namespace Go.Proofs.YtiadbhiadhgjkaaGreatDoor
open Go.RowKit
theorem Pf(N M:Nat->Int)(k:Nat)(h:∀j,j<k->(N j=0↔M j=0)):gu N k=gu M k:=by
 induction k with
 | zero=>rfl
 | succ k ih =>
  unfold gu;rw[ih (fun j hj=>h j (by omega))];by_cases c:N k=0
  ·rw[aD c,aD ((h k (by omega)).1 c)]
  ·rw[aA c,aA (fun q=>c ((h k (by omega)).2 q))]
theorem yu(N:Nat->Int)(c k:Nat)(hc:c<k)(v:Int)(hv:v≠0):gu (dU N c v) k=gu N k+(if N c=0 then 1 else 0):=by
 induction k with
 | zero=>omega
 | succ k ih =>
  unfold gu;by_cases e:c=k
  ·subst e
   rw[yt (dU N c v) N c (fun j hj=>bL _ _ _ _ (by omega)),dZ,aA hv];by_cases c0:N c=0
   ·simp[c0]
   ·simp[c0]
  ·rw[ih (by omega),bL _ _ _ _ (show k≠c by omega)];omega
section
variable {P:Pool}{r o:Int}{N N' F:Nat->Int}{Y:Nat->Bool}
theorem Tab.more(h:Tab P r o N F Y)(p:Nat)(hp:p<4096)(hn:∀n,N' n≠0↔N n≠0\/n=nd p 1\/n=nd p 2\/n=nd p 3):gu N' 585=gu N 585+gL N p:=by
 have l1:=jq p 1 hp;have l2:=jq p 2 hp;have l3:=jq p 3 hp;have n12:nd p 1≠nd p 2:=by simp only[nd];omega
 have n13:nd p 1≠nd p 3:=by simp only[nd];omega
 have n23:nd p 2≠nd p 3:=by simp only[nd];omega
 rw[Pf N' (dU (dU (dU N (nd p 1) 1) (nd p 2) 1) (nd p 3) 1) 585 (fun j hj=>?_),
  yu _ _ _ l3 1 (by omega),yu _ _ _ l2 1 (by omega),yu _ _ _ l1 1 (by omega),bL _ _ _ _ n23.symm,bL _ _ _ _ n13.symm,bL _ _ _ _ n12.symm]
 ·have g1:=h.gap hp 1 2 (by omega) (by omega);have g2:=h.gap hp 2 3 (by omega) (by omega)
  unfold gL;by_cases c1:N (nd p 1)=0
  ·have c2:=g1 c1;have c3:=g2 c2
   simp[c1,c2,c3]
  ·by_cases c2:N (nd p 2)=0
   ·have c3:=g2 c2
    simp[c1,c2,c3]
   ·by_cases c3:N (nd p 3)=0
    ·simp[c1,c2,c3]
    ·simp[c1,c2,c3]
 ·have hj':=hn j
  by_cases e3:j=nd p 3
  ·subst e3;rw[dZ]
   have:N' (nd p 3)≠0:=hj'.2 (.inr (.inr (.inr rfl)))
   simp[this]
  ·rw[bL _ _ _ _ e3]
   by_cases e2:j=nd p 2
   ·subst e2;rw[dZ]
    have:N' (nd p 2)≠0:=hj'.2 (.inr (.inr (.inl rfl)))
    simp[this]
   ·rw[bL _ _ _ _ e2]
    by_cases e1:j=nd p 1
    ·subst e1;rw[dZ]
     have:N' (nd p 1)≠0:=hj'.2 (.inr (.inl rfl))
     simp[this]
    ·rw[bL _ _ _ _ e1]
     constructor
     ·intro q
      by_cases c:N j=0
      ·exact c
      ·exact absurd q (hj'.2 (.inl c))
     ·intro q
      by_cases c:N' j=0
      ·exact c
      ·rcases hj'.1 c with c'|c'|c'|c'
       ·exact absurd q c'
       ·exact absurd c' e1
       ·exact absurd c' e2
       ·exact absurd c' e3
end
attribute [local irreducible] World.setCell World.alloc World.drew World.setRow Calls Code.wp row
theorem OJ(pb db ob:Nat)(P:Pool)(r o:Int)(N F:Nat->Int)(Y:Nat->Bool)(p:Nat)(f most:Int)(b:Bool)(w:World)(hP:bB w pb db ob P)(hT:Tab P r o N F Y)(hp:p<4096)
  (hf1:1<=f) (hm0:0<=most) (hm:most<(gL N p:Int)) (hl:most<=(P.left:Int)) :
  Calls Tryz.prog 322 #[.pointer (some ⟨pb,0,none⟩),.int .i64 r,.int .i64 p,.int .i64 f,.bool b,.int .u64 o,.int .i64 most] w fun e w' =>
   e=.returned (.tuple #[.int .i64 0,.bool false])/\∃P',bB w' pb db ob P'/\Tab P' r o N F Y/\dQ P P' o/\P'.left=P.left/\bY P'.O o P.n=bY P.O o P.n/\Kept (PS pb db ob) w w':=by
 have hro:P.owner r≠0:=by rw[hT.Cz];exact hT.o0
 have abK:(P.owner r==0)=false:=by simpa using hro
 have hpi:(p:Int)<4096:=by omega
 have HP:=ah hP;have HT:=ah hT;have Hm:=ah hm;have Hl:=ah hl;have hpn:=hP.hi;obtain⟨i0,hi,hz0,hz1,hz2⟩:=info_parts Bb;have Hi:=ah hi;have lJ:=ah hz0;have lI:=ah hz1;have kT:=ah hz2;clear hP hT hm hl hi hz0 hz1 hz2 hro;go_enter Tryz.func322,Tryz.ntmps322
 go_wp2_with fail
 refine(kE pb db ob P r _ HP.out).mono ?_;rintro e w' ⟨rfl,rfl⟩;go_wp2_with fail
 go_loopg [16,17,18,19,42] 3 (fun g mv at_ fs wh i wx=>∃(l a:Nat) (P':Pool) (N':Nat->Int) (xs:List Value) (fi:Int) (wi:Nat),l+g=3/\i=.int .i64 l/\at_=.int .i64 (N' (nd p l))/\fs=.int .i64 fi/\wh=.int .i64 wi/\wx.ownsRow w.heap.size 3 1 mv (l-a) xs/\Down w wx pb db ob P r o N F Y p l a P' N'/\xs=(jZ N' p a l).map (Value.int .i64)/\wi<8/\(a<l->fi=N (nd p a)/\wi=p/8^(3-a)%8/\((l-a:Nat):Int)<=most))
 case atStart=>exact⟨0,0,P,N,[],0,0,rfl,rfl,by show Value.int .i64 r=.int .i64 (N 0);rw[HT.out.root],rfl,rfl,cu _ _ _ _,Down.start HP.out HT.out,by rw[uQ];rfl,by omega,fun h=>absurd h (by omega)⟩
 case round =>
  obtain⟨l,a,P',N',xs,fi,wi,hg,rfl,rfl,rfl,rfl,hown,hD,hxs,hwi,hfw⟩:=hrel;have Hxs:=ah hxs;have Hfw:=ah hfw;have Hwi:=ah hwi;clear hxs hfw hwi;have kZ:=ah hown;have HD:=ah hD;have hal:=hD.al;have Oc:=hD.kept.size;have Wm:=ah hD.pool;obtain⟨t,ht⟩:∃t,N' (nd p l)=t:=⟨_,rfl⟩;have hto:P'.owner t≠0:=by rw[<-ht,hD.tab.own _ (jq p l hp) hD.here];exact hD.tab.o0
  have VZ:=ah hto;clear hown hD hto;by_cases hl3:l<3
  ·have lF:(l:Int)<3:=by omega
   rw[ht];have Ht:=ah ht;clear ht;go_wp2_with fail
   refine(mh l p _ (by omega) hp).mono ?_;rintro e w' ⟨rfl,rfl⟩;obtain⟨i,hi⟩:∃i,p/8^(3-l)%8=i:=⟨_,rfl⟩;have hi8:i<8:=by omega
   rw[hi];have Xe:=ah hi;clear hi;go_wp2_with fail
   refine(nU pb db ob P' t i _ Wm.out VZ.out hi8).mono ?_;rintro e w2 ⟨rfl,hb2⟩;have hst:=HD.out.tab.step p l hp hl3 (by rw[Ht.out];have:=HD.out.here;rw[Ht.out]at this;exact this);rw[Ht.out,Xe.out]at hst;have uD:=ah (kZ.out.kept (row:=none) ⟨hb2.os,hb2.tape,hb2.output,hb2.size,fun b hb _=>hb2.block b hb⟩ (by by_cases h:u16.ownBlock=none;exact .inl h;exact .inr h))
   have HD2:Hid (Down w w2 pb db ob P r o N F Y p l a P' N') :=
    ⟨HD.out.al,HD.out.pool.below hb2,HD.out.tab,HD.out.mv,HD.out.left,HD.out.cnt,HD.out.old,HD.out.new,HD.out.was,HD.out.gap,HD.out.here,HD.out.kept.trans (Kept.of_below hb2)⟩
   have hsz2:=hb2.size;clear hb2 HD kZ Wm;by_cases hc:N' (nd p (l+1))=0
   ·rw[aD hc]at hst
    have xO:P'.n=P.n:=HD2.out.mv.n
    have rG:l-a<gL N p:=by
     have hN0:N (nd p (l+1))=0:=by
      by_cases e:N (nd p (l+1))=0
      ·exact e
      ·rw[HD2.out.old _ e]at hc;exact absurd hc e
     by_cases e:a<l
     ·rw[nN N p a (by omega) HD2.out.was (HD2.out.gap e)];omega
     ·obtain rfl:a=l:=by omega
      rw[nN N p a hl3 HD2.out.was hN0];omega
    have Bj:=HD2.out.left;have hpl:((l-a:Nat):Int)<most->1<=P'.left:=fun q=>by have:=Hl.out;omega
    have hh0:=HD2.out.here;have hcc:8*nd p l+1+p/8^(3-l)%8=nd p (l+1):=tC p l hp hl3;have HGr:=ah (fun q=>HD2.out.tab.grow (nd p l) (p/8^(3-l)%8) (jq p l hp) (Nat.mod_lt _ (by omega)) hh0 (by rw[hcc];exact jq p (l+1) hp) (by rw[hcc];exact hc) (hpl q) (by omega));have Hc:=ah hc;have HCc:=ah hcc;have ha:bits .and .u64 0 1=0:=by decide
    obtain⟨A,C,hA⟩:∃A C,u16=.slice A (l-a) C:=by
     rcases uD.out.2 with⟨e,h0⟩|⟨g,cap,cur,e,_⟩
     ·exact⟨none,0,by rw[e,h0]⟩
     ·exact⟨_,_,e⟩
    subst hA;obtain⟨c',hc'⟩:∃c',l-a=c':=⟨_,rfl⟩;rw[hc']at rG ⊢;have EB:Hid (w2.ownsRow w.heap.size 3 1 (.slice A c' C) c' xs):=by have:=uD.out;rw[hc']at this;exact this
    have LK:=ah hc';have hc3:c'<=3:=by omega
    have Vb:IntKind.i64.wrap ((c':Int))=(c':Int):=aV _ (by omega);rw[hst];clear hst hc hc' hcc hh0 uD hpl Bj rG xO Vb;by_cases hlm:(c':Int)<most
    ·obtain⟨t',hr,ht1,ht2,hT',hmv,hll,hcn⟩:=HGr.out (by rw[LK.out];exact hlm)
     rw[HCc.out]at hT';have Xm:=ah hT';have zq:=ah hmv;have Hll:=ah hll;have LJ:=ah hcn;have Hr:=ah hr;have ht3:t'<=4096:=by have:=HD2.out.mv.n;omega
     have htb:(t'==0)=false:=by simp;omega
     have hor:bits .or .u64 (t'*256) 1=t'*256+1:=xA t' 1 (by omega) (by omega) (by omega) (by omega);clear hT' hmv hll hcn hr;obtain⟨zb,hcb,hz1,hz2⟩:∃zb:Bool,((c':Int)==0)=zb/\(zb=true->c'=0)/\(zb=false->0<c'):=⟨_,rfl,fun h=>by simpa using h,fun h=>by have h2:(c':Int)≠0:=(by simpa using h);omega⟩
     have HZ:Hid (if zb=true then c'=0 else 0<c'):=by
      cases zb
      ·exact hz2 rfl
      ·exact hz1 rfl
     clear hz1 hz2
     cases zb
     all_goals
      go_wp2_with fail
      refine(jk pb db ob P' o _ HD2.out.pool).mono ?_;rintro e w3 ⟨rfl,hP3,hK3⟩;rw[Hr.out];have Qf:=ah hP3;have wM:=ah hK3
      have PO:Hid (w3.ownsRow w.heap.size 3 1 (.slice A c' C) c' xs):=AO EB.out hK3 (fun k hk=>by
       rcases hk with e|e|e<;>subst e
       ·exact HP.out.hp.lt
       ·exact HP.out.hd.lt
       ·exact HP.out.ho.lt)
      clear hP3 hK3;go_wp2_with fail
      refine(ow pb db ob _ t i (t'*256+1) _ Qf.out hi8 (by omega) (by omega)).mono ?_;rintro e w4 ⟨rfl,DK,hK4⟩
      have uz:=ah (AO PO.out hK4 (fun k hk=>by
       rcases hk with e|e|e<;>subst e
       ·exact HP.out.hp.lt
       ·exact HP.out.hd.lt
       ·exact HP.out.ho.lt))
      have XO:=bD (bD Oc hsz2) (bD wM.out.size hK4.size)
      have HD5:Hid (Down w w4 pb db ob P r o N F Y p (l+1) a ((P'.alloc o).gI (N' (nd p l)) (p/8^(3-l)%8) (t'*256+1)) (dU N' (nd p (l+1)) t')) :=
       HD2.out.make hl3 Hc.out t' (by omega) Xm.out zq.out Hll.out LJ.out (by rw[Ht.out,Xe.out];exact DK) (wM.out.trans hK4)
      clear DK hK4;go_wp2_with (at_builtin;refine wpList_append_own _ rfl _ _ 34 rfl w.heap.size 3 i0 (.int .i64 0) 1 8 Tryz.underlying34 Hi.out lJ.out lI.out kT.out rfl (by decide) _ _ _ rfl (uz.out.alloc _) ⟨w4.heap.size,0,none⟩ 1 1 [.int .i64 t'] rfl rfl (cell_one_new' _ _ _) (fun u hu=>by simp at hu;subst hu;rfl) (by unfold maxLen;omega) (by omega) (by simp;omega) ?_;intro v' w6 hown6 dN _)
      have HD6:=ah (HD5.out.grown (row:=(Value.slice A c' C).ownBlock) dN HP.out (fun k hk=>(uz.out.lt k hk).1));go_roundg (3-(l+1))
      case measure=>omega
      case rel=>exact⟨l+1,a,_,_,_,_,_,by omega,by go_num,by rw[dZ],rfl,rfl,by rw[show l+1-a=c'+1 by have:=LK.out;omega];exact hown6,HD6.out,by rw[FW hp hal hl3,List.map_append,Hxs.out];rfl,(by first|exact hi8|exact Hwi.out),(by
        intro _;have hc1:=LK.out;have hz3:=HZ.out
        first
         | (have hz4:c'=0:=by simpa using hz3
            obtain rfl:a=l:=by omega
            exact⟨by rw[<-Ht.out];exact HD2.out.old _ (HD2.out.was a (aj _)),Xe.out.symm,by omega⟩)
         | (have hz4:0<c':=by simpa using hz3
            obtain⟨e1,e2,e3⟩:=Hfw.out (by omega);exact⟨e1,e2,by omega⟩))⟩
    ·have ahQ:=HP.out.hp.lt;have ahP:=HP.out.hd.lt;have ahO:=HP.out.ho.lt
     have ahW:¬(c':Int)<most:=hlm
     have hg3:∃g,¬PS pb db ob g/\(0<c'->A=some ⟨g,0,none⟩):=by
      rcases EB.out.2 with⟨e,h0⟩|⟨g,cap,cur,e,hb,_⟩
      ·exact⟨pb+db+ob+1,by rintro(e|e|e)<;>omega,fun h=>absurd h (by omega)⟩
      ·refine⟨g,by rintro(e1|e1|e1)<;>omega,fun _=>?_⟩
       injection e
     obtain⟨g,hg1,hg2⟩:=hg3
     have hun:=Mh pb db ob P' (jZ N' p a l) A C g fi wi w2 HD2.out.pool Hwi.out (by rw[nO];omega) (by rw[nO,LK.out];exact hg2) (by
      intro j hj;rw[nO,LK.out]at hj;have h1:=EB.out;obtain rfl:=hg2 (by omega);rw[h1.cellAt j (by omega),Hxs.out];simp[List.getD,jZ,show j<l-a by have:=LK.out;omega]) hg1
     rw[nO,LK.out]at hun;have Hun:=ah hun;clear hun hg1 hg2;go_wp2_with fail
     refine Hun.out.mono ?_;rintro e w3 ⟨rfl,hP3,hK3⟩;have hun:=HD2.out.undo HT.out hp (by omega)
     have hE:eT (if 0<c' then P'.gI fi wi 0 else P') (jZ N' p a l)=pR P' N N' p a l:=by
      unfold pR;by_cases h0:0<c'
      ·obtain⟨e1,e2,-⟩:=Hfw.out (by have:=LK.out;omega)
       rw[aD h0,aD (by have:=LK.out;omega),e1,e2]
      ·rw[aA h0,aA (by have:=LK.out;omega)]
     rw[hE]at hP3;have Qf:=ah hP3;have wM:=ah (HD2.out.kept.trans hK3);have Hq:=ah hun;clear hP3 hK3 hE hun;go_wp2_with fail
     go_ret2
     exact⟨rfl,_,Qf.out,Hq.out.1,Hq.out.2.1,Hq.out.2.2.1,Hq.out.2.2.2,wM.out⟩
   ·rw[aA hc]at hst
    obtain⟨c1,c2⟩:=HD2.out.tab.bd _ (jq p (l+1) hp) hc;obtain⟨c,hcc⟩:∃c,N' (nd p (l+1))=c:=⟨_,rfl⟩;have xO:P'.n=P.n:=HD2.out.mv.n;obtain⟨e1,hD3⟩:=HD2.out.skip HT.out hp hl3 hc;rw[hcc]at hst c1 c2;have c3:c<=4096:=by omega
    have ha:bits .and .u64 (c*256+1) 1=1:=by rw[mM _ (by omega) (by omega)];omega
    have hd:(c*256+1)/256=c:=by omega
    rw[hst];have Jf:=ah hcc;have HD3:=ah hD3;subst e1;clear hst hcc hc hD3 xO;go_wp2_with fail
    go_roundg (3-(a+1))
    case measure=>omega
    case rel=>exact⟨a+1,a+1,P',N',xs,fi,wi,by omega,by go_num,by rw[Jf.out],rfl,rfl,by have:=uD.out;rw[Nat.sub_self]at this ⊢;exact this,HD3.out,by rw[Hxs.out,uQ,uQ],Hwi.out,fun h=>absurd h (by omega)⟩
  ·obtain rfl:l=3:=by omega
   exfalso
   have rG:3-a=gL N p:=by
    by_cases e:a<3
    ·rw[nN N p a e HD.out.was (HD.out.gap e)]
    ·rw[xD N p (fun j hj=>HD.out.was j (by omega))];omega
   by_cases e:a<3
   ·have:=(Hfw.out e).2.2;have:=Hm.out;omega
   ·have:=Hm.out
    omega
end Go.Proofs.YtiadbhiadhgjkaaGreatDoor
