import Derived.Test.YtiadbhiadhgjkaaGreatDoorZzMh
import Derived.Test.YtiadbhiadhgjkaaGreatDoorZzIsaD
set_option maxRecDepth 100000
set_option maxHeartbeats 4000000
namespace Go.Proofs.YtiadbhiadhgjkaaGreatDoor
open Go.RowKit
theorem bytes_at{g:Gh}{K:Km}{o:Ob}{va:Int}{s:Int}{a:Nat}{may:Bool}(hI:Inv g K)(hM:ny K)(h:K.bN o va=some (s,(a:Int),may))(n:Nat)(hn:va%64+(n:Int)<=64) :
  ∃c,K.obj s=some c/\c.kind=2/\K.bytes o va=some (fun j=>c.data (a+j))/\(∀j,j<n->c.data (a+j)=g.P.D ((((g.fr s).getD (a/64) 0).toNat-1)*64+(va%64).toNat+j))/\g.P.fits ((g.fr s).getD (a/64) 0) (va%64) n=true:=by
 obtain⟨c,hc,hk,h1,h2⟩:=kC hI.name h;obtain⟨f1,f2,f3⟩:=qR hI hM h;have e64:((a:Int)/64).toNat=a/64:=by omega
 rw[e64]at f1 f2 f3;have hs:=hI.seg s c hc hk;have hnm:=hI.name s c hc;have hlen:=hs.len;rw[hnm]at hlen;refine⟨c,hc,hk,?_,fun j hj=>?_,?_⟩
 ·unfold Km.bytes;rw[h];simp only;rw[hc];simp only[Option.map_some,Int.toNat_natCast]
 ·have hd:=hs.data (a+j) (by omega)
  rw[hd,hnm];unfold kV;have e1:(a+j)/64=a/64:=by omega
  have e2:(a+j)%64=(va%64).toNat+j:=by omega
  rw[e1,e2,Nat.add_assoc]
 ·rw[Pool.nS]
  have:=hs.inn.own _ (mJ (show a/64<(g.fr c.name).length by rw[hnm];exact f3));rw[hnm]at this;have h0:=hs.inn.o0;rw[hnm]at h0;exact⟨by rw[this];exact h0,by omega,by omega,by omega,by omega⟩
def kg(B:Option (Nat->Int))(n:Nat):Value:=match B with
 | none=>.tuple #[.int .u64 0,.bool false]
 | some B=>.tuple #[.int .u64 (oh B n),.bool true]
attribute [local irreducible] World.setCell World.alloc World.drew World.setRow Calls Code.wp
theorem NI(w:World)(g:Gh)(K:Km)(o:Ob)(i mb:Nat)(va:Int)(n:Nat)(h:cZ w g K)(hI:Inv g K)(hM:ny K)(ho:K.obj o.name=some o)(hk:o.kind=3)(hl:∀n s,K.obj n=some s->s.maps.length<=1000000)
  (hi:i<K.nc) (hfl:g.flush i=false) (hla:g.last i=o.name) (hm:qI w g o i mb) (h0:0<=va) (h1:va<=262143) (hn1:1<=n) (hn8:n<=8) (hn:va%64+(n:Int)<=64) :
  Calls Tryz.prog 315 #[.pointer (some ⟨mb,0,none⟩),.int .i64 va,.int .i64 n] w fun e w'=>e=.returned (kg (K.bytes o va) n)/\∃g',bS w g K o w' g':=by
 have SL:=ah (zX w g K o i mb va false h hI hM ho hk hl hi hfl hla hm h0 h1);have HM:=ah hM;have HMa:=ah hm;have HI:=ah hI;have yK:=ah (And.intro h0 h1);have Hn:=ah hn;clear h hI hM ho hl hm hi hfl hla h0 h1 hn;go_enter Tryz.func315,Tryz.ntmps315
 go_wp2_with fail
 refine SL.out.mono ?_;rintro e w1 ⟨rfl,g1,hE1⟩;have oo:=ah hE1;clear hE1 SL
 cases uF:K.bN o va with
 | none =>
  have hf0:fU g K o va false=0:=by unfold fU;rw[uF]
  have HB:Hid (kg (K.bytes o va) n=.tuple #[.int .u64 0,.bool false]):=ah (by unfold Km.bytes kg;rw[uF]);rw[hf0];clear uF hf0;go_wp2_with fail
  go_ret2
  exact⟨by rw[HB.out];rfl,g1,oo.out⟩
 | some r =>
  obtain⟨s,a,may⟩:=r;have ha0:=lK HM.out uF;obtain⟨an,rfl⟩:∃an:Nat,a=(an:Int):=⟨a.toNat,by omega⟩;have e64:((an:Int)/64).toNat=an/64:=by omega
  obtain⟨f1,f2,-⟩:=qR oo.out.inv HM.out uF;rw[e64]at f1 f2
  have hf0:fU g K o va false=(g1.fr s).getD (an/64) 0:=by
   rw[<-DR (K:=K) (o:=o) (va:=va) (wr:=false) oo.out.same.fr];unfold fU;rw[uF];simp only;rw[aA (by simp),e64]
  obtain⟨c,-,-,hby,hdat,hfit⟩:=bytes_at oo.out.inv HM.out uF n Hn.out;have HB:Hid (kg (K.bytes o va) n=.tuple #[.int .u64 (oh (fun j=>c.data (an+j)) n),.bool true]):=ah (by rw[hby];rfl);rw[hf0];obtain⟨fv,KH⟩:∃fv,(g1.fr s).getD (an/64) 0=fv:=⟨_,rfl⟩;rw[KH]at f1 f2 hdat hfit ⊢;have RH:(fv==0)=false:=by simp;omega
  have iR:Hid (∀w',Below w1.heap.size w1 w'->w'.cell? ⟨mb,0,none⟩=some (.pointer (some ⟨g.kb,0,none⟩))/\w'.cell? ⟨g.kb,1,none⟩=some (.pointer (some ⟨g.pb,0,none⟩))):=ah (fun w' k=>by
   have e1:=((HMa.out.ext oo.out.ext oo.out.same).below k).cells.1;have e2:=(oo.out.kin.below k).iV.2;rw[oo.out.ext.al.kb]at e1 e2;rw[oo.out.ext.al.pb]at e2;exact⟨e1,e2⟩)
  obtain⟨m0,k1⟩:=iR.out w1 (aC _ _);have HOd:Hid (Calls Tryz.prog 279 #[.int .i64 va] w1.drew fun e w'=>e=.returned (.int .i64 (va%64))/\w1.drew=w'):=ah (rZ va _ yK.out.1 yK.out.2)
  have EF:Hid (Calls Tryz.prog 56 #[.pointer (some ⟨g.pb,0,none⟩),.int .i64 fv,.int .i64 (va%64),.int .i64 n] w1.drew fun e w'=>∃gb gc,e=.returned (.slice (some ⟨gb,0,none⟩) n gc)/\Below w1.heap.size w1 w'/\(∀j,j<n->w'.cell? ⟨gb,j,none⟩=some (.int .u8 (c.data (an+j))))):=by
   have hp:=oo.out.kin.pool.drew;rw[oo.out.ext.al.pb]at hp;refine ah ((CO g.pb g1.db g1.ob g1.P fv (va%64) n w1.drew hp hfit).mono ?_);rintro e w' ⟨v,rfl,hown,hb⟩;rw[cK]at hb;rw[Int.toNat_natCast]at hown;obtain⟨gb,gc,cur,rfl,-⟩:=hown.2.resolve_left (by rintro⟨_,h0⟩;omega);refine⟨gb,gc,rfl,(aC _ w1).drew.trans hb,fun j hj=>?_⟩;rw[hown.cellAt j (by omega),hdat j hj];simp only[Pool.cells];rw[dF,List.getElem?_range hj];rfl
  have YL:Hid (∀j,j<n->0<=c.data (an+j)/\c.data (an+j)<=255):=ah (fun j hj=>by rw[hdat j hj];exact oo.out.kin.pool.bd _);clear uF e64 f1 f2 hf0 hby hdat hfit KH ha0;go_wp2_with fail
  go_region_held3 (fun w'=>w'.cell? ⟨mb,0,none⟩=some (.pointer (some ⟨g.kb,0,none⟩))/\w'.cell? ⟨g.kb,1,none⟩=some (.pointer (some ⟨g.pb,0,none⟩)))
   (first|go_keep|exact iR.out _ hb2)
   (first|(refine HOd.out.mono ?_;rintro e w' ⟨rfl,rfl⟩)|(refine EF.out.mono ?_;rintro e w2 ⟨gb,gc,rfl,hb2,hcells⟩))
  all_goals
   have HE2:=ah (oo.out.below hb2);obtain⟨C,hC⟩:∃C:Nat->Int,(fun j=>c.data (an+j))=C:=⟨_,rfl⟩;have qJ:Hid (∀j,j<n->w2.cell? ⟨gb,j,none⟩=some (.int .u8 (C j))):=ah (fun j hj=>by rw[<-hC];exact hcells j hj);have HCb:Hid (∀j,j<n->0<=C j/\C j<=255):=ah (fun j hj=>by rw[<-hC];exact YL.out j hj);rw[hC]at HB;clear hcells hb2 hC m0 k1 iR YL;go_wp2_with fail
   go_loop [9,11,30] (fun x _ i=>∃k:Nat,k<=n/\i=.int .i64 k/\x=.int .u64 (oh C k)) (fun _ _ i=>n-(intOf i).toNat)
   case atStart=>exact⟨0,by omega,rfl,rfl⟩
   case round =>
    obtain⟨k,hk,rfl,rfl⟩:=hrel;by_cases hlt:k<n
    ·have hcl:=qJ.out k hlt
     obtain⟨c0,c1⟩:=HCb.out k hlt
     obtain⟨C',hC',hC2⟩:∃C':Nat->Int,(∀j,j<n->C' j=C j)/\∀j,0<=C' j/\C' j<=255:=⟨fun j=>if j<n then C j else 0,fun j hj=>aD hj,fun j=>by
      by_cases q:j<n
      ·simp only[aD q];exact HCb.out j q
      ·simp only[aA q];omega⟩
     obtain⟨d0,d1⟩:=Px C' hC2 k (by omega);rw[og C' C k (fun j hj=>hC' j (by omega))]at d0 d1;have hor:=xA (oh C k) (C k) d0 c0 (by omega) d1;have Hs:Hid (oh C (k+1)=oh C k*256+C k):=rfl;clear hC' hC2;go_wp2_with fail
     go_round
     case rel=>exact⟨k+1,by omega,by go_num,by rw[Hs.out]⟩
     case measure=>simp[intOf];omega
    ·obtain rfl:k=n:=by omega
     go_wp2_with fail
     go_ret2
     exact⟨by rw[HB.out];rfl,g1,HE2.out⟩
theorem KQ(w:World)(g:Gh)(K:Km)(o:Ob)(mb:Nat)(va:Int)
  (H:Calls Tryz.prog 315 #[.pointer (some ⟨mb,0,none⟩),.int .i64 va,.int .i64 (8:Nat)] w fun e w'=>e=.returned (kg (K.bytes o va) 8)/\∃g',bS w g K o w' g') :
  Calls Tryz.prog 314 #[.pointer (some ⟨mb,0,none⟩),.int .i64 va] w fun e w'=>e=.returned (kg (K.bytes o va) 8)/\∃g',bS w g K o w' g':=by
 have HH:=ah H;clear H
 cases hB:K.bytes o va
 all_goals
  rw[hB]at HH;unfold kg at HH ⊢;clear hB;go_enter Tryz.func314,Tryz.ntmps314
  go_wp2_with fail
  refine HH.out.mono ?_;rintro e w1 ⟨rfl,g1,hE⟩;have HE:=ah hE;clear hE;go_wp2_with fail
  go_ret2
  exact⟨rfl,g1,HE.out⟩
end Go.Proofs.YtiadbhiadhgjkaaGreatDoor
namespace Go.Proofs.YtiadbhiadhgjkaaGreatDoor
open Go.RowKit
def eY(K:Km)(o:Ob)(x:Ins):Option ((Nat->Int)×Int×Int) :=
 let r:=o.th.r
 let nx:=wu (o.th.pc+8)
 let b:=r x.b.toNat
 if x.op=1 then some (r,nx,2)
 else if x.op=43 then some (r,nx,1)
 else if x.op=2 then some (upd r x.a.toNat (wu x.bf),nx,0)
 else if x.op=18 then some (upd r x.a.toNat (wu (b+x.bf)),nx,0)
 else if x.op=29 then some (upd r x.a.toNat nx,wu (o.th.pc+8*x.bf),0)
 else if x.op=30 then some (r,r x.a.toNat,0)
 else if x.op=7 then(if r x.c.toNat=0 then some (r,nx,5)else none)
 else if 19<=x.op/\x.op<=24 then
  let n:=gN x.op
  let va:=wu (b+x.bf)
  if va>262144-(n:Int)\/va%(n:Int)≠0 then some (r,nx,6)
  else if 22<=x.op then
   match K.bN o va with
   | some (_,_,true)=>none
   | _=>some (r,nx,3)
  else match K.bytes o va with
   | some B=>some (upd r x.a.toNat (oh B n),nx,0)
   | none=>some (r,nx,3)
 else none
def tN(t:Th)(p:(Nat->Int)×Int×Int):Th×Int:=({ t with r:=p.1,pc:=if p.2.2=(0:Int)\/p.2.2=(1:Int)then p.2.1 else t.pc },p.2.2)
def oJ(K:Km)(o:Ob):Option (Th×Int) :=
 if o.th.pc ≥ 262144\/o.th.pc%8≠0 then some (o.th,6)
 else match K.bytes o o.th.pc with
  | none=>some (o.th,3)
  | some B=>if(nu B).right then(eY K o (nu B)).map (tN o.th)else some (o.th,4)
def Km.wR(K:Km)(o:Ob):Option (Km×Int) :=
 (oJ K o).map fun p =>
  if p.2=0 then(K.set (o.eF p.1),1)
  else if p.2=1 then(K.set (o.eF { p.1 with cont:={ rO with phase:=1 } }),1)
  else if p.2=2 then(K.set (o.eF { p.1 with state:=0 }),1)
  else(K.set (o.eF { p.1 with state:=0,fault:=p.2 }),5)
theorem Ig(t:Th)(x:Ts)(a b v:Int):∀j,j<16->(jw t x a b).setIfInBounds j (.int .u64 v)=jw { t with r:=upd t.r j v } x a b:=by
 intro j hj;have hu:∀k,k≠j->upd t.r j v k=t.r k:=fun k e=>ou _ _ _ _ e
 have hs:upd t.r j v j=v:=lV _ _ _;generalize hT:upd t.r j v=T at hu hs;unfold jw;match j,hj with
 | 0,_=>simp only[ay,aG];rw[hs,hu 1 (by omega),hu 2 (by omega),hu 3 (by omega),hu 4 (by omega),hu 5 (by omega),hu 6 (by omega),hu 7 (by omega),hu 8 (by omega),hu 9 (by omega),hu 10 (by omega),hu 11 (by omega),hu 12 (by omega),hu 13 (by omega),hu 14 (by omega),hu 15 (by omega)]
 | 1,_=>simp only[ay,aG,aH];rw[hu 0 (by omega),hs,hu 2 (by omega),hu 3 (by omega),hu 4 (by omega),hu 5 (by omega),hu 6 (by omega),hu 7 (by omega),hu 8 (by omega),hu 9 (by omega),hu 10 (by omega),hu 11 (by omega),hu 12 (by omega),hu 13 (by omega),hu 14 (by omega),hu 15 (by omega)]
 | 2,_=>simp only[ay,aG,aH];rw[hu 0 (by omega),hu 1 (by omega),hs,hu 3 (by omega),hu 4 (by omega),hu 5 (by omega),hu 6 (by omega),hu 7 (by omega),hu 8 (by omega),hu 9 (by omega),hu 10 (by omega),hu 11 (by omega),hu 12 (by omega),hu 13 (by omega),hu 14 (by omega),hu 15 (by omega)]
 | 3,_=>simp only[ay,aG,aH];rw[hu 0 (by omega),hu 1 (by omega),hu 2 (by omega),hs,hu 4 (by omega),hu 5 (by omega),hu 6 (by omega),hu 7 (by omega),hu 8 (by omega),hu 9 (by omega),hu 10 (by omega),hu 11 (by omega),hu 12 (by omega),hu 13 (by omega),hu 14 (by omega),hu 15 (by omega)]
 | 4,_=>simp only[ay,aG,aH];rw[hu 0 (by omega),hu 1 (by omega),hu 2 (by omega),hu 3 (by omega),hs,hu 5 (by omega),hu 6 (by omega),hu 7 (by omega),hu 8 (by omega),hu 9 (by omega),hu 10 (by omega),hu 11 (by omega),hu 12 (by omega),hu 13 (by omega),hu 14 (by omega),hu 15 (by omega)]
 | 5,_=>simp only[ay,aG,aH];rw[hu 0 (by omega),hu 1 (by omega),hu 2 (by omega),hu 3 (by omega),hu 4 (by omega),hs,hu 6 (by omega),hu 7 (by omega),hu 8 (by omega),hu 9 (by omega),hu 10 (by omega),hu 11 (by omega),hu 12 (by omega),hu 13 (by omega),hu 14 (by omega),hu 15 (by omega)]
 | 6,_=>simp only[ay,aG,aH];rw[hu 0 (by omega),hu 1 (by omega),hu 2 (by omega),hu 3 (by omega),hu 4 (by omega),hu 5 (by omega),hs,hu 7 (by omega),hu 8 (by omega),hu 9 (by omega),hu 10 (by omega),hu 11 (by omega),hu 12 (by omega),hu 13 (by omega),hu 14 (by omega),hu 15 (by omega)]
 | 7,_=>simp only[ay,aG,aH];rw[hu 0 (by omega),hu 1 (by omega),hu 2 (by omega),hu 3 (by omega),hu 4 (by omega),hu 5 (by omega),hu 6 (by omega),hs,hu 8 (by omega),hu 9 (by omega),hu 10 (by omega),hu 11 (by omega),hu 12 (by omega),hu 13 (by omega),hu 14 (by omega),hu 15 (by omega)]
 | 8,_=>simp only[ay,aG,aH];rw[hu 0 (by omega),hu 1 (by omega),hu 2 (by omega),hu 3 (by omega),hu 4 (by omega),hu 5 (by omega),hu 6 (by omega),hu 7 (by omega),hs,hu 9 (by omega),hu 10 (by omega),hu 11 (by omega),hu 12 (by omega),hu 13 (by omega),hu 14 (by omega),hu 15 (by omega)]
 | 9,_=>simp only[ay,aG,aH];rw[hu 0 (by omega),hu 1 (by omega),hu 2 (by omega),hu 3 (by omega),hu 4 (by omega),hu 5 (by omega),hu 6 (by omega),hu 7 (by omega),hu 8 (by omega),hs,hu 10 (by omega),hu 11 (by omega),hu 12 (by omega),hu 13 (by omega),hu 14 (by omega),hu 15 (by omega)]
 | 10,_=>simp only[ay,aG,aH];rw[hu 0 (by omega),hu 1 (by omega),hu 2 (by omega),hu 3 (by omega),hu 4 (by omega),hu 5 (by omega),hu 6 (by omega),hu 7 (by omega),hu 8 (by omega),hu 9 (by omega),hs,hu 11 (by omega),hu 12 (by omega),hu 13 (by omega),hu 14 (by omega),hu 15 (by omega)]
 | 11,_=>simp only[ay,aG,aH];rw[hu 0 (by omega),hu 1 (by omega),hu 2 (by omega),hu 3 (by omega),hu 4 (by omega),hu 5 (by omega),hu 6 (by omega),hu 7 (by omega),hu 8 (by omega),hu 9 (by omega),hu 10 (by omega),hs,hu 12 (by omega),hu 13 (by omega),hu 14 (by omega),hu 15 (by omega)]
 | 12,_=>simp only[ay,aG,aH];rw[hu 0 (by omega),hu 1 (by omega),hu 2 (by omega),hu 3 (by omega),hu 4 (by omega),hu 5 (by omega),hu 6 (by omega),hu 7 (by omega),hu 8 (by omega),hu 9 (by omega),hu 10 (by omega),hu 11 (by omega),hs,hu 13 (by omega),hu 14 (by omega),hu 15 (by omega)]
 | 13,_=>simp only[ay,aG,aH];rw[hu 0 (by omega),hu 1 (by omega),hu 2 (by omega),hu 3 (by omega),hu 4 (by omega),hu 5 (by omega),hu 6 (by omega),hu 7 (by omega),hu 8 (by omega),hu 9 (by omega),hu 10 (by omega),hu 11 (by omega),hu 12 (by omega),hs,hu 14 (by omega),hu 15 (by omega)]
 | 14,_=>simp only[ay,aG,aH];rw[hu 0 (by omega),hu 1 (by omega),hu 2 (by omega),hu 3 (by omega),hu 4 (by omega),hu 5 (by omega),hu 6 (by omega),hu 7 (by omega),hu 8 (by omega),hu 9 (by omega),hu 10 (by omega),hu 11 (by omega),hu 12 (by omega),hu 13 (by omega),hs,hu 15 (by omega)]
 | 15,_=>simp only[ay,aG,aH];rw[hu 0 (by omega),hu 1 (by omega),hu 2 (by omega),hu 3 (by omega),hu 4 (by omega),hu 5 (by omega),hu 6 (by omega),hu 7 (by omega),hu 8 (by omega),hu 9 (by omega),hu 10 (by omega),hu 11 (by omega),hu 12 (by omega),hu 13 (by omega),hu 14 (by omega),hs]
 | k+16,h=>exact absurd h (by omega)
theorem zD{r:Nat->Int}{j:Nat}{v:Int}(h:∀i,0<=r i/\r i<=18446744073709551615)(hv:0<=v/\v<=18446744073709551615):∀i,0<=upd r j v i/\upd r j v i<=18446744073709551615:=fun i=>by
 by_cases e:i=j
 ·rw[e,lV];exact hv
 ·rw[ou _ _ _ _ e];exact h i
theorem Inv.Ct{g:Gh}{K:Km}{o:Ob}{t:Th}(h:Inv g K)(ho:K.obj o.name=some o)(hk:o.kind=3)(hs:t.space=o.th.space):Inv g (K.set (o.eF t)) :=
 h.set (o':=o.eF t) (A':=g.A) ho ⟨rfl,rfl,rfl,rfl,rfl,hs⟩ rfl (fun q=>by have:o.kind=1:=q;omega) (fun _ _ _ e=>.inl e)
theorem bS.nums{w0 w w':World}{g0 g:Gh}{K:Km}{o:Ob}(h:bS w0 g0 K o w g)(ho:K.obj o.name=some o)(hk:o.kind=3){x:Ts}(hT:rz w g o.name o.th x)(k:Kept (·=g.tl o.name) w w'){t:Th}(hB:aR w' (g.tl o.name) (jw t x (g.root o.name) (g.tabs o.name)) 52)
  (hs:t.space=o.th.space/\t.clear=o.th.clear/\t.qF=o.th.qF/\t.cont.bZ=o.th.cont.bZ/\t.cont.reads=o.th.cont.reads/\t.cont.seen=o.th.cont.seen/\t.cont.picks=o.th.cont.picks)
  (Oh:∀i,0<=t.r i/\t.r i<=18446744073709551615) (hpc:0<=t.pc/\t.pc<=18446744073709551615):bS w0 g0 (K.set (o.eF t)) (o.eF t) w' g:=by
 obtain⟨s1,s2,s3,s4,s5,s6,s7⟩:=hs;obtain⟨k1,k2⟩:=h.kin.AA ho hk hT k hB ⟨rfl,rfl,rfl,rfl,rfl⟩ ⟨s3,s4,s5,s6,s7⟩ (by rw[s2];exact(hT.rows.kept k (dS.of hT.blk (by decide)) (A':=g.A) (fun c q _ i hi e=>by rw[q,hT.tag]at e;cases e;omega) (fun _ _ e=>e)).gG) Oh hpc (by rw[s2];exact hT.rows.VN);exact⟨k1,h.inv.Ct ho hk s1,h.ext.trans k2,h.same⟩
theorem bS.reg{w0 w:World}{g0 g:Gh}{K:Km}{o:Ob}(h:bS w0 g0 K o w g)(ho:K.obj o.name=some o)(hk:o.kind=3){j:Nat}(hj:j<16){v:Int}(hv:0<=v/\v<=18446744073709551615) :
  bS w0 g0 (K.set (o.eF { o.th with r:=upd o.th.r j v })) (o.eF { o.th with r:=upd o.th.r j v }) (w.setCell ⟨g.tl o.name,j,none⟩ (.int .u64 v)) g:=by
 obtain⟨x,hT⟩:=h.kin.gQ ho hk;exact h.nums ho hk hT ((Kept.refl (·=g.tl o.name) w).bC _ _ _ rfl) ((hT.blk.set j _).cells (Ig _ _ _ _ _ j hj)) ⟨rfl,rfl,rfl,rfl,rfl,rfl,rfl⟩ (zD hT.rows.regs hv) hT.rows.pc
theorem bS.pW{w0 w:World}{g0 g:Gh}{K:Km}{o:Ob}(h:bS w0 g0 K o w g)(o':Ob):bS w0 g0 K o' w g:=⟨h.kin,h.inv,h.ext,h.same⟩
theorem rz.reg{w:World}{g:Gh}{n:Int}{t:Th}{x:Ts}(h:rz w g n t x){j:Nat}(hj:j<16):w.cell? ⟨g.tl n,j,none⟩=some (.int .u64 (t.r j)):=by
 rw[h.blk.cell];match j,hj with
 | 0,_=>rfl
 | 1,_=>rfl
 | 2,_=>rfl
 | 3,_=>rfl
 | 4,_=>rfl
 | 5,_=>rfl
 | 6,_=>rfl
 | 7,_=>rfl
 | 8,_=>rfl
 | 9,_=>rfl
 | 10,_=>rfl
 | 11,_=>rfl
 | 12,_=>rfl
 | 13,_=>rfl
 | 14,_=>rfl
 | 15,_=>rfl
 | k+16,h=>exact absurd h (by omega)
end Go.Proofs.YtiadbhiadhgjkaaGreatDoor
