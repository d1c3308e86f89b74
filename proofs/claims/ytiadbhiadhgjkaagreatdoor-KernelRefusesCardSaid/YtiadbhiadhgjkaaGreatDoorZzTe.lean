import Derived.Test.YtiadbhiadhgjkaaGreatDoorZzQa
import Derived.Shelf.RegionOpenPlain
import Derived.Deep.LoopGhost
import Derived.Deep.RegionLaw
import Derived.Lib.Walk
import Derived.Lib.SliceRun
import Derived.Lib.SlicesDelete
import Derived.Test.YtiadbhiadhgjkaaGreatDoorZzLib
import Derived.LaidEql
set_option maxRecDepth 1000000
set_option maxHeartbeats 4000000
namespace Go.Proofs.YtiadbhiadhgjkaaGreatDoor
open Go.RowKit
open Go.Sort (Holds putRow holds_ahead holds_putRow putRow_self putCells)
open Go.Lib (lay lay_size putRow_setCells delete_arr)
def lQ(x:Int):Value:=.int .u64 x
theorem LZ(w:World):(zeroValue 37).run Tryz.prog w=.ok (.int .u64 0) w:=by kernel_rfl
theorem Eb(blk off cap i j:Nat)(d:Array Int)(w:World)(hH:Holds lQ w blk off d)(hcap:d.size<=cap)(hm:cap<=9223372036854775807)(hlt:i<j)(hj:j<=d.size) :
  Calls Tryz.prog 145 #[.slice (some ⟨blk,off,none⟩) d.size cap,.int .i64 i,.int .i64 j] w fun e w'=>e=.returned (.slice (some ⟨blk,off,none⟩) (d.size-(j-i)) cap)/\∃q,w'=putRow lQ (Sort.ahead w q) blk off (d.toList.take i++d.toList.drop j++List.replicate (j-i) 0).toArray:=by
 have mixed:Tryz.prog.follows .mixedOrders=true:=by kernel_rfl
 have hij:i<=j:=Nat.le_of_lt hlt;obtain⟨i0,hi0,hz0,hz1,hz2⟩:=info_parts qm;obtain⟨news,hnews⟩:∃news,news=(d.toList.drop j).map lQ:=⟨_,rfl⟩;have hlen:news.length=d.size-j:=by rw[hnews];simp
 have hget:∀t,t<d.size-j->news[t]? = some (lQ d[j+t]!):=by
  intro t ht;rw[hnews,dF,List.getElem?_drop,Array.getElem?_toList,getElem!_pos d (j+t) (by omega),Array.getElem?_eq_getElem (by omega)];rfl
 obtain⟨A,hA,hsrc⟩:∃A:Addr,(if cap=j then some (⟨blk,off,none⟩:Addr)else some ⟨blk,off+j,none⟩)=some A/\Hid (∀t u,news[t]? = some u->w.drew.cell? (A.add t)=some u):=by
  by_cases h:cap=j
  ·refine⟨⟨blk,off,none⟩,by simp[h],fun t u hu=>?_⟩
   have h0:news.length=0:=by rw[hlen];omega
   rw[List.length_eq_zero_iff.1 h0]at hu;simp at hu
  ·refine⟨⟨blk,off+j,none⟩,by simp[h],fun t u hu=>?_⟩
   have ht:t<d.size-j:=by
    have:=(aW.1 hu).1;rwa [hlen]at this
   rw[hget t ht]at hu;rw[Addr.add_lit,show off+j+t=off+(j+t)by omega];exact(hH (j+t) (by omega)).1.trans hu
 have s1:Hid (news.length=(d.size-j)*1):=by rw[Nat.mul_one];exact hlen
 have s2:Hid (∀u∈news,u.oneCell'=true):=by
  intro u hu;rw[hnews]at hu;obtain⟨x,_,rfl⟩:=List.mem_map.1 hu;rfl
 have s3:Hid (∀t,t<news.length->(w.drew.cell? ⟨blk,off+i*1+t,none⟩).isSome=true/\w.drew.frozen? ⟨blk,off+i*1+t,none⟩=false):=by
  intro t ht;rw[hlen]at ht;rw[Nat.mul_one,Nat.add_assoc];exact⟨by show(w.cell? _).isSome=true;rw[(hH (i+t) (by omega)).1];rfl,(hH (i+t) (by omega)).2⟩
 obtain⟨W1,hW1⟩:∃W1,W1=w.drew.setCells blk (off+i*1) news:=⟨_,rfl⟩
 have hW1':W1=putRow lQ (Sort.ahead w 1) blk off (lay d i (d.toList.drop j)):=by
  rw[hW1,hnews,Nat.mul_one,<-putRow_setCells lQ (Sort.ahead w 1) blk off _ d i (by simp;omega),putRow_self lQ (Sort.ahead w 1) blk off d (holds_ahead lQ w 1 blk off d hH)];rfl
 have hH1:Holds lQ W1 blk off (lay d i (d.toList.drop j)):=by rw[hW1'];exact holds_putRow lQ _ blk off d _ (holds_ahead lQ w 1 blk off d hH) (lay_size _ _ _)
 have hcl:∀ty,(Builtin.clear_ #[46] ty #[.slice (some ⟨blk,off+(i+(d.size-j)),none⟩) (d.size-(i+(d.size-j))) (cap-(i+(d.size-j)))]).run Tryz.prog W1=.ok (.tuple #[]) (W1.setCells blk (off+(i+(d.size-j))) (List.replicate (d.size-(i+(d.size-j))) (lQ 0))) :=
  fun ty=>Lib.run_clear_slice W1 _ _ ty _ Tryz.underlying46 LZ rfl rfl blk (off+(i+(d.size-j))) _ _ (by omega) (fun t ht=>by rw[show off+(i+(d.size-j))+t=off+(i+(d.size-j)+t)by omega,(hH1 _ (by rw[lay_size];omega)).1];rfl) (fun t ht=>by rw[show off+(i+(d.size-j))+t=off+(i+(d.size-j)+t)by omega];exact(hH1 _ (by rw[lay_size];omega)).2)
 have X:Aside (W1=putRow lQ (Sort.ahead w 1) blk off (lay d i (d.toList.drop j))):=hW1';have hW:Hid (W1=w.drew.setCells blk (off+i*1) news):=hW1;have hic:i<=cap:=by omega
 have hjc:j<=cap:=by omega
 clear hW1 hW1' hH1 hH hget hnews hlen;go_enter Tryz.func145,Tryz.ntmps145
 go_wp2_with fail
 go_region_law_o (refine step_append_room rfl (.tmp 22) (.tmp 25) (46) rfl (37) i0 1 Tryz.underlying46 hi0 hz1 blk off i cap (by simp[Act.eval,Act.put]) A (d.size-j) (cap-j) news (by simp[Act.eval,Act.put]) s1.out hsrc.out s2.out (by omega) s3.out ?_;rw[<-hW.out])
 go_wp2
 go_ret;refine⟨by rw[show d.size-(j-i)=i+(d.size-j)by omega];rfl,1,?_⟩;rw[<-delete_arr d i j 0 hij hj,<-putRow_setCells lQ _ blk off _ _ (i+(d.size-j)) (by rw[lay_size];simp;omega),<-X.out,List.map_replicate,show d.size-(i+(d.size-j))=j-i by omega]
theorem Im{w:World}{base b n c:Nat}{l:List Int}(h:w.ownsRow base 37 1 (.slice (some ⟨b,0,none⟩) n c) n (l.map lQ)):∃cur,aR w b cur 37/\n<=c/\c<=maxLen/\cur.size=c/\cur.toList.take n=l.map lQ/\base<=b:=by
 rcases h.2 with⟨e,-⟩|⟨g,cap,cur,e,h1,h2,h3,h4,h5,h6⟩
 ·cases e
 ·cases e
  exact⟨cur,h2,h3,h4,by omega,by rw[Nat.mul_one]at h6;exact h6,h1⟩
theorem JZ{w:World}{base b n c:Nat}{l:List Int}(h:w.ownsRow base 37 1 (.slice (some ⟨b,0,none⟩) n c) n (l.map lQ))(hl:n=l.length):Holds lQ w b 0 l.toArray:=by
 obtain⟨cur,hB,h1,h2,h3,h4,-⟩:=Im h;intro j hj;have hj':j<l.length:=by simpa using hj
 refine⟨?_,by rw[Nat.zero_add];exact hB.free j⟩;rw[Nat.zero_add,h.cellAt j (by omega),dF,aQ hj'];simp[hj',getElem!_pos]
theorem QW{w:World}{base b n c:Nat}{l d:List Int}(q m:Nat)(h:w.ownsRow base 37 1 (.slice (some ⟨b,0,none⟩) n c) n (l.map lQ))(hl:n=l.length)(hd:d.length=l.length)(hm:m<=n) :
  (putRow lQ (Sort.ahead w q) b 0 d.toArray).ownsRow base 37 1 (.slice (some ⟨b,0,none⟩) m c) m ((d.take m).map lQ)/\Kept (·=b) w (putRow lQ (Sort.ahead w q) b 0 d.toArray):=by
 obtain⟨cur,hB,h1,h2,h3,h4,h0⟩:=Im h
 have hh:(putRow lQ (Sort.ahead w q) b 0 d.toArray).heap[b]? = some (.cells (putCells lQ 0 d.toArray cur) 37 (0,0)):=by
  unfold putRow Sort.mapBlock;show(Array.modify w.heap b _)[b]? = _
  rw[Array.getElem?_modify,aD rfl,hB];rfl
 refine⟨⟨by rw[List.length_map,List.length_take];omega,.inr ⟨b,c,_,rfl,h0,hh,by omega,h2,by unfold putCells;rw[Array.size_mapIdx];omega,?_⟩⟩,⟨rfl,rfl,rfl,?_,fun k hk hs=>?_⟩⟩
 ·apply List.ext_getElem?
  intro k;rw[Nat.mul_one,List.getElem?_take,dF,List.getElem?_take];by_cases hk:k<m
  ·rw[aD hk,aD hk]
   unfold putCells;rw[Array.getElem?_toList,Array.getElem?_mapIdx,Array.getElem?_eq_getElem (by omega)];simp only[Option.map_some];rw[aD ⟨Nat.zero_le _,by simp;omega⟩,aQ (by omega)];simp[getElem!_pos,show k<d.length by omega]
  ·rw[aA hk,aA hk];rfl
 ·show w.heap.size<=(Array.modify w.heap b _).size
  rw[Array.size_modify];exact aj _
 ·show(Array.modify w.heap b _)[k]? = _
  rw[Array.getElem?_modify,aA (fun e=>hs e.symm)]
theorem zS(x:Int):∀(l:List Int) (k:Nat),x∈l->∃i,kW x k l=((k+i:Nat):Int)/\i<l.length/\l.take i++l.drop (i+1)=l.erase x/\(i=0↔l.head? = some x)
 | [],_,h=>by cases h
 | y::r,k,h=>by
  unfold kW;by_cases e:x=y
  ·rw[aD e]
   refine⟨0,by simp,by simp,?_,by simp[e]⟩;simp[e]
  ·rw[aA e]
   obtain⟨i,h1,h2,h3,-⟩:=zS x r (k+1) ((List.mem_cons.1 h).resolve_left e);refine⟨i+1,by rw[h1];congr 1;omega,by simp;omega,?_,?_⟩
   ·have:(y==x)=false:=by simpa using fun q=>e q.symm
    rw[List.erase_cons,this];simp[h3]
   ·simp[Ne.symm e]
theorem Rx{x:Int}{l:List Int}(h:x∈l):∃i:Nat,xK x l=(i:Int)/\i<l.length/\l.take i++l.drop (i+1)=l.erase x/\(i=0↔l.head? = some x):=by
 obtain⟨i,h1,h2⟩:=zS x l 0 h;exact⟨i,by unfold xK;rw[h1];simp,h2⟩
theorem OO{x:Int}{l:List Int}(h:x∈l):(l.erase x).length=l.length-1:=by rw[List.length_erase_of_mem h]
theorem uS{w w5 w7:World}{g:Gh}{K:Km}{x:Ob}(h:cZ w g K)(hI:Inv g K)(hx:K.obj x.name=some x){s:Os}{T:Value}(hB:aR w (g.bl x.name) (jO x s (g.mt x.name) T) 68)(hR:fM w g.A (g.bl x.name) x s (g.fr x.name))
  (h3:x.kind=3->T=.pointer (some ⟨g.tl x.name,0,none⟩)/\vv w g.A x.name (g.tl x.name) x.th (g.root x.name) (g.tabs x.name)) (hT:x.kind≠3->T=.pointer none) {qb cap:Nat} {l:List Int} {ver:Int}
  (hq:s.q.ownBlock=some qb) (hown5:w5.ownsRow 0 37 1 (.slice (some ⟨qb,0,none⟩) l.length cap) l.length (l.map (.int .u64))) (k5:Kept (·=qb) w w5)
  (k7:Kept (·=g.bl x.name) w5 w7) (hB7:aR w7 (g.bl x.name) (jO { x with q:=l,ver:=ver } { s with q:=.slice (some ⟨qb,0,none⟩) l.length cap } (g.mt x.name) T) 68) :
  eD w g (K.set { x with q:=l,ver:=ver }) w7 (g.own qb (x.name,1)):=by
 have htag:=(h.objs _ _ hx).2.tag
 have hne:qb≠g.bl x.name:=fun e=>by
  have:=hR.q.tag _ hq;rw[e,htag]at this;cases this
 have Og:=dA hown5 k7 (fun b hb q=>by cases hb;exact hne q)
 obtain⟨f1,f2⟩:=h.Na hx hB hR h3 hT (g5:=qb) (cap:=cap) (l:=l) (ver:=ver) (.inl hq)
  ((k5.mono (fun b _ q=>.inl (by rw[q];exact hq))).trans (k7.mono (fun _ _ q=>.inr q))) hB7 Og
 exact(eD.refl h hI).Na hx f1 f2
attribute [local irreducible] World.setCell World.alloc World.drew World.setRow Calls Code.wp
theorem Kv(w:World)(g:Gh)(K:Km)(x:Ob)(n:Int)(h:cZ w g K)(hI:Inv g K)(hx:K.obj x.name=some x)(hl:x.q.length<=1000000) :
  Calls Tryz.prog 125 #[.pointer (some ⟨g.bl x.name,0,none⟩),.int .u64 n] w fun e w'=>e=.returned (.tuple #[])/\∃g',eD w g (K.set (jK x n)) w' g':=by
 obtain⟨s,T,hB,hR,h3,hT⟩:=(h.objs _ _ hx).2.ex;obtain⟨qa,qc,hq,hq1,hq2⟩:=hR.q.form;obtain⟨sq,sk,sf,sm,sl,sc,so,si,sr⟩:=s;simp only at hq;subst hq;have BM:=ah (Iu x.q n _ w (oQ.own hR.q.row));have H:=ah h;have HI:=ah hI;have HX:=ah hx;have HB:=ah hB;have HR:=ah hR;have H3:=ah h3;have HT:=ah hT;have c0:w.cell? ⟨g.bl x.name,0,none⟩=some (.slice qa x.q.length qc):=(hB.cell 0).trans rfl;have htag:=(h.objs _ _ hx).2.tag;have Wh:=ah htag;obtain⟨b,hb⟩:∃b,g.bl x.name=b:=⟨_,rfl⟩;rw[hb]at c0;have Hb:=ah hb;rw[hb];have hqr:=hR.q.row;clear h hI hx hB hR h3 hT htag hb;by_cases hm:n∈x.q
 ·obtain⟨i,hi,hil,hie,hi0⟩:=Rx hm
  have he:jK x n={ x with q:=x.q.erase n,ver:=if x.q.head? = some n then(if x.q.erase n=[]then wu (x.ver+1)else wu (wu (x.ver+1)+1))else x.ver }:=by unfold jK;rw[aD hm]
  have HE:=ah he;rcases hqr.2 with⟨e,e2⟩|⟨qb,cap,cur,e,-,-,-,-,-⟩
  ·omega
  cases e;unfold maxLen at hq2
  have HD:Hid (Calls Tryz.prog 145 #[.slice (some ⟨qb,0,none⟩) x.q.length qc,.int .i64 i,.int .i64 ((i:Int)+1)] w fun e w'=>e=.returned (.slice (some ⟨qb,0,none⟩) (x.q.erase n).length qc)/\w'.ownsRow 0 37 1 (.slice (some ⟨qb,0,none⟩) (x.q.erase n).length qc) (x.q.erase n).length ((x.q.erase n).map (.int .u64))/\Kept (·=qb) w w'):=ah (by
   have:=Eb qb 0 qc i (i+1) x.q.toArray w (JZ hqr rfl) (by simpa using hq1) (by omega) (by omega) (by simp;omega);rw[show(((i+1:Nat):Int))=(i:Int)+1 by omega]at this;refine(by simpa using this:Calls _ _ _ _ _).mono ?_;rintro e w' ⟨rfl,q,rfl⟩;have hlen:=OO hm
   have hd:(x.q.take i++x.q.drop (i+1)++List.replicate (i+1-i) 0).length=x.q.length:=by
    rw[hie,aO,hlen,List.length_replicate];omega
   obtain⟨p1,p2⟩:=QW (d:=x.q.take i++x.q.drop (i+1)++List.replicate (i+1-i) 0) q (x.q.erase n).length hqr rfl hd (by omega)
   have ht:(x.q.take i++x.q.drop (i+1)++List.replicate (i+1-i) 0).take (x.q.erase n).length=x.q.erase n:=by
    rw[hie,List.take_left]
   rw[ht]at p1;refine⟨?_,?_,?_⟩
   ·rw[hlen]
   ·simp at p1 ⊢;exact p1
   ·simp at p2 ⊢;exact p2)
  have aie:(i:Int)<x.q.length:=by omega
  have hneg:¬(i:Int)<0:=by omega
  have hcap:x.q.length<=qc:=hq1;have hw1:IntKind.i64.wrap ((i:Int)+1)=(i:Int)+1:=aV _ (by omega);have Hi:=ah hi;have yM:=ah hi0;have Hm:=ah hm;rw[hi]at BM;clear hi hil hie hi0 he hm hqr;go_enter Tryz.func125,Tryz.ntmps125
  go_wp2_with fail
  refine BM.out.mono ?_;rintro e w1 ⟨rfl,rfl⟩;clear BM;go_wp2_with fail
  refine HD.out.mono ?_;rintro e w2 ⟨rfl,hown2,hk2⟩
  have hB2:aR w2 b (jO x ⟨.slice (some ⟨qb,0,none⟩) x.q.length qc,sk,sf,sm,sl,sc,so,si,sr⟩ (g.mt x.name) T) 68:=by
   have h1:=HB.out;rw[Hb.out]at h1;refine hk2.blk h1 (fun e=>?_);have h2:=HR.out.q.tag qb rfl;have h3:=Wh.out;rw[Hb.out,e]at h3;rw[h2]at h3;cases h3
  have d0:w2.cell? ⟨b,0,none⟩=some (.slice (some ⟨qb,0,none⟩) x.q.length qc):=(hB2.cell 0).trans rfl;have d1:w2.cell? ⟨b,1,none⟩=some (.int .u64 x.ver):=(hB2.cell 1).trans rfl;have e0:w2.frozen? ⟨b,0,none⟩=false:=hB2.free 0;have e1:w2.frozen? ⟨b,1,none⟩=false:=hB2.free 1;clear HD c0;have HB2:=ah hB2;have qX:=ah hown2;have WC:=ah hk2;clear hB2 hown2 hk2;by_cases hz:i=0
  ·subst hz
   have HH:=ah (yM.out.1 rfl);by_cases hr:(x.q.erase n).length=0
   ·have hb1:¬(0:Int)<((x.q.erase n).length:Int):=by omega
    have HZ:=ah (List.eq_nil_of_length_eq_zero hr);clear hr;go_wp2_with fail
    refine bodyPost_end (results_none rfl _ _ _) rfl ?_;refine⟨rfl,g.own qb (x.name,1),?_⟩;rw[HE.out,aD HH.out,aD HZ.out];have hX:=Hb.out;subst hX;refine uS H.out HI.out HX.out HB.out HR.out H3.out HT.out rfl qX.out WC.out (((Kept.refl (·=g.bl x.name) w2).bC _ _ _ rfl).bC _ _ _ rfl) (((HB2.out.set 0 _).set 1 _).cells ?_);rw[Dh (l:=x.q.erase n),wC,wI]
   ·have hb1:(0:Int)<((x.q.erase n).length:Int):=by omega
    have HZ:Hid (x.q.erase n≠[]):=ah (fun e=>hr (by rw[e];rfl));clear hr;go_wp2_with fail
    refine bodyPost_end (results_none rfl _ _ _) rfl ?_;refine⟨rfl,g.own qb (x.name,1),?_⟩;rw[HE.out,aD HH.out,aA HZ.out];have hX:=Hb.out;subst hX;refine uS H.out HI.out HX.out HB.out HR.out H3.out HT.out rfl qX.out WC.out ((((Kept.refl (·=g.bl x.name) w2).bC _ _ _ rfl).bC _ _ _ rfl).bC _ _ _ rfl) ((((HB2.out.set 0 _).set 1 _).set 1 _).cells ?_);rw[Dh (l:=x.q.erase n),wC,wI,wC,wI]
  ·have hp:(0:Int)<(i:Int):=by omega
   have HH:Hid (x.q.head?≠some n):=ah (fun e=>hz (yM.out.2 e));clear hz;go_wp2_with fail
   refine bodyPost_ret (results_none rfl _ _ _) rfl ?_;refine⟨rfl,g.own qb (x.name,1),?_⟩;rw[HE.out,aA HH.out];have hX:=Hb.out;subst hX;refine uS H.out HI.out HX.out HB.out HR.out H3.out HT.out rfl qX.out WC.out ((Kept.refl (·=g.bl x.name) w2).bC _ _ _ rfl) ((HB2.out.set 0 _).cells ?_);rw[Dh (l:=x.q.erase n)]
 ·have hi:xK n x.q=-1:=su n x.q 0 hm
  have he:jK x n=x:=by unfold jK;rw[aA hm]
  have HE:=ah he;rw[hi]at BM;clear hi he hm hqr;go_enter Tryz.func125,Tryz.ntmps125
  go_wp2_with fail
  refine BM.out.mono ?_;rintro e w1 ⟨rfl,rfl⟩;go_wp2_with fail
  refine bodyPost_ret (results_none rfl _ _ _) rfl ?_;rw[HE.out,Km.set_self HX.out];exact⟨rfl,g,eD.refl H.out HI.out⟩
end Go.Proofs.YtiadbhiadhgjkaaGreatDoor
namespace Go.Proofs.YtiadbhiadhgjkaaGreatDoor
open Go.RowKit
attribute [local irreducible] World.setCell World.alloc World.drew World.setRow Calls Code.wp
theorem qA{w:World}{a:Addr}{b:Bool}(h:w.frozen? a=b):w.drew.frozen? a=b:=by rw[<-h];unfold World.drew;rfl
structure CtV(w:World)(tb:Nat)(c:Cont)(lv rv sv pv:Value):Prop where
 p:w.cell? ⟨tb,32,none⟩=some (.int .i64 c.phase)
 l:w.cell? ⟨tb,33,none⟩=some lv
 n:w.cell? ⟨tb,34,none⟩=some (.int .i64 c.next)
 r:w.cell? ⟨tb,35,none⟩=some rv
 s:w.cell? ⟨tb,36,none⟩=some sv
 t:w.cell? ⟨tb,37,none⟩=some (.int .i64 c.tries)
 k:w.cell? ⟨tb,38,none⟩=some pv
 f:∀i,w.frozen? ⟨tb,i,none⟩=false
 lt:tb<w.heap.size
structure ThV(w:World)(bb tb:Nat)(o:Ob)(lv rv sv pv:Value):Prop where
 t:w.cell? ⟨bb,19,none⟩=some (.pointer (some ⟨tb,0,none⟩))
 nm:w.cell? ⟨bb,2,none⟩=some (.int .u64 o.name)
 lb:bb<w.heap.size
 ct:CtV w tb o.th.cont lv rv sv pv
 ne:bb≠tb
 bZ:oQ w lv o.th.cont.bZ
 reads:oQ w rv o.th.cont.reads
 seen:oQ w sv o.th.cont.seen
 picks:oQ w pv o.th.cont.picks
theorem cZ.Qs{w:World}{g:Gh}{K:Km}{o:Ob}(h:cZ w g K)(ho:K.obj o.name=some o)(hk:o.kind=3):∃lv rv sv pv,ThV w (g.bl o.name) (g.tl o.name) o lv rv sv pv:=by
 obtain⟨x,hT⟩:=h.gQ ho hk;have hB:=hT.blk;have t0:=h.pU ho hk;obtain⟨s,T,hO⟩:=h.at ho;refine⟨x.bZ,x.reads,x.seen,x.picks,t0,hO.name,bn w _ t0,⟨(hB.cell 32).trans rfl,(hB.cell 33).trans rfl,(hB.cell 34).trans rfl,(hB.cell 35).trans rfl,(hB.cell 36).trans rfl,(hB.cell 37).trans rfl,(hB.cell 38).trans rfl,hB.free,hB.lt⟩,fun e=>?_,oQ.own hT.rows.bZ.row,oQ.own hT.rows.reads.row,oQ.own hT.rows.seen.row,oQ.own hT.rows.picks.row⟩;have h1:=(h.objs _ _ ho).2.tag;have h2:=hT.tag;rw[e,h2]at h1
 cases h1
theorem eD.same{w w':World}{g g':Gh}{K K':Km}{o:Ob}(h:eD w g K' w' g')(h0:cZ w g K)(ho:K.obj o.name=some o):g'.bl o.name=g.bl o.name/\g'.tl o.name=g.tl o.name:=h.ext.bl _ (h0.objs _ _ ho).2.tag
theorem nG{w:World}{v:Value}{n:Int}(h:oQ w v [n]):∃b c,v=.slice (some ⟨b,0,none⟩) 1 c/\1<=c/\w.cell? ⟨b,0,none⟩=some (.int .u64 n):=by
 obtain⟨a,c,rfl,h1,h2,h3⟩:=h;rcases h3 with h3|⟨b,rfl,hc⟩
 ·cases h3
 ·exact⟨b,c,rfl,h1,hc 0 Nat.zero_lt_one⟩
theorem xg{w:World}{v:Value}(h:oQ w v []):∃a c,v=.slice a 0 c:=by
 obtain⟨a,c,rfl,h1,h2,h3⟩:=h;exact⟨a,c,rfl⟩
theorem NV:∃i,Tryz.prog.info? 68=some i/\i.size≠0:=by
 have h:(Tryz.prog.info? 68).map (fun i=>decide (i.size≠0))=some true:=by kernel_rfl
 cases hi:Tryz.prog.info? 68 with
 | none=>rw[hi]at h;cases h
 | some i=>rw[hi]at h;exact⟨i,rfl,by simpa using h⟩
theorem Nc(d b:Nat)(W:World):(Op.equalIn (d+1) 31 (.pointer (some ⟨b,0,none⟩)) (.pointer (some ⟨b,0,none⟩))).run Tryz.prog W=.ok true W:=by
 obtain⟨i,hi,-⟩:=NV;simp[Op.equalIn,run_underlying Tryz.underlying31,sizeOf,typeInfo,hi,run_sameAddr_same]
theorem Us(b:Nat)(W:World):(Op.equal 31 (.pointer (some ⟨b,0,none⟩)) (.pointer (some ⟨b,0,none⟩))).run Tryz.prog W=.ok true W:=Nc 9999 b W
theorem CQ(b:Nat)(W:World):(binOp .neq 31 (.pointer (some ⟨b,0,none⟩)) (.pointer (some ⟨b,0,none⟩))).run Tryz.prog W=.ok (.bool false) W:=by
 simp[binOp,go_sem,Us]
theorem Il(q:Addr)(w:World):(binOp .neq 31 (.pointer (some q)) (.pointer none)).run Tryz.prog w=.ok (.bool true) w:=by kernel_rfl
theorem NH(w:World)(g:Gh)(K:Km)(o:Ob)(h:cZ w g K)(hI:Inv g K)(ho:K.obj o.name=some o)(hk:o.kind=3){K':Km}{what:Int}(hres:K.Ir o=some (K',what)) :
  Calls Tryz.prog 95 #[.pointer (some ⟨g.kb,0,none⟩),.pointer (some ⟨g.bl o.name,0,none⟩)] w fun e w'=>e=.returned (.int .i64 what)/\∃g',eD w g K' w' g':=by
 unfold Km.Ir at hres;split at hres
 ·rename_i hcr
  obtain⟨hn,hl,hq,h0⟩:=hcr
  cases hres;obtain⟨lv,rv,sv,pv,hV⟩:=h.Qs ho hk;have hlk:=hV.bZ;rw[hl]at hlk;obtain⟨lb,lc,rfl,hlc,hl0⟩:=nG hlk;have k0:=h.iV.1;have t0:=hV.t;have n0:=hV.nm;have c33:=hV.ct.l;have c34:=hV.ct.n;rw[hn]at c34
  have BR:Hid (Calls Tryz.prog 15 #[.pointer (some ⟨g.tb,0,none⟩),.int .u64 o.name] w.drew fun e w'=>∃v,e=.returned v/\(v=.pointer (some ⟨g.bl o.name,0,none⟩)/\w.drew=w')):=ah (by
   have:=kK w.drew g K.obj o.name h.drew.tab;rw[gK ho]at this;exact this.mono (fun e w' q=>⟨_,q.1,rfl,q.2⟩))
  have H:=ah h;have HI:=ah hI;have HO:=ah ho;have HK:=ah hk
  have HJ:Hid (∀w1,Below w.heap.size w w1->Calls Tryz.prog 118 #[.pointer (some ⟨g.bl o.name,0,none⟩),.int .u64 o.name] w1 fun e w'=>∃v,e=.returned v/\(v=.tuple #[]/\∃g',eD w g (K.set (mH o o.name)) w' g')):=ah (fun w1 hb=>by
   refine(NQ w1 g K o o.name (H.out.below hb) HI.out HO.out (by rw[hq];exact Nat.zero_le _)).mono ?_;rintro e w' ⟨rfl,g',h2⟩;exact⟨_,rfl,rfl,g',h2.kin,h2.inv,(Ext.below hb).trans h2.ext⟩)
  have hJo:mH o o.name={ o with q:=[o.name],ver:=wu (o.ver+1) }:=by
   unfold mH;rw[aA (by rw[hq];rintro(e|e);exact h0 e;cases e),hq,aD rfl];rfl
  have HJo:=ah hJo;have HL:=ah hl;have HN:=ah hn;obtain⟨tb,htb⟩:∃tb,g.tl o.name=tb:=⟨_,rfl⟩;obtain⟨bb,hbb⟩:∃bb,g.bl o.name=bb:=⟨_,rfl⟩;have vD:=ah htb;have wm:=ah hbb;rw[htb,hbb]at t0;rw[htb]at c33 c34;rw[hbb]at n0;rw[hbb]at BR HJ;rw[hbb];have d0:=dD k0;have d33:=dD c33;have d34:=dD c34;have dl0:=dD hl0;clear h hI ho hk hV hlk hl hn hq h0 hJo htb hbb;go_enter Tryz.func95,Tryz.ntmps95
  go_upto_region 2 with fail
  go_cut [6] (fun v6 wx=>v6=.pointer (some ⟨bb,0,none⟩)/\w.drew=wx)
  case first =>
   have hS0:w.drew.cell? ⟨g.kb,0,none⟩=some (.pointer (some ⟨g.tb,0,none⟩))/\w.drew.cell? ⟨tb,33,none⟩=some (.slice (some ⟨lb,0,none⟩) 1 lc)/\w.drew.cell? ⟨tb,34,none⟩=some (.int .i64 0)/\w.drew.cell? ⟨lb,0,none⟩=some (.int .u64 o.name):=⟨d0,d33,d34,dl0⟩;first
   | go_region_held3 (fun W=>W.cell? ⟨g.kb,0,none⟩=some (.pointer (some ⟨g.tb,0,none⟩))/\W.cell? ⟨tb,33,none⟩=some (.slice (some ⟨lb,0,none⟩) 1 lc)/\W.cell? ⟨tb,34,none⟩=some (.int .i64 0)/\W.cell? ⟨lb,0,none⟩=some (.int .u64 o.name)) (exact hS0)
     (first|(refine BR.out.mono ?_;rintro e w3 ⟨v,rfl,rfl,rfl⟩))
   | fail
   all_goals
    go_wp2_with fail
    go_meet;exact⟨rfl,rfl⟩
  case rest =>
   obtain⟨rfl,hw⟩:=hcut;subst hw;clear BR d0 d33 d34 dl0 c33 hl0 k0;go_upto_region 3 with fail
   go_cut [44] (fun v44 wx=>v44=.bool false/\Hid (Below w.heap.size w wx))
   case first =>
    refine dW (by kernel_rfl) (by kernel_rfl) (by kernel_rfl)
     (fun k_ v=>match k_ with|0=>v=(.pointer (some ⟨bb,0,none⟩))|1=>v=.bool true|2=>v=(.bool true)|3=>v=(.pointer (some ⟨bb,0,none⟩))|4=>v=(.pointer (some ⟨bb,0,none⟩))|5=>v=.bool false|6=>v=(.bool false)|7=>v=(.bool false)|8=>v=undef|9=>v=undef|10=>v=undef|11=>v=undef|12=>v=undef|13=>v=undef|14=>v=undef|15=>v=undef|16=>v=(.bool false)|_=>True)
     (fun l a wx=>Below w.heap.size w wx) ?_ ?_ ?_
    ·exact(aC _ w).drew.drew
    ·intro hu i_ l a wx hi hl lF hd hcl hR hW
     have hi27:i_=0\/i_=1\/i_=2\/i_=3\/i_=4\/i_=5\/i_=6\/i_=7\/i_=8\/i_=9\/i_=10\/i_=11\/i_=12\/i_=13\/i_=14\/i_=15\/i_=16:=by have:i_<17:=hi;omega
     rcases hi27 with rfl|rfl|rfl|rfl|rfl|rfl|rfl|rfl|rfl|rfl|rfl|rfl|rfl|rfl|rfl|rfl|rfl
     ·
      refine aK rfl (d:=28) rfl (aF rfl _) (dJ (hR.was 6 rfl)) ⟨hR.put hu (by rw[hl];decide) (d:=28) rfl (ak rfl) rfl,?_⟩;exact hW
     ·
      refine aK rfl (d:=29) rfl (aF rfl _) (sD (hR.slot 0 28 (hd 0 rfl) rfl) rfl (fun w=>by simp[eqGuard]) (Il _ _)) ⟨hR.put hu (by rw[hl];decide) (d:=29) rfl (ak rfl) rfl,?_⟩;exact hW
     ·
      refine aK rfl (d:=30) rfl (aF rfl _) (dJ (hR.slot 1 29 (hd 1 rfl) rfl)) ⟨hR.put hu (by rw[hl];decide) (d:=30) rfl (ak rfl) rfl,?_⟩;exact hW
     ·
      refine aK rfl (d:=31) rfl ((bV rfl (d:=30) rfl (hR.slot 2 30 (hd 2 rfl) rfl)).trans rfl) (dJ (hR.was 6 rfl)) ⟨hR.put hu (by rw[hl];decide) (d:=31) rfl (ak rfl) rfl,?_⟩;exact hW
     ·
      refine aK rfl (d:=32) rfl ((bV rfl (d:=30) rfl (hR.slot 2 30 (hd 2 rfl) rfl)).trans rfl) (dJ (hR.was 1 rfl)) ⟨hR.put hu (by rw[hl];decide) (d:=32) rfl (ak rfl) rfl,?_⟩;exact hW
     ·
      refine aK rfl (d:=33) rfl ((bV rfl (d:=30) rfl (hR.slot 2 30 (hd 2 rfl) rfl)).trans rfl) (sD (hR.slot 3 31 (hd 3 rfl) rfl) (hR.slot 4 32 (hd 4 rfl) rfl) (fun w=>by simp[eqGuard]) (CQ _ _)) ⟨hR.put hu (by rw[hl];decide) (d:=33) rfl (ak rfl) rfl,?_⟩;exact hW
     ·
      refine aK rfl (d:=34) rfl (aF rfl _) (oN (hR.slot 2 30 (hd 2 rfl) rfl) (hR.slot 5 33 (hd 5 rfl) rfl)) ⟨hR.put hu (by rw[hl];decide) (d:=34) rfl (ak rfl) rfl,?_⟩;exact hW
     ·
      refine aK rfl (d:=35) rfl (aF rfl _) (dJ (hR.slot 6 34 (hd 6 rfl) rfl)) ⟨hR.put hu (by rw[hl];decide) (d:=35) rfl (ak rfl) rfl,?_⟩;exact hW
     ·
      refine fE rfl (d:=36) rfl ((bV rfl (d:=35) rfl (hR.slot 7 35 (hd 7 rfl) rfl)).trans rfl) ⟨hR.put hu (by rw[hl];decide) (d:=36) rfl (ak rfl) rfl,?_⟩;exact hW
     ·
      refine fE rfl (d:=37) rfl ((bV rfl (d:=35) rfl (hR.slot 7 35 (hd 7 rfl) rfl)).trans rfl) ⟨hR.put hu (by rw[hl];decide) (d:=37) rfl (ak rfl) rfl,?_⟩;exact hW
     ·
      refine fE rfl (d:=38) rfl ((bV rfl (d:=35) rfl (hR.slot 7 35 (hd 7 rfl) rfl)).trans rfl) ⟨hR.put hu (by rw[hl];decide) (d:=38) rfl (ak rfl) rfl,?_⟩;exact hW
     ·
      refine fE rfl (d:=39) rfl ((bV rfl (d:=35) rfl (hR.slot 7 35 (hd 7 rfl) rfl)).trans rfl) ⟨hR.put hu (by rw[hl];decide) (d:=39) rfl (ak rfl) rfl,?_⟩;exact hW
     ·
      refine fE rfl (d:=40) rfl ((bV rfl (d:=35) rfl (hR.slot 7 35 (hd 7 rfl) rfl)).trans rfl) ⟨hR.put hu (by rw[hl];decide) (d:=40) rfl (ak rfl) rfl,?_⟩;exact hW
     ·
      refine fE rfl (d:=41) rfl ((bV rfl (d:=35) rfl (hR.slot 7 35 (hd 7 rfl) rfl)).trans rfl) ⟨hR.put hu (by rw[hl];decide) (d:=41) rfl (ak rfl) rfl,?_⟩;exact hW
     ·
      refine fE rfl (d:=42) rfl ((bV rfl (d:=35) rfl (hR.slot 7 35 (hd 7 rfl) rfl)).trans rfl) ⟨hR.put hu (by rw[hl];decide) (d:=42) rfl (ak rfl) rfl,?_⟩;exact hW
     ·
      refine fE rfl (d:=43) rfl ((bV rfl (d:=35) rfl (hR.slot 7 35 (hd 7 rfl) rfl)).trans rfl) ⟨hR.put hu (by rw[hl];decide) (d:=43) rfl (ak rfl) rfl,?_⟩;exact hW
     ·
      refine aK rfl (d:=44) rfl (aF rfl _) (rJ (hR.slot 7 35 (hd 7 rfl) rfl) rfl) ⟨hR.put hu (by rw[hl];decide) (d:=44) rfl (ak rfl) rfl,?_⟩;exact hW
    ·intro l a wx hl hR hW
     have e44:a.tmps.getD 44 undef=(.bool false):=hR.slot 16 44 (hl 16 (ak rfl)) rfl;rw[hR.fold [28,29,30,31,32,33,34,35,36,37,38,39,40,41,42,43,44] (by kernel_rfl)];simp only[List.foldl,e44];have HW:=ah hW;clear hR hW hl e44;generalize a.tmps.getD 28 undef=u28;generalize a.tmps.getD 29 undef=u29;generalize a.tmps.getD 30 undef=u30;generalize a.tmps.getD 31 undef=u31;generalize a.tmps.getD 32 undef=u32;generalize a.tmps.getD 33 undef=u33;generalize a.tmps.getD 34 undef=u34;generalize a.tmps.getD 35 undef=u35;generalize a.tmps.getD 36 undef=u36;generalize a.tmps.getD 37 undef=u37;generalize a.tmps.getD 38 undef=u38;generalize a.tmps.getD 39 undef=u39;generalize a.tmps.getD 40 undef=u40;generalize a.tmps.getD 41 undef=u41;generalize a.tmps.getD 42 undef=u42;generalize a.tmps.getD 43 undef=u43;simp only[ay,aG,aH];go_step
     go_step
     go_meet;exact⟨rfl,HW⟩
   case rest =>
    obtain⟨rfl,HBc⟩:=hcut;obtain⟨w1,hw1⟩:∃w1,w1=wc:=⟨_,rfl⟩;subst hw1;have n1:w1.drew.cell? ⟨bb,2,none⟩=some (.int .u64 o.name):=dD ((HBc.out.cell (p:=⟨bb,2,none⟩) (bn w ⟨bb,2,none⟩ n0)).trans n0);have ZV:=ah (HJ.out w1.drew HBc.out.drew);clear HJ;go_upto_region 9 with fail
    go_cut [] (fun wx=>∃g1,Hid (eD w g (K.set (mH o o.name)) wx g1))
    case first =>
     go_region_law (first
      | (refine cB (by rfl) (bP (vs:=#[.pointer (some ⟨bb,0,none⟩),.int .u64 o.name]) (by first|(simp[Act.eval];done)|simp[Act.eval,Act.put]) (bE Tryz.func118 (by kernel_rfl) rfl)) ZV.out ?_;rintro v w3 ⟨rfl,g1,hM⟩))
     all_goals
      have HM:=ah hM;clear hM;go_wp2_with fail
      go_meet;exact⟨g1,HM⟩
    case rest =>
     obtain⟨g1,HM⟩:=hcut;clear ZV n1 t0 n0 c34;obtain⟨w2,hw2⟩:∃w2,w2=wc:=⟨_,rfl⟩;subst hw2;obtain⟨o1,ho1⟩:∃o1,o1={ o with q:=[o.name],ver:=wu (o.ver+1) }:=⟨_,rfl⟩;have hM:=HM.out;rw[HJo.out,<-ho1]at hM;have hn1:o1.name=o.name:=by rw[ho1]
     have hk1:o1.kind=3:=by rw[ho1];exact HK.out
     have ht1:o1.th=o.th:=by rw[ho1]
     have hq1:o1.q=[o.name]:=by rw[ho1]
     obtain⟨s1,s2⟩:=hM.same H.out HO.out;have ru:(K.set o1).obj o1.name=some o1:=Km.dz K o1;obtain⟨lv2,rv2,sv2,pv2,hV2⟩:=hM.kin.Qs ru hk1;rw[hn1,s1,s2,wm.out,vD.out]at hV2;have hlk2:=hV2.bZ;rw[ht1,HL.out]at hlk2;obtain⟨lb2,lc2,rfl,abY,hl2⟩:=nG hlk2;have n2:=dD hV2.nm;rw[hn1]at n2
     have HHo:Hid (Calls Tryz.prog 119 #[.pointer (some ⟨bb,0,none⟩),.int .u64 o.name] w2.drew fun e w'=>∃v,e=.returned v/\(v=.bool true/\w2.drew=w')):=ah (by
      have:=KE w2.drew g1 (K.set o1) o1 o.name hM.kin.drew ru;rw[hn1,s1,wm.out,hq1]at this;refine this.mono ?_;rintro e w' ⟨rfl,rfl⟩;exact⟨_,rfl,by simp,rfl⟩)
     have LP:=ah hM;have TV:=ah hV2;have PU:=ah ru;have Hn1:=ah hn1;have Xd:=ah hk1;have Ht1:=ah ht1;have Ho1:=ah ho1;have Hs2:Hid (g1.tl o1.name=tb):=ah (by rw[hn1,s2,vD.out]);clear hM hn1 hk1 ht1 hq1 s1 s2 ru hV2 hlk2 ho1 HM;go_upto_region 10 with fail
     go_cut [81] (fun v81 wx=>v81=.bool false/\w2.drew=wx)
     case first =>
      go_region_law (first
       | (refine cB (by rfl) (bP (vs:=#[.pointer (some ⟨bb,0,none⟩),.int .u64 o.name]) (by first|(simp[Act.eval];done)|simp[Act.eval,Act.put]) (bE Tryz.func119 (by kernel_rfl) rfl)) HHo.out ?_;rintro v w3 ⟨rfl,rfl⟩))
      all_goals
       go_wp2_with fail
       go_meet;exact⟨rfl,rfl⟩
     case rest =>
      obtain⟨rfl,hw3⟩:=hcut;subst hw3
      have c34:w2.drew.cell? ⟨tb,34,none⟩=some (.int .i64 0):=by
       have:=dD TV.out.ct.n;rw[Ht1.out,HN.out]at this;exact this
      have f34:w2.drew.frozen? ⟨tb,34,none⟩=false:=qA (TV.out.ct.f 34);clear HHo n2
      have uH:Hid (eD w g ((K.set o1).set (o1.dL { o1.th.cont with next:=1 })) (w2.setCell ⟨tb,34,none⟩ (.int .i64 1)).drew g1):=ah (by
       have:=LP.out.XG PU.out Xd.out 1;rw[Hs2.out]at this;exact this.below ((aC _ _).drew))
      obtain⟨w4,hw4⟩:∃w4,w4=(w2.setCell ⟨tb,34,none⟩ (.int .i64 1)).drew:=⟨_,rfl⟩;have Xk:=ah hw4;rw[<-hw4]at uH;obtain⟨o2,ho2⟩:∃o2,o2=o1.dL { o1.th.cont with next:=1 }:=⟨_,rfl⟩;rw[<-ho2]at uH;have hn2:o2.name=o1.name:=by rw[ho2];rfl
      have hk2:o2.kind=3:=by rw[ho2];exact Xd.out
      have ze:((K.set o1).set o2).obj o2.name=some o2:=Km.dz _ o2;obtain⟨lv3,rv3,sv3,pv3,Vr⟩:=uH.out.kin.Qs ze hk2;have hg2:g1.tl o2.name=tb:=by rw[hn2];exact Hs2.out
      rw[hg2]at Vr;have Va:=Vr.bZ;have hl3:o2.th.cont.bZ=[o.name]:=by rw[ho2];show o1.th.cont.bZ=_;rw[Ht1.out];exact HL.out
      have hx3:o2.th.cont.next=1:=by rw[ho2];rfl
      rw[hl3]at Va;obtain⟨lb3,lc3,rfl,ahX,-⟩:=nG Va;have e34:w4.drew.cell? ⟨tb,34,none⟩=some (.int .i64 1):=by have:=dD Vr.ct.n;rw[hx3]at this;exact this
      have e33:w4.drew.cell? ⟨tb,33,none⟩=some (.slice (some ⟨lb3,0,none⟩) 1 lc3):=dD Vr.ct.l;have e32:w4.drew.cell? ⟨tb,32,none⟩=some (.int .i64 o2.th.cont.phase):=dD Vr.ct.p;have f32:w4.drew.frozen? ⟨tb,32,none⟩=false:=qA (Vr.ct.f 32);have Wn:=ah ze;have TU:=ah hk2;have Hg2:=ah hg2;have Xb:=ah ho2;clear hn2 hk2 ze Vr hg2 Va hl3 hx3 ho2 hw4;go_upto_region 13 with fail
      rw[<-Xk.out];go_cut [98] (fun v98 wx=>v98=.bool true/\w4.drew=wx)
      case first =>
       first
       | go_region_held3 (fun W=>W.cell? ⟨tb,34,none⟩=some (.int .i64 1)/\W.cell? ⟨tb,33,none⟩=some (.slice (some ⟨lb3,0,none⟩) 1 lc3)) (exact⟨e34,e33⟩) (fail)
       | fail
       all_goals
        go_wp2_with fail
        go_meet;exact⟨rfl,rfl⟩
      case rest =>
       obtain⟨rfl,hw5⟩:=hcut;subst hw5;clear c34 f34 e34 e33;go_wp2_with fail
       go_ret;refine⟨rfl,g1,?_⟩;have hF:=(uH.out.phase Wn.out TU.out 3).below ((aC _ _).drew);rw[Hg2.out]at hF;have e1:(K.set o1).set o2=K.set o2:=by rw[Xb.out];exact Km.set_set K _ _ rfl
       have e2:(K.set o2).set (o2.dL { o2.th.cont with phase:=3 })=K.set (o2.dL { o2.th.cont with phase:=3 }):=Km.set_set K _ _ rfl;rw[e1,e2]at hF
       have e3:(mH o o.name).dL { o.th.cont with next:=1,phase:=3 }=o2.dL { o2.th.cont with phase:=3 }:=by
        rw[Xb.out,Ho1.out,HJo.out];rfl
       rw[e3];exact hF
 ·cases hres
end Go.Proofs.YtiadbhiadhgjkaaGreatDoor
