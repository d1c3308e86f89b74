import Derived.Test.YtiadbhiadhgjkaaGreatDoorZzWoRt
import Derived.Test.YtiadbhiadhgjkaaGreatDoorZzKq
set_option maxRecDepth 100000
set_option maxHeartbeats 4000000
namespace Go.Proofs.YtiadbhiadhgjkaaGreatDoor
open Go.RowKit
attribute [local irreducible] World.setCell World.alloc World.drew World.setRow Calls Code.wp
attribute [local go_sem] Oper.semAt_some
structure mU.bd(c:mU):Prop where
 n:yJ c.cores/\yJ c.frames/\yJ c.names
 sl:∀s∈c.slots,(0<=s.1/\s.1<=18446744073709551615)/\yJ s.2
 ob:∀o∈c.objs,o.bd
 ln:c.slots.length<=100000/\c.objs.length<=100000
theorem FK{os:List dR}{k:Nat}{o:dR}(h:os[k]? = some o):sZ os k (os.drop k)=(qZ os k o&&sZ os (k+1) (os.drop (k+1))):=by
 rw[drop_at h];rfl
theorem zl(cf:mU)(v:Value)(w:World)(h:rU w v cf)(hbd:cf.bd) :
  Calls Tryz.prog 32 #[v] w fun e w'=>e=.returned (.bool cf.right)/\Below w.heap.size w w':=by
 obtain⟨sv,ov,rfl,hS,hO⟩:=h;obtain⟨sa,sc,rfl,hs1,hs2⟩:=aJ.form hS;obtain⟨oa,oc,rfl,ho1,ho2⟩:=hO.form;obtain⟨hl1,hl2⟩:=hbd.ln
 have HR:Hid (cf.right=(decide (1<=cf.cores/\cf.cores<=4/\1<=cf.frames/\cf.frames<=4096/\0<=cf.names/\cf.names<=4194302/\cf.objs.length<=64)&&(gH cf.slots &&
  ((cf.slots.all fun s=>decide (s.1<=(cf.objs.length:Int)))&&sZ cf.objs 0 cf.objs)))):=rfl
 obtain⟨w1,hw1⟩:∃w1:World,w1=w.alloc (.cells #[.int .i64 cf.cores,.int .i64 cf.frames,.int .i64 cf.names,.slice sa cf.slots.length sc,.slice oa cf.objs.length oc] 81):=⟨_,rfl⟩;obtain⟨xb,hxb⟩:∃xb,xb=w.heap.size:=⟨_,rfl⟩;have HX:Hid (aR w1 xb #[.int .i64 cf.cores,.int .i64 cf.frames,.int .i64 cf.names,.slice sa cf.slots.length sc,.slice oa cf.objs.length oc] 81):=by rw[hw1,hxb];exact aR.new _ _ _
 have HB1:Hid (Below w.heap.size w w1):=by rw[hw1];exact(aC _ w).alloc (aj _) _
 have HS:=ah (fun w' (k:Below w.heap.size w w')=>(aJ.below hS k (aj _):jJ w' _ cf.slots));have HO:=ah (fun w' (k:Below w.heap.size w w')=>hO.below k (aj _));have Hsr:=ah (Fa cf.slots _ w1 (HS.out _ HB1.out) (fun s hs=>(hbd.sl s hs).2) hl1);have wL:=ah hbd;have HRt:=ah (fun k o (hk:cf.objs[k]? = some o) w' (b:Below w.heap.size w w')=>Gu cf.cores cf.frames cf.names (.slice sa cf.slots.length sc) (.slice oa cf.objs.length oc) cf.objs k o w' (HO.out _ b) hk (hbd.ob o (bG hk)) (fun p hp=>(hbd.ob p hp).lab.2.1) hl2);have hcx:=HX.out.cell;clear hS hO hbd;go_enter Tryz.func32,Tryz.ntmps32
 go_upto_region 1 with fail
 rw[<-hw1,<-hxb];have Qx:=ah hxb;clear hw1 hxb;have hcs:(¬cf.cores<1/\¬4<cf.cores/\¬cf.frames<1/\¬4096<cf.frames/\¬cf.names<0/\¬4194302<cf.names/\¬(64:Int)<cf.objs.length)\/cf.cores<1\/(¬cf.cores<1/\4<cf.cores)\/(¬cf.cores<1/\¬4<cf.cores/\cf.frames<1)\/(¬cf.cores<1/\¬4<cf.cores/\¬cf.frames<1/\4096<cf.frames)\/(¬cf.cores<1/\¬4<cf.cores/\¬cf.frames<1/\¬4096<cf.frames/\cf.names<0)\/(¬cf.cores<1/\¬4<cf.cores/\¬cf.frames<1/\¬4096<cf.frames/\¬cf.names<0/\4194302<cf.names)\/(¬cf.cores<1/\¬4<cf.cores/\¬cf.frames<1/\¬4096<cf.frames/\¬cf.names<0/\¬4194302<cf.names/\(64:Int)<cf.objs.length):=by omega
 rcases hcs with⟨c1,c2,c3,c4,c5,c6,c7⟩|c1|⟨c1,c2⟩|⟨c1,c2,c3⟩|⟨c1,c2,c3,c4⟩|⟨c1,c2,c3,c4,c5⟩|⟨c1,c2,c3,c4,c5,c6⟩|⟨c1,c2,c3,c4,c5,c6,c7⟩
 rotate_left
 all_goals try
  (go_wp2_with fail
   go_ret;exact⟨by rw[HR.out,aX (by omega)];rfl,HB1.out⟩)
 rw[bK (by omega),Bool.true_and]at HR;go_wp2_with fail
 refine Hsr.out.mono ?_;rintro e w2 ⟨rfl,hb2⟩;have HB2:=ah (aT HB1.out hb2);have Xi:=ah (aR.below HX.out hb2 HX.out.lt);have Vp:=Xi.out.cell;clear hb2 hcx HX HB1 Hsr
 cases hQ:gH cf.slots
 ·have Hd:Hid (cf.right=false):=by show _=_;rw[HR.out,hQ];rfl
  go_wp2_with fail
  go_ret;exact⟨by rw[Hd.out];rfl,HB2.out⟩
 rw[hQ,Bool.true_and]at HR;clear hQ;have hwn:IntKind.u64.wrap (cf.objs.length:Int)=cf.objs.length:=IntWalk.u64_in _ (by omega);go_wp2_with fail
 go_loopg [4,49] cf.slots.length (fun g _ vi wx=>∃k:Nat,k+g=cf.slots.length/\vi=.int .i64 k/\Hid (Below w.heap.size w wx)/\Hid (aR wx xb #[.int .i64 cf.cores,.int .i64 cf.frames,.int .i64 cf.names,.slice sa cf.slots.length sc,.slice oa cf.objs.length oc] 81)/\Hid ((cf.slots.take k).all (fun s=>decide (s.1<=(cf.objs.length:Int)))=true))
 case atStart=>exact⟨0,by omega,rfl,HB2,Xi,ah rfl⟩
 case round =>
  obtain⟨k,hk,rfl,HB,HX,HA⟩:=hrel;by_cases hlt:k<cf.slots.length
  ·have hlt':(k:Int)<cf.slots.length:=by omega
   obtain⟨s,hs⟩:∃s,cf.slots[k]? = some s:=⟨_,aQ hlt⟩;obtain⟨b,rfl,-,s0,s1⟩:=jJ.at (HS.out _ HB.out) hs;obtain⟨⟨g0,g1⟩,g2⟩:=wL.out.sl s (bG hs);have BS:Hid (Below w.heap.size w (wr.alloc (.cells #[.int .u64 s.1,.int .i64 s.2] 127))):=HB.out.alloc HB.out.size _;have ZC:Hid (aR (wr.alloc (.cells #[.int .u64 s.1,.int .i64 s.2] 127)) xb #[.int .i64 cf.cores,.int .i64 cf.frames,.int .i64 cf.names,.slice (some ⟨b,0,none⟩) cf.slots.length sc,.slice oa cf.objs.length oc] 81):=HX.out.alloc _;have hcx:=ZC.out.cell;have hcz:=(aR.new wr #[.int .u64 s.1,.int .i64 s.2] 127).cell;have Hn:=ah (fun h2=>BI (fun s:Int×Int=>decide (s.1<=(cf.objs.length:Int))) hs h2);have Hy:=ah (fun h2=>wU (fun s:Int×Int=>decide (s.1<=(cf.objs.length:Int))) hs HA.out h2);clear hs Vp;by_cases c8:(cf.objs.length:Int)<s.1
   ·have Hd:Hid (cf.right=false):=by show _=_;rw[HR.out,Hn.out (aX (by omega)),Bool.false_and]
    go_wp2_with fail
    go_ret;exact⟨by rw[Hd.out];rfl,BS.out⟩
   ·have HA2:=ah (Hy.out (bK (by omega)))
    go_wp2_with fail
    go_roundg (cf.slots.length-(k+1))
    case measure=>omega
    case rel=>exact⟨k+1,by omega,by go_num,BS,ZC,HA2⟩
  ·obtain rfl:k=cf.slots.length:=by omega
   rw[List.take_length]at HA;rw[HA.out,Bool.true_and]at HR;have hcx:=HX.out.cell;clear Vp HA;go_wp2_with fail
   go_loopg [5,64] cf.objs.length (fun g _ vi wx=>∃k:Nat,k+g=cf.objs.length/\vi=.int .i64 k/\Hid (Below w.heap.size w wx)/\Hid (aR wx xb #[.int .i64 cf.cores,.int .i64 cf.frames,.int .i64 cf.names,.slice sa cf.slots.length sc,.slice oa cf.objs.length oc] 81)/\Hid (sZ cf.objs 0 cf.objs=sZ cf.objs k (cf.objs.drop k)))
   case atStart=>exact⟨0,by omega,rfl,HB,HX,ah rfl⟩
   case round =>
    obtain⟨k,hk,rfl,HB,HX,HA⟩:=hrel;by_cases hlt:k<cf.objs.length
    ·have hlt':(k:Int)<cf.objs.length:=by omega
     obtain⟨o,ho⟩:∃o,cf.objs[k]? = some o:=⟨_,aQ hlt⟩;have Ho:=ah (HRt.out k o ho _ HB.out);have Hdr:=ah (FK ho);have hcx:=HX.out.cell;clear ho;go_wp2_with fail
     refine Ho.out.mono ?_;rintro e w3 ⟨rfl,hb3⟩;have HB3:=ah (aT HB.out hb3);have Ww:=ah (aR.below HX.out hb3 HX.out.lt);clear hb3
     cases hQ:qZ cf.objs k o
     ·have Hd:Hid (cf.right=false):=by show _=_;rw[HR.out,HA.out,Hdr.out,hQ];rfl
      go_wp2_with fail
      go_ret;exact⟨by rw[Hd.out];rfl,HB3.out⟩
     ·have HA2:Hid (sZ cf.objs 0 cf.objs=sZ cf.objs (k+1) (cf.objs.drop (k+1))):=by show _=_;rw[HA.out,Hdr.out,hQ,Bool.true_and]
      clear hQ;go_wp2_with fail
      go_roundg (cf.objs.length-(k+1))
      case measure=>omega
      case rel=>exact⟨k+1,by omega,by go_num,HB3,Ww,HA2⟩
    ·obtain rfl:k=cf.objs.length:=by omega
     have Hd:Hid (cf.right=true):=by show _=_;rw[HR.out,HA.out,List.drop_length];rfl
     go_wp2_with fail
     go_ret;exact⟨by rw[Hd.out];rfl,HB.out⟩
end Go.Proofs.YtiadbhiadhgjkaaGreatDoor
namespace Go.Proofs.YtiadbhiadhgjkaaGreatDoor
open Go.RowKit
def nV(d:List UInt8):Nat->Int:=fun j=>if j<d.length then((d.getD j 0).toNat:Int)else 0
def sG(o:dR)(n:Nat):Bool :=
 o.lab.right&&(decide (0<=o.parent/\o.parent<(n:Int)) &&
  ((decide (o.kind=1)&&decide (0<=o.pages/\0<=o.names))||(decide (o.kind=2)&&decide (0<=o.pages/\o.pages<=16/\(o.data.length:Int)<=o.pages*64))||decide (o.kind=3)||decide (o.kind=4)||decide (o.kind=6)))
def lS(K:Km)(made:List Int)(o:dR):Option (Km×List Int) :=
 if sG o made.length=true then
  match K.obj (made.getD o.parent.toNat 0)with
  | none=>none
  | some h=>if h.kind=1 then
    match K.place h o.kind o.lab (if o.kind=1\/o.kind=2 then o.pages else 0) (if o.kind=1 then o.names else 0)with
    | .ok K' x=>some (if o.kind=2 then K'.set { x with data:=nV o.data }else if o.kind=6 then { K' with eU:=K'.eU++[x.name] }else K',made++[x.name])
    | _=>none
   else none
 else none
def gF:Km->List Int->List dR->Option (Km×List Int)
 | K,made,[]=>some (K,made)
 | K,made,o::os=>match lS K made o with
  | some (K',made')=>gF K' made' os
  | none=>none
def uY(o:dR)(x:Ob)(n:Nat):Bool :=
 (decide (o.kind=4)&&(decide (o.space=0)&&(o.maps.all (fun m=>decide (0<=m.seg/\m.seg<(n:Int)))&&decide (x.maps.length+o.maps.length<=1000)))) ||
 (decide (o.kind=3)&&(decide (0<o.space/\o.space<(n:Int))&&(decide (0<=o.pc/\o.pc<262144)&&(o.gG.right&&decide (x.name<=4194304))))) ||
 (decide (o.kind≠3/\o.kind≠4/\o.kind≠5)&&decide (o.space=0))
def lN(K:Km)(made:List Int)(cores:Int)(i:Nat)(o:dR):Option Km :=
 match K.obj (made.getD (i+1) 0)with
 | none=>none
 | some x=>if(decide (x.kind=o.kind)&&uY o x made.length)=true then
   some (if o.kind=4 then K.set { x with maps:=x.maps++o.maps.map (jI made) }else if o.kind=3 then K.set (x.eF (uI x o made cores))else K)
  else none
def iH:Km->List Int->Int->Nat->List dR->Option Km
 | K,_,_,_,[]=>some K
 | K,made,cores,i,o::os=>match lN K made cores i o with
  | some K'=>iH K' made cores (i+1) os
  | none=>none
def xk(c:mU):Ob:={ ob0 1 1 ⟨2,[]⟩ 0 with purse:=⟨c.frames,1,0⟩,names:=⟨2,2,2+c.names⟩ }
def km0(c:mU):Km:=⟨0,fun _=>⟨0,0,0,fun _=>0,0⟩,[],[],false,fun n=>if n=1 then some (xk c)else none,c.frames-1⟩
def tu(c:mU):Option Km :=
 if c.right=true then
  match gF (km0 c) [1] c.objs with
  | none=>none
  | some (K,made)=>match iH K made c.cores 0 c.objs with
   | none=>none
   | some K'=>if c.slots.all (fun s=>decide (0<=s.1/\s.1<(made.length:Int)))=true then
     some { K' with nc:=c.cores.toNat,cores:=fun _=>⟨0,(c.slots.getD 0 (0,0)).2,0,fun _=>0,0⟩,slots:=c.slots.map fun s=>(made.getD s.1.toNat 0,s.2) }
    else none
 else none
structure BInv(g:Gh)(K:Km):Prop where
 inv:Inv g K
 nc:K.nc=0
 th:∀n o,K.obj n=some o->o.kind=3->g.root n=0/\g.tabs n=0
theorem BInv.set{g g':Gh}{K:Km}{o o':Ob}(h:BInv g K)(ho:K.obj o.name=some o)(hn:o'.name=o.name)(hk:o'.kind=o.kind)(hc:o'.kind=1->oW o')(hs:o'.kind=2->IX g' o')
  (hmv:dQ g.P g'.P o.name) (hleft:g'.P.left=g.P.left) (hl:∀n,dO g g' n) (Bd:g'.lD=g.lD) (hA:∀b n i,g'.A b=some (n,i)->g.A b=some (n,i)\/n=o.name):BInv g' (K.set o'):=by
 have hset:∀n,(K.set o').obj n=if n=o.name then some o' else K.obj n:=fun n=>by show(if n=o'.name then some o' else K.obj n)=_;rw[hn]
 have hback:∀n a,(K.set o').obj n=some a->∃b,K.obj n=some b/\a.kind=b.kind/\a.name=b.name/\(n=o.name/\a=o'\/n≠o.name/\a=b):=fun n a e=>by
  rw[hset]at e;by_cases e1:n=o.name
  ·rw[aD e1]at e;cases e;exact⟨o,by rw[e1];exact ho,hk,hn,.inl ⟨e1,rfl⟩⟩
  ·rw[aA e1]at e;exact⟨a,e,rfl,rfl,.inr ⟨e1,rfl⟩⟩
 have hfw:∀n b,K.obj n=some b->∃a,(K.set o').obj n=some a/\a.kind=b.kind:=fun n b e=>by
  rw[hset];by_cases e1:n=o.name
  ·rw[aD e1];rw[e1,ho]at e;cases e;exact⟨o',rfl,hk⟩
  ·rw[aA e1];exact⟨b,e,rfl⟩
 have hI:=h.inv
 have hth:∀n a,(K.set o').obj n=some a->a.kind=3->g'.root n=0/\g'.tabs n=0:=fun n a e ek=>by
  obtain⟨b,e1,e2,-⟩:=hback n a e;obtain⟨t1,t2⟩:=h.th n b e1 (by rw[<-e2];exact ek);exact⟨by rw[(hl n).root];exact t1,by rw[(hl n).tabs];exact t2⟩
 refine⟨⟨fun b n i e=>?_,fun n a e=>?_,fun n a e ek=>?_,fun n a e ek=>?_,fun n a e ek=>?_,fun n a e ek=>?_,fun i hi=>?_,fun i hi=>?_,⟨by rw[Bd];exact hI.lD.1,fun n=>?_⟩,⟨hI.room.1,?_⟩,fun n h0 e=>?_⟩,h.nc,hth⟩
 ·rcases hA b n i e with e1|e1
  ·rcases hI.own b n i e1 with e2|⟨a,e2⟩
   ·exact .inl e2
   ·obtain⟨c,hc,-⟩:=hfw n a e2;exact .inr ⟨c,hc⟩
  ·refine .inr ⟨o',?_⟩;rw[hset,aD e1]
 ·obtain⟨b,e1,-,e3,-⟩:=hback n a e
  rw[e3];exact hI.name n b e1
 ·obtain⟨b,e1,e2,-,⟨e4,e5⟩|⟨e4,e5⟩⟩:=hback n a e
  ·rw[e5]at ek ⊢;exact hc ek
  ·rw[e5]at ek ⊢;exact hI.cont n b e1 ek
 ·obtain⟨b,e1,e2,-,⟨e4,e5⟩|⟨e4,e5⟩⟩:=hback n a e
  ·rw[e5]at ek ⊢;exact hs ek
  ·rw[e5]at ek ⊢
   have hb:=hI.seg n b e1 ek;have hne:b.name≠o.name:=by rw[hI.name n b e1];exact e4
   have hf:g'.fr b.name=g.fr b.name:=(hl _).fr;exact⟨by rw[hf];exact hmv.Cw hb.inn hne,by rw[hf];exact hb.len,hb.p16,fun j hj=>by rw[hf,hb.data j hj,hmv.kV hb.inn hne j (by rw[hb.len];exact hj)]⟩
 ·obtain⟨b,e1,e2,-⟩:=hback n a e
  rw[(hl n).fr];exact hI.rD n b e1 (by rw[<-e2];exact ek)
 ·have hnm:a.name=n:=by
   obtain⟨b,e1,-,e3,-⟩:=hback n a e;rw[e3];exact hI.name n b e1
  obtain⟨t1,t2⟩:=hth n a e ek;exact .inl ⟨by rw[hnm];exact t1,by rw[hnm];exact t2⟩
 ·have:i<K.nc:=hi
  rw[h.nc]at this;omega
 ·have:i<K.nc:=hi
  rw[h.nc]at this;omega
 ·rw[Bd,hI.lD.2 n]
  constructor
  ·rintro⟨b,e1,e2⟩
   obtain⟨a,e3,e4⟩:=hfw n b e1;exact⟨a,e3,by rw[e4];exact e2⟩
  ·rintro⟨a,e1,e2⟩
   obtain⟨b,e3,e4,-⟩:=hback n a e1;exact⟨b,e3,by rw[<-e4];exact e2⟩
 ·rw[hleft,hI.room.2]
  show K.room+mV g=K.room+mV g'
  unfold mV;rw[Bd];congr 2
  refine List.map_congr_left fun n _=>?_
  rw[(hl n).tabs]
 ·rw[hset]at e
  by_cases e1:n=o.name
  ·rw[aD e1]at e;cases e
  ·rw[aA e1]at e
   rw[hmv.n,hmv.cnt n h0 e1];exact hI.yw n h0 e
end Go.Proofs.YtiadbhiadhgjkaaGreatDoor
