import Derived.Test.YtiadbhiadhgjkaaGreatDoorZzWoMt
import Derived.Test.YtiadbhiadhgjkaaGreatDoorZzFrC
import Derived.Test.YtiadbhiadhgjkaaGreatDoorZzWoE
import Derived.Laws.AppendOwnNone
import Derived.ArgAppend
import Derived.Maps.AppendAt
set_option maxRecDepth 100000
set_option maxHeartbeats 4000000
namespace Go.Proofs.YtiadbhiadhgjkaaGreatDoor
open Go.RowKit
attribute [local irreducible] World.setCell World.alloc World.drew World.setRow Calls Code.wp
attribute [local go_sem] Oper.semAt_some
theorem mE{fn:Func}{t p:Tmp}{ty:TypeId}(h:fn.results=#[.cell p ty,.tmp t])(tmps:Array Value)(w:World)(ad:Addr)(v:Value)
  (hp:tmps.getD p undef=.pointer (some ad)) (hL:(loadVar ty ad).run Tryz.prog w=.ok v w) :
  (results fn tmps).run Tryz.prog w=.ok (.tuple #[v,tmps.getD t undef]) w:=by
 have hp':tmps[p]?.getD undef=.pointer (some ad):=by simpa using hp
 simp[results,h,hp',asAddr,hL,Result.andThen]
theorem mG(w:World)(lb:Nat)(cs:Array Value)(hs:cs.size=2)(h:aR w lb cs 43):(loadVar 43 ⟨lb,0,none⟩).run Tryz.prog w=.ok (.agg cs) w :=
 run_loadVar_row w lb 43 43 cs (0,0) _ h Tryz.underlying43 rfl (by rw[hs];kernel_rfl)
theorem mO.at{w:World}{a:Option Addr}{c:Nat}{os:List dR}(h:mO w (.slice a os.length c) os){k:Nat}{o:dR}(hk:os[k]? = some o) :
  ∃(b:Nat) (s:Ca),a=some ⟨b,0,none⟩/\b<w.heap.size/\pI w o s.ls s.lc s.vd s.vm/\∀i,i<12->w.cell? ⟨b,k*12+i,none⟩=(Dc o s.ls s.lc s.vd s.vm)[i]?:=by
 obtain⟨ss,h1,h2,h3⟩:=h;have hlt:=(aW.1 hk).1;obtain⟨s,hs⟩:∃s,ss[k]? = some s:=⟨_,aQ (by omega)⟩;obtain⟨b,rfl,hb,hc⟩:=aJ.cells h3 (by omega);refine⟨b,s,rfl,hb,h2 k o s hk hs,fun i hi=>?_⟩;have e:=Db os ss h1 k o s hk hs i hi;have hl:i<(Dc o s.ls s.lc s.vd s.vm).length:=hi;rw[aQ hl]at e ⊢;exact hc _ _ e
structure dR.bd(o:dR):Prop where
 k:yJ o.kind
 p:yJ o.parent
 pg:yJ o.pages
 nm:yJ o.names
 sp:yJ o.space
 pc:yJ o.pc
 ms:∀m∈o.maps,m.bd
 lab:o.lab.d<=1000/\o.lab.ps.length<=1000/\∀q∈o.lab.ps,q.1<4294967296/\q.2<=1000
 gG:o.gG.d<=1000/\o.gG.ps.length<=1000/\∀q∈o.gG.ps,q.1<4294967296/\q.2<=1000
 ln:o.data.length<=100000/\o.maps.length<=100000
theorem MO(x y z:Int)(sv:Value)(oa:Option Addr)(n oc:Nat)(hn:n<=100000)(ms:List gy)(v:Value)(w:World)(h:iM w v ms)(hb:∀m∈ms,m.bd)(hl:ms.length<=100000) :
  Calls Tryz.prog 83 #[.agg #[.int .i64 x,.int .i64 y,.int .i64 z,sv,.slice oa n oc],v] w fun e w'=>e=.returned (.bool (ms.all fun m=>decide (m.seg<=(n:Int))))/\Below w.heap.size w w':=by
 obtain⟨a,c,rfl,hc1,hc2⟩:=aJ.form h;obtain⟨wa,BZ⟩:∃wa:World,wa=w.alloc (.cells #[.int .i64 x,.int .i64 y,.int .i64 z,sv,.slice oa n oc] 81):=⟨_,rfl⟩;obtain⟨xb,hxb⟩:∃xb,xb=w.heap.size:=⟨_,rfl⟩;have HX:Hid (aR wa xb #[.int .i64 x,.int .i64 y,.int .i64 z,sv,.slice oa n oc] 81):=by rw[BZ,hxb];exact aR.new _ _ _
 have HBa:Hid (Below w.heap.size w wa):=by rw[BZ];exact(aC _ w).alloc (aj _) _
 have HS:=ah (fun w' (k:Below w.heap.size w w')=>(aJ.below h k (aj _):iM w' _ ms));have Hb:=ah hb;have Qx:=ah hxb;have hw:IntKind.u64.wrap (n:Int)=n:=IntWalk.u64_in _ (by omega);clear h hb;go_enter Tryz.func83,Tryz.ntmps83
 go_wp2_with fail
 rw[<-BZ,<-hxb];clear BZ hxb;go_loopg [6,9] ms.length (fun g _ vi wx=>∃k:Nat,k+g=ms.length/\vi=.int .i64 k/\Hid (Below w.heap.size w wx)/\Hid (aR wx xb #[.int .i64 x,.int .i64 y,.int .i64 z,sv,.slice oa n oc] 81)/\Hid ((ms.take k).all (fun m=>decide (m.seg<=(n:Int)))=true))
 case atStart=>exact⟨0,by omega,rfl,HBa,HX,ah rfl⟩
 case round =>
  obtain⟨k,hk,rfl,HB,HX,HA⟩:=hrel;by_cases hlt:k<ms.length
  ·have hlt':(k:Int)<ms.length:=by omega
   obtain⟨m,hm⟩:∃m,ms[k]? = some m:=⟨_,aQ hlt⟩;obtain⟨b,rfl,-,m0,m1,m2,m3,m4⟩:=iM.at (HS.out _ HB.out) hm;have hbd:=(Hb.out m (bG hm)).s;have BS:Hid (Below w.heap.size w (wr.alloc (.cells #[.int .i64 m.at_,.int .u64 m.seg,.int .i64 m.from_,.int .i64 m.n,.bool m.wr] 125))):=HB.out.alloc HB.out.size _;have ZC:Hid (aR (wr.alloc (.cells #[.int .i64 m.at_,.int .u64 m.seg,.int .i64 m.from_,.int .i64 m.n,.bool m.wr] 125)) xb #[.int .i64 x,.int .i64 y,.int .i64 z,sv,.slice oa n oc] 81):=HX.out.alloc _;have hcx:=ZC.out.cell;have hcz:=(aR.new wr #[.int .i64 m.at_,.int .u64 m.seg,.int .i64 m.from_,.int .i64 m.n,.bool m.wr] 125).cell;by_cases c1:(n:Int)<m.seg
   ·have Hd:Hid ((ms.all fun m=>decide (m.seg<=(n:Int)))=false):=BI (fun m:gy=>decide (m.seg<=(n:Int))) hm (aX (by omega))
    clear hm;go_wp2_with fail
    go_ret;exact⟨by rw[Hd.out];rfl,BS.out⟩
   ·have HA2:=ah (wU (fun m:gy=>decide (m.seg<=(n:Int))) hm HA.out (bK (by omega)))
    clear hm;go_wp2_with fail
    go_roundg (ms.length-(k+1))
    case measure=>omega
    case rel=>exact⟨k+1,by omega,by go_num,BS,ZC,HA2⟩
  ·obtain rfl:k=ms.length:=by omega
   rw[List.take_length]at HA;go_wp2_with fail
   go_ret;exact⟨by rw[HA.out];rfl,HB.out⟩
theorem oI(d:Nat)(w:World) :
  Calls Tryz.prog 22 #[.int .i64 (d:Int)] w fun e w'=>e=.returned (.agg #[.int .i64 (d:Int),.slice none 0 0])/\Below w.heap.size w w':=by
 have HB:Hid (Below w.heap.size w (w.alloc (.cells #[.int .i64 (d:Int),.slice none 0 0] 43))):=(aC _ w).alloc (aj _) _;have HF:Hid (aR (w.alloc (.cells #[.int .i64 (d:Int),.slice none 0 0] 43)) w.heap.size #[.int .i64 (d:Int),.slice none 0 0] 43):=aR.new _ _ _;go_enter Tryz.func22,Tryz.ntmps22
 go_wp2_with fail
 refine bodyPost_ret (results_cell_row rfl _ _ w.heap.size _ _ (0,0) _ rfl HF.out Tryz.underlying43 rfl (by kernel_rfl)) rfl ?_;exact⟨rfl,HB.out⟩
theorem Kh(f:Nat->Nat->Nat)(a b:dn)(va vb lv:Value)(w:World)(ha:fV a)(hb:fV b)(hA:bU w va a)(hB:bU w vb b)(hlv:∃lid caps,lv=.func (.func lid) #[] caps)(hF:∀W',Below w.heap.size w W'->SG lv f W') :
  Calls Tryz.prog 77 #[va,vb,lv] w fun e w'=>∃v,e=.returned v/\bU w' v (dn.merge f a b)/\Below w.heap.size w w':=by
 obtain⟨lid,caps,rfl⟩:=hlv;obtain⟨sa,rfl,ha1⟩:=hA;obtain⟨sb,rfl,hb1⟩:=hB;obtain⟨ra,ca,rfl,-,-⟩:=aJ.form ha1;obtain⟨rb,cb,rfl,-,-⟩:=aJ.form hb1;obtain⟨h0,hh0⟩:∃h0,h0=w.heap.size:=⟨_,rfl⟩;obtain⟨wa,BZ⟩:∃wa:World,wa=((w.alloc (.cells #[.int .i64 (a.d:Nat),.slice ra a.ps.length ca] 43)).alloc (.cells #[.int .i64 (b.d:Nat),.slice rb b.ps.length cb] 43)).alloc (.cells #[.func (.func lid) #[] caps] 163):=⟨_,rfl⟩;obtain⟨wb,hwb⟩:∃wb:World,wb=wa.alloc (.cells #[.int .i64 0,.slice none 0 0] 43):=⟨_,rfl⟩;obtain⟨w5,hw5⟩:∃w5:World,w5=wb.alloc (.cells #[.int .i64 0,.slice none 0 0] 43):=⟨_,rfl⟩;have hza:wa.heap.size=h0+1+1+1:=by rw[BZ,hh0];simp
 have hzb:wb.heap.size=h0+1+1+1+1:=by rw[hwb,au,hza]
 have hz5:w5.heap.size=h0+1+1+1+1+1:=by rw[hw5,au,hzb]
 have hBa:Below w.heap.size w wa:=by rw[BZ];exact(((aC _ w).alloc (aj _) _).alloc (by simp) _).alloc (by simp;omega) _
 have hBb:Below w.heap.size w wb:=by rw[hwb];exact hBa.alloc hBa.size _
 have ni:Below w.heap.size w w5:=by rw[hw5];exact hBb.alloc hBb.size _
 have hXl:aR w5 (h0+1+1) #[.func (.func lid) #[] caps] 163:=by
  rw[hw5,hwb];refine aR.alloc (aR.alloc ?_ _) _;rw[BZ,hh0];have:=aR.new ((w.alloc (.cells #[.int .i64 (a.d:Nat),.slice ra a.ps.length ca] 43)).alloc (.cells #[.int .i64 (b.d:Nat),.slice rb b.ps.length cb] 43)) #[.func (.func lid) #[] caps] 163;rw[au,au]at this;exact this
 have hXr:aR w5 (h0+1+1+1) #[.int .i64 0,.slice none 0 0] 43:=by
  rw[hw5,hwb,<-hza];exact(aR.new _ _ _).alloc _
 have hXo:aR w5 (h0+1+1+1+1) #[.int .i64 0,.slice none 0 0] 43:=by
  rw[hw5,<-hzb];exact aR.new _ _ _
 have WU:aR w5 h0 #[.int .i64 (a.d:Nat),.slice ra a.ps.length ca] 43:=by
  rw[hw5,hwb,BZ,hh0];exact((((aR.new _ _ _).alloc _).alloc _).alloc _).alloc _
 have hB0:aR w5 (h0+1) #[.int .i64 (b.d:Nat),.slice rb b.ps.length cb] 43:=by
  rw[hw5,hwb,BZ,hh0];refine aR.alloc (aR.alloc (aR.alloc ?_ _) _) _;have:=aR.new (w.alloc (.cells #[.int .i64 (a.d:Nat),.slice ra a.ps.length ca] 43)) #[.int .i64 (b.d:Nat),.slice rb b.ps.length cb] 43;rw[au]at this;exact this
 have Hm:=ah (Af a.d b.d (.slice ra a.ps.length ca) (.slice rb b.ps.length cb) w5);have tO:=sj a.d b.d (.slice ra a.ps.length ca) (.slice rb b.ps.length cb) w5 a b ⟨_,rfl,aJ.below ha1 ni (aj _)⟩ ⟨_,rfl,aJ.below hb1 ni (aj _)⟩;obtain⟨W2,hW2⟩:∃W2:World,W2=(w5.alloc (gY a.d (.slice ra a.ps.length ca))).alloc (gY b.d (.slice rb b.ps.length cb)):=⟨_,rfl⟩;rw[<-hW2]at tO;have hb2:Below w5.heap.size w5 W2:=by rw[hW2];exact((aC _ w5).alloc (aj _) _).alloc (by simp) _
 have hz2:w5.heap.size<=W2.heap.size:=hb2.size;have hb02:Below w.heap.size w W2:=aT ni hb2
 have Hmb:=ah (FT f a b w5.heap.size (w5.heap.size+1) (h0+1+1) (h0+1+1+1+1) W2.heap.size 163 (.func (.func lid) #[] caps) W2 ha hb tO.1 tO.2
  (aR.below hXl hb2 hXl.lt) rfl (aR.below hXo hb2 hXo.lt) (by rw[hz5];omega) (fun W' k=>hF W' (hb02.trans (k.below hb02.size (fun i hi e=>by rcases e with e|e<;>omega)))))
 have ZB:=ah (aR.below hXr hb2 hXr.lt)
 have adJ:Hid (∀W3,Kept (fun b=>b=h0+1+1+1+1\/W2.heap.size<=b) W2 W3->Below w.heap.size w W3/\aR W3 (h0+1+1+1) #[.int .i64 0,.slice none 0 0] 43):=fun W3 k =>
  ⟨hb02.trans (k.below hb02.size (fun i hi e=>by rcases e with e|e<;>omega)),ZB.out.below' k (fun e=>by have:=ZB.out.lt;rcases e with e|e<;>omega)⟩
 have ca0:w5.cell? ⟨h0,0,none⟩=some (.int .i64 (a.d:Nat)):=by rw[WU.cell];rfl
 have ca1:w5.cell? ⟨h0,1,none⟩=some (.slice ra a.ps.length ca):=by rw[WU.cell];rfl
 have cb0:w5.cell? ⟨h0+1,0,none⟩=some (.int .i64 (b.d:Nat)):=by rw[hB0.cell];rfl
 have cb1:w5.cell? ⟨h0+1,1,none⟩=some (.slice rb b.ps.length cb):=by rw[hB0.cell];rfl
 have HW2:=ah hW2;have oU:=ah hh0;have HW5:Hid (w5=((((w.alloc (.cells #[.int .i64 (a.d:Nat),.slice ra a.ps.length ca] 43)).alloc (.cells #[.int .i64 (b.d:Nat),.slice rb b.ps.length cb] 43)).alloc (.cells #[.func (.func lid) #[] caps] 163)).alloc (.cells #[.int .i64 0,.slice none 0 0] 43)).alloc (.cells #[.int .i64 0,.slice none 0 0] 43)):=by show _=_;rw[hw5,hwb,BZ]
 clear ha1 hb1 hF BZ hwb hw5 hza hzb hz5 hBa hBb ni hXl hXr hXo WU hB0 tO hW2 hb2 hb02 hh0;go_enter Tryz.func77,Tryz.ntmps77
 go_upto_region 2 with fail
 rw[<-HW5.out,<-oU.out];go_wp2_with fail
 refine Hm.out.mono ?_;rintro e W2' ⟨rfl,rfl⟩;rw[<-HW2.out];clear ca0 ca1 cb0 cb1;go_wp2_with fail
 refine Hmb.out.mono ?_;rintro e W3 ⟨rfl,ho,hk⟩;obtain⟨s,h1,h2⟩:=ho.row;obtain⟨av,cv,rfl,-,-⟩:=aJ.form (aJ.own h2);obtain⟨hb3,hr3⟩:=adJ.out W3 hk;have hc1:=h1.cell;have hcr:=hr3.cell;have hfr:=hr3.free
 have HR:=ah (show bU ((W3.setCell ⟨h0+1+1+1,0,none⟩ (.int .i64 ((dn.merge f a b).d:Nat))).setCell ⟨h0+1+1+1,1,none⟩ (.slice av (dn.merge f a b).ps.length cv)) (.agg #[.int .i64 ((dn.merge f a b).d:Nat),.slice av (dn.merge f a b).ps.length cv]) (dn.merge f a b)from
  ⟨_,rfl,aJ.kept (aJ.own h2) (((Kept.refl (·=h0+1+1+1) W3).bC (h0+1+1+1) 0 _ rfl).bC (h0+1+1+1) 1 _ rfl) (fun b cs fz e hh=>by
   unfold aR at hr3;rw[e,hr3]at hh;simp at hh)⟩)
 have HX:Hid (aR ((W3.setCell ⟨h0+1+1+1,0,none⟩ (.int .i64 ((dn.merge f a b).d:Nat))).setCell ⟨h0+1+1+1,1,none⟩ (.slice av (dn.merge f a b).ps.length cv)) (h0+1+1+1) #[.int .i64 ((dn.merge f a b).d:Nat),.slice av (dn.merge f a b).ps.length cv] 43):=((hr3.set 0 _).set 1 _).cells rfl;have HB:Hid (Below w.heap.size w ((W3.setCell ⟨h0+1+1+1,0,none⟩ (.int .i64 ((dn.merge f a b).d:Nat))).setCell ⟨h0+1+1+1,1,none⟩ (.slice av (dn.merge f a b).ps.length cv))):=(hb3.setCell (p:=⟨h0+1+1+1,0,none⟩) (by have:=oU.out;show w.heap.size<=h0+1+1+1;omega) _).setCell (p:=⟨h0+1+1+1,1,none⟩) (by have:=oU.out;show w.heap.size<=h0+1+1+1;omega) _;clear ho hk h1 h2 hb3 hr3;go_wp2_with fail
 refine bodyPost_ret (results_cell_row rfl _ _ (h0+1+1+1) _ _ (0,0) _ rfl HX.out Tryz.underlying43 rfl (by kernel_rfl)) rfl ?_;exact⟨_,rfl,HR.out,HB.out⟩
def jM(fr tv x _y:Nat):Nat:=if x=fr then tv else x
theorem Jz(fb tb fr tv x y:Nat)(W:World)(hf:W.cell? ⟨fb,0,none⟩=some (.int .i64 (fr:Nat)))(ht:W.cell? ⟨tb,0,none⟩=some (.int .i64 (tv:Nat))) :
  Calls Tryz.prog 78 #[.int .i64 (x:Nat),.int .i64 (y:Nat),.pointer (some ⟨fb,0,none⟩),.pointer (some ⟨tb,0,none⟩)] W fun e W'=>e=.returned (.int .i64 (jM fr tv x y:Nat))/\W'=W:=by
 by_cases h:x=fr
 ·have hb:((x:Int)==fr)=true:=by simp[h]
  have hT:Hid (jM fr tv x y=tv):=by show _=_;unfold jM;rw[aD h]
  clear h;go_enter Tryz.func78,Tryz.ntmps78
  go_wp2_with fail
  go_ret;exact⟨by rw[hT.out];rfl,rfl⟩
 ·have hb:((x:Int)==fr)=false:=by simp;omega
  have hT:Hid (jM fr tv x y=x):=by show _=_;unfold jM;rw[aA h]
  clear h;go_enter Tryz.func78,Tryz.ntmps78
  go_wp2_with fail
  go_ret;exact⟨by rw[hT.out];rfl,rfl⟩
theorem wS(l:dn)(fr tv:Nat)(v:Value)(w:World)(hok:fV l)(h:bU w v l) :
  Calls Tryz.prog 52 #[v,.int .i64 (fr:Nat),.int .i64 (tv:Nat)] w fun e w'=>∃v,e=.returned v/\bU w' v (dn.merge (jM fr tv) l l)/\Below w.heap.size w w':=by
 obtain⟨s,rfl,h1⟩:=h;obtain⟨a,c,rfl,-,-⟩:=aJ.form h1;obtain⟨h0,hh0⟩:∃h0,h0=w.heap.size:=⟨_,rfl⟩;obtain⟨w4,hw4⟩:∃w4:World,w4=(((w.alloc (.cells #[.int .i64 (l.d:Nat),.slice a l.ps.length c] 43)).alloc (.cells #[.int .i64 (fr:Nat)] 3)).alloc (.cells #[.int .i64 (tv:Nat)] 3)).alloc (.cells #[.int .i64 0,.slice none 0 0] 43):=⟨_,rfl⟩;have hB4:Below w.heap.size w w4:=by rw[hw4];exact((((aC _ w).alloc (aj _) _).alloc (by simp) _).alloc (by simp;omega) _).alloc (by simp;omega) _
 have hL:aR w4 h0 #[.int .i64 (l.d:Nat),.slice a l.ps.length c] 43:=by rw[hw4,hh0];exact(((aR.new _ _ _).alloc _).alloc _).alloc _
 have hFb:aR w4 (h0+1) #[.int .i64 (fr:Nat)] 3:=by
  rw[hw4,hh0];refine aR.alloc (aR.alloc ?_ _) _;have:=aR.new (w.alloc (.cells #[.int .i64 (l.d:Nat),.slice a l.ps.length c] 43)) #[.int .i64 (fr:Nat)] 3;rw[au]at this;exact this
 have hTb:aR w4 (h0+1+1) #[.int .i64 (tv:Nat)] 3:=by
  rw[hw4,hh0];refine aR.alloc ?_ _;have:=aR.new ((w.alloc (.cells #[.int .i64 (l.d:Nat),.slice a l.ps.length c] 43)).alloc (.cells #[.int .i64 (fr:Nat)] 3)) #[.int .i64 (tv:Nat)] 3;rw[au,au]at this;exact this
 have hRb:aR w4 (h0+1+1+1) #[.int .i64 0,.slice none 0 0] 43:=by
  rw[hw4,hh0];have:=aR.new (((w.alloc (.cells #[.int .i64 (l.d:Nat),.slice a l.ps.length c] 43)).alloc (.cells #[.int .i64 (fr:Nat)] 3)).alloc (.cells #[.int .i64 (tv:Nat)] 3)) #[.int .i64 0,.slice none 0 0] 43;rw[au,au,au]at this;exact this
 have hLi:bU w4 (.agg #[.int .i64 (l.d:Nat),.slice a l.ps.length c]) l:=⟨_,rfl,aJ.below h1 hB4 (aj _)⟩
 have Hm:=ah (Kh (jM fr tv) l l _ _ (.func (.func 78) #[] #[.pointer (some ⟨h0+1,0,none⟩),.pointer (some ⟨h0+1+1,0,none⟩)]) w4 hok hok hLi hLi ⟨_,_,rfl⟩ (fun W' k =>
  ⟨_,_,rfl,enters_of Tryz.func78 (by kernel_rfl) rfl,fun x y _ _=>Jz (h0+1) (h0+1+1) fr tv x y W' (by rw[(aR.below hFb k hFb.lt).cell];rfl) (by rw[(aR.below hTb k hTb.lt).cell];rfl)⟩))
 have HR:=ah hRb;have yO:=ah hB4;have Xk:=ah hw4;have oU:=ah hh0;have cl0:w4.cell? ⟨h0,0,none⟩=some (.int .i64 (l.d:Nat)):=by rw[hL.cell];rfl
 have cl1:w4.cell? ⟨h0,1,none⟩=some (.slice a l.ps.length c):=by rw[hL.cell];rfl
 clear h1 hw4 hh0 hB4 hL hFb hTb hRb hLi;go_enter Tryz.func52,Tryz.ntmps52
 go_upto_region 1 with fail
 rw[<-Xk.out,<-oU.out];go_wp2_with fail
 refine Hm.out.mono ?_;rintro e W3 ⟨v,rfl,hv,hb⟩;obtain⟨s,rfl,hs⟩:=hv;obtain⟨av,cv,rfl,-,-⟩:=aJ.form hs;have hr3:=aR.below HR.out hb HR.out.lt;have hcr:=hr3.cell;have hfr:=hr3.free
 have ZH:=ah (show bU ((W3.setCell ⟨h0+1+1+1,0,none⟩ (.int .i64 ((dn.merge (jM fr tv) l l).d:Nat))).setCell ⟨h0+1+1+1,1,none⟩ (.slice av (dn.merge (jM fr tv) l l).ps.length cv)) (.agg #[.int .i64 ((dn.merge (jM fr tv) l l).d:Nat),.slice av (dn.merge (jM fr tv) l l).ps.length cv]) (dn.merge (jM fr tv) l l)from
  ⟨_,rfl,aJ.kept hs (((Kept.refl (·=h0+1+1+1) W3).bC (h0+1+1+1) 0 _ rfl).bC (h0+1+1+1) 1 _ rfl) (fun b cs fz e hh=>by
   unfold aR at hr3;rw[e,hr3]at hh;simp at hh)⟩)
 have HX:Hid (aR ((W3.setCell ⟨h0+1+1+1,0,none⟩ (.int .i64 ((dn.merge (jM fr tv) l l).d:Nat))).setCell ⟨h0+1+1+1,1,none⟩ (.slice av (dn.merge (jM fr tv) l l).ps.length cv)) (h0+1+1+1) #[.int .i64 ((dn.merge (jM fr tv) l l).d:Nat),.slice av (dn.merge (jM fr tv) l l).ps.length cv] 43):=((hr3.set 0 _).set 1 _).cells rfl;have HB:Hid (Below w.heap.size w ((W3.setCell ⟨h0+1+1+1,0,none⟩ (.int .i64 ((dn.merge (jM fr tv) l l).d:Nat))).setCell ⟨h0+1+1+1,1,none⟩ (.slice av (dn.merge (jM fr tv) l l).ps.length cv))):=((aT yO.out hb).setCell (p:=⟨h0+1+1+1,0,none⟩) (by have:=oU.out;show w.heap.size<=h0+1+1+1;omega) _).setCell (p:=⟨h0+1+1+1,1,none⟩) (by have:=oU.out;show w.heap.size<=h0+1+1+1;omega) _;clear hs hb hr3 cl0 cl1;go_wp2_with fail
 refine bodyPost_ret (results_cell_row rfl _ _ (h0+1+1+1) _ _ (0,0) _ rfl HX.out Tryz.underlying43 rfl (by kernel_rfl)) rfl ?_;exact⟨_,rfl,ZH.out,HB.out⟩
theorem oD(l:dn)(v:Value)(w:World)(hok:fV l)(h:bU w v l) :
  Calls Tryz.prog 27 #[v] w fun e w'=>∃v,e=.returned v/\bU w' v l.rest/\Below w.heap.size w w':=by
 obtain⟨s,rfl,h1⟩:=h;obtain⟨a,c,rfl,-,-⟩:=aJ.form h1;obtain⟨h0,hh0⟩:∃h0,h0=w.heap.size:=⟨_,rfl⟩;obtain⟨w2,hw2⟩:∃w2:World,w2=(w.alloc (.cells #[.int .i64 (l.d:Nat),.slice a l.ps.length c] 43)).alloc (.cells #[.int .i64 0,.slice none 0 0] 43):=⟨_,rfl⟩;have hB2:Below w.heap.size w w2:=by rw[hw2];exact((aC _ w).alloc (aj _) _).alloc (by simp) _
 have hL:aR w2 h0 #[.int .i64 (l.d:Nat),.slice a l.ps.length c] 43:=by rw[hw2,hh0];exact(aR.new _ _ _).alloc _
 have hRb:aR w2 (h0+1) #[.int .i64 0,.slice none 0 0] 43:=by
  rw[hw2,hh0];have:=aR.new (w.alloc (.cells #[.int .i64 (l.d:Nat),.slice a l.ps.length c] 43)) #[.int .i64 0,.slice none 0 0] 43;rw[au]at this;exact this
 have Hm:=ah (wS l 0 2 (.agg #[.int .i64 (l.d:Nat),.slice a l.ps.length c]) w2 hok ⟨_,rfl,aJ.below h1 hB2 (aj _)⟩);have hrest:dn.merge (jM 0 2) l l=l.rest:=rfl;rw[hrest]at Hm;obtain⟨L,YI⟩:∃L,l.rest=L:=⟨_,rfl⟩;rw[YI]at Hm ⊢;have HR:=ah hRb;have HB2:=ah hB2;have HW2:=ah hw2;have oU:=ah hh0;have cl0:w2.cell? ⟨h0,0,none⟩=some (.int .i64 (l.d:Nat)):=by rw[hL.cell];rfl
 have cl1:w2.cell? ⟨h0,1,none⟩=some (.slice a l.ps.length c):=by rw[hL.cell];rfl
 clear h1 hw2 hh0 hB2 hL hRb hrest YI;go_enter Tryz.func27,Tryz.ntmps27
 go_upto_region 1 with fail
 rw[<-HW2.out,<-oU.out];go_wp2_with fail
 refine Hm.out.mono ?_;rintro e W3 ⟨v,rfl,hv,hb⟩;obtain⟨s,rfl,hs⟩:=hv;obtain⟨av,cv,rfl,-,-⟩:=aJ.form hs;have hr3:=aR.below HR.out hb HR.out.lt;have hcr:=hr3.cell;have hfr:=hr3.free
 have ZH:=ah (show bU ((W3.setCell ⟨h0+1,0,none⟩ (.int .i64 (L.d:Nat))).setCell ⟨h0+1,1,none⟩ (.slice av L.ps.length cv)) (.agg #[.int .i64 (L.d:Nat),.slice av L.ps.length cv]) L from
  ⟨_,rfl,aJ.kept hs (((Kept.refl (·=h0+1) W3).bC (h0+1) 0 _ rfl).bC (h0+1) 1 _ rfl) (fun b cs fz e hh=>by
   unfold aR at hr3;rw[e,hr3]at hh;simp at hh)⟩)
 have HX:Hid (aR ((W3.setCell ⟨h0+1,0,none⟩ (.int .i64 (L.d:Nat))).setCell ⟨h0+1,1,none⟩ (.slice av L.ps.length cv)) (h0+1) #[.int .i64 (L.d:Nat),.slice av L.ps.length cv] 43):=((hr3.set 0 _).set 1 _).cells rfl;have HB:Hid (Below w.heap.size w ((W3.setCell ⟨h0+1,0,none⟩ (.int .i64 (L.d:Nat))).setCell ⟨h0+1,1,none⟩ (.slice av L.ps.length cv))):=((aT HB2.out hb).setCell (p:=⟨h0+1,0,none⟩) (by have:=oU.out;show w.heap.size<=h0+1;omega) _).setCell (p:=⟨h0+1,1,none⟩) (by have:=oU.out;show w.heap.size<=h0+1;omega) _;clear hs hb hr3 cl0 cl1;go_wp2_with fail
 refine bodyPost_ret (results_cell_row rfl _ _ (h0+1) _ _ (0,0) _ rfl HX.out Tryz.underlying43 rfl (by kernel_rfl)) rfl ?_;exact⟨_,rfl,ZH.out,HB.out⟩
end Go.Proofs.YtiadbhiadhgjkaaGreatDoor
namespace Go.Proofs.YtiadbhiadhgjkaaGreatDoor
open Go.RowKit
attribute [local irreducible] World.setCell World.alloc World.drew World.setRow Calls Code.wp row
theorem cell_one_new'(w:World)(v:Value)(t:TypeId):∀(j:Nat) (u:Value),[v][j]? = some u->(w.alloc (.cells #[v] t)).cell? ((⟨w.heap.size,0,none⟩:Addr).add j)=some u:=by
 intro j u h
 have hj:j=0:=by
  rcases Nat.eq_zero_or_pos j with e|e
  ·exact e
  ·rw[List.getElem?_eq_none (by simp;omega)]at h;cases h
 subst hj;rw[Addr.add_lit,(aR.new w #[v] t).cell];simpa using h
theorem Ik(n:Nat)(x:Int)(w:World)(h8:n<=8)(h0:0<=x)(h1:x<=18446744073709551615) :
  Calls Tryz.prog 58 #[.slice none 0 0,.int .i64 n,.int .u64 x] w fun e w' =>
   ∃v,e=.returned v/\w'.ownsRow w.heap.size 5 1 v n ((List.range n).map fun j=>Value.int .u8 (vY n x j))/\Below w.heap.size w w':=by
 obtain⟨i0,hi,hz0,hz1,hz2⟩:=info_parts info5;have Hi:=ah hi;have lJ:=ah hz0;have lI:=ah hz1;have kT:=ah hz2;clear hi hz0 hz1 hz2;have H0:=ah h0;have H1:=ah h1;clear h1;go_enter Tryz.func58,Tryz.ntmps58
 go_wp2_with (at_builtin;refine wpList_append_own_none rfl _ _ 63 rfl w.heap.size 5 i0 1 Tryz.underlying63 Hi.out _ 0 [] rfl (cu _ _ _ _) rfl ?_)
 go_loopg [7,8] n (fun g v i wx=>∃k:Nat,k=g/\k<=n/\i=.int .i64 k/\wx.ownsRow w.heap.size 5 1 v (n-k) ((List.range (n-k)).map fun j=>Value.int .u8 (vY n x j))/\Below w.heap.size w wx)
 case atStart=>exact⟨n,rfl,aj _,rfl,by rw[Nat.sub_self];exact cu _ _ _ _,aC _ _⟩
 case round =>
  obtain⟨k,rfl,hk,rfl,hown,hb⟩:=hrel;have kZ:=ah hown;have Hb:=ah hb;clear hown hb;by_cases hlt:0<k
  ·obtain⟨q,rfl⟩:∃q,k=q+1:=⟨k-1,by omega⟩
   have e1:((q+1:Nat):Int)=(q:Int)+1:=by omega
   rw[e1];clear e1;have hq8:q<8:=by omega
   have hby:x/2^(8*q)%256=vY n x (n-(q+1)):=by
    unfold vY;rw[show n-1-(n-(q+1))=q by omega,Int.pow_mul];rfl
   have Zy:=ah hby;clear hby;have hsz:=Hb.out.size;go_wp2_with (at_builtin;refine wpList_append_own _ rfl _ _ 63 rfl w.heap.size 5 i0 (.int .u8 0) 1 1 Tryz.underlying63 Hi.out lJ.out lI.out kT.out rfl (by decide) _ _ _ rfl (kZ.out.alloc _) ⟨wr.heap.size,0,none⟩ 1 1 [.int .u8 (x/2^(8*q)%256)] rfl rfl (cell_one_new' _ _ _) (fun u hu=>by simp at hu;subst hu;rfl) (by unfold maxLen;omega) (by omega) (by simp;omega) ?_;intro v' w6 hown6 dN _)
   go_roundg q
   case measure=>omega
   case rel =>
    refine⟨q,rfl,by omega,by go_num,?_,(Hb.out.alloc hsz _).grown dN (by simp;omega) (fun k hk=>(kZ.out.lt k hk).1)⟩;rw[Zy.out]at hown6;have e1:n-q=(n-(q+1))+1:=by omega
    rw[e1,List.range_succ,List.map_append];exact hown6
  ·obtain rfl:k=0:=by omega
   go_wp2_with fail
   go_ret;exact⟨_,rfl,kZ.out,Hb.out⟩
end Go.Proofs.YtiadbhiadhgjkaaGreatDoor
namespace Go.Proofs.YtiadbhiadhgjkaaGreatDoor
open Go.RowKit
structure iP(P:Pool)(o:Int)(L:List Int):Prop where
 nd:L.Nodup
 own:∀f∈L,P.owner f=o
 o0:o≠0
 cnt:bY P.O o P.n=L.length+1
def kV(P:Pool)(L:List Int)(j:Nat):Int:=P.D (((L.getD (j/64) 0).toNat-1)*64+j%64)
def rW(L:List Int):Int:=(L.length:Int)*64
def JL(L:List Int)(off n:Int):Bool:=decide (0<=n)&&decide (0<=off)&&decide (off<=rW L)&&decide (n<=rW L-off)
theorem Cu(L:List Int)(off n:Int):JL L off n=true↔0<=n/\0<=off/\off<=rW L/\n<=rW L-off:=by simp[JL,and_assoc]
theorem iP.there{P:Pool}{o:Int}{L:List Int}(h:iP P o L){f:Int}(hf:f∈L):1<=f/\f<=P.n:=by
 have h1:=h.own f hf;have h2:=h.o0;exact(P.dM f).1 (P.eZ f (by rw[h1];exact h2))
theorem iP.at{P:Pool}{o:Int}{L:List Int}(h:iP P o L){f:Int}(hf:f∈L):P.O (f.toNat-1)=o:=by
 have h1:=h.own f hf;unfold Pool.owner at h1;rw[aD ((P.dM f).2 (h.there hf))]at h1;exact h1
theorem mJ{L:List Int}{i:Nat}(h:i<L.length):L.getD i 0∈L:=by
 have e:L.getD i 0=L[i]:=by simp[List.getD,h]
 rw[e];exact List.getElem_mem h
def lC(w:World)(lo:Nat)(v:Value)(L:List Int):Prop :=
 (v=.slice none 0 0/\L=[]) \/
 ∃g cap cur,v=.slice (some ⟨g,0,none⟩) L.length cap/\lo<=g/\w.heap[g]? = some (.cells cur 3 (0,0))/\L.length<=cap/\cap<=maxLen/\(cap=cur.size\/cap=L.length)/\cap<=cur.size /\
  ∀j,j<L.length->cur[j]? = some (.int .i64 (L.getD j 0))
theorem lC.kept{S:Nat->Prop}{w w':World}{lo:Nat}{v:Value}{L:List Int}(h:lC w lo v L)(k:Kept S w w')(hs:∀g,v.ownBlock=some g->¬S g):lC w' lo v L:=by
 rcases h with h|⟨g,cap,cur,rfl,h1,h2,h3⟩
 ·exact .inl h
 ·exact .inr ⟨g,cap,cur,rfl,h1,k.blk (b:=g) h2 (hs g rfl),h3⟩
theorem lC.lt{w:World}{lo:Nat}{v:Value}{L:List Int}(h:lC w lo v L):∀g,v.ownBlock=some g->lo<=g/\g<w.heap.size:=by
 intro g hg;rcases h with⟨rfl,_⟩|⟨g',cap,cur,rfl,h1,h2,_⟩
 ·cases hg
 ·injection hg with hg;subst hg
  exact⟨h1,(aU.1 h2).1⟩
theorem lC.open{w:World}{lo:Nat}{v:Value}{L:List Int}(h:lC w lo v L) :
  ∃a cap g,v=.slice a L.length cap/\L.length<=cap/\cap<=maxLen/\(0<L.length->a=some ⟨g,0,none⟩)/\∀j,j<L.length->w.cell? ⟨g,j,none⟩=some (.int .i64 (L.getD j 0)):=by
 rcases h with⟨rfl,rfl⟩|⟨g,cap,cur,rfl,h1,h2,h3,h4,h5,h6,h7⟩
 ·exact⟨none,0,0,rfl,aj _,by unfold maxLen;omega,fun h=>absurd h (by simp),fun j hj=>absurd hj (by simp)⟩
 ·exact⟨_,cap,g,rfl,h3,h4,fun _=>rfl,fun j hj=>by rw[aR.cell (b:=g) h2];exact h7 j hj⟩
structure iZ(w:World)(sb si:Nat)(cs:Array Value)(lo:Nat)(v:Value)(L:List Int):Prop where
 hb:aR w sb cs 68
 hc:cs[si]? = some v
 hv:lC w lo v L
 hl:sb<lo
 h16:L.length<=16
theorem iZ.kept{S:Nat->Prop}{w w':World}{sb si:Nat}{cs:Array Value}{lo:Nat}{v:Value}{L:List Int}(h:iZ w sb si cs lo v L)(k:Kept S w w')(h1:¬S sb)(hs:∀g,v.ownBlock=some g->¬S g):iZ w' sb si cs lo v L :=
 ⟨k.blk h.hb h1,h.hc,h.hv.kept k hs,h.hl,h.h16⟩
theorem iZ.below{w w':World}{sb si:Nat}{cs:Array Value}{lo:Nat}{v:Value}{L:List Int}(h:iZ w sb si cs lo v L)(k:Below w.heap.size w w'):iZ w' sb si cs lo v L :=
 h.kept (S:=fun _=>False) (Kept.of_below k) (fun h=>h) (fun _ _ h=>h)
theorem iZ.cell{w:World}{sb si:Nat}{cs:Array Value}{lo:Nat}{v:Value}{L:List Int}(h:iZ w sb si cs lo v L):w.cell? ⟨sb,si,none⟩=some v:=by rw[h.hb.cell];exact h.hc
attribute [local irreducible] World.setCell World.alloc World.drew World.setRow Calls Code.wp row
theorem nK(sb si:Nat)(cs:Array Value)(lo:Nat)(v:Value)(L:List Int)(w:World)(hS:iZ w sb si cs lo v L) :
  Calls Tryz.prog 57 #[.pointer (some ⟨sb,si,none⟩)] w fun e w'=>e=.returned (.int .i64 L.length)/\w=w':=by
 obtain⟨a,cap,g,rfl,h1,h2,h3,h4⟩:=hS.hv.open;have hc:=hS.cell;clear hS h4;go_enter Tryz.func57,Tryz.ntmps57
 go_wp2
 go_ret;exact⟨rfl,rfl⟩
theorem MH(sb si:Nat)(cs:Array Value)(lo:Nat)(v:Value)(L:List Int)(w:World)(hS:iZ w sb si cs lo v L) :
  Calls Tryz.prog 30 #[.pointer (some ⟨sb,si,none⟩)] w fun e w'=>e=.returned (.int .i64 (rW L))/\w=w':=by
 have h16:=hS.h16;have HS:=ah hS;clear hS;go_enter Tryz.func30,Tryz.ntmps30
 go_wp2_with (go_at_call 57;refine(nK sb si cs lo v L _ HS.out).mono ?_;rintro e w' ⟨rfl,rfl⟩)
 go_ret;exact⟨rfl,rfl⟩
theorem EP(sb si:Nat)(cs:Array Value)(lo:Nat)(v:Value)(L:List Int)(off n:Int)(w:World)(hS:iZ w sb si cs lo v L) :
  Calls Tryz.prog 55 #[.pointer (some ⟨sb,si,none⟩),.int .i64 off,.int .i64 n] w fun e w'=>e=.returned (.bool (JL L off n))/\w=w':=by
 have hw:JL L off n=(decide (0<=n)&&decide (0<=off)&&decide (off<=rW L)&&decide (n<=rW L-off)):=rfl;have Hw:=ah hw;clear hw;have h16:=hS.h16;have hs0:0<=rW L/\rW L<=1024:=by unfold rW;omega
 obtain⟨s0,s1⟩:=hs0;have HS:=ah hS;clear hS h16;have K:=ah (fun w (h:iZ w sb si cs lo v L)=>MH sb si cs lo v L w h);by_cases h2:0<=n
 ·by_cases h4:0<=off
  ·by_cases h5:off<=rW L
   ·generalize hS:rW L=S at *
    clear hS;go_enter Tryz.func55,Tryz.ntmps55
    go_wp2_with (go_at_call 30;refine(K.out _ HS.out).mono ?_;rintro e w' ⟨rfl,rfl⟩)
    go_ret;exact⟨by rw[Hw.out];simp[h2,h4,h5],rfl⟩
   ·generalize hS:rW L=S at *
    clear hS;go_enter Tryz.func55,Tryz.ntmps55
    go_wp2_with (go_at_call 30;refine(K.out _ HS.out).mono ?_;rintro e w' ⟨rfl,rfl⟩)
    go_ret;exact⟨by rw[Hw.out];simp;omega,rfl⟩
  ·go_enter Tryz.func55,Tryz.ntmps55
   go_wp2_with fail
   go_ret;exact⟨by rw[Hw.out];simp;omega,rfl⟩
 ·go_enter Tryz.func55,Tryz.ntmps55
  go_wp2_with fail
  go_ret;exact⟨by rw[Hw.out];simp;omega,rfl⟩
structure jr(P P':Pool)(L:List Int)(q d:Nat)(B:Nat->Int):Prop where
 n:P'.n=P.n
 O:P'.O=P.O
 D:∀j,j<L.length*64->kV P' L j=if q<=j/\j<q+d then B (j-q)else kV P L j
 other:∀i,(∀f∈L,i/64≠f.toNat-1)->P'.D i=P.D i
theorem jr.refl(P:Pool)(L:List Int)(q:Nat)(B:Nat->Int):jr P P L q 0 B :=
 ⟨rfl,rfl,fun j _=>by rw[aA (by omega)],fun _ _=>rfl⟩
theorem jr.owner{P P':Pool}{L:List Int}{q d:Nat}{B:Nat->Int}(h:jr P P' L q d B)(f:Int):P'.owner f=P.owner f:=by
 unfold Pool.owner Pool.there;rw[h.n,h.O]
theorem jr.Cw{P P':Pool}{L M:List Int}{q d:Nat}{B:Nat->Int}{o:Int}(h:jr P P' L q d B)(hI:iP P o M):iP P' o M :=
 ⟨hI.nd,fun f hf=>by rw[h.owner];exact hI.own f hf,hI.o0,by rw[h.n,h.O];exact hI.cnt⟩
theorem Ka{L:List Int}(h:L.Nodup){i j:Nat}(hi:i<L.length)(hj:j<L.length)(e:L[i]=L[j]):i=j:=by
 have hp:=List.pairwise_iff_getElem.1 h;rcases Nat.lt_trichotomy i j with g|g|g
 ·exact absurd e (hp i j hi hj g)
 ·exact g
 ·exact absurd e.symm (hp j i hj hi g)
theorem jr.step{P P':Pool}{L:List Int}{q d k:Nat}{B:Nat->Int}{o:Int}(h:jr P P' L q d B)(hI:iP P o L)(hk:(q+d)%64+k<=64)(hp:q+d+k<=L.length*64)(h1:1<=k)(C:Nat->Int)(hC:∀j,j<k->C j=B (d+j))(fr off:Int)(hfr:L.getD ((q+d)/64) 0=fr)(hoff:off=((q+d:Nat):Int)%64)(hfit:P'.fits fr off k=true) :
  jr P (P'.write fr off k C) L q (d+k) B:=by
 have hw:P'.write fr off k C=⟨P'.n,P'.O,fun j=>if(fr.toNat-1)*64+off.toNat<=j/\j<(fr.toNat-1)*64+off.toNat+k then C (j-((fr.toNat-1)*64+off.toNat))else P'.D j⟩:=by
  unfold Pool.write;rw[aD hfit]
 rw[hw];have hol:off.toNat=(q+d)%64:=by omega
 rw[hol];have hpl:(q+d)/64<L.length:=by omega
 have hmem:fr∈L:=by rw[<-hfr];exact mJ hpl
 have t:=hI.there hmem;refine⟨h.n,h.O,fun j hj=>?_,fun i hi=>?_⟩
 ·have hD:=h.D j hj
  show(if _ then _ else _)=_
  have hm:=mJ (show j/64<L.length by omega);have tj:=hI.there hm;by_cases e:j/64=(q+d)/64
  ·rw[e,hfr]
   by_cases c:q+d<=j/\j<q+d+k
   ·rw[aD (by omega),aD (by omega),hC _ (by omega)]
    congr 1;omega
   ·rw[aA (by omega)]
    have hD':P'.D ((fr.toNat-1)*64+j%64)=if q<=j/\j<q+d then B (j-q)else kV P L j:=by
     rw[<-hD];unfold kV;rw[e,hfr]
    rw[hD'];by_cases c2:q<=j/\j<q+d
    ·rw[aD c2,aD (by omega)]
    ·rw[aA c2,aA (by omega)]
  ·have hne:(L.getD (j/64) 0)≠fr:=by
    intro he;rw[<-hfr]at he;have g1:L.getD (j/64) 0=L[j/64]'(by omega):=by simp[List.getD,show j/64<L.length by omega]
    have g2:L.getD ((q+d)/64) 0=L[(q+d)/64]'hpl:=by simp[List.getD,hpl]
    rw[g1,g2]at he;exact e (Ka hI.nd (by omega) hpl he)
   rw[aA (by omega)];have:P'.D (((L.getD (j/64) 0).toNat-1)*64+j%64)=kV P' L j:=rfl
   rw[this,hD];by_cases c2:q<=j/\j<q+d
   ·rw[aD c2,aD (by omega)]
   ·rw[aA c2,aA (by omega)]
 ·have:=hi fr hmem
  show(if _ then _ else _)=_
  rw[aA (by omega)];exact h.other i hi
theorem EY(sb si pb db ob:Nat)(cs:Array Value)(lo:Nat)(v:Value)(L:List Int)(P:Pool)(o:Int)(q:Nat)(a:Option Addr)(m c:Nat)(B:Nat->Int)(w:World)(hS:iZ w sb si cs lo v L)(hP:bB w pb db ob P)(hI:iP P o L)(hf:JL L q m=true)
  (hb:∀w',Kept (PS pb db ob) w w'->BytesIn w' a m B) (hB:∀j,0<=B j/\B j<=255) (hmc:m<=c) (hcm:c<=maxLen) (n1:¬PS pb db ob sb) (n2:∀g,v.ownBlock=some g->¬PS pb db ob g) :
  Calls Tryz.prog 64 #[.pointer (some ⟨sb,si,none⟩),.pointer (some ⟨pb,0,none⟩),.int .i64 q,.slice a m c] w fun e w' =>
   e=.returned (.bool true)/\∃P',bB w' pb db ob P'/\jr P P' L q m B/\Kept (PS pb db ob) w w':=by
 obtain⟨f1,f2,f3,f4⟩:=(Cu _ _ _).1 hf;have hqm:q+m<=L.length*64:=by unfold rW at f3 f4;omega
 have h16:=hS.h16;have HS:=ah hS;have HP:=ah hP;have HI:=ah hI;have Hf:=ah hf;have Hb:=ah hb;have HB:=ah hB;unfold maxLen at hcm;clear hS hP hI hf hb hB f1 f2 f3 f4;go_enter Tryz.func64,Tryz.ntmps64
 go_wp2_with fail
 refine(EP sb si cs lo v L _ _ _ HS.out).mono ?_;rintro e w' ⟨rfl,rfl⟩;rw[Hf.out];go_wp2_with fail
 go_loopg [2,3,9] m (fun g so sb' _ wx=>∃(d:Nat) (a':Option Addr) (P':Pool),d+g=m/\so=.int .i64 ((q+d:Nat):Int)/\sb'=.slice a' (m-d) (c-d)/\(m-d=0\/∃bb bo,a=some ⟨bb,bo,none⟩/\a'=some ⟨bb,bo+d,none⟩)/\bB wx pb db ob P'/\jr P P' L q d B/\Kept (PS pb db ob) w wx)
 case atStart =>
  refine⟨0,a,P,by omega,by simp,by simp,?_,HP.out,jr.refl _ _ _ _,Kept.refl _ _⟩;rcases Hb.out w (Kept.refl _ _)with h0|⟨bb,bo,h1,_⟩
  ·exact .inl (by omega)
  ·exact .inr ⟨bb,bo,h1,by rw[h1];rfl⟩
 case round =>
  obtain⟨d,a',P',hd,rfl,rfl,ha',hP',hD',hK⟩:=hrel;have Ha':=ah ha';have HP':=ah hP';have HD':=ah hD';have HK:=ah hK;clear ha' hP' hD' hK;by_cases hlt:d<m
  ·obtain⟨p,hp⟩:∃p,q+d=p:=⟨_,rfl⟩
   obtain⟨r,hr⟩:∃r,m-d=r:=⟨_,rfl⟩;obtain⟨rc,hrc⟩:∃rc,c-d=rc:=⟨_,rfl⟩;obtain⟨k,hk⟩:∃k,min r (64-p%64)=k:=⟨_,rfl⟩;have hk1:1<=k:=by omega
   have hk2:k<=r:=by omega
   have hk3:p%64+k<=64:=by omega
   have hpl:p/64<L.length:=by omega
   rw[hp,hr,hrc];obtain⟨bb,bo,ha,rfl⟩:=Ha'.out.resolve_left (by omega);have hSr:=HS.out.kept HK.out n1 n2;obtain⟨a2,cap,g,hv,g1,g2,g3,g4⟩:=hSr.hv.open;have ha2:=g3 (by omega);subst ha2;have hcl:=g4 (p/64) hpl;have hcs:=hSr.cell;rw[hv]at hcs;obtain⟨fr,hfr⟩:∃fr,L.getD (p/64) 0=fr:=⟨_,rfl⟩;rw[hfr]at hcl;have hmem:fr∈L:=by rw[<-hfr];exact mJ hpl
   obtain⟨t1,t2⟩:=HI.out.there hmem
   have hfit:P'.fits fr ((p:Int)%64) ((k:Nat):Int)=true:=by
    rw[P'.nS,HD'.out.owner,HI.out.own fr hmem];exact⟨HI.out.o0,by omega,by omega,by omega,by omega⟩
   have SL:=ah hfr;have BL:=ah hfit;have Hp:=ah hp;have Hr:=ah hr;have Hrc:=ah hrc;have Ha:=ah ha;have hkc:(r:Int)<=64-(p:Int)%64/\k=r\/¬(r:Int)<=64-(p:Int)%64/\k=64-p%64:=by omega
   have hpn:p<=1024:=by omega
   have hrn:r<=1024:=by omega
   have ahB:r<=rc:=by omega
   have ahA:rc<=9223372036854775807:=by omega
   clear hSr g4 g3 hv hfr hmem hfit hk ha
   have key:∀(kk:Int) (cc:Nat),kk=(k:Int)->∀wx,bB wx pb db ob P'->Kept (PS pb db ob) w wx->Calls Tryz.prog 90 #[.pointer (some ⟨pb,0,none⟩),.int .i64 fr,.int .i64 ((p:Int)%64),.slice (some ⟨bb,bo+d,none⟩) k cc] wx fun e w' =>
     e=.returned (.bool true)/\bB w' pb db ob (P'.write fr ((p:Int)%64) k fun j=>B (d+j))/\Kept (PS pb db ob) wx w':=by
    rintro kk cc rfl wx hPx hKx;refine zx pb db ob P' _ _ _ _ _ _ _ hPx BL.out (.inr ⟨bb,bo+d,rfl,fun j hj=>?_⟩) (fun j _=>HB.out _);rcases Hb.out wx hKx with h0|⟨b2,o2,h1,h2⟩
    ·omega
    ·have e:=Ha.out
     rw[h1]at e;injection e with e;injection e with e1 e2 _
     subst e1 e2;rw[Nat.add_assoc];exact h2 (d+j) (by have:=Hr.out;omega)
   have Key:=ah key;clear key;rcases hkc with⟨hc,hkr⟩|⟨hc,hkr⟩
   ·subst hkr
    go_wp2_with fail
    have hq1:(p:Int).tdiv 64=(p:Int)/64:=Int.tdiv_eq_ediv_of_nonneg (by omega);have hq2:(p:Int).tmod 64=(p:Int)%64:=bQ (by omega);have hq3:IntKind.i64.wrap ((p:Int)/64)=(p:Int)/64:=aV _ (by omega);have hq4:IntKind.i64.wrap ((p:Int)%64)=(p:Int)%64:=aV _ (by omega);have hq5:(0:Int)<=(p:Int)/64:=by omega
    have hq6:(p:Int)/64<L.length:=by omega
    have hq7:((p:Int)/64).toNat=p/64:=by omega
    have hk0:(0:Int)<=k:=by omega
    have ace:(k:Int)<=rc:=by omega
    obtain⟨Rc,ru⟩:∃Rc:Nat,(if rc=k then bo+d else bo+d+k)=Rc:=⟨_,rfl⟩
    have hsl:∀w,(Instr.slice 63 (.slice (some ⟨bb,bo+d,none⟩) k rc) (some (.int .i64 k)) none none).run Tryz.prog w=.ok (.slice (some ⟨bb,Rc,none⟩) (k-k) (rc-k)) w:=by
     intro w;have hk5:(k:Int)<=k:=by omega
     go_simp
     rw[<-ru];split<;>rfl
    have PU:=ah ru;clear ru;go_still_tail 14,(by kernel_rfl)
    rw[drew_eq wr];go_wp2_with fail
    refine(Key.out _ _ rfl _ HP'.out.drew HK.out.drew).mono ?_;rintro e w5 ⟨rfl,Gn,DL⟩;have HP5:=ah Gn;have HK5:=ah (HK.out.drew.trans DL);clear Gn DL hq1 hq2 hq3 hq4 hq5 hq6 hq7;have hpk:IntKind.i64.wrap ((p:Int)+k)=(p:Int)+k:=aV _ (by omega);go_wp2_with fail
    go_quiet (fail)
    go_wp2_with fail
    go_roundg (m-(d+k))
    case measure=>have:=Hr.out;omega
    case rel =>
     refine⟨d+k,some ⟨bb,Rc,none⟩,_,by have:=Hr.out;omega,by have:=Hp.out;congr 1;omega,?_,?_,HP5.out.drewN _,?_,HK5.out.drewN _⟩
     ·have h1:=Hr.out;have h2:=Hrc.out
      congr 1<;>omega
     ·by_cases e0:m-(d+k)=0
      ·exact .inl e0
      ·refine .inr ⟨bb,bo,Ha.out,?_⟩
       have h1:=Hr.out;have h2:=Hrc.out;rw[<-PU.out,aA (by omega),Nat.add_assoc]
     ·exact HD'.out.step HI.out (by rw[Hp.out];exact hk3) (by have:=Hp.out;have:=Hr.out;omega) hk1 _ (fun _ _=>rfl) fr _ (by rw[Hp.out];exact SL.out) (by rw[Hp.out]) BL.out
   ·have Hkr:=ah hkr;clear hkr
    go_wp2_with fail
    rw[show(64:Int)-(p:Int)%64=(k:Int)by have:=Hkr.out;omega];have hq1:(p:Int).tdiv 64=(p:Int)/64:=Int.tdiv_eq_ediv_of_nonneg (by omega);have hq2:(p:Int).tmod 64=(p:Int)%64:=bQ (by omega);have hq3:IntKind.i64.wrap ((p:Int)/64)=(p:Int)/64:=aV _ (by omega);have hq4:IntKind.i64.wrap ((p:Int)%64)=(p:Int)%64:=aV _ (by omega);have hq5:(0:Int)<=(p:Int)/64:=by omega
    have hq6:(p:Int)/64<L.length:=by omega
    have hq7:((p:Int)/64).toNat=p/64:=by omega
    have hk0:(0:Int)<=k:=by omega
    have ace:(k:Int)<=rc:=by omega
    obtain⟨Rc,ru⟩:∃Rc:Nat,(if rc=k then bo+d else bo+d+k)=Rc:=⟨_,rfl⟩
    have hsl:∀w,(Instr.slice 63 (.slice (some ⟨bb,bo+d,none⟩) r rc) (some (.int .i64 k)) none none).run Tryz.prog w=.ok (.slice (some ⟨bb,Rc,none⟩) (r-k) (rc-k)) w:=by
     intro w;have hk5:(k:Int)<=r:=by omega
     go_simp
     rw[<-ru];split<;>rfl
    have PU:=ah ru;clear ru;go_still_tail 14,(by kernel_rfl)
    rw[drew_eq wr];go_wp2_with fail
    refine(Key.out _ _ rfl _ HP'.out.drew HK.out.drew).mono ?_;rintro e w5 ⟨rfl,Gn,DL⟩;have HP5:=ah Gn;have HK5:=ah (HK.out.drew.trans DL);clear Gn DL hq1 hq2 hq3 hq4 hq5 hq6 hq7;have hpk:IntKind.i64.wrap ((p:Int)+k)=(p:Int)+k:=aV _ (by omega);go_wp2_with fail
    go_quiet (fail)
    go_wp2_with fail
    go_roundg (m-(d+k))
    case measure=>have:=Hr.out;omega
    case rel =>
     refine⟨d+k,some ⟨bb,Rc,none⟩,_,by have:=Hr.out;omega,by have:=Hp.out;congr 1;omega,?_,?_,HP5.out.drewN _,?_,HK5.out.drewN _⟩
     ·have h1:=Hr.out;have h2:=Hrc.out
      congr 1<;>omega
     ·by_cases e0:m-(d+k)=0
      ·exact .inl e0
      ·refine .inr ⟨bb,bo,Ha.out,?_⟩
       have h1:=Hr.out;have h2:=Hrc.out;rw[<-PU.out,aA (by omega),Nat.add_assoc]
     ·exact HD'.out.step HI.out (by rw[Hp.out];exact hk3) (by have:=Hp.out;have:=Hr.out;omega) hk1 _ (fun _ _=>rfl) fr _ (by rw[Hp.out];exact SL.out) (by rw[Hp.out]) BL.out
  ·obtain rfl:d=m:=by omega
   go_wp2_with fail
   go_ret;exact⟨rfl,P',HP'.out,HD'.out,HK.out⟩
end Go.Proofs.YtiadbhiadhgjkaaGreatDoor
namespace Go.Proofs.YtiadbhiadhgjkaaGreatDoor
open Go.RowKit
structure dQ(P P':Pool)(o:Int):Prop where
 n:P'.n=P.n
 O:∀i,i<P.n->P.O i≠0->P.O i≠o->P'.O i=P.O i
 cnt:∀o',o'≠0->o'≠o->bY P'.O o' P.n=bY P.O o' P.n
 D:∀i,i/64<P.n->P.O (i/64)≠0->P.O (i/64)≠o->P'.D i=P.D i
theorem dQ.refl(P:Pool)(o:Int):dQ P P o:=⟨rfl,fun _ _ _ _=>rfl,fun _ _ _=>rfl,fun _ _ _ _=>rfl⟩
theorem dQ.trans{P P' P'':Pool}{o:Int}(h:dQ P P' o)(k:dQ P' P'' o):dQ P P'' o:=by
 refine⟨k.n.trans h.n,fun i hi h0 h1=>?_,fun o' h0 h1=>?_,fun i hi h0 h1=>?_⟩
 ·have e:=h.O i hi h0 h1
  rw[k.O i (by rw[h.n];exact hi) (by rw[e];exact h0) (by rw[e];exact h1),e]
 ·have:=k.cnt o' h0 h1
  rw[h.n]at this;rw[this,h.cnt o' h0 h1]
 ·have e:=h.O _ hi h0 h1
  rw[k.D i (by rw[h.n];exact hi) (by rw[e];exact h0) (by rw[e];exact h1),h.D i hi h0 h1]
theorem dQ.Cw{P P':Pool}{o o':Int}{M:List Int}(h:dQ P P' o)(hM:iP P o' M)(hne:o'≠o):iP P' o' M:=by
 refine⟨hM.nd,fun f hf=>?_,hM.o0,by rw[h.n,h.cnt o' hM.o0 hne];exact hM.cnt⟩;obtain⟨t1,t2⟩:=hM.there hf;have ha:=hM.at hf;unfold Pool.owner;rw[aD ((P'.dM f).2 ⟨t1,by rw[h.n];exact t2⟩),h.O _ (by omega) (by rw[ha];exact hM.o0) (by rw[ha];exact hne),ha]
theorem dQ.kV{P P':Pool}{o o':Int}{M:List Int}(h:dQ P P' o)(hM:iP P o' M)(hne:o'≠o)(j:Nat)(hj:j<M.length*64):kV P' M j=kV P M j:=by
 have hm:=mJ (show j/64<M.length by omega);obtain⟨t1,t2⟩:=hM.there hm;have ha:=hM.at hm;have e:(((M.getD (j/64) 0).toNat-1)*64+j%64)/64=(M.getD (j/64) 0).toNat-1:=by omega
 unfold Go.Proofs.YtiadbhiadhgjkaaGreatDoor.kV;refine h.D _ (by rw[e];omega) (by rw[e,ha];exact hM.o0) (by rw[e,ha];exact hne)
theorem iP.pop{P:Pool}{o:Int}{L:List Int}{f:Int}(h:iP P o (L++[f])) :
  iP (P.free f) o L/\dQ P (P.free f) o/\(P.free f).left=P.left+1/\∀j,j<L.length*64->kV (P.free f) L j=kV P (L++[f]) j:=by
 have hf:f∈L++[f]:=by simp
 have ha:=h.at hf;obtain⟨t1,t2⟩:=h.there hf
 have hfr:P.free f=⟨P.n,dU P.O (f.toNat-1) 0,P.D⟩:=by
  unfold Pool.free;rw[aD (by rw[h.own f hf];exact h.o0)]
 have hnf:∀g∈L,g≠f:=by
  intro g hg e;have:=List.nodup_append.1 h.nd;exact this.2.2 g hg f (by simp) e
 rw[hfr];have hc:=fu P.O o 0 (f.toNat-1) P.n (by omega);rw[ha,aD rfl,aA (fun e=>h.o0 e.symm)]at hc;have ach:=iX P.O 0 (f.toNat-1) P.n (by omega);rw[ha,aA h.o0,aD rfl]at ach;have hcn:=h.cnt;simp only[aO,aZ,List.length_nil]at hcn;refine⟨⟨(List.nodup_append.1 h.nd).1,fun g hg=>?_,h.o0,by simp only at *;omega⟩,⟨rfl,fun i hi h0 h1=>?_,fun o' h0 h1=>?_,fun _ _ _ _=>rfl⟩,by unfold Pool.left;simp only;omega,fun j hj=>?_⟩
 ·have hg':g∈L++[f]:=by simp[hg]
  obtain⟨s1,s2⟩:=h.there hg';have:=hnf g hg;unfold Pool.owner;rw[aD (by rw[Pool.dM];exact⟨s1,s2⟩)];show dU P.O _ 0 _=o
  rw[bL _ _ _ _ (by omega)];exact h.at hg'
 ·show dU P.O _ 0 i=_
  rw[bL _ _ _ _ (by rintro rfl;exact h1 ha)]
 ·have hc:=fu P.O o' 0 (f.toNat-1) P.n (by omega)
  rw[ha,aA (fun e=>h1 e.symm),aA (fun e=>h0 e.symm)]at hc;exact hc
 ·show P.D _=P.D _
  have e:(L++[f]).getD (j/64) 0=L.getD (j/64) 0:=by
   have:j/64<L.length:=by omega
   simp[List.getD,List.getElem?_append_left this]
  rw[e]
theorem iP.push{P:Pool}{o:Int}{L:List Int}(h:iP P o L)(hl:1<=P.left) :
  iP (P.alloc o) o (L++[P.bJ o])/\dQ P (P.alloc o) o/\(P.alloc o).left+1=P.left /\
  (∀j,j<L.length*64->kV (P.alloc o) (L++[P.bJ o]) j=kV P L j)/\∀j,L.length*64<=j->j<L.length*64+64->kV (P.alloc o) (L++[P.bJ o]) j=0:=by
 have xR:firstFree P.O P.n<P.n:=by
  have h1:=iG P.O P.n;rcases Nat.lt_or_ge (firstFree P.O P.n) P.n with h2|h2
  ·exact h2
  ·have:=(mK P.O P.n).2 (by omega)
   unfold Pool.left at hl;omega
 have hz0:=iY P.O P.n xR;obtain⟨z,hz⟩:∃z,firstFree P.O P.n=z:=⟨_,rfl⟩;have hc:o≠0/\firstFree P.O P.n<P.n:=⟨h.o0,xR⟩;have hr:P.bJ o=(z:Int)+1:=by unfold Pool.bJ;rw[aD hc,hz]
 have ha:P.alloc o=⟨P.n,dU P.O z o,fun j=>if z*64<=j/\j<z*64+64 then 0 else P.D j⟩:=by unfold Pool.alloc;rw[aD hc,hz]
 rw[hz]at xR hz0;rw[hr,ha]
 have hno:∀g∈L,g.toNat-1≠z:=fun g hg e=>by
  have:=h.at hg;rw[e,hz0]at this;exact h.o0 this.symm
 have Qu:=fu P.O o o z P.n xR;rw[hz0,aA (fun e=>h.o0 e.symm),aD rfl]at Qu;have hfu:=iX P.O o z P.n xR;rw[hz0,aD rfl,aA h.o0]at hfu;have hcn:=h.cnt;refine⟨⟨?_,fun g hg=>?_,h.o0,by simp only[aO,aZ,List.length_nil];omega⟩,⟨rfl,fun i hi h0 h1=>?_,fun o' h0 h1=>?_,fun i hi h0 h1=>?_⟩,by unfold Pool.left;simp only;omega,fun j hj=>?_,fun j hj1 hj2=>?_⟩
 ·rw[List.nodup_append]
  refine⟨h.nd,by simp,fun a hal b hb e=>?_⟩;have hb:b=(z:Int)+1:=by simpa using hb
  subst e;subst hb;exact hno _ hal (by omega)
 ·unfold Pool.owner
  rcases List.mem_append.1 hg with hg|hg
  ·obtain⟨s1,s2⟩:=h.there hg
   rw[aD (by rw[Pool.dM];exact⟨s1,s2⟩)];show dU P.O z o _=o
   rw[bL _ _ _ _ (hno g hg)];exact h.at hg
  ·have hb:g=(z:Int)+1:=by simpa using hg
   subst hb;rw[aD (by rw[Pool.dM];exact⟨by omega,by show(z:Int)+1<=P.n;omega⟩)];show dU P.O z o _=o
   rw[show((z:Int)+1).toNat-1=z by omega,dZ]
 ·show dU P.O z o i=_
  rw[bL _ _ _ _ (by rintro rfl;exact h0 hz0)]
 ·have hc:=fu P.O o' o z P.n xR
  rw[hz0,aA (fun e=>h0 e.symm),aA (fun e=>h1 e.symm)]at hc;exact hc
 ·show(if _ then _ else _)=_
  rw[aA];intro e;have:i/64=z:=by omega
  rw[this]at h0;exact h0 hz0
 ·have e:(L++[(z:Int)+1]).getD (j/64) 0=L.getD (j/64) 0:=by
   have:j/64<L.length:=by omega
   simp[List.getD,List.getElem?_append_left this]
  have hm:=mJ (show j/64<L.length by omega);have:=hno _ hm;unfold kV;rw[e];show(if _ then _ else _)=_
  rw[aA (by omega)]
 ·have e:(L++[(z:Int)+1]).getD (j/64) 0=(z:Int)+1:=by
   have:j/64=L.length:=by omega
   simp[List.getD,this]
  unfold kV;rw[e];show(if _ then _ else _)=_
  rw[aD (by omega)]
theorem Bb:(Tryz.prog.info? 3).map (fun i=>(i.zero,i.size,i.bytes))=some (some (.int .i64 0),1,8):=by kernel_rfl
theorem lC.Nu{w:World}{lo:Nat}{v:Value}{L:List Int}{x:Int}(h:w.ownsRow lo 3 1 v (L.length+1) (L.map (Value.int .i64)++[.int .i64 x])):lC w lo v (L++[x]):=by
 obtain⟨g,cap,cur,rfl,h1,h2,h3,h4,h5,h6⟩:=h.2.resolve_left (by rintro⟨_,h0⟩;omega);refine .inr ⟨g,cap,cur,by simp,h1,h2,by simpa using h3,h4,.inl (by omega),by omega,fun j hj=>?_⟩;have hj':j<L.length+1:=by simpa using hj
 have:cur.toList[j]? = (L.map (Value.int .i64)++[Value.int .i64 x])[j]?:=by
  rw[<-h6,List.getElem?_take,aD (by omega)]
 rw[<-Array.getElem?_toList,this];have e:L.map (Value.int .i64)++[Value.int .i64 x]=(L++[x]).map (Value.int .i64):=by simp
 rw[e,dF,aQ hj];simp only[Option.map_some,List.getD,aQ hj,Option.getD_some]
theorem Lu{w:World}{lo:Nat}{v:Value}{L:List Int}(x:Int){nb nc:Nat}(ty:TypeId)(h:lC w lo v L)(hlo:lo<=w.heap.size)(hn:w.cell? ⟨nb,0,none⟩=some (.int .i64 x))(h16:L.length<=16) :
  ∃v' w',(Builtin.append_ #[34,34] ty #[v,.slice (some ⟨nb,0,none⟩) 1 nc]).run Tryz.prog w=.ok v' w'/\lC w' lo v' (L++[x])/\Kept (fun k=>v.ownBlock=some k) w w'/\∀g,v'.ownBlock=some g->v.ownBlock=some g\/w.heap.size<=g:=by
 obtain⟨i0,hi,hz0,hz1,hz2⟩:=info_parts Bb
 have hnews:∀j u,[Value.int .i64 x][j]? = some u->w.cell? ((⟨nb,0,none⟩:Addr).add j)=some u:=by
  intro j u h
  have hj:j=0:=by
   rcases Nat.eq_zero_or_pos j with e|e
   ·exact e
   ·rw[List.getElem?_eq_none (by simp;omega)]at h;cases h
  subst hj;rw[Addr.add_lit,hn];simpa using h
 have hown:w.ownsRow lo 3 1 v L.length (L.map (Value.int .i64))->∃v' w',(Builtin.append_ #[34,34] ty #[v,.slice (some ⟨nb,0,none⟩) 1 nc]).run Tryz.prog w=.ok v' w'/\lC w' lo v' (L++[x])/\Kept (fun k=>v.ownBlock=some k) w w'/\∀g,v'.ownBlock=some g->v.ownBlock=some g\/w.heap.size<=g:=by
  intro ho;obtain⟨v',w',hr,ho',hg,_,hb⟩:=run_append_own_at (P:=Tryz.prog) w lo 34 ty 3 i0 (.int .i64 0) 1 8 Tryz.underlying34 hi hz0 hz1 hz2 rfl (by decide) v L.length _ ho ⟨nb,0,none⟩ 1 nc [.int .i64 x] rfl hnews (fun u hu=>by simp at hu;subst hu;rfl) (by unfold maxLen;omega) (by omega) hlo;refine⟨v',w',hr,lC.Nu ho',⟨hg.os,hg.tape,hg.output,hg.size,fun k hk hs=>hg.block k hk (fun e=>hs e.symm)⟩,fun g hg'=>?_⟩;rcases hb with e|e
  ·exact .inl (by rw[<-e];exact hg')
  ·right;rw[e]at hg';injection hg' with hg';omega
 rcases h with⟨rfl,rfl⟩|⟨g,cap,cur,rfl,h1,h2,h3,h4,h5,h6,h7⟩
 ·exact hown (cu _ _ _ _)
 ·by_cases hc:cap=cur.size
  ·refine hown ⟨by simp,.inr ⟨g,cap,cur,rfl,h1,h2,h3,h4,by omega,?_⟩⟩
   refine List.ext_getElem? fun j=>?_
   rw[List.getElem?_take,dF];by_cases hj:j<L.length
   ·rw[aD (by omega),Array.getElem?_toList,h7 j hj]
    simp[List.getD,hj]
   ·rw[aA (by omega)];simp[Nat.le_of_not_lt hj]
  ·have hcl:cap=L.length:=h5.resolve_left hc
   have holds:∀j u,(L.map (Value.int .i64))[j]? = some u->w.cell? ((⟨g,0,none⟩:Addr).add j)=some u:=by
    intro j u hu;rw[dF]at hu;by_cases hj:j<L.length
    ·rw[Addr.add_lit,Nat.zero_add,aR.cell (b:=g) h2,h7 j hj]
     simp[hj]at hu;rw[<-hu];simp[List.getD,hj]
    ·simp[Nat.le_of_not_lt hj]at hu
   obtain⟨v',w',hr,ho',hg⟩:=run_append_arg_grows (P:=Tryz.prog) w 34 ty 3 i0 (.int .i64 0) 1 8 Tryz.underlying34 hi hz0 hz1 hz2 rfl (by decide) ⟨g,0,none⟩ L.length cap (L.map (Value.int .i64)) (by simp) holds ⟨nb,0,none⟩ 1 nc [.int .i64 x] rfl hnews (by omega) (by unfold maxLen;omega) (by omega)
   have hlow:w'.ownsRow lo 3 1 v' (L.length+1) (L.map (Value.int .i64)++[.int .i64 x]) :=
    ⟨ho'.1,ho'.2.imp id fun⟨g,cap,cur,h1,h2,h3⟩=>⟨g,cap,cur,h1,bD hlo h2,h3⟩⟩
   exact⟨v',w',hr,lC.Nu hlow,⟨hg.os,hg.tape,hg.output,hg.size,fun k hk _=>hg.block k hk (by simp)⟩,fun k hk=>.inr (ho'.lt k hk).1⟩
theorem lC.cut{w:World}{lo g cap n:Nat}{L:List Int}{f:Int}(h:lC w lo (.slice (some ⟨g,0,none⟩) n cap) (L++[f])):lC w lo (.slice (some ⟨g,0,none⟩) L.length L.length) L:=by
 rcases h with⟨h,_⟩|⟨g',cap',cur,e,h1,h2,h3,h4,h5,h6,h7⟩
 ·cases h
 ·injection e with e1 e2 e3
  injection e1 with e1;injection e1 with e1 _ _
  subst e1;have hl:(L++[f]).length=L.length+1:=by simp
  refine .inr ⟨g,L.length,cur,rfl,h1,h2,aj _,by omega,.inr rfl,by omega,fun j hj=>?_⟩;rw[h7 j (by omega)];simp[List.getD,List.getElem?_append_left hj]
theorem Gs{P:Program}{a:Act}{w w':World}{d:Option Tmp}{t:TypeId}{p:String}{e:Array Edge}{g:Option (Nat×Bool)}{T:TypeId}{x y:Operand}{u v r:Value}(hx:a.eval x=u)(hy:a.eval y=v)(hr:(Builtin.append_ #[T,T] t #[u,v]).run P w=.ok r w') :
  (execOp a.eval ⟨d,.call { callee:=.builtin .append,args:=#[x,y],argTypes:=#[T,T] },t,p,e,g⟩).run P w=.ok (.value r) w':=by
 simp only[execOp,resolve,invoke,builtin,Sem.run_bind,Sem.run_pure,Result.andThen_ok,List.map_toArray,bW,List.map_nil,hx,hy,hr]
end Go.Proofs.YtiadbhiadhgjkaaGreatDoor
