import Derived.Test.YtiadbhiadhgjkaaGreatDoorZzWoHm
import Derived.Test.YtiadbhiadhgjkaaGreatDoorZzLib
set_option maxRecDepth 100000
set_option maxHeartbeats 4000000
namespace Go.Proofs.YtiadbhiadhgjkaaGreatDoor
open Go.RowKit
attribute [local irreducible] World.setCell World.alloc World.drew World.setRow Calls Code.wp row
def RS(pb db ob sb:Nat)(v:Value):Nat->Prop:=fun k=>PS pb db ob k\/k=sb\/v.ownBlock=some k
def MP(P:Pool)(L:List Int)(o n:Int):Bool:=decide (0<=n)&&decide (n<=16)&&decide (n<=(L.length:Int)+P.left)&&(o != 0)
theorem Cv(P:Pool)(L:List Int)(o n:Int):MP P L o n=true↔0<=n/\n<=16/\n<=(L.length:Int)+P.left/\o≠0:=by simp[MP,and_assoc]
structure iy(w w':World)(sb si pb db ob:Nat)(cs:Array Value)(lo:Nat)(v:Value)(L:List Int)(P:Pool)(o:Int)(n:Nat)(v':Value)(L':List Int)(P':Pool):Prop where
 pool:bB w' pb db ob P'
 seg:iZ w' sb si (cs.setIfInBounds si v') lo v' L'
 inn:iP P' o L'
 len:L'.length=n
 mv:dQ P P' o
 left:P'.left+n=P.left+L.length
 data:∀j,j<n*64->kV P' L' j=if j<L.length*64 then kV P L j else 0
 first:∀i,i<n->i<L.length->L'.getD i 0=L.getD i 0
 kept:Kept (RS pb db ob sb v) w w'
 own:∀g,v'.ownBlock=some g->v.ownBlock=some g\/w.heap.size<=g
structure YR(w0:World)(sb si pb db ob:Nat)(cs:Array Value)(lo:Nat)(v:Value)(L:List Int)(P:Pool)(o:Int)(b7 b8 b9 b12:Option Bool)(t83 t84:Value)(wx:World):Prop where
 pool:bB wx pb db ob (if b7=some true then P.alloc o else P)
 seg:b9≠some true->iZ wx sb si cs lo v L
 k0:Kept (RS pb db ob sb v) w0 wx
 g8:b8=some true->b9≠some true->∃nb,t83=.slice (some ⟨nb,0,none⟩) 1 1/\wx.cell? ⟨nb,0,none⟩=some (.int .i64 (P.bJ o))
 g9:b9=some true->b12≠some true->aR wx sb cs 68/\lC wx lo t84 (L++[P.bJ o])/\∀g,t84.ownBlock=some g->v.ownBlock=some g\/w0.heap.size<=g
 g12:b12=some true->∃v',aR wx sb (cs.setIfInBounds si v') 68/\lC wx lo v' (L++[P.bJ o])/\∀g,v'.ownBlock=some g->v.ownBlock=some g\/w0.heap.size<=g
section
variable {P:Program}{a:Act}{w w':World}{d:Option Tmp}{t:TypeId}{p:String}{e:Array Edge}{g:Option (Nat×Bool)}{x y:Operand}{u v:Value}
theorem kP{T:TypeId}(hx:a.eval x=u)(hy:a.eval y=v)(hr:(Instr.storeAt T u v).run P w=.ok () w'):(execOp a.eval ⟨d,.store T x y,t,p,e,g⟩).run P w=.ok .skip w':=by
 simp[execOp,hx,hy,hr,Result.andThen]
theorem dh{q:Addr}(hx:a.eval x=u)(hu:u=.pointer (some q)):(execOp a.eval ⟨d,.nilCheck x,t,p,e,g⟩).run P w=.ok (.value (.pointer (some q))) w:=by
 subst hu;simp[execOp,hx]
theorem xW{T:TypeId}{n:Nat}(hx:a.eval x=u)(hr:(Instr.buildSlice T n #[(0,u)]).run P w=.ok v w'):(execOp a.eval ⟨d,.buildSlice T n #[(0,x)],t,p,e,g⟩).run P w=.ok (.value v) w':=by
 simp[execOp,hx,hr,Result.andThen]
end
theorem Ti(b i:Nat)(w:World):(Instr.fieldAt 60 (.pointer (some ⟨b,i,none⟩)) 0).run Tryz.prog w=.ok (.pointer (some ⟨b,i,none⟩)) w:=by go_simp;try rfl
theorem Rs{w:World}{q:Addr}{x:Option Addr}{n c:Nat}(h:w.cell? q=some (.slice x n c)):(Instr.loadAt 34 (.pointer (some q))).run Tryz.prog w=.ok (.slice x n c) w:=by go_simp;try rfl
theorem QH{w:World}{q:Addr}{v0:Value}{x:Option Addr}{n c:Nat}(h:w.cell? q=some v0)(hf:w.frozen? q=false):(Instr.storeAt 34 (.pointer (some q)) (.slice x n c)).run Tryz.prog w=.ok () (w.setCell q (.slice x n c)):=by go_simp;try rfl
theorem Sv(x:Int)(w:World):(Instr.buildSlice 34 1 #[(0,.int .i64 x)]).run Tryz.prog w=.ok (.slice (some ⟨w.heap.size,0,none⟩) 1 1) (w.alloc (.cells #[.int .i64 x] 3)):=by go_simp;try rfl
theorem zH(cs:Array Value)(i:Nat)(u v:Value):(cs.setIfInBounds i u).setIfInBounds i v=cs.setIfInBounds i v:=by simp
theorem Fe(cs:Array Value)(i:Nat)(u v:Value)(h:cs[i]? = some u):(cs.setIfInBounds i v)[i]? = some v:=by
 have:=(aU.1 h).1;simp[this]
theorem dz(cs:Array Value)(i:Nat)(u:Value)(h:cs[i]? = some u):cs.setIfInBounds i u=cs:=by
 apply Array.ext_getElem?;intro j;rw[Array.getElem?_setIfInBounds];by_cases e:i=j
 ·subst e
  rw[aD rfl,aD (aU.1 h).1,h]
 ·rw[aA e]
section
variable {w w':World}{sb si pb db ob:Nat}{cs:Array Value}{lo:Nat}{v:Value}{L:List Int}{P:Pool}{o:Int}
theorem iy.start(hS:iZ w sb si cs lo v L)(hP:bB w pb db ob P)(hI:iP P o L)(k:Nat):iy w (w.drewN k) sb si pb db ob cs lo v L P o L.length v L P:=by
 refine⟨hP.drewN k,?_,hI,rfl,dQ.refl _ _,rfl,fun j hj=>by rw[aD hj],fun _ _ _=>rfl,(Kept.refl _ _).drewN k,fun g h=>.inl h⟩;rw[dz _ _ _ hS.hc];exact hS.kept (S:=fun _=>False) ((Kept.refl _ _).drewN k) (fun h=>h) (fun _ _ h=>h)
theorem iy.pop{wr w5:World}{M:List Int}{f:Int}{g cap n1:Nat}{P1:Pool}(h:iy w wr sb si pb db ob cs lo v L P o (M.length+1) (.slice (some ⟨g,0,none⟩) n1 cap) (M++[f]) P1)
  (Gn:bB w5 pb db ob (P1.free f)) (DL:Kept (PS pb db ob) wr w5) (hN1:¬PS pb db ob sb) (hN2:∀g,lo<=g->¬PS pb db ob g) (hc:cs[si]? = some v) :
  iy w (w5.setCell ⟨sb,si,none⟩ (.slice (some ⟨g,0,none⟩) M.length M.length)) sb si pb db ob cs lo v L P o M.length (.slice (some ⟨g,0,none⟩) M.length M.length) M (P1.free f):=by
 obtain⟨i1,i2,i3,i4⟩:=h.inn.pop;have hgl:=h.seg.hv.lt g rfl;have hsl:=h.seg.hl;have hS5:=h.seg.kept DL hN1 (fun k hk=>hN2 k (by have e:some g=some k:=hk;injection e with e;omega));have hll:=h.left;refine⟨Gn.kept (S:=fun k=>k=sb) ((Kept.refl _ _).bC _ _ _ rfl) (fun e=>hN1 (.inl e.symm)) (fun e=>hN1 (.inr (.inl e.symm))) (fun e=>hN1 (.inr (.inr e.symm))),?_,i1,rfl,h.mv.trans i2,by omega,fun j hj=>?_,fun i hi hl=>?_,?_,?_⟩
 ·refine⟨?_,Fe _ _ _ _ hc,?_,hsl,by have:=h.seg.h16;simp at this;omega⟩
  ·have:=hS5.hb.set si (.slice (some ⟨g,0,none⟩) M.length M.length)
   rwa [zH]at this
  ·have:=hS5.hv.cut
   exact this.kept (S:=fun k=>k=sb) ((Kept.refl _ _).bC _ _ _ rfl) (fun k hk=>by have e:some g=some k:=hk;injection e with e;omega)
 ·rw[i4 j hj];exact h.data j (by omega)
 ·have:=h.first i (by omega) hl
  rw[<-this];simp[List.getD,List.getElem?_append_left hi]
 ·refine(h.kept.then (DL.mono fun k _ hk=>Or.inl hk) (fun k _ hk=>hk)).bC _ _ _ (.inr (.inl rfl))
 ·intro k hk
  exact h.own k hk
theorem iy.push{wr w5:World}{M:List Int}{v1 v2:Value}{P1:Pool}(h:iy w wr sb si pb db ob cs lo v L P o M.length v1 M P1)(hl:1<=P1.left)(hLM:L.length<=M.length)(hM:M.length<16)
  (Gn:bB w5 pb db ob (P1.alloc o)) (ni:aR w5 sb ((cs.setIfInBounds si v1).setIfInBounds si v2) 68) (hF5:lC w5 lo v2 (M++[P1.bJ o])) (TK:∀g,v2.ownBlock=some g->v1.ownBlock=some g\/wr.heap.size<=g)
  (DL:Kept (RS pb db ob sb v1) wr w5) (hc:cs[si]? = some v) :
  iy w w5 sb si pb db ob cs lo v L P o (M++[P1.bJ o]).length v2 (M++[P1.bJ o]) (P1.alloc o):=by
 obtain⟨i1,i2,i3,i4,i5⟩:=h.inn.push hl;have hll:=h.left;have hsz:=h.kept.size;have hlen:(M++[P1.bJ o]).length=M.length+1:=by simp
 refine⟨Gn,⟨by rwa [zH]at ni,Fe _ _ _ _ hc,hF5,h.seg.hl,by omega⟩,i1,rfl,h.mv.trans i2,by omega,fun j hj=>?_,fun i hi hL=>?_,?_,?_⟩
 ·rw[hlen]at hj
  by_cases e:j<M.length*64
  ·rw[i4 j e];exact h.data j e
  ·rw[i5 j (by omega) (by omega),aA (by omega)]
 ·rw[<-h.first i (by omega) hL];simp[List.getD,List.getElem?_append_left (show i<M.length by omega)]
 ·refine h.kept.then DL (fun k hk hs=>?_)
  rcases hs with hs|hs|hs
  ·exact .inl hs
  ·exact .inr (.inl hs)
  ·rcases h.own k hs with e|e
   ·exact .inr (.inr e)
   ·omega
 ·intro k hk
  rcases TK k hk with e|e
  ·exact h.own k e
  ·right;omega
end
theorem Fx(sb si pb db ob:Nat)(cs:Array Value)(lo:Nat)(v:Value)(L:List Int)(P:Pool)(o:Int)(n:Nat)(w:World)(hS:iZ w sb si cs lo v L)(hP:bB w pb db ob P)(hI:iP P o L)(hf:MP P L o n=true)
  (hlo:lo<=w.heap.size) (n1:¬PS pb db ob sb) (n2:∀g,lo<=g->¬PS pb db ob g) :
  Calls Tryz.prog 89 #[.pointer (some ⟨sb,si,none⟩),.pointer (some ⟨pb,0,none⟩),.int .u64 o,.int .i64 n] w fun e w'=>e=.returned (.bool true)/\∃v' L' P',iy w w' sb si pb db ob cs lo v L P o n v' L' P':=by
 obtain⟨c1,c2,c3,c4⟩:=(Cv P L o n).1 hf;have hcs:=hS.cell;have h16:=hS.h16;have hll:=uV P.O P.n;have hhi:=hP.hi;have hlf:P.left<=4096:=by unfold Pool.left;omega
 have Kl:=ah (fun k=>(tF pb db ob P (w.drewN k) (hP.drewN k)).mono fun e w' (h:e=_/\_=w')=>(⟨h.1,h.2.symm⟩:e=_/\w'=w.drewN k));have hsum:IntKind.i64.wrap ((L.length:Int)+P.left)=(L.length:Int)+P.left:=aV _ (by omega);have d1:decide ((n:Int)<0)=false:=by simp
 have d2:decide (16<(n:Int))=false:=by simpa using c2
 have d3:decide ((L.length:Int)+P.left<(n:Int))=false:=by simpa using c3
 have d4:(o==0)=false:=by simpa using c4
 have HS:=ah hS;have HP:=ah hP;have HI:=ah hI;have SI:=ah hlo;have Hc3:=ah c3;have Hc4:=ah c4;obtain⟨a,cap,g,hv,g1,g2,g3,g4⟩:=hS.hv.open;rw[hv]at hcs;clear hS hP hI hlo hf hll c1 c3 c4 g4 g3 hv;go_enter Tryz.func89,Tryz.ntmps89
 go_wp2_with fail
 go_quiet ((go_at_call 62;exact Calls.quiet_of_same (Kl.out _)))
 clear d1 d2 d3 d4 hsum Kl hcs g1 g2;have hn16:n<=16:=by omega
 have ZI:=ah (iy.start HS.out HP.out HI.out nq);go_wp2_with fail
 go_loopg [9] L.length (fun g _ wx=>∃(v1:Value) (M:List Int) (P1:Pool),M.length=g/\iy w wx sb si pb db ob cs lo v L P o M.length v1 M P1/\(n<=M.length\/M.length=L.length))
 case atStart=>exact⟨v,L,P,rfl,ZI.out,.inr rfl⟩
 case round =>
  obtain⟨v1,M,P1,YG,hR,Ym⟩:=hrel;have HR:=ah hR;have Zo:=ah Ym;have HMg:=ah YG;have Vv:=hR.seg.h16;clear hR Ym YG ZI;by_cases hlt:n<M.length
  ·obtain⟨M',f,rfl⟩:∃M' f,M=M'++[f]:=⟨M.dropLast,M.getLast (by rintro rfl;simp at hlt),(List.dropLast_concat_getLast _).symm⟩
   have hlen:(M'++[f]).length=M'.length+1:=by simp
   obtain⟨a1,Lh,g1,hv1,e1,e2,e3,e4⟩:=HR.out.seg.hv.open;obtain rfl:=e3 (by omega);have hcl:=e4 M'.length (by omega);have hfe:(M'++[f]).getD M'.length 0=f:=by simp[List.getD]
   rw[hfe]at hcl;have hcs:=HR.out.seg.cell;rw[hv1,hlen]at hcs;have HR':Hid (iy w wr sb si pb db ob cs lo v L P o (M'.length+1) (.slice (some ⟨g1,0,none⟩) (M'++[f]).length Lh) (M'++[f]) P1):=by unfold Hid;rw[<-hv1,<-hlen];exact HR.out
   rw[hlen]at hlt e1 Vv;have VY:=ah hv1;have ahy:=HR'.out.kept.size;clear hfe e4 hv1 HR hlen
   have hsl:∀w,(Instr.slice 34 (.slice (some ⟨g1,0,none⟩) (M'.length+1) Lh) none (some (.int .i64 M'.length)) (some (.int .i64 M'.length))).run Tryz.prog w=.ok (.slice (some ⟨g1,0,none⟩) M'.length M'.length) w:=by
    intro w;have h1:(M'.length:Int)<=Lh:=by omega
    go_simp
   have abV:(n:Int)<(M'.length:Int)+1:=by omega
   go_wp2_with fail
   refine(xS pb db ob P1 f _ HR'.out.pool).mono ?_;rintro e w5 ⟨rfl,Gn,DL⟩;have hS5:=HR'.out.seg.kept DL n1 (fun k hk=>n2 k (HR'.out.seg.hv.lt k hk).1);have acn:=hS5.cell;have Yw:=hS5.hb.free si;rw[show(M'++[f]).length=M'.length+1 by simp]at acn;have Qd:=ah (HR'.out.pop Gn DL n1 n2 HS.out.hc);clear Gn DL hS5 hcs hcl;go_wp2_with fail
   go_roundg M'.length
   case measure=>have:=HMg.out;simp at this;omega
   case rel=>exact⟨_,M',_,rfl,Qd.out,.inl (by omega)⟩
  ·have hge:M.length<=n:=by omega
   have Zn:Hid (M.length=n\/L.length<=M.length):=by have:=Zo.out;unfold Hid;omega
   obtain⟨a1,Lh,g1,hv1,e1,e2,e3,e4⟩:=HR.out.seg.hv.open;have hcs:=HR.out.seg.cell;rw[hv1]at hcs;clear e4 e3 hv1 Zo HMg;have hnlt:¬(n:Int)<M.length:=by omega
   go_wp2_with fail
   clear hcs;go_loopg [75] (n-M.length) (fun g _ wx=>∃(v1:Value) (M:List Int) (P1:Pool),n-M.length=g/\M.length<=n/\iy w wx sb si pb db ob cs lo v L P o M.length v1 M P1/\(M.length=n\/L.length<=M.length))
   case atStart=>exact⟨v1,M,P1,rfl,hge,HR.out,Zn.out⟩
   case round =>
    clear HR Zn hnlt hge hlt Vv e1 e2;obtain⟨v1,M,P1,YG,hge,hR,Ym⟩:=hrel;have HR:=ah hR;have Zo:=ah Ym;have HMg:=ah YG;have Vv:=hR.seg.h16;obtain⟨a1,Lh,g1,hv1,e1,e2,e3,e4⟩:=hR.seg.hv.open;have hcs:=hR.seg.cell;rw[hv1]at hcs;have hll:=hR.left;have VY:=ah hv1;have Hlr:Hid (lo<=wr.heap.size):=bD SI.out hR.kept.size;have Hc1:Hid ((cs.setIfInBounds si v1)[si]? = some v1):=Fe _ _ _ _ HS.out.hc;have Lv:Hid (sb<lo):=HS.out.hl;clear hR Ym YG e4 e3 hv1;by_cases hlt:M.length<n
    ·have abV:(M.length:Int)<n:=by omega
     have hpl:1<=P1.left:=by have:=Zo.out;have:=Hc3.out;omega
     have HLM:Hid (L.length<=M.length):=by have:=Zo.out;unfold Hid;omega
     have HPx:=ah HR.out.pool.drew;have HSx:Hid (iZ wr.drew sb si (cs.setIfInBounds si v1) lo v1 M):=HR.out.seg.kept (S:=fun _=>False) ((Kept.refl _ _).drew) (fun h=>h) (fun _ _ h=>h);go_wp2_with fail
     refine dW (by kernel_rfl) (by kernel_rfl) (by kernel_rfl)
      (fun i v=>match i with|0=>v=(.pointer (some ⟨sb,si,none⟩))|1=>v=(.pointer (some ⟨sb,si,none⟩))|2=>v=.pointer (some ⟨sb,si,none⟩)|3=>v=.pointer (some ⟨sb,si,none⟩)|4=>v=.slice a1 M.length Lh|5=>v=(.pointer (some ⟨pb,0,none⟩))|6=>v=(.int .u64 o)|7=>v=.int .i64 (P1.bJ o)|10=>v=.pointer (some ⟨sb,si,none⟩)|11=>v=.pointer (some ⟨sb,si,none⟩)|_=>True)
      (fun l a wx=>YR wr sb si pb db ob (cs.setIfInBounds si v1) lo v1 M P1 o l[7]? l[8]? l[9]? l[12]? (a.tmps.getD 83 undef) (a.tmps.getD 84 undef) wx) ?_ ?_ ?_
     ·exact⟨HPx.out,fun _=>HSx.out,(Kept.refl _ wr).drew,fun h=>by simp at h,fun h=>by simp at h,fun h=>by simp at h⟩
     ·intro hu i l a wx hi hl lF hd hcl hR hW
      have hi27:i=0\/i=1\/i=2\/i=3\/i=4\/i=5\/i=6\/i=7\/i=8\/i=9\/i=10\/i=11\/i=12:=by have:i<13:=hi;omega
      rcases hi27 with rfl|rfl|rfl|rfl|rfl|rfl|rfl|rfl|rfl|rfl|rfl|rfl|rfl
      ·
       refine aK rfl (d:=75) rfl (aF rfl _) (dJ (hR.was 0 rfl)) ⟨hR.put hu (by rw[hl];decide) (d:=75) rfl (ak rfl) rfl,?_⟩;simpa only[aI,aL,bF,reduceCtorEq,aB,Nat.reduceEqDiff]using hW
      ·
       refine aK rfl (d:=76) rfl (aF rfl _) (dJ (hR.was 0 rfl)) ⟨hR.put hu (by rw[hl];decide) (d:=76) rfl (ak rfl) rfl,?_⟩;simpa only[aI,aL,bF,reduceCtorEq,aB,Nat.reduceEqDiff]using hW
      ·
       refine aK rfl (d:=77) rfl (aF rfl _) (dh (hR.slot 1 76 (hd 1 rfl) rfl) rfl) ⟨hR.put hu (by rw[hl];decide) (d:=77) rfl (ak rfl) rfl,?_⟩;simpa only[aI,aL,bF,reduceCtorEq,aB,Nat.reduceEqDiff]using hW
      ·
       refine aK rfl (d:=78) rfl (aF rfl _) (bH (hR.slot 2 77 (hd 2 rfl) rfl) (Ti _ _ _)) ⟨hR.put hu (by rw[hl];decide) (d:=78) rfl (ak rfl) rfl,?_⟩;simpa only[aI,aL,bF,reduceCtorEq,aB,Nat.reduceEqDiff]using hW
      ·
       have h9:l[9]?≠some true:=fun h=>by have:=hcl.of 4 rfl h;rw[lF]at this;cases this
       have hcv:=(hW.seg h9).cell;rw[VY.out]at hcv;refine aK rfl (d:=79) rfl (aF rfl _) (eu (hR.slot 3 78 (hd 3 rfl) rfl) (Rs hcv)) ⟨hR.put hu (by rw[hl];decide) (d:=79) rfl (ak rfl) rfl,?_⟩;simpa only[aI,aL,bF,reduceCtorEq,aB,Nat.reduceEqDiff]using hW
      ·
       refine aK rfl (d:=80) rfl (aF rfl _) (dJ (hR.was 1 rfl)) ⟨hR.put hu (by rw[hl];decide) (d:=80) rfl (ak rfl) rfl,?_⟩;simpa only[aI,aL,bF,reduceCtorEq,aB,Nat.reduceEqDiff]using hW
      ·
       refine aK rfl (d:=81) rfl (aF rfl _) (dJ (hR.was 2 rfl)) ⟨hR.put hu (by rw[hl];decide) (d:=81) rfl (ak rfl) rfl,?_⟩;simpa only[aI,aL,bF,reduceCtorEq,aB,Nat.reduceEqDiff]using hW
      ·
       have hp:=hW.pool;rw[lF,aA (by simp)]at hp;have h8:l[8]?≠some true:=fun h=>by have:=hcl.of 7 rfl h;rw[lF]at this;cases this
       have h9:l[9]?≠some true:=fun h=>h8 (hcl.of 8 rfl h)
       have h12:l[12]?≠some true:=fun h=>h9 (hcl.of 9 rfl h)
       refine gV rfl (d:=82) rfl (aF rfl _) (bP (vs:=#[(.pointer (some ⟨pb,0,none⟩)),(.int .u64 o)]) (by rw[List.map_toArray];simp only[bW,List.map_nil,show a.eval (.tmp 80)=(.pointer (some ⟨pb,0,none⟩))from(hR.slot 5 80 (hd 5 rfl) rfl),show a.eval (.tmp 81)=(.int .u64 o)from(hR.slot 6 81 (hd 6 rfl) rfl)]) (bE Tryz.func38 (by kernel_rfl) rfl)) (R:=fun v w'=>v=.int .i64 (P1.bJ o)/\bB w' pb db ob (P1.alloc o)/\Kept (PS pb db ob) wx w') ((jk pb db ob P1 o wx hp).mono fun e w' ⟨h1,h2,h3⟩=>⟨_,h1,rfl,h2,h3⟩) ?_;rintro v w' ⟨rfl,h1,h2⟩;refine⟨hR.put hu (by rw[hl];decide) (d:=82) rfl (ak rfl) rfl,?_⟩;simp only[aI,aL,bF,aB,Nat.reduceEqDiff,set_self (show 7<l.size by rw[hl];decide)];exact⟨by rw[aD rfl];exact h1,fun h=>(hW.seg h).kept h2 n1 (fun k hk=>n2 k ((hW.seg h).hv.lt k hk).1),hW.k0.trans (h2.mono fun k _ hk=>Or.inl hk),fun h=>absurd h h8,fun h=>absurd h h9,fun h=>absurd h h12⟩
      ·
       have h8:l[8]?≠some true:=by rw[lF];simp
       have h9:l[9]?≠some true:=fun h=>h8 (hcl.of 8 rfl h)
       have h12:l[12]?≠some true:=fun h=>h9 (hcl.of 9 rfl h)
       refine aK rfl (d:=83) rfl (aF rfl _) (xW (hR.slot 7 82 (hd 7 rfl) rfl) (Sv _ _)) ⟨hR.put hu (by rw[hl];decide) (d:=83) rfl (ak rfl) trivial,?_⟩;simp only[aI,aL,bF,aB,Nat.reduceEqDiff,set_self (show 8<l.size by rw[hl];decide),eG (show 83<a.tmps.size by rw[hR.size];exact ak rfl)];have hb2:=(aC wx.heap.size wx).alloc (aj _) (.cells #[.int .i64 (P1.bJ o)] 3);exact⟨hW.pool.below hb2,fun h=>(hW.seg h).below hb2,hW.k0.alloc _,fun _ _=>⟨_,rfl,(aR.new wx #[.int .i64 (P1.bJ o)] 3).cell 0⟩,fun h=>absurd h h9,fun h=>absurd h h12⟩
      ·
       have h9:l[9]?≠some true:=by rw[lF];simp
       have h12:l[12]?≠some true:=fun h=>h9 (hcl.of 9 rfl h)
       obtain⟨nb,e83,hnb⟩:=hW.g8 (hd 8 rfl) h9;have hsg:=hW.seg h9;obtain⟨v2,w2,hrun,hF2,hK2,hO2⟩:=Lu (nc:=1) (P1.bJ o) 34 hsg.hv (bD Hlr.out hW.k0.size) hnb hsg.h16;rw[VY.out]at hrun;refine aK rfl (d:=84) rfl (aF rfl _) (Gs (hR.slot 4 79 (hd 4 rfl) rfl) e83 hrun) ⟨hR.put hu (by rw[hl];decide) (d:=84) rfl (ak rfl) trivial,?_⟩;simp only[aI,aL,bF,aB,Nat.reduceEqDiff,set_self (show 9<l.size by rw[hl];decide),eG (show 84<a.tmps.size by rw[hR.size];exact ak rfl)];have hgl:=hsg.hv.lt;have hsl:=hsg.hl;refine⟨hW.pool.kept hK2 (fun e=>n2 _ (hgl _ e).1 (.inl rfl)) (fun e=>n2 _ (hgl _ e).1 (.inr (.inl rfl))) (fun e=>n2 _ (hgl _ e).1 (.inr (.inr rfl))),fun h=>absurd rfl h,hW.k0.trans (hK2.mono fun k _ hk=>.inr (.inr hk)),fun _ h=>absurd rfl h,fun _ _=>⟨hK2.blk hsg.hb (fun e=>by have:=(hgl _ e).1;omega),hF2,fun g hg=>?_⟩,fun h=>absurd h h12⟩;rcases hO2 g hg with e|e
       ·exact .inl e
       ·exact .inr (bD hW.k0.size e)
      ·
       refine aK rfl (d:=85) rfl (aF rfl _) (dh (hR.slot 0 75 (hd 0 rfl) rfl) rfl) ⟨hR.put hu (by rw[hl];decide) (d:=85) rfl (ak rfl) rfl,?_⟩;simpa only[aI,aL,bF,reduceCtorEq,aB,Nat.reduceEqDiff]using hW
      ·
       refine aK rfl (d:=86) rfl (aF rfl _) (bH (hR.slot 10 85 (hd 10 rfl) rfl) (Ti _ _ _)) ⟨hR.put hu (by rw[hl];decide) (d:=86) rfl (ak rfl) rfl,?_⟩;simpa only[aI,aL,bF,reduceCtorEq,aB,Nat.reduceEqDiff]using hW
      ·
       have h12:l[12]?≠some true:=by rw[lF];simp
       obtain⟨hb,hF,hO⟩:=hW.g9 (hd 9 rfl) h12;have hcc:wx.cell? ⟨sb,si,none⟩=some v1:=by rw[hb.cell];exact Hc1.out
       obtain⟨a2,cap2,g2,hv2,_⟩:=hF.open;refine jc rfl rfl (aF rfl _) (kP (hR.slot 11 86 (hd 11 rfl) rfl) hv2 (QH hcc (hb.free si))) ⟨hR.done rfl,?_⟩;rw[<-hv2];simp only[aI,bF,aB,Nat.reduceEqDiff,set_self (show 12<l.size by rw[hl];decide)];have hgl:=hF.lt;have hsl:=Lv.out;have h9d:=(hd 9 rfl);refine⟨hW.pool.kept (S:=fun k=>k=sb) ((Kept.refl _ _).bC _ _ _ rfl) (fun e=>n1 (.inl e.symm)) (fun e=>n1 (.inr (.inl e.symm))) (fun e=>n1 (.inr (.inr e.symm))),fun h=>absurd h9d h,hW.k0.bC _ _ _ (.inr (.inl rfl)),fun _ h=>absurd h9d h,fun _ h=>absurd rfl h,fun _=>⟨_,hb.set si _,hF.kept (S:=fun k=>k=sb) ((Kept.refl _ _).bC _ _ _ rfl) (fun k hk=>by have:=(hgl k hk).1;omega),hO⟩⟩
     ·intro l a wx hl hR hW
      obtain⟨v2,h1,h2,h3⟩:=hW.g12 (hl 12 (by decide));have hp:=hW.pool;rw[hl 7 (by decide),aD rfl]at hp;have hk:=hW.k0;rw[hR.fold [75,76,77,78,79,80,81,82,83,84,85,86] (by kernel_rfl)];simp only[List.foldl];clear hW hR hl;generalize a.tmps.getD 75 undef=u75;generalize a.tmps.getD 76 undef=u76;generalize a.tmps.getD 77 undef=u77;generalize a.tmps.getD 78 undef=u78;generalize a.tmps.getD 79 undef=u79;generalize a.tmps.getD 80 undef=u80;generalize a.tmps.getD 81 undef=u81;generalize a.tmps.getD 82 undef=u82;generalize a.tmps.getD 83 undef=u83;generalize a.tmps.getD 84 undef=u84;generalize a.tmps.getD 85 undef=u85;generalize a.tmps.getD 86 undef=u86;go_simp
      clear a l;have hk':Kept (RS pb db ob sb v1) wr wx:=hk;have Qd:=ah (HR.out.push hpl HLM.out (by omega) hp h1 h2 h3 hk' HS.out.hc);clear hp h1 h2 h3 hk hk';go_wp2_with fail
      go_roundg (n-(M.length+1))
      case measure=>have:=HMg.out;omega
      case rel=>exact⟨v2,_,_,by simp,by simp;omega,Qd.out,by have:=HLM.out;simp;omega⟩
    ·have hMn:M.length=n:=by omega
     have HMn:=ah hMn;clear hMn;have hnlt:¬(M.length:Int)<n:=by omega
     go_wp2_with fail
     go_ret;exact⟨rfl,v1,M,P1,HMn.out ▸ HR.out⟩
theorem jr.left{P P':Pool}{L:List Int}{q d:Nat}{B:Nat->Int}(h:jr P P' L q d B):P'.left=P.left:=by unfold Pool.left;rw[h.n,h.O]
structure Seg(w:World)(sb si pb db ob:Nat)(cs:Array Value)(lo:Nat)(v:Value)(L:List Int)(P:Pool)(o:Int):Prop where
 seg:iZ w sb si cs lo v L
 pool:bB w pb db ob P
 inn:iP P o L
 lo:lo<=w.heap.size
 lp:pb<sb/\db<sb/\ob<sb
section
variable {w w':World}{sb si pb db ob:Nat}{cs:Array Value}{lo:Nat}{v:Value}{L:List Int}{P:Pool}{o:Int}
theorem Seg.n1(h:Seg w sb si pb db ob cs lo v L P o):¬PS pb db ob sb:=by
 have:=h.lp;rintro(e|e|e)<;>omega
theorem Seg.n2(h:Seg w sb si pb db ob cs lo v L P o):∀g,lo<=g->¬PS pb db ob g:=by
 have:=h.lp;have:=h.seg.hl;intro g hg;rintro(e|e|e)<;>omega
theorem Seg.below(h:Seg w sb si pb db ob cs lo v L P o)(hb:Below w.heap.size w w'):Seg w' sb si pb db ob cs lo v L P o :=
 ⟨h.seg.below hb,h.pool.below hb,h.inn,bD h.lo hb.size,h.lp⟩
theorem Seg.sized{n:Nat}{v':Value}{L':List Int}{P':Pool}(h:Seg w sb si pb db ob cs lo v L P o)(hR:iy w w' sb si pb db ob cs lo v L P o n v' L' P'):Seg w' sb si pb db ob (cs.setIfInBounds si v') lo v' L' P' o :=
 ⟨hR.seg,hR.pool,hR.inn,bD h.lo hR.kept.size,h.lp⟩
end
theorem KM(sb si:Nat)(cs:Array Value)(lo:Nat)(v:Value)(L:List Int)(i:Nat)(w:World)(hS:iZ w sb si cs lo v L)(hi:i<L.length) :
  Calls Tryz.prog 221 #[.pointer (some ⟨sb,si,none⟩),.int .i64 i] w fun e w'=>e=.returned (.int .i64 (L.getD i 0))/\w=w':=by
 obtain⟨a,cap,g,hv,h1,h2,h3,h4⟩:=hS.hv.open;obtain rfl:=h3 (by omega);have hc:=hS.cell;rw[hv]at hc;have hcl:=h4 i hi;have HS:=ah hS;have hi':¬(L.length:Int)<=i:=by omega
 clear hS h4 h3 hv;go_enter Tryz.func221,Tryz.ntmps221
 go_wp2_with fail
 refine(nK sb si cs lo v L _ HS.out).mono ?_;rintro e w' ⟨rfl,rfl⟩;go_wp2_with fail
 go_ret;exact⟨by simp[List.getD,hi],rfl⟩
theorem Seg.resize{w:World}{sb si pb db ob:Nat}{cs:Array Value}{lo:Nat}{v:Value}{L:List Int}{P:Pool}{o:Int}(h:Seg w sb si pb db ob cs lo v L P o)(n:Nat)(hf:MP P L o n=true) :
  Calls Tryz.prog 89 #[.pointer (some ⟨sb,si,none⟩),.pointer (some ⟨pb,0,none⟩),.int .u64 o,.int .i64 n] w fun e w'=>e=.returned (.bool true)/\∃v' L' P',iy w w' sb si pb db ob cs lo v L P o n v' L' P'/\Seg w' sb si pb db ob (cs.setIfInBounds si v') lo v' L' P' o :=
 (Fx sb si pb db ob cs lo v L P o n w h.seg h.pool h.inn hf h.lo h.n1 h.n2).mono fun _ _ ⟨h1,v',L',P',h2⟩=>⟨h1,v',L',P',h2,h.sized h2⟩
end Go.Proofs.YtiadbhiadhgjkaaGreatDoor
namespace Go.Proofs.YtiadbhiadhgjkaaGreatDoor
open Go.RowKit
theorem mM(x:Int)(h0:0<=x)(h1:x<=18446744073709551615):bits .and .u64 x 1=x%2:=by
 obtain⟨n,rfl⟩:=Int.eq_ofNat_of_zero_le h0;show IntKind.u64.wrap ((BitVec.ofInt 64 (n:Int) &&& BitVec.ofInt 64 ((1:Nat):Int)).toNat:Int)=_
 rw[BitVec.toNat_and,dw,dw,BitVec.toNat_ofNat,BitVec.toNat_ofNat,Nat.mod_eq_of_lt (by omega),Nat.mod_eq_of_lt (by omega),Nat.and_one_is_mod,IntKind.wrap_u64];omega
theorem Ep(f:Int)(b:Bool)(h0:0<=f)(h1:f<=4294967295):bits .and .u64 (f*256+1+(if b then 2 else 0)) 2=if b then 2 else 0:=by
 obtain⟨n,rfl⟩:=Int.eq_ofNat_of_zero_le h0
 have key:∀c:Nat,c<256->(2^8*n+c) &&& 2=c &&& 2:=by
  intro c hc;apply Nat.eq_of_testBit_eq;intro i;rw[Nat.testBit_and,Nat.testBit_and];by_cases hi:i<8
  ·rw[Nat.testBit_two_pow_mul_add _ (by omega),aD hi]
  ·have:Nat.testBit 2 i=false:=Nat.testBit_lt_two_pow (bA (by decide:2<2^8) (Nat.pow_le_pow_right (by omega) (by omega)))
   rw[this];simp
 cases b
 ·have e:((n:Int)*256+1+(if false=true then 2 else 0))=((2^8*n+1:Nat):Int):=by simp;omega
  rw[e];show IntKind.u64.wrap ((BitVec.ofInt 64 ((2^8*n+1:Nat):Int) &&& BitVec.ofInt 64 ((2:Nat):Int)).toNat:Int)=_
  rw[BitVec.toNat_and,dw,dw,BitVec.toNat_ofNat,BitVec.toNat_ofNat,Nat.mod_eq_of_lt (by omega),Nat.mod_eq_of_lt (by omega),key 1 (by omega)];decide
 ·have e:((n:Int)*256+1+(if true=true then 2 else 0))=((2^8*n+3:Nat):Int):=by simp;omega
  rw[e];show IntKind.u64.wrap ((BitVec.ofInt 64 ((2^8*n+3:Nat):Int) &&& BitVec.ofInt 64 ((2:Nat):Int)).toNat:Int)=_
  rw[BitVec.toNat_and,dw,dw,BitVec.toNat_ofNat,BitVec.toNat_ofNat,Nat.mod_eq_of_lt (by omega),Nat.mod_eq_of_lt (by omega),key 3 (by omega)];decide
theorem QY(f:Int)(h0:0<=f)(h1:f<=4294967295):bits .or .u64 (f*256+1) 2=f*256+3:=by
 obtain⟨n,rfl⟩:=Int.eq_ofNat_of_zero_le h0;have e:((n:Int)*256+1)=((2^8*n+1:Nat):Int):=by omega
 rw[e];show IntKind.u64.wrap ((BitVec.ofInt 64 ((2^8*n+1:Nat):Int) ||| BitVec.ofInt 64 ((2:Nat):Int)).toNat:Int)=_
 rw[BitVec.toNat_or,dw,dw,BitVec.toNat_ofNat,BitVec.toNat_ofNat,Nat.mod_eq_of_lt (by omega),Nat.mod_eq_of_lt (by omega),
  Nat.two_pow_add_eq_or_of_lt (by omega:1<2^8),Nat.or_assoc,show(1 ||| 2:Nat)=3 from rfl,<-Nat.two_pow_add_eq_or_of_lt (by omega:3<2^8),IntKind.wrap_u64]
 omega
def ent(P:Pool)(t:Int)(i:Nat):Int:=oh (fun j=>P.D ((t.toNat-1)*64+i*8+j)) 8
def Pool.gI(P:Pool)(t:Int)(i:Nat)(x:Int):Pool:=P.write t ((i:Int)*8) 8 (vY 8 x)
theorem VE(P:Pool)(hB:∀i,0<=P.D i/\P.D i<=255)(t:Int)(i:Nat):0<=ent P t i/\ent P t i<=18446744073709551615:=IV _ (fun _=>hB _) 8 (aj _)
theorem pV(P:Pool)(t:Int)(i:Nat)(x:Int):(P.gI t i x).n=P.n:=by unfold Pool.gI Pool.write;split<;>rfl
theorem jT(P:Pool)(t:Int)(i:Nat)(x:Int):(P.gI t i x).O=P.O:=by unfold Pool.gI Pool.write;split<;>rfl
theorem oC(P:Pool)(t:Int)(i:Nat)(x f:Int):(P.gI t i x).owner f=P.owner f:=by unfold Pool.owner Pool.there;rw[pV,jT]
theorem TM(P:Pool)(t:Int)(i:Nat)(hi:i<8)(ho:P.owner t≠0):P.fits t ((i:Int)*8) 8=true:=by
 rw[P.nS];exact⟨ho,by omega,by omega,by omega,by omega⟩
theorem qC(P:Pool)(t t':Int)(i i':Nat)(x:Int)(hi:i<8)(hi':i'<8)(ho:P.owner t≠0)(ht:1<=t)(ht':1<=t')(h0:0<=x)(h1:x<=18446744073709551615) :
  ent (P.gI t i x) t' i'=if t'=t/\i'=i then x else ent P t' i':=by
 have hw:P.gI t i x=⟨P.n,P.O,fun j=>if(t.toNat-1)*64+((i:Int)*8).toNat<=j/\j<(t.toNat-1)*64+((i:Int)*8).toNat+8 then vY 8 x (j-((t.toNat-1)*64+((i:Int)*8).toNat))else P.D j⟩:=by
  unfold Pool.gI Pool.write;rw[aD];exact TM P t i hi ho
 have e8:((i:Int)*8).toNat=i*8:=by omega
 rw[hw,e8];unfold ent;by_cases e:t'=t/\i'=i
 ·obtain⟨rfl,rfl⟩:=e
  rw[aD ⟨rfl,rfl⟩]
  rw[og _ (vY 8 x) 8 (fun j hj=>by
   show(if _ then _ else _)=_
   rw[aD (by omega)];congr 1;omega)]
  rw[IU 8 x h0 8 (aj _)];have h2:(256:Int)^8=18446744073709551616:=by decide
  rw[Nat.sub_self,h2];simp only[Int.pow_zero,Int.ediv_one];omega
 ·rw[aA e]
  refine og _ _ 8 fun j hj=>?_
  show(if _ then _ else _)=_
  rw[aA];intro h;apply e;constructor<;>omega
theorem Fg(P:Pool)(t:Int)(i:Nat)(x:Int)(hi:i<8)(j:Nat)(hj:j/64≠t.toNat-1):(P.gI t i x).D j=P.D j:=by
 unfold Pool.gI Pool.write;split
 ·show(if _ then _ else _)=_
  rw[aA];have:((i:Int)*8).toNat=i*8:=by omega
  omega
 ·rfl
theorem zZ(P P':Pool)(t:Int)(i:Nat)(hi:i<8)(h:∀j,j/64=t.toNat-1->P'.D j=P.D j):ent P' t i=ent P t i :=
 og _ _ 8 fun j hj=>h _ (by omega)
attribute [local irreducible] World.setCell World.alloc World.drew World.setRow Calls Code.wp row
theorem mh(l p:Nat)(w:World)(hl:l<=3)(hp:p<4096) :
  Calls Tryz.prog 286 #[.int .i64 l,.int .i64 p] w fun e w'=>e=.returned (.int .i64 ((p/8^(3-l)%8:Nat):Int))/\w=w':=by
 have hpi:(p:Int)<4096:=by omega
 have h7:=and7;obtain rfl|rfl|rfl|rfl:l=0\/l=1\/l=2\/l=3:=by omega
 all_goals
  go_enter Tryz.func286,Tryz.ntmps286
  go_wp2_with fail
  go_ret;refine⟨?_,rfl⟩;show Ending.returned (Value.int .i64 _)=_
  congr 2
  try omega
theorem nU(pb db ob:Nat)(P:Pool)(t:Int)(i:Nat)(w:World)(hP:bB w pb db ob P)(ho:P.owner t≠0)(hi:i<8) :
  Calls Tryz.prog 280 #[.pointer (some ⟨pb,0,none⟩),.int .i64 t,.int .i64 i] w fun e w'=>e=.returned (.int .u64 (ent P t i))/\Below w.heap.size w w':=by
 have hfit:=TM P t i hi ho;have HP:=ah hP;have BL:=ah hfit;have wL:=ah hP.bd;have hi8:(i:Int)<8:=by omega
 clear hP hfit ho;go_enter Tryz.func280,Tryz.ntmps280
 go_wp2_with fail
 refine(CO pb db ob P t ((i:Int)*8) 8 _ HP.out BL.out).mono ?_;rintro e w2 ⟨r,rfl,hown,hb2⟩;have hb2':=hb2.size;have pE:w2.ownsRow w.heap.size 5 1 r 8 (P.cells ((t.toNat-1)*64+((i:Int)*8).toNat) 8):=hown;obtain⟨g,gc,cur,rfl,hg,hgh,hgc,hgm,_⟩:=pE.2.resolve_left (by rintro⟨_,h0⟩;omega)
 have hcell:∀j,j<8->w2.cell? ⟨g,0+j,none⟩=some (.int .u8 (P.D ((t.toNat-1)*64+i*8+j))):=fun j hj=>by
  rw[Nat.zero_add,pE.cellAt j (by omega)];have e:((i:Int)*8).toNat=i*8:=by omega
  simp only[Pool.cells,e];rw[dF,List.getElem?_range hj];rfl
 have hgl:g<w2.heap.size:=(aU.1 hgh).1;have qJ:=ah hcell;have Hb2:=ah hb2;clear hown pE hcell hb2 hgh;go_wp2_with fail
 refine(CS _ _ _ _).mono ?_;rintro e w3 ⟨rfl,hw3⟩;have hR:vw w3 w2.heap.size (some ⟨g,0,none⟩) 8 gc 0:=by rw[hw3];exact aR.new _ _ _
 have Hc3:Hid (∀j,j<8->w3.cell? ⟨g,0+j,none⟩=some (.int .u8 (P.D ((t.toNat-1)*64+i*8+j)))):=fun j hj=>by
  rw[hw3,World.cell?_alloc_some _ _ _ (by rw[qJ.out j hj];rfl)];exact qJ.out j hj
 have Hb3:Hid (Below w.heap.size w w3):=by unfold Hid;rw[hw3];exact Hb2.out.alloc Hb2.out.size _
 have HR:=ah hR;clear hR hw3;go_wp2_with fail
 refine(Rf w2.heap.size g 0 8 gc 0 8 (fun j=>P.D ((t.toNat-1)*64+i*8+j)) _ HR.out Hc3.out (fun j=>wL.out _) (by omega) (by omega) (by omega) hgc hgm (by omega)).mono ?_;rintro e w4 ⟨rfl,_,hK4⟩;have Hb4:Hid (Below w.heap.size w w4):=Hb3.out.trans (hK4.below Hb3.out.size (fun i hi e=>by omega));clear hK4;go_wp2_with fail
 go_ret;exact⟨by simp[ent],Hb4.out⟩
theorem ow(pb db ob:Nat)(P:Pool)(t:Int)(i:Nat)(x:Int)(w:World)(hP:bB w pb db ob P)(hi:i<8)(h0:0<=x)(h1:x<=18446744073709551615) :
  Calls Tryz.prog 281 #[.pointer (some ⟨pb,0,none⟩),.int .i64 t,.int .i64 i,.int .u64 x] w fun e w'=>e=.returned (.tuple #[])/\bB w' pb db ob (P.gI t i x)/\Kept (PS pb db ob) w w':=by
 have HP:=ah hP;have H0:=ah h0;have H1:=ah h1;have hi8:(i:Int)<8:=by omega
 clear hP h0 h1;go_enter Tryz.func281,Tryz.ntmps281
 go_wp2_with fail
 refine(Ik 8 x _ (by omega) H0.out H1.out).mono ?_;rintro e w2 ⟨r,rfl,hown,hb2⟩;obtain⟨g,gc,cur,rfl,hg,hgh,hgc,hgm,_⟩:=hown.2.resolve_left (by rintro⟨_,h0⟩;omega)
 have qJ:Hid (BytesIn w2 (some ⟨g,0,none⟩) 8 (vY 8 x)):=by
  refine .inr ⟨g,0,rfl,fun j hj=>?_⟩;rw[Nat.zero_add,hown.cellAt j (by omega)];simp[hj]
 have LC:=ah (HP.out.below hb2);have Hb2:=ah hb2;clear hown hb2 hgh;go_wp2_with fail
 refine(Jl pb db ob P t ((i:Int)*8) _ 8 _ (vY 8 x) _ LC.out qJ.out (fun j _=>Po _ _ _)).mono ?_;rintro e w3 ⟨rfl,hP3,hK3⟩;have Qf:=ah hP3;have wM:=ah ((Kept.of_below (S:=PS pb db ob) Hb2.out).trans hK3);clear hP3 hK3;go_wp2_with fail
 go_end0
 exact⟨rfl,Qf.out,wM.out⟩
end Go.Proofs.YtiadbhiadhgjkaaGreatDoor
namespace Go.Proofs.YtiadbhiadhgjkaaGreatDoor
open Go.RowKit
def vM(F:Nat->Int)(Y:Nat->Bool)(p:Nat):Int:=if F p=0 then 0 else F p*256+1+(if Y p then 2 else 0)
def gu(N:Nat->Int):Nat->Nat
 | 0=>0
 | k+1=>gu N k+(if N k=0 then 0 else 1)
structure Tab(P:Pool)(r o:Int)(N:Nat->Int)(F:Nat->Int)(Y:Nat->Bool):Prop where
 root:N 0=r
 r0:r≠0
 o0:o≠0
 ent:∀n,n<585->N n≠0->∀i,i<8->ent P (N n) i=if 8*n+1+i<585 then(if N (8*n+1+i)=0 then 0 else N (8*n+1+i)*256+1)else vM F Y (8*n+1+i-585)
 inj:∀n m,n<585->m<585->N n≠0->N m≠0->N n=N m->n=m
 own:∀n,n<585->N n≠0->P.owner (N n)=o
 up:∀n,0<n->n<585->N n≠0->N ((n-1)/8)≠0
 qh:∀p,p<4096->F p≠0->N (73+p/8)≠0
 lf:∀p,p<4096->0<=F p/\F p<=4294967295
def nd(p:Nat):Nat->Nat
 | 0=>0
 | 1=>1+p/512
 | 2=>9+p/64
 | _=>73+p/8
theorem jq(p l:Nat)(hp:p<4096):nd p l<585:=by
 unfold nd;split<;>omega
theorem tC(p l:Nat)(hp:p<4096)(hl:l<3):8*nd p l+1+p/8^(3-l)%8=nd p (l+1):=by
 obtain rfl|rfl|rfl:l=0\/l=1\/l=2:=by omega
 ·simp only[nd];omega
 ·simp only[nd];omega
 ·simp only[nd];omega
theorem Rk(p:Nat):8*nd p 3+1+p/8^(3-3)%8=585+p:=by simp only[nd];omega
theorem Di(p l:Nat)(hp:p<4096)(hl:l<3):(nd p (l+1)-1)/8=nd p l:=by
 obtain rfl|rfl|rfl:l=0\/l=1\/l=2:=by omega
 all_goals simp only[nd];omega
theorem xE(p l:Nat):0<nd p (l+1):=by
 unfold nd;split<;>omega
section
variable {P:Pool}{r o:Int}{N F:Nat->Int}{Y:Nat->Bool}
theorem Tab.way(h:Tab P r o N F Y)(p:Nat)(hp:p<4096)(hF:F p≠0)(l:Nat)(hl:l<=3):N (nd p l)≠0:=by
 have h3:N (nd p 3)≠0:=h.qh p hp hF;have h2:N (nd p 2)≠0:=by rw[<-Di p 2 hp (by omega)];exact h.up _ (xE p 2) (jq p 3 hp) h3
 have h1:N (nd p 1)≠0:=by rw[<-Di p 1 hp (by omega)];exact h.up _ (xE p 1) (jq p 2 hp) h2
 have h0:N (nd p 0)≠0:=by rw[<-Di p 0 hp (by omega)];exact h.up _ (xE p 0) (jq p 1 hp) h1
 obtain rfl|rfl|rfl|rfl:l=0\/l=1\/l=2\/l=3:=by omega
 ·exact h0
 ·exact h1
 ·exact h2
 ·exact h3
theorem Tab.bd(h:Tab P r o N F Y)(n:Nat)(hn:n<585)(h0:N n≠0):1<=N n/\N n<=P.n :=
 (P.dM _).1 (P.eZ _ (by rw[h.own n hn h0];exact h.o0))
theorem Tab.step(h:Tab P r o N F Y)(p l:Nat)(hp:p<4096)(hl:l<3)(h0:N (nd p l)≠0):Go.Proofs.YtiadbhiadhgjkaaGreatDoor.ent P (N (nd p l)) (p/8^(3-l)%8)=if N (nd p (l+1))=0 then 0 else N (nd p (l+1))*256+1:=by
 rw[h.ent _ (jq p l hp) h0 _ (Nat.mod_lt _ (by omega)),tC p l hp hl,aD (jq p (l+1) hp)]
theorem Tab.last(h:Tab P r o N F Y)(p:Nat)(hp:p<4096)(h0:N (nd p 3)≠0):Go.Proofs.YtiadbhiadhgjkaaGreatDoor.ent P (N (nd p 3)) (p/8^(3-3)%8)=vM F Y p:=by
 rw[h.ent _ (jq p 3 hp) h0 _ (Nat.mod_lt _ (by omega)),Rk p,aA (by omega),show 585+p-585=p by omega]
end
attribute [local irreducible] World.setCell World.alloc World.drew World.setRow Calls Code.wp row
theorem Me(pb db ob:Nat)(P:Pool)(r o:Int)(N F:Nat->Int)(Y:Nat->Bool)(p:Nat)(w:World)(hP:bB w pb db ob P)(hT:Tab P r o N F Y)(hp:p<4096) :
  Calls Tryz.prog 319 #[.pointer (some ⟨pb,0,none⟩),.int .i64 r,.int .i64 p] w fun e w' =>
   e=.returned (.tuple #[.int .i64 (F p),.bool (decide (F p≠0)&&Y p),.bool (decide (F p≠0))])/\Below w.heap.size w w':=by
 have HP:=ah hP;have HT:=ah hT;have hpi:(p:Int)<4096:=by omega
 have hhi:=hP.hi;clear hP hT;go_enter Tryz.func319,Tryz.ntmps319
 go_wp2_with fail
 go_loopg [9,10,11,19] 4 (fun g at_ _ _ i wx=>∃l:Nat,l+g=4/\l<=3/\i=.int .i64 l/\at_=.int .i64 (N (nd p l))/\N (nd p l)≠0/\Below w.heap.size w wx)
 case atStart=>exact⟨0,rfl,by omega,rfl,by show Value.int .i64 r=.int .i64 (N 0);rw[HT.out.root],by show N 0≠0;rw[HT.out.root];exact HT.out.r0,aC _ _⟩
 case round =>
  obtain⟨l,hg,hl3,rfl,rfl,h0,hb⟩:=hrel;obtain⟨t,ht⟩:∃t,N (nd p l)=t:=⟨_,rfl⟩;rw[ht]at h0 ⊢;have H0:=ah h0;have Hb:=ah hb;have Ht:=ah ht;have hpr:=HP.out.below hb;have HPr:=ah hpr;have Oc:=hb.size;have hown:P.owner t≠0:=by rw[<-ht,HT.out.own _ (jq p l hp) (by rw[ht];exact h0)];exact HT.out.o0
  have kZ:=ah hown;have lF:(l:Int)<4:=by omega
  clear h0 hb ht hpr hown;go_wp2_with fail
  refine(mh l p _ hl3 hp).mono ?_;rintro e w' ⟨rfl,rfl⟩;obtain⟨i,hi⟩:∃i,p/8^(3-l)%8=i:=⟨_,rfl⟩;have hi8:i<8:=by omega
  rw[hi];have Hi:=ah hi;clear hi;go_wp2_with fail
  refine(nU pb db ob P t i _ HPr.out kZ.out hi8).mono ?_;rintro e w2 ⟨rfl,hb2⟩;have Hb2:=ah (Hb.out.trans (hb2.mono Oc));clear hb2;by_cases hl:l<3
  ·have hst:=HT.out.step p l hp hl (by rw[Ht.out];exact H0.out)
   rw[Ht.out,Hi.out]at hst;by_cases hc:N (nd p (l+1))=0
   ·rw[aD hc]at hst
    have hF:F p=0:=by
     by_cases h:F p=0
     ·exact h
     ·exact absurd hc (HT.out.way p hp h (l+1) (by omega))
    have HF:=ah hF;have ha:bits .and .u64 0 1=0:=by decide
    rw[hst];clear hst hc hF;go_wp2_with fail
    go_ret3
    exact⟨by rw[HF.out];rfl,Hb2.out⟩
   ·rw[aA hc]at hst
    obtain⟨c1,c2⟩:=HT.out.bd _ (jq p (l+1) hp) hc;obtain⟨c,hcc⟩:∃c,N (nd p (l+1))=c:=⟨_,rfl⟩;rw[hcc]at hst c1 c2 hc;have ha:bits .and .u64 (c*256+1) 1=1:=by rw[mM _ (by omega) (by omega)];omega
    have hd:(c*256+1)/256=c:=by omega
    have hl3':¬(l:Int)=3:=by omega
    rw[hst];have Jf:=ah hcc;have Hc:=ah hc;clear hst hcc hc;go_wp2_with fail
    go_roundg (4-(l+1))
    case measure=>omega
    case rel=>exact⟨l+1,by omega,by omega,by go_num,by rw[Jf.out],by rw[Jf.out];exact Hc.out,Hb2.out⟩
  ·obtain rfl:l=3:=by omega
   have hst:=HT.out.last p hp (by rw[Ht.out];exact H0.out);rw[Ht.out,Hi.out]at hst;unfold vM at hst;obtain⟨b1,b2⟩:=HT.out.lf p hp;obtain⟨f,hf⟩:∃f,F p=f:=⟨_,rfl⟩;rw[hf]at hst b1 b2;have Hf:=ah hf;clear hf;by_cases h0:f=0
   ·rw[aD h0]at hst
    have ha:bits .and .u64 0 1=0:=by decide
    rw[hst];have H0:=ah h0;clear hst h0;go_wp2_with fail
    go_ret3
    exact⟨by rw[Hf.out,H0.out];rfl,Hb2.out⟩
   ·rw[aA h0]at hst
    cases hy:Y p
    ·rw[hy]at hst
     have hst':ent P t i=f*256+1:=by rw[hst];simp
     have ha:bits .and .u64 (f*256+1) 1=1:=by rw[mM _ (by omega) (by omega)];omega
     have hd:(f*256+1)/256=f:=by omega
     have ha2:bits .and .u64 (f*256+1) 2=0:=by have:=Ep f false b1 b2;simpa using this
     rw[hst'];have Hy:=ah hy;have H0f:=ah h0;clear hst hst' hy h0;go_wp2_with fail
     go_ret3
     exact⟨by rw[Hf.out,Hy.out];simp[H0f.out],Hb2.out⟩
    ·rw[hy]at hst
     have hst':ent P t i=f*256+3:=by rw[hst];simp;omega
     have ha:bits .and .u64 (f*256+3) 1=1:=by rw[mM _ (by omega) (by omega)];omega
     have hd:(f*256+3)/256=f:=by omega
     have ha2:bits .and .u64 (f*256+3) 2=2:=by have:=Ep f true b1 b2;rw[aD rfl]at this;rw[show f*256+3=f*256+1+2 by omega];exact this
     rw[hst'];have Hy:=ah hy;have H0f:=ah h0;clear hst hst' hy h0;go_wp2_with fail
     go_ret3
     exact⟨by rw[Hf.out,Hy.out];simp[H0f.out],Hb2.out⟩
end Go.Proofs.YtiadbhiadhgjkaaGreatDoor
namespace Go.Proofs.YtiadbhiadhgjkaaGreatDoor
open Go.RowKit
def yV(Y:Nat->Bool)(i:Nat)(b:Bool):Nat->Bool:=fun j=>if j=i then b else Y j
theorem DV(P:Pool)(t:Int)(i:Nat)(hi:i<8)(h:∀j,j/64=t.toNat-1->P.D j=0):ent P t i=0:=by
 have:∀k,k<=8->oh (fun j=>P.D ((t.toNat-1)*64+i*8+j)) k=0:=by
  intro k;induction k with
  | zero=>intro _;rfl
  | succ k ih=>intro hk;unfold oh;rw[ih (by omega),h _ (by omega)];rfl
 exact this 8 (aj _)
theorem wE(P:Pool)(t o:Int)(i:Nat)(x:Int)(hi:i<8)(ht:P.owner t=o)(ho:o≠0):dQ P (P.gI t i x) o:=by
 have hth:=P.eZ t (by rw[ht];exact ho);have hat:P.O (t.toNat-1)=o:=by unfold Pool.owner at ht;rw[aD hth]at ht;exact ht
 refine⟨pV _ _ _ _,fun j _ _ _=>by rw[jT],fun o' _ _=>by rw[jT],fun j _ h0 h1=>Fg P t i x hi j (fun e=>h1 (by rw[e];exact hat))⟩
section
variable {P:Pool}{r o:Int}{N F:Nat->Int}{Y:Nat->Bool}
theorem Tab.Cz(h:Tab P r o N F Y):P.owner r=o:=by
 have:=h.own 0 (by omega) (by rw[h.root];exact h.r0);rw[h.root]at this;exact this
theorem Tab.grow(h:Tab P r o N F Y)(n i:Nat)(hn:n<585)(hi:i<8)(h0:N n≠0)(hc:8*n+1+i<585)(hN:N (8*n+1+i)=0)(hl:1<=P.left)(hpn:P.n<=4096) :
  ∃t,P.bJ o=t/\1<=t/\t<=P.n/\Tab ((P.alloc o).gI (N n) i (t*256+1)) r o (dU N (8*n+1+i) t) F Y/\dQ P ((P.alloc o).gI (N n) i (t*256+1)) o /\
   ((P.alloc o).gI (N n) i (t*256+1)).left+1=P.left/\bY ((P.alloc o).gI (N n) i (t*256+1)).O o P.n=bY P.O o P.n+1:=by
 have xR:firstFree P.O P.n<P.n:=by
  have h1:=iG P.O P.n;rcases Nat.lt_or_ge (firstFree P.O P.n) P.n with h2|h2
  ·exact h2
  ·have:=(mK P.O P.n).2 (by omega)
   unfold Pool.left at hl;omega
 have hz0:=iY P.O P.n xR;obtain⟨z,hz⟩:∃z,firstFree P.O P.n=z:=⟨_,rfl⟩;have hcc:o≠0/\firstFree P.O P.n<P.n:=⟨h.o0,xR⟩;have hr:P.bJ o=(z:Int)+1:=by unfold Pool.bJ;rw[aD hcc,hz]
 have ha:P.alloc o=⟨P.n,dU P.O z o,fun j=>if z*64<=j/\j<z*64+64 then 0 else P.D j⟩:=by unfold Pool.alloc;rw[aD hcc,hz]
 rw[hz]at xR hz0
 have hno:∀m,m<585->N m≠0->(N m).toNat-1≠z:=fun m hm hm0 e=>by
  have hw:=h.own m hm hm0;have hth:=P.eZ (N m) (by rw[hw];exact h.o0);unfold Pool.owner at hw;rw[aD hth,e,hz0]at hw;exact h.o0 hw.symm
 have zf:dQ P (P.alloc o) o:=by
  rw[ha];refine⟨rfl,fun j hj h0 h1=>?_,fun o' h0 h1=>?_,fun j hj h0 h1=>?_⟩
  ·show dU P.O z o j=_
   rw[bL _ _ _ _ (by rintro rfl;exact h0 hz0)]
  ·have hc:=fu P.O o' o z P.n xR
   rw[hz0,aA (fun e=>h0 e.symm),aA (fun e=>h1 e.symm)]at hc;exact hc
  ·show(if _ then _ else _)=_
   rw[aA];intro e;have:j/64=z:=by omega
   rw[this]at h0;exact h0 hz0
 have hown1:∀f,P.owner f=o->(P.alloc o).owner f=o:=by
  intro f hf;have hth:=P.eZ f (by rw[hf];exact h.o0);obtain⟨s1,s2⟩:=(P.dM f).1 hth;rw[ha];unfold Pool.owner;rw[aD (by rw[Pool.dM];exact⟨s1,s2⟩)];show dU P.O z o _=o
  unfold dU;split
  ·rfl
  ·unfold Pool.owner at hf;rw[aD hth]at hf;exact hf
 have Yd:(P.alloc o).owner ((z:Int)+1)=o:=by
  rw[ha];unfold Pool.owner;rw[aD (by rw[Pool.dM];exact⟨by omega,by show(z:Int)+1<=P.n;omega⟩)];show dU P.O z o _=o
  rw[show((z:Int)+1).toNat-1=z by omega,dZ]
 have UU:(P.alloc o).owner (N n)≠0:=by rw[hown1 _ (h.own n hn h0)];exact h.o0
 obtain⟨nb1,nb2⟩:=h.bd n hn h0;have Qu:=fu P.O o o z P.n xR;rw[hz0,aA (fun e=>h.o0 e.symm),aD rfl]at Qu;have hfu:=iX P.O o z P.n xR;rw[hz0,aD rfl,aA h.o0]at hfu;have hOz:(P.alloc o).O=dU P.O z o:=by rw[ha]
 have hnz:(P.alloc o).n=P.n:=by rw[ha]
 have he1:∀m,m<585->N m≠0->∀j,j<8->Go.Proofs.YtiadbhiadhgjkaaGreatDoor.ent (P.alloc o) (N m) j=Go.Proofs.YtiadbhiadhgjkaaGreatDoor.ent P (N m) j:=by
  intro m hm hm0 j hj;refine zZ P _ _ _ hj fun q hq=>?_
  rw[ha];show(if _ then _ else _)=_
  have:=hno m hm hm0;rw[aA (by omega)]
 have hez:∀j,j<8->Go.Proofs.YtiadbhiadhgjkaaGreatDoor.ent (P.alloc o) ((z:Int)+1) j=0:=by
  intro j hj;refine DV _ _ _ hj fun q hq=>?_
  rw[ha];show(if _ then _ else _)=_
  rw[aD (by omega)]
 have hset:∀t' j,j<8->1<=t'->Go.Proofs.YtiadbhiadhgjkaaGreatDoor.ent ((P.alloc o).gI (N n) i (((z:Int)+1)*256+1)) t' j=if t'=N n/\j=i then((z:Int)+1)*256+1 else Go.Proofs.YtiadbhiadhgjkaaGreatDoor.ent (P.alloc o) t' j :=
  fun t' j hj ht'=>qC _ _ _ _ _ _ hi hj UU nb1 ht' (by omega) (by omega)
 refine⟨(z:Int)+1,hr,by omega,by omega,?_,zf.trans (wE _ _ o _ _ hi (hown1 _ (h.own n hn h0)) h.o0),?_,?_⟩
 ·have hN':∀m,m≠8*n+1+i->dU N (8*n+1+i) ((z:Int)+1) m=N m:=fun m hm=>bL _ _ _ _ hm
  have hNc:dU N (8*n+1+i) ((z:Int)+1) (8*n+1+i)=(z:Int)+1:=dZ _ _ _;refine⟨by rw[hN' 0 (by omega)];exact h.root,h.r0,h.o0,fun m hm hm0 j hj=>?_,fun m m' hm hm' hm0 hm0' e=>?_,fun m hm hm0=>?_,fun m hp hm hm0=>?_,fun p hp hF=>?_,h.lf⟩
  ·by_cases e:m=8*n+1+i
   ·subst e
    rw[hNc,hset _ j hj (by omega),aA (by rintro⟨e,_⟩;exact hno n hn h0 (by omega)),hez j hj];by_cases hb:8*(8*n+1+i)+1+j<585
    ·rw[aD hb,hN' _ (by omega)]
     have:N (8*(8*n+1+i)+1+j)=0:=by
      by_cases hq:N (8*(8*n+1+i)+1+j)=0
      ·exact hq
      ·have:=h.up _ (by omega) hb hq
       rw[show(8*(8*n+1+i)+1+j-1)/8=8*n+1+i by omega]at this;exact absurd hN this
     rw[this,aD rfl]
    ·rw[aA hb]
     unfold vM
     have:F (8*(8*n+1+i)+1+j-585)=0:=by
      by_cases hq:F (8*(8*n+1+i)+1+j-585)=0
      ·exact hq
      ·have:=h.qh _ (by omega) hq
       rw[show 73+(8*(8*n+1+i)+1+j-585)/8=8*n+1+i by omega]at this;exact absurd hN this
     rw[this,aD rfl]
   ·rw[hN' m e]at hm0 ⊢
    have hb:=h.bd m hm hm0;rw[hset _ j hj hb.1];by_cases e2:m=n/\j=i
    ·obtain⟨rfl,rfl⟩:=e2
     rw[aD ⟨rfl,rfl⟩,aD hc,hNc,aA (by omega)]
    ·have e3:¬(N m=N n/\j=i):=by
      rintro⟨e4,e5⟩;exact e2 ⟨h.inj m n hm hn hm0 h0 e4,e5⟩
     rw[aA e3,he1 m hm hm0 j hj,h.ent m hm hm0 j hj];by_cases hb:8*m+1+j<585
     ·rw[aD hb,aD hb,hN' _ (by intro e;exact e2 ⟨by omega,by omega⟩)]
     ·rw[aA hb,aA hb]
  ·by_cases e1:m=8*n+1+i
   ·by_cases e2:m'=8*n+1+i
    ·omega
    ·rw[e1,hNc,hN' m' e2]at e
     rw[hN' m' e2]at hm0';exact absurd (by omega) (hno m' hm' hm0')
   ·by_cases e2:m'=8*n+1+i
    ·rw[e2,hNc,hN' m e1]at e
     rw[hN' m e1]at hm0;exact absurd (by omega) (hno m hm hm0)
    ·rw[hN' m e1,hN' m' e2]at e
     rw[hN' m e1]at hm0;rw[hN' m' e2]at hm0';exact h.inj m m' hm hm' hm0 hm0' e
  ·rw[oC]
   by_cases e:m=8*n+1+i
   ·rw[e,hNc];exact Yd
   ·rw[hN' m e]at hm0 ⊢;exact hown1 _ (h.own m hm hm0)
  ·by_cases e:m=8*n+1+i
   ·rw[show(m-1)/8=n by omega,hN' n (by omega)];exact h0
   ·rw[hN' m e]at hm0
    have:=h.up m hp hm hm0;rw[hN' _ (by intro e2;rw[e2]at this;exact this hN)];exact this
  ·have:=h.qh p hp hF
   rw[hN' _ (by intro e2;rw[e2]at this;exact this hN)];exact this
 ·unfold Pool.left;rw[pV,jT,hOz,hnz];omega
 ·rw[jT,hOz];omega
theorem Tab.told(h:Tab P r o N F Y)(p:Nat)(hp:p<4096)(h0:N (73+p/8)≠0)(f:Int)(b:Bool)(hf1:0<=f)(hf2:f<=4294967295) :
  Tab (P.gI (N (73+p/8)) (p%8) (if f=0 then 0 else f*256+1+(if b then 2 else 0))) r o N (dU F p f) (yV Y p b)/\dQ P (P.gI (N (73+p/8)) (p%8) (if f=0 then 0 else f*256+1+(if b then 2 else 0))) o:=by
 obtain⟨nb1,nb2⟩:=h.bd (73+p/8) (by omega) h0;have hw:=h.own (73+p/8) (by omega) h0;have hno:P.owner (N (73+p/8))≠0:=by rw[hw];exact h.o0
 have hx:0<=(if f=0 then(0:Int)else f*256+1+(if b then 2 else 0))/\(if f=0 then(0:Int)else f*256+1+(if b then 2 else 0))<=18446744073709551615:=by
  cases b<;>simp<;>split<;>omega
 refine⟨⟨h.root,h.r0,h.o0,fun m hm hm0 j hj=>?_,h.inj,fun m hm hm0=>by rw[oC];exact h.own m hm hm0,h.up,fun q hq hF=>?_,fun q hq=>?_⟩,wE _ _ o _ _ (by omega) hw h.o0⟩
 ·have hb:=h.bd m hm hm0
  rw[qC _ _ _ _ _ _ (by omega) hj hno nb1 hb.1 hx.1 hx.2];by_cases e:N m=N (73+p/8)/\j=p%8
  ·obtain⟨e1,rfl⟩:=e
   obtain rfl:=h.inj m (73+p/8) hm (by omega) hm0 h0 e1;rw[aD ⟨rfl,rfl⟩,aA (show ¬8*(73+p/8)+1+p%8<585 by omega),show 8*(73+p/8)+1+p%8-585=p by omega];unfold vM dU yV;rw[aD rfl,aD rfl]
  ·rw[aA e,h.ent m hm hm0 j hj]
   by_cases hb:8*m+1+j<585
   ·rw[aD hb,aD hb]
   ·rw[aA hb,aA hb]
    have hne:8*m+1+j-585≠p:=by
     intro e2;apply e;have:m=73+p/8:=by omega
     subst this;exact⟨rfl,by omega⟩
    unfold vM dU yV;rw[aA hne,aA hne]
 ·by_cases e:q=p
  ·subst e;exact h0
  ·rw[bL _ _ _ _ e]at hF;exact h.qh q hq hF
 ·unfold dU;split
  ·exact⟨hf1,hf2⟩
  ·exact h.lf q hq
end
end Go.Proofs.YtiadbhiadhgjkaaGreatDoor
