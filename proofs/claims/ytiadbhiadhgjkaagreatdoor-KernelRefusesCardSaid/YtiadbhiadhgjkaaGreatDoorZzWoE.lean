import Derived.Test.YtiadbhiadhgjkaaGreatDoorZzWoB
import Derived.RangeFuncNested
import Derived.RangeFuncBound
import Derived.RangeFuncCalls
import Derived.RangeFuncLeaves
import Derived.RangeFuncFrom
import Derived.RangeFuncWrites
import Derived.Shelf.Abstract
import Derived.Shelf.RegionOpen
import Derived.OwnWalkIn
import Derived.TacticsInMore
import Derived.Laws.AppendOwnNone
import Derived.Test.YtiadbhiadhgjkaaGreatDoorZzKm
import Derived.Test.YtiadbhiadhgjkaaGreatDoorZzLib
import Derived.Deep.LoopGhost
set_option maxRecDepth 100000
set_option maxHeartbeats 4000000
namespace Go.Proofs.YtiadbhiadhgjkaaGreatDoor
open Go.RowKit Go.Shelf
attribute [local irreducible] World.setCell World.alloc World.drew World.setRow Calls Code.wp
attribute [local go_sem] Oper.semAt_some
structure CK(w w':World):Prop where
 size:w.heap.size<=w'.heap.size
 cells:∀(k:Nat) (c:Array Value) (t:TypeId) (fz:Nat×Nat),w.heap[k]? = some (.cells c t fz)->w'.heap[k]? = some (.cells c t fz)
theorem CK.refl(w:World):CK w w:=⟨aj _,fun _ _ _ _ h=>h⟩
theorem CK.trans{a b c:World}(h:CK a b)(k:CK b c):CK a c:=⟨bD h.size k.size,fun i c t fz e=>k.cells i c t fz (h.cells i c t fz e)⟩
theorem CK.blk{w w':World}(h:CK w w'){b t:Nat}{c:Array Value}(hb:aR w b c t):aR w' b c t:=h.cells b c t _ hb
theorem CK.row{w w':World}(h:CK w w'){ty n:Nat}{v:Value}{cells:List Value}(hr:aJ w ty v n cells):aJ w' ty v n cells:=by
 obtain⟨a,c,rfl,h1,h2,h3⟩:=hr;refine⟨a,c,rfl,h1,h2,h3.imp id ?_⟩;rintro⟨b,cs,fz,rfl,hh,hc⟩;exact⟨b,cs,fz,rfl,h.cells b cs _ fz hh,hc⟩
theorem CK.box{w w':World}(h:CK w w'){b:Nat}{l:dn}(hb:jX w b l):jX w' b l:=by
 obtain⟨s,h1,h2⟩:=hb;exact⟨s,h.blk h1,h.row h2⟩
theorem CK.of{w w':World}(h:Below w.heap.size w w'):CK w w':=⟨h.size,fun k c t fz e=>by rw[h.block k (aU.1 e).1];exact e⟩
theorem VO{w:World}(W:World)(l:Nat)(o o':Obj)(_:w.heap.size<=l)(h:W.heap[l]? = some o)(hc:o.isCells=false)(_:o.isWalk=false):CK W (W.putObj l o'):=by
 refine⟨by simp,fun k c t fz e=>?_⟩;by_cases hk:k=l
 ·subst hk
  rw[h]at e
  cases e
  cases hc
 ·rw[World.putObj_heap_other (fun e=>hk e)];exact e
theorem yD{w w':World}(h:Below w.heap.size w w'):w.grownBy w' none:=⟨h.os,h.tape,h.output,h.size,fun k hk _=>h.block k hk⟩
def WL(x:Nat×Nat×Nat):Nat×Bool:=(x.1,decide (x.2.1<=x.2.2))
def oG(a b:dn):List (Nat×Bool):=(jQ a b).map WL
def gY(d:Nat)(s:Value):Obj:=.cells #[.int .i64 (d:Nat),s] 43
theorem Af(d1 d2:Nat)(s1 s2:Value)(w:World) :
  Calls Tryz.prog 75 #[.agg #[.int .i64 (d1:Nat),s1],.agg #[.int .i64 (d2:Nat),s2]] w fun e w'=>e=.returned (.func (.func 106) #[] #[.pointer (some ⟨w.heap.size,0,none⟩),.pointer (some ⟨w.heap.size+1,0,none⟩)])/\w'=(w.alloc (gY d1 s1)).alloc (gY d2 s2):=by
 go_enter Tryz.func75,Tryz.ntmps75
 go_wp2_with fail
 go_ret;exact⟨rfl,rfl⟩
theorem FI(d1 d2:Nat)(s1 s2:Value)(w:World) :
  Calls Tryz.prog 51 #[.agg #[.int .i64 (d1:Nat),s1],.agg #[.int .i64 (d2:Nat),s2]] w fun e w'=>e=.returned (.func (.func 74) #[] #[.pointer (some ⟨w.heap.size,0,none⟩),.pointer (some ⟨w.heap.size+1,0,none⟩)])/\w'=(w.alloc (gY d1 s1)).alloc (gY d2 s2):=by
 go_enter Tryz.func51,Tryz.ntmps51
 go_wp2_with fail
 go_ret;exact⟨rfl,rfl⟩
theorem sj(d1 d2:Nat)(s1 s2:Value)(w:World)(l1 l2:dn)(h1:bU w (.agg #[.int .i64 (d1:Nat),s1]) l1)(h2:bU w (.agg #[.int .i64 (d2:Nat),s2]) l2) :
  jX ((w.alloc (gY d1 s1)).alloc (gY d2 s2)) w.heap.size l1/\jX ((w.alloc (gY d1 s1)).alloc (gY d2 s2)) (w.heap.size+1) l2:=by
 have hB:Below w.heap.size w ((w.alloc (gY d1 s1)).alloc (gY d2 s2)):=((aC _ w).alloc (aj _) _).alloc (by simp) _;obtain⟨t1,e1,r1⟩:=h1;obtain⟨t2,e2,r2⟩:=h2;have z1:(d1:Int)=l1.d/\s1=t1:=by simpa using e1
 have z2:(d2:Int)=l2.d/\s2=t2:=by simpa using e2
 obtain⟨y1,rfl⟩:=z1;obtain⟨y2,rfl⟩:=z2;obtain rfl:d1=l1.d:=by omega
 obtain rfl:d2=l2.d:=by omega
 refine⟨⟨s1,(aR.new _ _ _).alloc _,aJ.below r1 hB (aj _)⟩,⟨s2,?_,aJ.below r2 hB (aj _)⟩⟩;have:=aR.new (w.alloc (gY l1.d s1)) #[.int .i64 (l2.d:Nat),s2] 43;rw[au]at this;exact this
theorem XD(lp yb c x y:Nat)(ty:TypeId)(W:World)(R:Ending->World->Prop)(hyb:aR W yb #[.func (.yield lp) #[] #[]] ty)
  (hY:YieldAt Fence.wide 3 Tryz.prog lp #[.int .u32 (c:Nat),.bool (decide (x<=y))] W fun e W'=>∃v,e=.returned (.bool v)/\R (.returned (.bool v)) W') :
  Calls Tryz.prog 76 #[.int .u32 (c:Nat),.int .i64 (x:Nat),.int .i64 (y:Nat),.pointer (some ⟨yb,0,none⟩)] W R:=by
 have hc:=hyb.cell;have hdd:∀k:Nat,(Fence.wide.depth.isSome=true->1<=k):=fun k h=>by cases h
 obtain⟨fn,tmps,assign,body,hy,hR⟩:=hY;refine(callsIn_wide (n:=4)).1 ?_;refine callsIn_of_wp Tryz.func76 rfl trivial ?_ rfl;simp only[Tryz.ntmps76,List.size_toArray,aZ,List.length_nil,Nat.reduceAdd,Nat.reduceSub,Array.replicate_succ,Array.replicate_zero,List.push_toArray,List.append_toArray,List.nil_append,List.cons_append];clear hyb;gi_wp2_with ((try refine⟨hdd _,?_⟩);refine hR.mono ?_;clear hR;rintro e W3 ⟨v,rfl,hv⟩)
 exact hv
theorem Lp{a b:dn}{pre:List (Nat×Nat×Nat)}(h:pre <+: jQ a b):pre.map WL <+: oG a b:=h.map _
theorem CX(a b:dn)(A B:Nat)(w:World)(hA:jX w A a)(hB:jX w B b)(hbd:a.ps.length<=1000/\b.ps.length<=1000) :
  SeqStopsK Fence.wide 4 Tryz.prog 74 #[.pointer (some ⟨A,0,none⟩),.pointer (some ⟨B,0,none⟩)] (fun x:Nat×Bool=>#[.int .u32 (x.1:Nat),.bool x.2]) CK (fun ys=>ys=oG a b) (fun pre=>pre <+: oG a b) (oG a b).length w:=by
 intro l J Jx W hW hJ hJx hY h0;have hAW:=(CK.of hW).box hA;have hBW:=(CK.of hW).box hB;refine callsIn_wide.2 ?_;obtain⟨yb,hyb⟩:∃yb,yb=W.heap.size:=⟨_,rfl⟩;obtain⟨W1,hW1⟩:∃W1:World,W1=W.alloc (.cells #[.func (.yield l) #[] #[]] 201):=⟨_,rfl⟩;have ZA:Hid (aR W1 yb #[.func (.yield l) #[] #[]] 201):=by rw[hW1,hyb];exact aR.new _ _ _
 have hC1:CK W W1:=by rw[hW1];exact CK.of ((aC _ W).alloc (aj _) _)
 obtain⟨sa,ha1,ha2⟩:=hC1.box hAW;obtain⟨sb,hb1,hb2⟩:=hC1.box hBW;obtain⟨ra,ca,rfl,-,-⟩:=aJ.form ha2;obtain⟨rb,cb,rfl,-,-⟩:=aJ.form hb2;have hJ1:J [] W1:=by rw[hW1];exact hJ _ _ _ none h0 (yD ((aC _ W).alloc (aj _) _)) (fun _ e=>by cases e)
 have tO:=sj a.d b.d (.slice ra a.ps.length ca) (.slice rb b.ps.length cb) W1 a b ⟨_,rfl,ha2⟩ ⟨_,rfl,hb2⟩;obtain⟨W2,hW2⟩:∃W2:World,W2=(W1.alloc (gY a.d (.slice ra a.ps.length ca))).alloc (gY b.d (.slice rb b.ps.length cb)):=⟨_,rfl⟩;have hb12:Below W1.heap.size W1 W2:=by rw[hW2];exact((aC _ W1).alloc (aj _) _).alloc (by simp) _
 have hJ2:J [] W2:=hJ _ _ _ none hJ1 (yD hb12) (fun _ e=>by cases e);have Hm:=ah (Af a.d b.d (.slice ra a.ps.length ca) (.slice rb b.ps.length cb) W1);have HYb:=ah ((CK.of hb12).blk ZA.out);rw[<-hW2]at tO
 have qK:Hid (Calls Tryz.prog 106 #[.func (.func 76) #[] #[.pointer (some ⟨yb,0,none⟩)],.pointer (some ⟨W1.heap.size,0,none⟩),.pointer (some ⟨W1.heap.size+1,0,none⟩)] W2 fun e W' =>
   e=.returned (.tuple #[])/\((J (oG a b) W'/\CK W2 W')\/∃pre,pre <+: jQ a b/\Jx (pre.map WL) W')):=by
  refine(IQ a b W1.heap.size (W1.heap.size+1) 76 #[.pointer (some ⟨yb,0,none⟩)]
   (fun pre W'=>J (pre.map WL) W'/\CK W2 W') (fun pre W'=>Jx (pre.map WL) W') W2
   (enters_of Tryz.func76 (by kernel_rfl) rfl) hbd (fun pre W' h=>⟨h.2.box tO.1,h.2.box tO.2⟩)
   (fun pre W' n h=>⟨hJ _ _ _ none h.1 (yD (bI W' n)) (fun _ e=>by cases e),h.2.trans (CK.of (bI W' n))⟩) ?_ ⟨hJ2,CK.refl _⟩).mono ?_
  ·rintro pre ⟨c,x,y⟩ W' ⟨hj,hc⟩ hpre
   have hlen:(pre.map WL).length<(oG a b).length:=by
    have:=hpre.length_le;unfold oG;simp only[List.length_map,aO,aZ,List.length_nil]at this ⊢;omega
   refine(XD l yb c x y 201 W' _ (hc.blk HYb.out) ?_);obtain⟨fn,tmps,assign,body,hy,hR⟩:=hY _ (c,decide (x<=y)) W' hj hlen;refine⟨fn,tmps,assign,body,hy,hR.mono ?_⟩;rintro e W3 (⟨rfl,hj3,hk3⟩|⟨rfl,hx3⟩)
   ·exact⟨true,rfl,.inl ⟨rfl,by rw[List.map_append];exact hj3,hc.trans hk3⟩⟩
   ·exact⟨false,rfl,.inr ⟨rfl,by rw[List.map_append];exact hx3⟩⟩
  ·rintro e W' ⟨rfl,h|⟨pre,h1,h2⟩⟩
   ·exact⟨rfl,.inl h⟩
   ·exact⟨rfl,.inr ⟨pre,h1,h2⟩⟩
 have ha0:W1.cell? ⟨A,0,none⟩=some (.int .i64 (a.d:Nat)):=by rw[ha1.cell];rfl
 have acw:W1.cell? ⟨A,1,none⟩=some (.slice ra a.ps.length ca):=by rw[ha1.cell];rfl
 have hb0:W1.cell? ⟨B,0,none⟩=some (.int .i64 (b.d:Nat)):=by rw[hb1.cell];rfl
 have acv:W1.cell? ⟨B,1,none⟩=some (.slice rb b.ps.length cb):=by rw[hb1.cell];rfl
 clear hA hB hAW hBW hC1 ha1 ha2 hb1 hb2 hJ1 tO hb12 hJ2 hY h0 hJ hJx hW;go_enter Tryz.func74,Tryz.ntmps74
 go_upto_region 1 with fail
 rw[<-hW1,<-hyb];have HW2:=ah hW2;clear hW1 hW2 hyb;go_wp2_with fail
 refine Hm.out.mono ?_;rintro e W2' ⟨rfl,rfl⟩;rw[<-HW2.out];clear ha0 acw hb0 acv;go_wp2_with fail
 refine qK.out.mono ?_;rintro e W3 ⟨rfl,h3⟩;have H3:=ah h3;clear h3;go_wp2_with fail
 first|(refine bodyPost_end (results_none rfl _ _ _) rfl ?_)|(refine bodyPost_ret (results_none rfl _ _ _) rfl ?_)
 refine⟨⟨_,rfl⟩,?_⟩;rcases H3.out with⟨h,_⟩|⟨pre,h1,h2⟩
 ·exact .inl ⟨_,rfl,h⟩
 ·exact .inr ⟨_,Lp h1,h2⟩
section
variable {P:Program}{fn:Func}{R:Ending->World->Prop}{n:Nat}{tmps:Array Value}{v:Value}{w:World}
theorem En{f:FuncId}{c:Code}{args:Array Value}(hf:P.funcs[f]? = some fn)(hb:fn.body=some c)
  (h:c.wp P (bodyPostM Fence.wide 5 P fn R) { tmps:=args++Array.replicate (fn.ntmps-args.size) undef,defers:=[] } w):Calls P f args w R :=
 (callsIn_wide (n:=5)).1 (callsIn_of_wp_marks hf hb trivial (wpIn_wide.2 h) rfl)
end
theorem sS(w:World)(D:Nat)(o:Obj):Kept (·=D) w (w.putObj D o) :=
 ⟨rfl,rfl,rfl,by simp[World.putObj],fun k _ h=>World.putObj_heap_other h⟩
theorem Ah(a b:dn):((oG a b).all fun x=>x.2)=a.leq b:=by
 unfold oG jQ dn.leq;rw[bW,bT,List.all_map];rfl
theorem Pg{rb:Nat}(v:Value)(ty:TypeId){β:Type}(_:List β)(A B:World)(row:Option Nat)(h:aR A rb #[v] ty)(hg:A.grownBy B row)(hr:∀r,row=some r->∃o:Obj,A.heap[r]? = some o/\o.isCells=false):aR B rb #[v] ty:=by
 have hlt:=h.lt;unfold aR at h ⊢;rw[hg.block rb hlt (fun e=>by obtain⟨o,ho,hc⟩:=hr rb e.symm;rw[h]at ho;cases ho;cases hc)];exact h
theorem qN(a b:dn)(va vb:Value)(w:World)(hA:bU w va a)(hB:bU w vb b)(hbd:a.ps.length<=1000/\b.ps.length<=1000) :
  Calls Tryz.prog 26 #[va,vb] w fun e w'=>e=.returned (.bool (a.leq b))/\Below w.heap.size w w':=by
 obtain⟨sa,rfl,ha⟩:=hA;obtain⟨sb,rfl,hb⟩:=hB;obtain⟨ra,ca,rfl,-,-⟩:=aJ.form ha;obtain⟨rb,cb,rfl,-,-⟩:=aJ.form hb;obtain⟨h0,hh0⟩:∃h0,h0=w.heap.size:=⟨_,rfl⟩;obtain⟨w3,hw3⟩:∃w3:World,w3=((w.alloc (.cells #[.int .i64 (a.d:Nat),.slice ra a.ps.length ca] 43)).alloc (.cells #[.int .i64 (b.d:Nat),.slice rb b.ps.length cb] 43)).alloc (.cells #[.bool false] 4):=⟨_,rfl⟩;have hB3:Below w.heap.size w w3:=by rw[hw3];exact((((aC _ w).alloc (aj _) _).alloc (by simp) _).alloc (by simp;omega) _)
 have Xy:Hid (bU w3 (.agg #[.int .i64 (a.d:Nat),.slice ra a.ps.length ca]) a):=⟨_,rfl,aJ.below ha hB3 (aj _)⟩;have HB3:Hid (bU w3 (.agg #[.int .i64 (b.d:Nat),.slice rb b.ps.length cb]) b):=⟨_,rfl,aJ.below hb hB3 (aj _)⟩
 have HX:Hid (aR w3 (h0+1+1) #[.bool false] 4):=by
  rw[hw3,hh0];have:=aR.new ((w.alloc (.cells #[.int .i64 (a.d:Nat),.slice ra a.ps.length ca] 43)).alloc (.cells #[.int .i64 (b.d:Nat),.slice rb b.ps.length cb] 43)) #[.bool false] 4;rw[au,au]at this;exact this
 have WI:=ah hB3;have Hpm:=ah (FI a.d b.d (.slice ra a.ps.length ca) (.slice rb b.ps.length cb) w3);have oU:=ah hh0;have tO:=sj a.d b.d (.slice ra a.ps.length ca) (.slice rb b.ps.length cb) w3 a b Xy.out HB3.out;obtain⟨w5,hw5⟩:∃w5:World,w5=(w3.alloc (gY a.d (.slice ra a.ps.length ca))).alloc (gY b.d (.slice rb b.ps.length cb)):=⟨_,rfl⟩;rw[<-hw5]at tO;have hseq:=CX a b w3.heap.size (w3.heap.size+1) w5 tO.1 tO.2 hbd;have adl:=ah hseq;have HX5:Hid (aR w5 (h0+1+1) #[.bool false] 4):=by rw[hw5];exact(HX.out.alloc _).alloc _
 have pK:Hid (Below w.heap.size w w5):=by rw[hw5];exact(WI.out.alloc WI.out.size _).alloc (by have:=WI.out.size;simp;omega) _
 have Hw5:=ah hw5;clear ha hb hB3 tO hseq hw5 Xy HB3;refine En Tryz.func26 rfl ?_;simp only[Tryz.ntmps26,List.size_toArray,aZ,List.length_nil,Nat.reduceAdd,Nat.reduceSub,Array.replicate_succ,Array.replicate_zero,List.push_toArray,List.append_toArray,List.nil_append,List.cons_append];go_wp2_with fail
 rw[<-hw3,<-hh0];clear hw3 hh0;refine Hpm.out.mono ?_;rintro e w5' ⟨rfl,rfl⟩;rw[<-Hw5.out];go_wp2_with fail
 have hz5:h0+1+1<w5.heap.size:=HX5.out.lt;refine(wpIn_wide (n:=5)).1 ?_
 refine' wpIn_rangeFunc_ownF (F:=Fence.wide) (n:=5) rfl (by omega) (gf:=74) (lb:=#[.pointer (some ⟨w3.heap.size,0,none⟩),.pointer (some ⟨w3.heap.size+1,0,none⟩)]) rfl trivial (enters_of Tryz.func74 (by kernel_rfl) rfl)
  adl.out (fun h k=>h.trans k) (fun W l o o' h1 h2 h3 h4=>VO (w:=w5) W l o o' h1 h2 h3 h4) (aC _ _) (fun _=>rfl)
  (fun pre W=>((pre.all fun x=>x.2)=true/\aR W (h0+1+1) #[.bool false] 4)/\Below h0 w5 W)
  (fun c pre W=>(c=Code.ret/\(pre.all fun x=>x.2)=false/\aR W (h0+1+1) #[.bool false] 4)/\Below h0 w5 W)
  (OwnFrom.and (Own.from (fun s A B row hs hg hr=>⟨hs.1,Pg _ _ s A B row hs.2 hg hr⟩) _) (ownFrom_below (by omega) (by omega)))
  (fun c=>OwnFrom.and (Own.from (fun s A B row hs hg hr=>⟨hs.1,hs.2.1,Pg _ _ s A B row hs.2.2 hg hr⟩) _) (ownFrom_below (by omega) (by omega)))
  ⟨⟨rfl,HX5.out⟩,aC _ _⟩ _ ?assign ?body ?done ?stop
 case assign =>
  intro l x W K hK;gi_wp2
  exact hK
 case body =>
  rintro l pre ⟨c,ok⟩ W ⟨⟨hall,hX⟩,hB⟩ hlt;have hcx:=hX.cell;have hfx:=hX.free;have HXb:=ah hX;have HBb:=ah hB;have Qa:=ah hall;clear hX hB hall
  cases ok with
  | true =>
   gi_wp2
   exact⟨KeepsOthers.refl _,CK.refl _,⟨by rw[List.all_append,Qa.out];rfl,HXb.out⟩,HBb.out⟩
  | false =>
   have hX2:aR (W.setCell ⟨h0+1+1,0,none⟩ (.bool false)) (h0+1+1) #[.bool false] 4:=(HXb.out.set 0 _).cells rfl;gi_wp2
   exact⟨KeepsOthers.setCell _ _ _,⟨rfl,by rw[List.all_append];simp,hX2⟩,HBb.out.setCell (p:=⟨h0+1+1,0,none⟩) (by show h0<=h0+1+1;omega) _⟩
 case stop =>
  rintro D c pre W hD hS ⟨⟨rfl,hall,hX⟩,hB⟩ hK
  have hres:a.leq b=false:=by
   rw[<-Ah];obtain⟨r,hr⟩:=hS;rw[<-hr,List.all_append,hall,Bool.false_and]
  have hDz:=(aU.1 hK).1
  have hDX:D≠h0+1+1:=fun e=>by
   unfold aR at hX;rw[e,hX]at hK
   cases hK
  have hcx:(W.putObj D (.deferred none)).cell? ⟨h0+1+1,0,none⟩=some (.bool false):=by
   rw[World.cell?_of_block (w:=W) ((sS W D _).block (h0+1+1) hX.lt (Ne.symm hDX))];rw[hX.cell];rfl
  have HD:=ah hK;have HB:=ah hB;have PL:=ah hres;have hDh:h0<=D:=by have:=hD;omega
  clear hK hB hX hres hall hS;refine wpIn_wide.2 ?_;go_wp2_with fail
  exact⟨by simp,.inl ⟨D,_,rfl,run_takeDeferred HD.out,.bool false,by simp[results,Tryz.results26,hcx,go_sem],by rw[PL.out],by
   have h1:=(pK.out).trans (HB.out.mono (by rw[oU.out];exact aj _));exact h1.trans ((sS W D _).below (B:=w.heap.size) (by have:=HB.out.size;have:=pK.out.size;omega) (fun k hk e=>by have:=oU.out;omega))⟩⟩
 case done =>
  rintro D ys W hD hys ⟨⟨hall,hX⟩,hB⟩ hK;have hres:a.leq b=true:=by rw[<-Ah,<-hys];exact hall
  have hcx:=hX.cell;have hfx:=hX.free;have hX2:aR (W.setCell ⟨h0+1+1,0,none⟩ (.bool true)) (h0+1+1) #[.bool true] 4:=(hX.set 0 _).cells rfl
  have hDX:D≠h0+1+1:=fun e=>by
   unfold aR at hX;rw[e,hX]at hK
   cases hK
  have HDx:Hid ((W.setCell ⟨h0+1+1,0,none⟩ (.bool true)).heap[D]? = some (.deferred (some []))):=by
   show _=_
   rw[Below.heap_setCell _ _ _ _ (by show D≠h0+1+1;exact hDX)];exact hK
  have hcy:((W.setCell ⟨h0+1+1,0,none⟩ (.bool true)).putObj D (.deferred none)).cell? ⟨h0+1+1,0,none⟩=some (.bool true):=by
   rw[World.cell?_of_block (w:=W.setCell ⟨h0+1+1,0,none⟩ (.bool true)) ((sS _ D _).block (h0+1+1) hX2.lt (Ne.symm hDX))];rw[hX2.cell];rfl
  have HB:=ah hB;have PL:=ah hres;have hDh:h0<=D:=by have:=hD;omega
  clear hK hB hX hres hall hys hX2;go_wp2_with fail
  exact⟨by simp,.inl ⟨D,_,rfl,run_takeDeferred HDx.out,.bool true,by simp[results,Tryz.results26,hcy,go_sem],by rw[PL.out],by
   have h1:=(pK.out).trans (HB.out.mono (by rw[oU.out];exact aj _));have h2:=h1.setCell (p:=⟨h0+1+1,0,none⟩) (by show w.heap.size<=h0+1+1;have:=oU.out;omega) (.bool true);exact h2.trans ((sS _ D _).below (B:=w.heap.size) (by have:=h2.size;omega) (fun k hk e=>by have:=oU.out;omega))⟩⟩
end Go.Proofs.YtiadbhiadhgjkaaGreatDoor
namespace Go.Proofs.YtiadbhiadhgjkaaGreatDoor
open Go.RowKit
attribute [local irreducible] World.setCell World.alloc World.drew World.setRow Calls Code.wp
attribute [local go_sem] Oper.semAt_some
def LD(f:Nat->Nat->Nat)(D:Nat)(p:Nat×Nat×Nat):Option (Nat×Nat):=if f p.2.1 p.2.2=D then none else some (p.1,f p.2.1 p.2.2)
def SG(lv:Value)(f:Nat->Nat->Nat)(W:World):Prop:=∃lid caps,lv=.func (.func lid) #[] caps/\(∀args w,(callFunc lid args).run Tryz.prog w=.ok (.enter lid args) w) /\
 ∀x y:Nat,x<1000->y<1000->Calls Tryz.prog lid (#[.int .i64 (x:Nat),.int .i64 (y:Nat)]++caps) W fun e W'=>e=.returned (.int .i64 (f x y:Nat))/\W'=W
structure vR(W:World)(base ob d:Nat)(ps:List (Nat×Nat)):Prop where
 row:∃s,aR W ob #[.int .i64 (d:Nat),s] 43/\W.ownsRow base 111 2 s ps.length (ps.flatMap fG)
theorem oK:(Tryz.prog.info? 111).map (fun i=>(i.zero,i.size,i.bytes))=some (some (.agg #[.int .u32 0,.int .i64 0]),2,16):=by kernel_rfl
theorem Dj(f:Nat->Nat->Nat)(lb ob base d x y:Nat)(tl:TypeId)(lv:Value)(W:World)(hx:x<1000/\y<1000)(hl:aR W lb #[lv] tl)(hF:SG lv f W)(ho:vR W base ob d [])(_:lb≠ob) :
  Calls Tryz.prog 107 #[.int .u32 0,.int .i64 (x:Nat),.int .i64 (y:Nat),.pointer (some ⟨lb,0,none⟩),.pointer (some ⟨ob,0,none⟩)] W fun e W'=>e=.returned (.bool true)/\vR W' base ob (f x y) []/\Kept (·=ob) W W':=by
 obtain⟨lid,caps,rfl,hE,hc⟩:=hF;have Hc:=ah (hc x y hx.1 hx.2);obtain⟨s,h1,h2⟩:=ho.row;have hlc:=hl.cell;have hoc:=h1.cell;have hof:=h1.free
 have HF:Hid (vR (W.setCell ⟨ob,0,none⟩ (.int .i64 (f x y:Nat))) base ob (f x y) []):=⟨s,(h1.set 0 _).cells rfl,by
  refine dA (T:=(·=ob)) h2 ((Kept.refl (·=ob) W).bC ob 0 _ rfl) (fun b hb e=>?_);obtain⟨cur,hh,_⟩:=jA h2 hb;rw[e]at hh;unfold aR at h1;rw[h1]at hh;simp at hh⟩
 have HK:Hid (Kept (·=ob) W (W.setCell ⟨ob,0,none⟩ (.int .i64 (f x y:Nat)))):=(Kept.refl _ W).bC ob 0 _ rfl;clear hc hl ho h1 h2;go_enter Tryz.func107,Tryz.ntmps107
 go_wp2_with fail
 refine Hc.out.mono ?_;rintro e W1 ⟨rfl,rfl⟩;go_wp2_with fail
 go_ret;exact⟨rfl,HF.out,HK.out⟩
theorem Dk(f:Nat->Nat->Nat)(lb ob base D c x y:Nat)(ps:List (Nat×Nat))(tl:TypeId)(lv:Value)(W:World)(hx:x<1000/\y<1000)(hc0:c≠0)(hps:ps.length<=100000)(hbase:base<=W.heap.size)(hl:aR W lb #[lv] tl)(hF:SG lv f W)(ho:vR W base ob D ps)(ru:ob<base) :
  Calls Tryz.prog 107 #[.int .u32 (c:Nat),.int .i64 (x:Nat),.int .i64 (y:Nat),.pointer (some ⟨lb,0,none⟩),.pointer (some ⟨ob,0,none⟩)] W fun e W'=>e=.returned (.bool true)/\vR W' base ob D (ps++(LD f D (c,x,y)).toList)/\Kept (fun b=>b=ob\/base<=b) W W':=by
 obtain⟨lid,caps,rfl,hE,hc⟩:=hF;have Hc:=ah (hc x y hx.1 hx.2);obtain⟨s,h1,h2⟩:=ho.row;have hlc:=hl.cell;have hoc:=h1.cell;have hof:=h1.free;have hcb:((c:Int)==0)=false:=by simp;omega
 obtain⟨n,hn⟩:∃n,f x y=n:=⟨_,rfl⟩;rw[hn]at Hc;clear hc hl;by_cases hD:n=D
 ·have hm:LD f D (c,x,y)=none:=by unfold LD;rw[aD (by rw[hn];exact hD)]
  have hnb:((n:Int) != D)=false:=by simp[hD]
  have HO:=ah ho;have Hm:=ah hm;clear hm h1 h2 ho hn;go_enter Tryz.func107,Tryz.ntmps107
  go_wp2_with fail
  refine Hc.out.mono ?_;rintro e W1 ⟨rfl,rfl⟩;go_wp2_with fail
  go_ret;exact⟨rfl,by rw[Hm.out];simpa using HO.out,Kept.refl _ _⟩
 ·have hm:LD f D (c,x,y)=some (c,n):=by unfold LD;rw[aA (by rw[hn];exact hD),hn]
  have hnb:((n:Int) != D)=true:=by simp;omega
  have Hm:=ah hm;obtain⟨i0,hi,hz0,hz1,hz2⟩:=info_parts oK;have Hi:=ah hi;have lJ:=ah hz0;have lI:=ah hz1;have kT:=ah hz2;have H1:=ah h1;have H2:=ah h2;have Lv:Hid (ps.length+1<=maxLen):=by show _<=_;unfold maxLen;omega
  have hone:∀(j:Nat) (u:Value),[Value.int .u32 (c:Nat),Value.int .i64 (n:Nat)][j]? = some u->(W.alloc (.cells #[.int .u32 (c:Nat),.int .i64 (n:Nat)] 111)).cell? ((⟨W.heap.size,0,none⟩:Addr).add j)=some u:=fun j u hu=>by
   rw[Addr.add_lit,(aR.new W #[.int .u32 (c:Nat),.int .i64 (n:Nat)] 111).cell];simpa using hu
  have yL:=ah hone
  have hg:∀w6,(W.alloc (.cells #[.int .u32 (c:Nat),.int .i64 (n:Nat)] 111)).grownBy w6 s.ownBlock->aR w6 ob #[.int .i64 (D:Nat),s] 43/\Kept (fun b=>b=ob\/base<=b) W w6:=fun w6 hg=>by
   have hk:=dG hg
   have ze:¬s.ownBlock=some ob:=fun e=>by
    obtain⟨cur,hh,hb⟩:=jA h2 e;omega
   refine⟨aR.below' (h1.alloc _) hk ze,((Kept.refl _ W).alloc _).then hk (fun i _ e=>?_)⟩;obtain⟨cur,hh,hb⟩:=jA h2 e;exact .inr hb
  have HG:=ah hg;clear hg;clear hm hi hz0 hz1 hz2 h1 h2 ho hn hone;go_enter Tryz.func107,Tryz.ntmps107
  go_wp2_with fail
  refine Hc.out.mono ?_;rintro e W1 ⟨rfl,rfl⟩;go_wp2_with (at_builtin;refine wpList_append_own _ rfl _ _ 41 rfl base 111 i0 (.agg #[.int .u32 0,.int .i64 0]) 2 16 Tryz.underlying41 Hi.out lJ.out lI.out kT.out rfl (by decide) _ _ _ rfl (H2.out.alloc _) ⟨W1.heap.size,0,none⟩ 1 1 [.int .u32 (c:Nat),.int .i64 (n:Nat)] rfl rfl yL.out (fun u hu=>by simp at hu;rcases hu with rfl|rfl<;>rfl) Lv.out (by omega) (by rw[au];omega) ?_;intro v' w6 hown6 dN _;obtain⟨h6,k6⟩:=HG.out w6 dN;have hc6:=h6.cell;have hf6:=h6.free;obtain⟨av,cv,rfl,-,-⟩:=aJ.form (aJ.own hown6))
  have HF:Hid (vR (w6.setCell ⟨ob,1,none⟩ (.slice av (ps.length+1) cv)) base ob D (ps++[(c,n)])):=⟨.slice av (ps.length+1) cv,(h6.set 1 _).cells rfl,by
   rw[aO,List.flatMap_append];refine dA (T:=(·=ob)) hown6 ((Kept.refl (·=ob) w6).bC ob 1 _ rfl) (fun b hb e=>?_);obtain⟨cur,hh,hb2⟩:=jA hown6 hb;omega⟩
  have HK:Hid (Kept (fun b=>b=ob\/base<=b) W1 (w6.setCell ⟨ob,1,none⟩ (.slice av (ps.length+1) cv))):=k6.bC ob 1 _ (.inl rfl);go_ret;refine⟨rfl,?_,HK.out⟩;rw[Hm.out];exact HF.out
theorem kH(da db:Nat):∀(g:Nat) (l m:List (Nat×Nat)),(cO da db g l m).length<=g
 | 0,_,_=>aj _
 | g+1,[],[]=>Nat.zero_le _
 | g+1,(c,x)::r,[]=>by have:=kH da db g r [];simp only[cO,aZ];omega
 | g+1,[],(e,y)::s=>by have:=kH da db g [] s;simp only[cO,aZ];omega
 | g+1,(c,x)::r,(e,y)::s=>by
  have h1:=kH da db g r ((e,y)::s);have h2:=kH da db g ((c,x)::r) s;have h3:=kH da db g r s;unfold cO;split
  ·simp only[aZ];omega
  ·split
   ·simp only[aZ];omega
   ·simp only[aZ];omega
theorem mD(da db:Nat)(P:Nat×Nat->Prop):∀(g:Nat) (l m:List (Nat×Nat)),(∀p∈l,P p)->(∀p∈m,P p)->∀q∈cO da db g l m,(∃p,P p/\q.1=p.1)/\(q.2.1=da\/∃p,P p/\q.2.1=p.2)/\(q.2.2=db\/∃p,P p/\q.2.2=p.2)
 | 0,_,_,_,_,q,hq=>by cases hq
 | g+1,[],[],_,_,q,hq=>by cases hq
 | g+1,(c,x)::r,[],h1,h2,q,hq=>by
  simp only[cO]at hq;rcases List.mem_cons.1 hq with rfl|hq
  ·exact⟨⟨_,h1 _ bq,rfl⟩,.inr ⟨_,h1 _ bq,rfl⟩,.inl rfl⟩
  ·exact mD da db P g r [] (fun p hp=>h1 p (List.mem_cons_of_mem _ hp)) h2 q hq
 | g+1,[],(e,y)::s,h1,h2,q,hq=>by
  simp only[cO]at hq;rcases List.mem_cons.1 hq with rfl|hq
  ·exact⟨⟨_,h2 _ bq,rfl⟩,.inl rfl,.inr ⟨_,h2 _ bq,rfl⟩⟩
  ·exact mD da db P g [] s h1 (fun p hp=>h2 p (List.mem_cons_of_mem _ hp)) q hq
 | g+1,(c,x)::r,(e,y)::s,h1,h2,q,hq=>by
  have k1:∀p∈r,P p:=fun p hp=>h1 p (List.mem_cons_of_mem _ hp)
  have k2:∀p∈s,P p:=fun p hp=>h2 p (List.mem_cons_of_mem _ hp)
  unfold cO at hq;split at hq
  ·rcases List.mem_cons.1 hq with rfl|hq
   ·exact⟨⟨_,h1 _ bq,rfl⟩,.inr ⟨_,h1 _ bq,rfl⟩,.inl rfl⟩
   ·exact mD da db P g r _ k1 h2 q hq
  ·split at hq
   ·rcases List.mem_cons.1 hq with rfl|hq
    ·exact⟨⟨_,h2 _ bq,rfl⟩,.inl rfl,.inr ⟨_,h2 _ bq,rfl⟩⟩
    ·exact mD da db P g _ s h1 k2 q hq
   ·rcases List.mem_cons.1 hq with rfl|hq
    ·exact⟨⟨_,h1 _ bq,rfl⟩,.inr ⟨_,h1 _ bq,rfl⟩,.inr ⟨_,h2 _ bq,rfl⟩⟩
    ·exact mD da db P g r s k1 k2 q hq
structure fV(l:dn):Prop where
 d:l.d<1000
 n:l.ps.length<=1000
 ps:∀p∈l.ps,p.1≠0/\p.2<1000
theorem prefix_at{α:Type}{pre l:List α}{x:α}(h:pre++[x] <+: l):l[pre.length]? = some x:=by
 obtain⟨r,rfl⟩:=h;simp
theorem FT(f:Nat->Nat->Nat)(a b:dn)(A B lb ob base:Nat)(tl:TypeId)(lv:Value)(W2:World)(ha:fV a)(hb:fV b)(hA:jX W2 A a)(hB:jX W2 B b)(hl:aR W2 lb #[lv] tl)(hbase:base=W2.heap.size)
  (ho:aR W2 ob #[.int .i64 0,.slice none 0 0] 43) (hne:A≠ob/\B≠ob/\lb≠ob) (hF:∀W',Kept (fun b=>b=ob\/base<=b) W2 W'->SG lv f W') :
  Calls Tryz.prog 106 #[.func (.func 107) #[] #[.pointer (some ⟨lb,0,none⟩),.pointer (some ⟨ob,0,none⟩)],.pointer (some ⟨A,0,none⟩),.pointer (some ⟨B,0,none⟩)] W2 fun e W' =>
   e=.returned (.tuple #[])/\vR W' base ob (dn.merge f a b).d (dn.merge f a b).ps/\Kept (fun b=>b=ob\/base<=b) W2 W':=by
 have hlen:(nZ a b).length<=2000:=by
  have:=kH a.d b.d (a.ps.length+b.ps.length) a.ps b.ps;have h1:=ha.n;have h2:=hb.n;unfold nZ;omega
 have hmem:=mD a.d b.d (fun p=>p.1≠0/\p.2<1000) (a.ps.length+b.ps.length) a.ps b.ps ha.ps hb.ps
 have hS:∀(b:Nat) (cs:Array Value) (fz:Nat×Nat),(b=ob\/base<=b)->W2.heap[b]? = some (.cells cs 111 fz)->False:=fun b cs fz h hh=>by
  rcases h with rfl|h
  ·unfold aR at ho;rw[ho]at hh;simp at hh
  ·have:=(aU.1 hh).1;omega
 have ru:ob<base:=by rw[hbase];exact ho.lt
 have YD:∀(X:Nat) (l:dn) (W':World),jX W2 X l->X≠ob->Kept (fun b=>b=ob\/base<=b) W2 W'->jX W' X l:=fun X l W' h hX k=>by
  obtain⟨s,h1,h2⟩:=h;have:=h1.lt;exact⟨s,h1.below' k (fun e=>e.elim hX (fun e=>by omega)),aJ.kept h2 k hS⟩
 refine(IQ a b A B 107 #[.pointer (some ⟨lb,0,none⟩),.pointer (some ⟨ob,0,none⟩)]
  (fun pre W'=>vR W' base ob (if pre=[]then 0 else f a.d b.d) (pre.tail.filterMap (LD f (f a.d b.d)))/\Kept (fun b=>b=ob\/base<=b) W2 W') (fun _ _=>False) W2
  (enters_of Tryz.func107 (by kernel_rfl) rfl) ⟨ha.n,hb.n⟩ (fun pre W' h=>⟨YD A a W' hA hne.1 h.2,YD B b W' hB hne.2.1 h.2⟩)
  (fun pre W' n h=>⟨?_,h.2.trans (Kept.of_below (bI W' n))⟩) ?_ ⟨⟨_,ho,cu _ _ _ _⟩,Kept.refl _ _⟩).mono ?_
 ·obtain⟨s,h1,h2⟩:=h.1.row
  exact⟨s,aR.below h1 (bI W' n) h1.lt,dA (T:=fun _=>False) h2 (Kept.of_below (bI W' n)) (fun _ _ e=>e)⟩
 ·rintro pre ⟨c,x,y⟩ W' ⟨ho',hk⟩ hpre
  have hx:=prefix_at hpre;have hlW:aR W' lb #[lv] tl:=hl.below' hk (fun e=>e.elim hne.2.2 (fun e=>by have:=hl.lt;omega))
  cases pre with
  | nil =>
   have hx':(0,a.d,b.d)=(c,x,y):=by simpa[jQ]using hx
   obtain⟨rfl,rfl,rfl⟩:0=c/\a.d=x/\b.d=y:=by simpa using hx'
   refine(Dj f lb ob base 0 a.d b.d tl lv W' ⟨ha.d,hb.d⟩ hlW (hF W' hk) ho' hne.2.2).mono ?_;rintro e W3 ⟨rfl,h3,k3⟩;exact .inl ⟨rfl,h3,hk.trans (k3.mono (fun _ _ e=>.inl e))⟩
  | cons p0 pre =>
   have hin:(c,x,y)∈nZ a b:=by
    have:(nZ a b)[pre.length]? = some (c,x,y):=by simpa[jQ]using hx
    exact bG this
   obtain⟨⟨q,hq,hc⟩,hx1,hy1⟩:=hmem _ hin
   have hxb:x<1000:=by
    rcases hx1 with e|⟨q,hq,e⟩
    ·have:=ha.d;simp only at e;omega
    ·simp only at e;omega
   have hyb:y<1000:=by
    rcases hy1 with e|⟨q,hq,e⟩
    ·have:=hb.d;simp only at e;omega
    ·simp only at e;omega
   have hpl:(pre.filterMap (LD f (f a.d b.d))).length<=100000:=by
    have h1:=List.length_filterMap_le (LD f (f a.d b.d)) pre;have h2:=hpre.length_le;unfold jQ at h2;simp only[aO,aZ]at h2;omega
   refine(Dk f lb ob base (f a.d b.d) c x y _ tl lv W' ⟨hxb,hyb⟩ (by simp only at hc;rw[hc];exact hq.1) hpl (by rw[hbase];exact hk.size) hlW (hF W' hk) ho' ru).mono ?_;rintro e W3 ⟨rfl,h3,k3⟩;refine .inl ⟨rfl,?_,hk.trans k3⟩
   have e1:(p0::pre++[(c,x,y)]).tail.filterMap (LD f (f a.d b.d))=pre.filterMap (LD f (f a.d b.d))++(LD f (f a.d b.d) (c,x,y)).toList:=by
    show(pre++[(c,x,y)]).filterMap _=_
    rw[List.filterMap_append]
    cases e:LD f (f a.d b.d) (c,x,y)<;>simp[e]
   rw[e1,aA (by simp)];exact h3
 ·rintro e W' ⟨rfl,h|⟨_,_,h⟩⟩
  ·refine⟨rfl,?_,h.2⟩
   have h1:=h.1;rw[aA (by unfold jQ;simp)]at h1;exact h1
  ·exact h.elim
end Go.Proofs.YtiadbhiadhgjkaaGreatDoor
namespace Go.Proofs.YtiadbhiadhgjkaaGreatDoor
open Go.RowKit
attribute [local irreducible] World.setCell World.alloc World.drew Calls Code.wp
attribute [local go_sem] Oper.semAt_some
def yJ(x:Int):Prop:=-9223372036854775808<=x/\x<=9223372036854775807
structure gy.bd(m:gy):Prop where
 a:yJ m.at_
 s:0<=m.seg/\m.seg<=18446744073709551615
 f:yJ m.from_
 n:yJ m.n
theorem Kg(m:gy)(h:m.bd)(w:World) :
  Calls Tryz.prog 109 #[.agg #[.int .i64 m.at_,.int .u64 m.seg,.int .i64 m.from_,.int .i64 m.n,.bool m.wr]] w fun e w'=>e=.returned (.bool m.fits)/\Below w.heap.size w w':=by
 obtain⟨a1,a2⟩:=h.a;obtain⟨s1,s2⟩:=h.s;obtain⟨f1,f2⟩:=h.f;obtain⟨n1,n2⟩:=h.n;obtain⟨at_,seg,fr,n,wr⟩:=m;simp only at a1 a2 s1 s2 f1 f2 n1 n2 ⊢;have hF:gy.fits ⟨at_,seg,fr,n,wr⟩=decide (1<=n/\n<=16/\0<=at_/\at_<=4096-n/\0<=fr/\fr<=16-n/\seg≠0):=rfl;have HF:=ah hF;clear hF;have HB:Hid (Below w.heap.size w (w.alloc (.cells #[.int .i64 at_,.int .u64 seg,.int .i64 fr,.int .i64 n,.bool wr] 125))):=(aC _ w).alloc (aj _) _;by_cases c1:1<=n
 rotate_left
 ·have Hd:Hid (gy.fits ⟨at_,seg,fr,n,wr⟩=false):=by show _=_;rw[HF.out,aX (by omega)]
  go_enter Tryz.func109,Tryz.ntmps109
  go_wp2_with fail
  go_ret;exact⟨by rw[Hd.out];rfl,HB.out⟩
 by_cases c2:n<=16
 rotate_left
 ·have Hd:Hid (gy.fits ⟨at_,seg,fr,n,wr⟩=false):=by show _=_;rw[HF.out,aX (by omega)]
  go_enter Tryz.func109,Tryz.ntmps109
  go_wp2_with fail
  go_ret;exact⟨by rw[Hd.out];rfl,HB.out⟩
 have w1:IntKind.i64.wrap (4096-n)=4096-n:=aV _ (by omega);have w2:IntKind.i64.wrap (16-n)=16-n:=aV _ (by omega);by_cases c3:0<=at_
 rotate_left
 ·have Hd:Hid (gy.fits ⟨at_,seg,fr,n,wr⟩=false):=by show _=_;rw[HF.out,aX (by omega)]
  go_enter Tryz.func109,Tryz.ntmps109
  go_wp2_with fail
  go_ret;exact⟨by rw[Hd.out];rfl,HB.out⟩
 by_cases c4:at_<=4096-n
 rotate_left
 ·have Hd:Hid (gy.fits ⟨at_,seg,fr,n,wr⟩=false):=by show _=_;rw[HF.out,aX (by omega)]
  go_enter Tryz.func109,Tryz.ntmps109
  go_wp2_with fail
  go_ret;exact⟨by rw[Hd.out];rfl,HB.out⟩
 by_cases c5:0<=fr
 rotate_left
 ·have Hd:Hid (gy.fits ⟨at_,seg,fr,n,wr⟩=false):=by show _=_;rw[HF.out,aX (by omega)]
  go_enter Tryz.func109,Tryz.ntmps109
  go_wp2_with fail
  go_ret;exact⟨by rw[Hd.out];rfl,HB.out⟩
 by_cases c6:fr<=16-n
 rotate_left
 ·have Hd:Hid (gy.fits ⟨at_,seg,fr,n,wr⟩=false):=by show _=_;rw[HF.out,aX (by omega)]
  go_enter Tryz.func109,Tryz.ntmps109
  go_wp2_with fail
  go_ret;exact⟨by rw[Hd.out];rfl,HB.out⟩
 by_cases c7:seg=0
 ·have Hd:Hid (gy.fits ⟨at_,seg,fr,n,wr⟩=false):=by show _=_;rw[HF.out,aX (by omega)]
  subst c7;go_enter Tryz.func109,Tryz.ntmps109
  go_wp2_with fail
  go_ret;exact⟨by rw[Hd.out];rfl,HB.out⟩
 ·have Hd:Hid (gy.fits ⟨at_,seg,fr,n,wr⟩=true):=by show _=_;rw[HF.out,bK (by omega)]
  have c7b:(seg != 0)=true:=by simpa using c7
  go_enter Tryz.func109,Tryz.ntmps109
  go_wp2_with fail
  go_ret;exact⟨by rw[Hd.out];rfl,HB.out⟩
theorem jJ.at{w:World}{a:Option Addr}{c:Nat}{ss:List (Int×Int)}(h:jJ w (.slice a ss.length c) ss){k:Nat}{s:Int×Int}(hk:ss[k]? = some s) :
  ∃b,a=some ⟨b,0,none⟩/\b<w.heap.size/\w.cell? ⟨b,k*2,none⟩=some (.int .u64 s.1)/\w.cell? ⟨b,k*2+1,none⟩=some (.int .i64 s.2):=by
 obtain⟨b,rfl,hb,hc⟩:=aJ.cells h (by have:=(aW.1 hk).1;omega);have e0:=gP jS 2 (fun _=>rfl) ss k s hk 0 (by omega);have e1:=gP jS 2 (fun _=>rfl) ss k s hk 1 (by omega);exact⟨b,rfl,hb,hc _ _ (by rw[Nat.add_zero]at e0;rw[e0];rfl),hc _ _ (by rw[e1];rfl)⟩
theorem iM.at{w:World}{a:Option Addr}{c:Nat}{ms:List gy}(h:iM w (.slice a ms.length c) ms){k:Nat}{m:gy}(hk:ms[k]? = some m) :
  ∃b,a=some ⟨b,0,none⟩/\b<w.heap.size/\w.cell? ⟨b,k*5,none⟩=some (.int .i64 m.at_)/\w.cell? ⟨b,k*5+1,none⟩=some (.int .u64 m.seg)/\w.cell? ⟨b,k*5+2,none⟩=some (.int .i64 m.from_)/\w.cell? ⟨b,k*5+3,none⟩=some (.int .i64 m.n)/\w.cell? ⟨b,k*5+4,none⟩=some (.bool m.wr):=by
 obtain⟨b,rfl,hb,hc⟩:=aJ.cells h (by have:=(aW.1 hk).1;omega);have e0:=gP oH 5 (fun _=>rfl) ms k m hk 0 (by omega);have e:=fun i hi=>gP oH 5 (fun _=>rfl) ms k m hk i hi
 exact⟨b,rfl,hb,hc _ _ (by rw[Nat.add_zero]at e0;rw[e0];rfl),hc _ _ (by rw[e 1 (by omega)];rfl),hc _ _ (by rw[e 2 (by omega)];rfl),hc _ _ (by rw[e 3 (by omega)];rfl),hc _ _ (by rw[e 4 (by omega)];rfl)⟩
theorem wU{α:Type}(f:α->Bool){l:List α}{k:Nat}{x:α}(h:l[k]? = some x)(h1:(l.take k).all f=true)(h2:f x=true):(l.take (k+1)).all f=true:=by
 rw[List.take_add_one,h,List.all_append,h1];simp[h2]
theorem BI{α:Type}(f:α->Bool){l:List α}{k:Nat}{x:α}(h:l[k]? = some x)(h2:f x=false):l.all f=false:=by
 rw[List.all_eq_false];exact⟨x,bG h,by simp[h2]⟩
theorem Fa(ss:List (Int×Int))(v:Value)(w:World)(h:jJ w v ss)(hb:∀s∈ss,yJ s.2)(hl:ss.length<=100000) :
  Calls Tryz.prog 59 #[v] w fun e w'=>e=.returned (.bool (gH ss))/\Below w.heap.size w w':=by
 obtain⟨a,c,rfl,hc1,hc2⟩:=aJ.form h;have HS:=ah (fun w' (k:Below w.heap.size w w')=>(aJ.below h k (aj _):jJ w' _ ss));have Hb:=ah hb;have hR:gH ss=(ss.all (fun s=>decide (1<=s.2/\s.2<=16))&&decide (1<=ss.length/\ss.length<=8)):=rfl;have HR:=ah hR;clear h hb hR;go_enter Tryz.func59,Tryz.ntmps59
 go_wp2_with fail
 go_loopg [4,7] ss.length (fun g _ vi wx=>∃k:Nat,k+g=ss.length/\vi=.int .i64 k/\Hid (Below w.heap.size w wx)/\Hid ((ss.take k).all (fun s=>decide (1<=s.2/\s.2<=16))=true))
 case atStart=>exact⟨0,by omega,rfl,ah (aC _ _),ah rfl⟩
 case round =>
  obtain⟨k,hk,rfl,HB,HA⟩:=hrel;by_cases hlt:k<ss.length
  ·have hlt':(k:Int)<ss.length:=by omega
   obtain⟨s,hs⟩:∃s,ss[k]? = some s:=⟨_,aQ hlt⟩;obtain⟨b,rfl,-,s0,s1⟩:=jJ.at (HS.out _ HB.out) hs;obtain⟨g1,g2⟩:=Hb.out s (bG hs);have BS:Hid (Below w.heap.size w (wr.alloc (.cells #[.int .u64 s.1,.int .i64 s.2] 127))):=HB.out.alloc HB.out.size _;have Hn:=ah (fun h2=>BI (fun s:Int×Int=>decide (1<=s.2/\s.2<=16)) hs h2);have Hy:=ah (fun h2=>wU (fun s:Int×Int=>decide (1<=s.2/\s.2<=16)) hs HA.out h2);clear hs;by_cases c1:s.2<1
   ·have Hd:Hid (gH ss=false):=by show _=_;rw[HR.out,Hn.out (aX (by omega)),Bool.false_and]
    go_wp2_with fail
    go_ret;exact⟨by rw[Hd.out];rfl,BS.out⟩
   ·by_cases c2:16<s.2
    ·have Hd:Hid (gH ss=false):=by show _=_;rw[HR.out,Hn.out (aX (by omega)),Bool.false_and]
     go_wp2_with fail
     go_ret;exact⟨by rw[Hd.out];rfl,BS.out⟩
    ·have HA2:=ah (Hy.out (bK (by omega)))
     go_wp2_with fail
     go_roundg (ss.length-(k+1))
     case measure=>omega
     case rel=>exact⟨k+1,by omega,by go_num,BS,HA2⟩
  ·obtain rfl:k=ss.length:=by omega
   rw[List.take_length]at HA;by_cases c1:1<=ss.length
   ·have c1':(1:Int)<=ss.length:=by omega
    by_cases c2:ss.length<=8
    ·have c2':(ss.length:Int)<=8:=by omega
     have Hd:Hid (gH ss=true):=by show _=_;rw[HR.out,HA.out,bK (by omega)];rfl
     go_wp2_with fail
     go_ret;exact⟨by rw[Hd.out];rfl,HB.out⟩
    ·have c2':¬(ss.length:Int)<=8:=by omega
     have Hd:Hid (gH ss=false):=by show _=_;rw[HR.out,HA.out,aX (by omega)];rfl
     go_wp2_with fail
     go_ret;exact⟨by rw[Hd.out];rfl,HB.out⟩
   ·have c1':¬(1:Int)<=ss.length:=by omega
    have Hd:Hid (gH ss=false):=by show _=_;rw[HR.out,HA.out,aX (by omega)];rfl
    go_wp2_with fail
    go_ret;exact⟨by rw[Hd.out];rfl,HB.out⟩
theorem FU:∀{l:List gy} {e:Int} {k:Nat} {m:gy} {e':Int},l[k]? = some m->(mW e l=mW e' (l.drop k))->(m.fits=false\/m.at_<e')->mW e l=false:=by
 intro l e k m e' h h1 h2;obtain⟨a1,a2⟩:=aW.1 h;rw[h1,List.drop_eq_getElem_cons a1,a2];unfold mW;rcases h2 with h2|h2
 ·rw[h2,Bool.false_and]
 ·rw[aX (by omega),Bool.false_and,Bool.and_false]
theorem FV{l:List gy}{e:Int}{k:Nat}{m:gy}{e':Int}(h:l[k]? = some m)(h1:mW e l=mW e' (l.drop k))(h2:m.fits=true)(h3:e'<=m.at_):mW e l=mW (m.at_+m.n) (l.drop (k+1)):=by
 obtain⟨a1,a2⟩:=aW.1 h;rw[h1,List.drop_eq_getElem_cons a1,a2];conv=>lhs;unfold mW
 rw[h2,bK h3,Bool.true_and,Bool.true_and]
theorem Ki(ms:List gy)(v:Value)(w:World)(h:iM w v ms)(hb:∀m∈ms,m.bd)(hl:ms.length<=100000) :
  Calls Tryz.prog 82 #[v] w fun e w'=>e=.returned (.bool (jf ms))/\Below w.heap.size w w':=by
 obtain⟨a,c,rfl,hc1,hc2⟩:=aJ.form h;have HS:=ah (fun w' (k:Below w.heap.size w w')=>(aJ.below h k (aj _):iM w' _ ms));have Hb:=ah hb;have hR:jf ms=(mW 0 ms&&decide (ms.length<=16)):=rfl;have HR:=ah hR;clear h hb hR;go_enter Tryz.func82,Tryz.ntmps82
 go_wp2_with fail
 go_loopg [3,5,8] ms.length (fun g ve _ vi wx=>∃(k:Nat) (e:Int),k+g=ms.length/\vi=.int .i64 k/\ve=.int .i64 e/\0<=e/\e<=10000/\Hid (Below w.heap.size w wx)/\Hid (mW 0 ms=mW e (ms.drop k)))
 case atStart=>exact⟨0,0,by omega,rfl,rfl,by omega,by omega,ah (aC _ _),ah rfl⟩
 case round =>
  obtain⟨k,e,hk,rfl,rfl,e0,e1,HB,HA⟩:=hrel;by_cases hlt:k<ms.length
  ·have hlt':(k:Int)<ms.length:=by omega
   obtain⟨m,hm⟩:∃m,ms[k]? = some m:=⟨_,aQ hlt⟩;obtain⟨b,rfl,-,m0,m1,m2,m3,m4⟩:=iM.at (HS.out _ HB.out) hm;have hbd:=Hb.out m (bG hm);have BS:Hid (Below w.heap.size w (wr.alloc (.cells #[.int .i64 m.at_,.int .u64 m.seg,.int .i64 m.from_,.int .i64 m.n,.bool m.wr] 125))):=HB.out.alloc HB.out.size _;have Hz:Hid (aR (wr.alloc (.cells #[.int .i64 m.at_,.int .u64 m.seg,.int .i64 m.from_,.int .i64 m.n,.bool m.wr] 125)) wr.heap.size #[.int .i64 m.at_,.int .u64 m.seg,.int .i64 m.from_,.int .i64 m.n,.bool m.wr] 125):=aR.new _ _ _;have Hn:=ah (fun h2=>FU hm HA.out h2);have Hy:=ah (fun h2 h3=>FV hm HA.out h2 h3);have Hf:=ah (fun w=>Kg m hbd w);have hfit:m.fits=true->0<=m.at_+m.n/\m.at_+m.n<=4096:=fun h=>by unfold gy.fits at h;rw[aY]at h;omega
   have BL:=ah hfit;obtain⟨wz,hwz⟩:∃wz:World,wz=wr.alloc (.cells #[.int .i64 m.at_,.int .u64 m.seg,.int .i64 m.from_,.int .i64 m.n,.bool m.wr] 125):=⟨_,rfl⟩;obtain⟨zb,hzb⟩:∃zb,zb=wr.heap.size:=⟨_,rfl⟩;rw[<-hwz]at BS Hz;rw[<-hzb]at Hz;have hcz:=Hz.out.cell;clear hm hbd hfit;go_wp2_with fail
   rw[<-hwz,<-hzb];clear hwz hzb;refine(Hf.out _).mono ?_;rintro ez w2 ⟨rfl,hb2⟩;have HB2:=ah (aT BS.out hb2);have kT:=ah (aR.below Hz.out hb2 Hz.out.lt);have hcz2:=kT.out.cell;clear hb2 hcz
   cases hfit:m.fits with
   | false =>
    have Hd:Hid (jf ms=false):=by show _=_;rw[HR.out,Hn.out (.inl hfit),Bool.false_and]
    clear hfit;go_wp2_with fail
    go_ret;exact⟨by rw[Hd.out];rfl,HB2.out⟩
   | true =>
    have hf2:=BL.out hfit;by_cases c1:m.at_<e
    ·have Hd:Hid (jf ms=false):=by show _=_;rw[HR.out,Hn.out (.inr c1),Bool.false_and]
     clear hfit;go_wp2_with fail
     go_ret;exact⟨by rw[Hd.out];rfl,HB2.out⟩
    ·have HA2:=ah (Hy.out hfit (by omega))
     have hw:IntKind.i64.wrap (m.at_+m.n)=m.at_+m.n:=aV _ (by omega);clear hfit;go_wp2_with fail
     go_roundg (ms.length-(k+1))
     case measure=>omega
     case rel=>exact⟨k+1,m.at_+m.n,by omega,by go_num,rfl,by omega,by omega,HB2,HA2⟩
  ·obtain rfl:k=ms.length:=by omega
   rw[List.drop_length]at HA;by_cases c1:ms.length<=16
   ·have c1':(ms.length:Int)<=16:=by omega
    have Hd:Hid (jf ms=true):=by show _=_;rw[HR.out,HA.out,bK c1];rfl
    go_wp2_with fail
    go_ret;exact⟨by rw[Hd.out];rfl,HB.out⟩
   ·have c1':¬(ms.length:Int)<=16:=by omega
    have Hd:Hid (jf ms=false):=by show _=_;rw[HR.out,aX c1,Bool.and_false]
    go_wp2_with fail
    go_ret;exact⟨by rw[Hd.out];rfl,HB.out⟩
end Go.Proofs.YtiadbhiadhgjkaaGreatDoor
