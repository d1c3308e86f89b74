import Derived.Test.YtiadbhiadhgjkaaGreatDoorZzMk
set_option maxRecDepth 100000
set_option maxHeartbeats 4000000
namespace Go.Proofs.YtiadbhiadhgjkaaGreatDoor
open Go.RowKit
attribute [local irreducible] World.setCell World.alloc World.drew World.setRow Calls Code.wp
theorem gW(op:Int)(w:World)(h:op=19\/op=20\/op=21\/op=22\/op=23\/op=24) :
  Calls Tryz.prog 194 #[.int .i64 op] w fun e w'=>e=.returned (.tuple #[.int .i64 (gN op:Nat),.bool (decide (22<=op))])/\w=w':=by
 rcases h with rfl|rfl|rfl|rfl|rfl|rfl
 all_goals
  go_enter Tryz.func194,Tryz.ntmps194
  go_wp2_with fail
  go_ret2
  exact⟨rfl,rfl⟩
def fH(x:Int)(n:Nat):Value:=if x>262144-(n:Int)\/x%(n:Int)≠0 then .tuple #[.int .i64 0,.bool false]else .tuple #[.int .i64 x,.bool true]
theorem lY(b bf:Int)(n:Nat)(w:World)(hn:n=1\/n=4\/n=8)(hm0:-2147483648<=bf)(hm1:bf<=2147483647) :
  Calls Tryz.prog 195 #[.int .u64 b,.int .i32 bf,.int .i64 n] w fun e w'=>e=.returned (fH (wu (b+bf)) n)/\w=w':=by
 have hv:IntKind.u64.wrap (b+IntKind.u64.wrap bf)=wu (b+bf):=by show(b+bf%18446744073709551616)%18446744073709551616=(b+bf)%18446744073709551616;omega
 obtain⟨w0,w1⟩:=jL (b+bf);generalize wu (b+bf)=x at hv w0 w1 ⊢;have hx:Hid (fH x n=if x>262144-(n:Int)\/x%(n:Int)≠0 then .tuple #[.int .i64 0,.bool false]else .tuple #[.int .i64 x,.bool true]):=ah rfl;rcases hn with rfl|rfl|rfl
 ·by_cases h1:(262143:Int)<x
  ·have hV:Hid (fH x 1=.tuple #[.int .i64 0,.bool false]):=ah (by rw[hx.out];exact aD (.inl (by show x>262144-((1:Nat):Int);omega)))
   have q1:decide ((262143:Int)<x)=true:=bK h1;clear hx h1;go_enter Tryz.func195,Tryz.ntmps195
   go_wp2_with fail
   go_ret2
   exact⟨by rw[hV.out];rfl,rfl⟩
  ·have q1:decide ((262143:Int)<x)=false:=aX h1
   by_cases h2:x%1=0
   ·have hV:Hid (fH x 1=.tuple #[.int .i64 x,.bool true]):=ah (by rw[hx.out];exact aA (by rintro(e|e);exact h1 (by have:x>262144-((1:Nat):Int):=e;omega);exact e h2))
    have q2:x.tmod 1=x%1:=bQ w0;clear hx;go_enter Tryz.func195,Tryz.ntmps195
    go_wp2_with fail
    go_ret2
    exact⟨by rw[hV.out];rfl,rfl⟩
   ·exact absurd (by omega) h2
 ·by_cases h1:(262140:Int)<x
  ·have hV:Hid (fH x 4=.tuple #[.int .i64 0,.bool false]):=ah (by rw[hx.out];exact aD (.inl (by show x>262144-((4:Nat):Int);omega)))
   have q1:decide ((262140:Int)<x)=true:=bK h1;clear hx h1;go_enter Tryz.func195,Tryz.ntmps195
   go_wp2_with fail
   go_ret2
   exact⟨by rw[hV.out];rfl,rfl⟩
  ·have q1:decide ((262140:Int)<x)=false:=aX h1
   by_cases h2:x%4=0
   ·have hV:Hid (fH x 4=.tuple #[.int .i64 x,.bool true]):=ah (by rw[hx.out];exact aA (by rintro(e|e);exact h1 (by have:x>262144-((4:Nat):Int):=e;omega);exact e h2))
    have q2:x.tmod 4=x%4:=bQ w0;clear hx;go_enter Tryz.func195,Tryz.ntmps195
    go_wp2_with fail
    go_ret2
    exact⟨by rw[hV.out];rfl,rfl⟩
   ·have hV:Hid (fH x 4=.tuple #[.int .i64 0,.bool false]):=ah (by rw[hx.out];exact aD (.inr h2))
    have q2:x.tmod 4=x%4:=bQ w0;have q3:(x%4==0)=false:=by simpa using h2
    have q4:(x%4 != 0)=true:=by simpa using h2
    clear hx h2;go_enter Tryz.func195,Tryz.ntmps195
    go_wp2_with fail
    go_ret2
    exact⟨by rw[hV.out];rfl,rfl⟩
 ·by_cases h1:(262136:Int)<x
  ·have hV:Hid (fH x 8=.tuple #[.int .i64 0,.bool false]):=ah (by rw[hx.out];exact aD (.inl (by show x>262144-((8:Nat):Int);omega)))
   have q1:decide ((262136:Int)<x)=true:=bK h1;clear hx h1;go_enter Tryz.func195,Tryz.ntmps195
   go_wp2_with fail
   go_ret2
   exact⟨by rw[hV.out];rfl,rfl⟩
  ·have q1:decide ((262136:Int)<x)=false:=aX h1
   by_cases h2:x%8=0
   ·have hV:Hid (fH x 8=.tuple #[.int .i64 x,.bool true]):=ah (by rw[hx.out];exact aA (by rintro(e|e);exact h1 (by have:x>262144-((8:Nat):Int):=e;omega);exact e h2))
    have q2:x.tmod 8=x%8:=bQ w0;clear hx;go_enter Tryz.func195,Tryz.ntmps195
    go_wp2_with fail
    go_ret2
    exact⟨by rw[hV.out];rfl,rfl⟩
   ·have hV:Hid (fH x 8=.tuple #[.int .i64 0,.bool false]):=ah (by rw[hx.out];exact aD (.inr h2))
    have q2:x.tmod 8=x%8:=bQ w0;have q3:(x%8==0)=false:=by simpa using h2
    have q4:(x%8 != 0)=true:=by simpa using h2
    clear hx h2;go_enter Tryz.func195,Tryz.ntmps195
    go_wp2_with fail
    go_ret2
    exact⟨by rw[hV.out];rfl,rfl⟩
structure iI(w0:World)(g0:Gh)(K:Km)(o:Ob)(i mb:Nat)(w:World)(g:Gh):Prop where
 st:bS w0 g0 K o w g
 maps:ny K
 ob:K.obj o.name=some o
 kind:o.kind=3
 lens:∀n s,K.obj n=some s->s.maps.length<=1000000
 core:i<K.nc
 flush:g.flush i=false
 last:g.last i=o.name
 mem:qI w g o i mb
theorem iI.below{w0 w w':World}{g0 g:Gh}{K:Km}{o:Ob}{i mb:Nat}(h:iI w0 g0 K o i mb w g)(k:Below w.heap.size w w'):iI w0 g0 K o i mb w' g :=
 ⟨h.st.below k,h.maps,h.ob,h.kind,h.lens,h.core,h.flush,h.last,h.mem.below k⟩
theorem iI.load{w0 w:World}{g0 g:Gh}{K:Km}{o:Ob}{i mb:Nat}(h:iI w0 g0 K o i mb w g)(va:Int)(n:Nat)(h0:0<=va)(h1:va<=262143)(hn1:1<=n)(hn8:n<=8)(hn:va%64+(n:Int)<=64) :
  Calls Tryz.prog 315 #[.pointer (some ⟨mb,0,none⟩),.int .i64 va,.int .i64 n] w fun e w'=>e=.returned (kg (K.bytes o va) n)/\∃g',bS w g K o w' g' :=
 NI w g K o i mb va n h.st.kin h.st.inv h.maps h.ob h.kind h.lens h.core h.flush h.last h.mem h0 h1 hn1 hn8 hn
theorem bS.from{w0 w w':World}{g0 g g':Gh}{K:Km}{o:Ob}(h:bS w0 g0 K o w g)(k:bS w g K o w' g'):bS w0 g0 K o w' g':=⟨k.kin,k.inv,h.ext.trans k.ext,h.same.trans k.same⟩
theorem uP(mb:Nat)(w:World):∀k:Nat,(nilAhead (k+1) 229 (.pointer (some ⟨mb,0,none⟩)) "Store").run Tryz.prog w=.ok (some false) w:=fun k=>by kernel_rfl
@[reducible] def mR(mb:Nat):Value:=.iface 229 (.pointer (some ⟨mb,0,none⟩))
theorem tL(K:Km)(o:Ob)(op:Int)(a b c:Nat)(bf:Int)(h:op=19\/op=20\/op=21):eY K o ⟨op,a,b,c,bf⟩=(if wu (o.th.r b+bf)>262144-(gN op:Int)\/wu (o.th.r b+bf)%(gN op:Int)≠0 then some (o.th.r,wu (o.th.pc+8),(6:Int))else match K.bytes o (wu (o.th.r b+bf))with
  | some B=>some (upd o.th.r a (oh B (gN op)),wu (o.th.pc+8),(0:Int))
  | none=>some (o.th.r,wu (o.th.pc+8),(3:Int))):=by
 rcases h with rfl|rfl|rfl<;>rfl
theorem qP(K:Km)(o:Ob)(op:Int)(a b c:Nat)(bf:Int)(h:op=22\/op=23\/op=24):eY K o ⟨op,a,b,c,bf⟩=(if wu (o.th.r b+bf)>262144-(gN op:Int)\/wu (o.th.r b+bf)%(gN op:Int)≠0 then some (o.th.r,wu (o.th.pc+8),(6:Int))else match K.bN o (wu (o.th.r b+bf))with
  | some (_,_,true)=>none
  | _=>some (o.th.r,wu (o.th.pc+8),(3:Int))):=by
 rcases h with rfl|rfl|rfl<;>rfl
theorem BH{B:Nat->Int}{m:Nat}(h:∀j,j<m->0<=B j/\B j<=255)(n:Nat)(hn:n<=m)(h8:n<=8):0<=oh B n/\oh B n<=18446744073709551615:=by
 have hC:∀j,0<=(fun j=>if j<m then B j else 0) j/\(fun j=>if j<m then B j else 0) j<=255:=fun j=>by
  by_cases q:j<m
  ·simp only[aD q];exact h j q
  ·simp only[aA q];omega
 have:=IV _ hC n h8;rw[og _ B n (fun j hj=>aD (by omega))]at this;exact this
theorem uo{w:World}{g:Gh}{K:Km}{o:Ob}{va:Int}{B:Nat->Int}(h:cZ w g K)(hI:Inv g K)(hM:ny K)(hB:K.bytes o va=some B)(n:Nat)(hn:va%64+(n:Int)<=64):∀j,j<n->0<=B j/\B j<=255:=by
 cases hw:K.bN o va with
 | none=>unfold Km.bytes at hB;rw[hw]at hB;cases hB
 | some r =>
  obtain⟨s,a,may⟩:=r;have ha0:=lK hM hw;obtain⟨an,rfl⟩:∃an:Nat,a=(an:Int):=⟨a.toNat,by omega⟩;obtain⟨c,-,-,hby,hdat,-⟩:=bytes_at hI hM hw n hn;rw[hby]at hB
  cases hB;intro j hj;simp only;rw[hdat j hj];exact h.pool.bd _
theorem bS.none{w0 w:World}{g0 g:Gh}{K:Km}{o:Ob}(h:bS w0 g0 K o w g)(ho:K.obj o.name=some o):bS w0 g0 (K.set (o.eF { o.th with r:=o.th.r })) (o.eF { o.th with r:=o.th.r }) w g:=by
 have e:o.eF { o.th with r:=o.th.r }=o:=rfl;rw[e,Km.set_self ho];exact h
theorem Rp{w0 w:World}{g0 g:Gh}{K:Km}{o:Ob}{i mb:Nat}(h:iI w0 g0 K o i mb w g)(a b c:Nat)(bf:Int)(ha:a<16)(hb:b<16)(hm0:-2147483648<=bf)(hm1:bf<=2147483647){r':Nat->Int}{nx en:Int}(hres:eY K o ⟨19,a,b,c,bf⟩=some (r',nx,en)) :
  Calls Tryz.prog 151 #[.pointer (some ⟨g.tl o.name,0,none⟩),.agg #[.int .i64 19,.int .i64 a,.int .i64 b,.int .i64 c,.int .i32 bf],mR mb] w fun e w' =>
   e=.returned (.int .i64 en)/\∃g',bS w0 g0 (K.set (o.eF { o.th with r:=r' })) (o.eF { o.th with r:=r' }) w' g':=by
 obtain⟨hA,hE,hlt,hpc,hrg⟩:=h.st.jF h.ob h.kind 19 a b c bf;have HU:=ah h;rw[tL K o 19 a b c bf (by omega)]at hres;have HR:=ah hres;obtain⟨xb,hxb⟩:∃xb,w.heap.size=xb:=⟨_,rfl⟩;have iB:Hid (g.tl o.name<(w.alloc (.cells #[.int .i64 19,.int .i64 a,.int .i64 b,.int .i64 c,.int .i32 bf] 26)).heap.size):=ah (by rw[au];omega);have IZ:=ah (h.st.kin.kS _ (aj _));rw[hxb]at hA IZ;have rb:=hA.reg b hb;have x0:(w.alloc (.cells #[.int .i64 19,.int .i64 a,.int .i64 b,.int .i64 c,.int .i32 bf] 26)).cell? ⟨xb,0,none⟩=some (.int .i64 19):=(hA.ins.cell 0).trans rfl;have x2:(w.alloc (.cells #[.int .i64 19,.int .i64 a,.int .i64 b,.int .i64 c,.int .i32 bf] 26)).cell? ⟨xb,2,none⟩=some (.int .i64 b):=(hA.ins.cell 2).trans rfl;have x4:(w.alloc (.cells #[.int .i64 19,.int .i64 a,.int .i64 b,.int .i64 c,.int .i32 bf] 26)).cell? ⟨xb,4,none⟩=some (.int .i32 bf):=(hA.ins.cell 4).trans rfl;have hai:(a:Int)<16:=by omega
 have hbi:(b:Int)<16:=by omega
 have HA:=ah hA;have wo:=ah (h.below ((aC _ w).alloc (aj _) (.cells #[.int .i64 19,.int .i64 a,.int .i64 b,.int .i64 c,.int .i32 bf] 26)));have om:Hid (∀k,Calls Tryz.prog 195 #[.int .u64 (o.th.r b),.int .i32 bf,.int .i64 (8:Nat)] ((w.alloc (.cells #[.int .i64 19,.int .i64 a,.int .i64 b,.int .i64 c,.int .i32 bf] 26)).drewN k) fun e w'=>e=.returned (fH (wu (o.th.r b+bf)) 8)/\w'=(w.alloc (.cells #[.int .i64 19,.int .i64 a,.int .i64 b,.int .i64 c,.int .i32 bf] 26)).drewN k):=ah (fun k=>(lY (o.th.r b) bf 8 _ (by omega) hm0 hm1).mono fun e w' (q:e=_/\_=w')=>⟨q.1,q.2.symm⟩);have hw:gN 19=8:=rfl;rw[hw]at HR;have yK:=ah (jL (o.th.r b+bf));obtain⟨va,hva⟩:∃va,wu (o.th.r b+bf)=va:=⟨_,rfl⟩;rw[hva]at HR om yK;clear h hA hE hpc hrg hres hw hva;by_cases hq:va>262144-((8:Nat):Int)\/va%((8:Nat):Int)≠0
 ·have hpv:fH va 8=.tuple #[.int .i64 0,.bool false]:=aD hq
  have HR2:Hid (some (o.th.r,wu (o.th.pc+8),(6:Int))=some (r',nx,en)):=ah (by have:=HR.out;rw[aD hq]at this;exact this);rw[hpv]at om;clear hq hpv HR;go_enter Tryz.func151,Tryz.ntmps151
  go_wp2_with fail
  refine(gW 19 _ (by omega)).mono ?_;rintro e w' ⟨rfl,rfl⟩;go_wp2_with fail
  go_quiet ((go_at_call 195;exact Calls.quiet_of_same (om.out _)))
  go_wp2_with fail
  go_ret;have h2:=HR2.out
  cases h2;exact⟨rfl,g,(wo.out.st.drewN _).none HU.out.ob⟩
 ·have hpv:fH va 8=.tuple #[.int .i64 va,.bool true]:=aA hq
  have hq2:¬(va>262144-((8:Nat):Int)):=fun e=>hq (.inl e)
  have hq3:va%((8:Nat):Int)=0:=by
   by_cases e:va%((8:Nat):Int)=0
   ·exact e
   ·exact absurd (.inr e) hq
  have HR2:Hid ((match K.bytes o va with
   | some B=>some (upd o.th.r a (oh B 8),wu (o.th.pc+8),(0:Int))
   | none=>some (o.th.r,wu (o.th.pc+8),3))=some (r',nx,en)):=ah (by have:=HR.out;rw[aA hq]at this;exact this)
  have Hq:=ah (show va<=262143/\va%64+((8:Nat):Int)<=64 from⟨by omega,by omega⟩);rw[hpv]at om;clear hq hpv HR hq2 hq3;go_enter Tryz.func151,Tryz.ntmps151
  go_wp2_with fail
  refine(gW 19 _ (by omega)).mono ?_;rintro e w' ⟨rfl,rfl⟩;go_upto_region 2 with fail
  go_cut [9,10] (fun u v wx=>u=.int .i64 va/\v=.bool true/\Hid (iI w0 g0 K o i mb wx g)/\Hid (iQ wx (g.tl o.name) xb o.th 19 a b c bf))
  case first =>
   go_wp2_with fail
   go_quiet ((go_at_call 195;exact Calls.quiet_of_same (om.out _)))
   go_wp2_with fail
   go_meet;exact⟨rfl,rfl,wo.out.below (bI _ _),HA.out.below iB.out (bI _ _)⟩
  case rest =>
   rename World=>w2
   clear rb x0 x2 x4 HA wo om iB;obtain⟨rfl,rfl,Ak,HA⟩:=hcut;have Aj:=ah (Ak.out.load va 8 yK.out.1 Hq.out.1 (by omega) (by omega) Hq.out.2)
   cases hB:K.bytes o va with
   | none =>
    rw[hB]at Aj HR2;unfold kg at Aj;clear hB;go_wp2_with fail
    refine Aj.out.mono ?_;rintro e w3 ⟨rfl,g3,lH⟩;have kr:=ah (Ak.out.st.from lH);clear lH;go_wp2_with fail
    go_ret;have h2:=HR2.out
    cases h2;exact⟨rfl,g3,kr.out.none HU.out.ob⟩
   | some B =>
    have HB:=ah hB;rw[hB]at Aj HR2;unfold kg at Aj;clear hB;go_wp2_with fail
    refine Aj.out.mono ?_;rintro e w3 ⟨rfl,g3,lH⟩;have kr:=ah (Ak.out.st.from lH);have hB3:=lH.ext.kept.blk HA.out.ins (fun q=>q IZ.out);have x1:w3.cell? ⟨xb,1,none⟩=some (.int .i64 a):=(hB3.cell 1).trans rfl;have xM:g3.tl=g.tl:=lH.same.tl;obtain⟨x3,uG⟩:=kr.out.kin.gQ HU.out.ob HU.out.kind;have ra:=uG.reg ha;have hfr:=uG.blk.free;rw[xM]at ra hfr;have h2:=HR2.out
    cases h2;have hbd:=BH (uo kr.out.kin kr.out.inv HU.out.maps HB.out 8 Hq.out.2) 8 (aj _) (by omega);have HF:=ah ((kr.out.reg HU.out.ob HU.out.kind ha hbd).below ((aC _ _).drew));rw[xM]at HF;clear xM uG hB3 lH HR2 hbd;go_wp2_with fail
    go_region
    all_goals
     go_wp2_with fail
     go_ret;exact⟨rfl,g3,HF.out⟩
theorem Ro{w0 w:World}{g0 g:Gh}{K:Km}{o:Ob}{i mb:Nat}(h:iI w0 g0 K o i mb w g)(a b c:Nat)(bf:Int)(ha:a<16)(hb:b<16)(hm0:-2147483648<=bf)(hm1:bf<=2147483647){r':Nat->Int}{nx en:Int}(hres:eY K o ⟨20,a,b,c,bf⟩=some (r',nx,en)) :
  Calls Tryz.prog 151 #[.pointer (some ⟨g.tl o.name,0,none⟩),.agg #[.int .i64 20,.int .i64 a,.int .i64 b,.int .i64 c,.int .i32 bf],mR mb] w fun e w' =>
   e=.returned (.int .i64 en)/\∃g',bS w0 g0 (K.set (o.eF { o.th with r:=r' })) (o.eF { o.th with r:=r' }) w' g':=by
 obtain⟨hA,hE,hlt,hpc,hrg⟩:=h.st.jF h.ob h.kind 20 a b c bf;have HU:=ah h;rw[tL K o 20 a b c bf (by omega)]at hres;have HR:=ah hres;obtain⟨xb,hxb⟩:∃xb,w.heap.size=xb:=⟨_,rfl⟩;have iB:Hid (g.tl o.name<(w.alloc (.cells #[.int .i64 20,.int .i64 a,.int .i64 b,.int .i64 c,.int .i32 bf] 26)).heap.size):=ah (by rw[au];omega);have IZ:=ah (h.st.kin.kS _ (aj _));rw[hxb]at hA IZ;have rb:=hA.reg b hb;have x0:(w.alloc (.cells #[.int .i64 20,.int .i64 a,.int .i64 b,.int .i64 c,.int .i32 bf] 26)).cell? ⟨xb,0,none⟩=some (.int .i64 20):=(hA.ins.cell 0).trans rfl;have x2:(w.alloc (.cells #[.int .i64 20,.int .i64 a,.int .i64 b,.int .i64 c,.int .i32 bf] 26)).cell? ⟨xb,2,none⟩=some (.int .i64 b):=(hA.ins.cell 2).trans rfl;have x4:(w.alloc (.cells #[.int .i64 20,.int .i64 a,.int .i64 b,.int .i64 c,.int .i32 bf] 26)).cell? ⟨xb,4,none⟩=some (.int .i32 bf):=(hA.ins.cell 4).trans rfl;have hai:(a:Int)<16:=by omega
 have hbi:(b:Int)<16:=by omega
 have HA:=ah hA;have wo:=ah (h.below ((aC _ w).alloc (aj _) (.cells #[.int .i64 20,.int .i64 a,.int .i64 b,.int .i64 c,.int .i32 bf] 26)));have om:Hid (∀k,Calls Tryz.prog 195 #[.int .u64 (o.th.r b),.int .i32 bf,.int .i64 (4:Nat)] ((w.alloc (.cells #[.int .i64 20,.int .i64 a,.int .i64 b,.int .i64 c,.int .i32 bf] 26)).drewN k) fun e w'=>e=.returned (fH (wu (o.th.r b+bf)) 4)/\w'=(w.alloc (.cells #[.int .i64 20,.int .i64 a,.int .i64 b,.int .i64 c,.int .i32 bf] 26)).drewN k):=ah (fun k=>(lY (o.th.r b) bf 4 _ (by omega) hm0 hm1).mono fun e w' (q:e=_/\_=w')=>⟨q.1,q.2.symm⟩);have hw:gN 20=4:=rfl;rw[hw]at HR;have yK:=ah (jL (o.th.r b+bf));obtain⟨va,hva⟩:∃va,wu (o.th.r b+bf)=va:=⟨_,rfl⟩;rw[hva]at HR om yK;clear h hA hE hpc hrg hres hw hva;by_cases hq:va>262144-((4:Nat):Int)\/va%((4:Nat):Int)≠0
 ·have hpv:fH va 4=.tuple #[.int .i64 0,.bool false]:=aD hq
  have HR2:Hid (some (o.th.r,wu (o.th.pc+8),(6:Int))=some (r',nx,en)):=ah (by have:=HR.out;rw[aD hq]at this;exact this);rw[hpv]at om;clear hq hpv HR;go_enter Tryz.func151,Tryz.ntmps151
  go_wp2_with fail
  refine(gW 20 _ (by omega)).mono ?_;rintro e w' ⟨rfl,rfl⟩;go_wp2_with fail
  go_quiet ((go_at_call 195;exact Calls.quiet_of_same (om.out _)))
  go_wp2_with fail
  go_ret;have h2:=HR2.out
  cases h2;exact⟨rfl,g,(wo.out.st.drewN _).none HU.out.ob⟩
 ·have hpv:fH va 4=.tuple #[.int .i64 va,.bool true]:=aA hq
  have hq2:¬(va>262144-((4:Nat):Int)):=fun e=>hq (.inl e)
  have hq3:va%((4:Nat):Int)=0:=by
   by_cases e:va%((4:Nat):Int)=0
   ·exact e
   ·exact absurd (.inr e) hq
  have HR2:Hid ((match K.bytes o va with
   | some B=>some (upd o.th.r a (oh B 4),wu (o.th.pc+8),(0:Int))
   | none=>some (o.th.r,wu (o.th.pc+8),3))=some (r',nx,en)):=ah (by have:=HR.out;rw[aA hq]at this;exact this)
  have Hq:=ah (show va<=262143/\va%64+((4:Nat):Int)<=64 from⟨by omega,by omega⟩);rw[hpv]at om;clear hq hpv HR hq2 hq3;go_enter Tryz.func151,Tryz.ntmps151
  go_wp2_with fail
  refine(gW 20 _ (by omega)).mono ?_;rintro e w' ⟨rfl,rfl⟩;go_upto_region 2 with fail
  go_cut [9,10] (fun u v wx=>u=.int .i64 va/\v=.bool true/\Hid (iI w0 g0 K o i mb wx g)/\Hid (iQ wx (g.tl o.name) xb o.th 20 a b c bf))
  case first =>
   go_wp2_with fail
   go_quiet ((go_at_call 195;exact Calls.quiet_of_same (om.out _)))
   go_wp2_with fail
   go_meet;exact⟨rfl,rfl,wo.out.below (bI _ _),HA.out.below iB.out (bI _ _)⟩
  case rest =>
   rename World=>w2
   clear rb x0 x2 x4 HA wo om iB;obtain⟨rfl,rfl,Ak,HA⟩:=hcut;have Aj:=ah (Ak.out.load va 4 yK.out.1 Hq.out.1 (by omega) (by omega) Hq.out.2)
   cases hB:K.bytes o va with
   | none =>
    rw[hB]at Aj HR2;unfold kg at Aj;clear hB;go_wp2_with fail
    refine Aj.out.mono ?_;rintro e w3 ⟨rfl,g3,lH⟩;have kr:=ah (Ak.out.st.from lH);clear lH;go_wp2_with fail
    go_ret;have h2:=HR2.out
    cases h2;exact⟨rfl,g3,kr.out.none HU.out.ob⟩
   | some B =>
    have HB:=ah hB;rw[hB]at Aj HR2;unfold kg at Aj;clear hB;go_wp2_with fail
    refine Aj.out.mono ?_;rintro e w3 ⟨rfl,g3,lH⟩;have kr:=ah (Ak.out.st.from lH);have hB3:=lH.ext.kept.blk HA.out.ins (fun q=>q IZ.out);have x1:w3.cell? ⟨xb,1,none⟩=some (.int .i64 a):=(hB3.cell 1).trans rfl;have xM:g3.tl=g.tl:=lH.same.tl;obtain⟨x3,uG⟩:=kr.out.kin.gQ HU.out.ob HU.out.kind;have ra:=uG.reg ha;have hfr:=uG.blk.free;rw[xM]at ra hfr;have h2:=HR2.out
    cases h2;have hbd:=BH (uo kr.out.kin kr.out.inv HU.out.maps HB.out 4 Hq.out.2) 4 (aj _) (by omega);have HF:=ah ((kr.out.reg HU.out.ob HU.out.kind ha hbd).below ((aC _ _).drew));rw[xM]at HF;clear xM uG hB3 lH HR2 hbd;go_wp2_with fail
    go_region
    all_goals
     go_wp2_with fail
     go_ret;exact⟨rfl,g3,HF.out⟩
theorem Rq{w0 w:World}{g0 g:Gh}{K:Km}{o:Ob}{i mb:Nat}(h:iI w0 g0 K o i mb w g)(a b c:Nat)(bf:Int)(ha:a<16)(hb:b<16)(hm0:-2147483648<=bf)(hm1:bf<=2147483647){r':Nat->Int}{nx en:Int}(hres:eY K o ⟨21,a,b,c,bf⟩=some (r',nx,en)) :
  Calls Tryz.prog 151 #[.pointer (some ⟨g.tl o.name,0,none⟩),.agg #[.int .i64 21,.int .i64 a,.int .i64 b,.int .i64 c,.int .i32 bf],mR mb] w fun e w' =>
   e=.returned (.int .i64 en)/\∃g',bS w0 g0 (K.set (o.eF { o.th with r:=r' })) (o.eF { o.th with r:=r' }) w' g':=by
 obtain⟨hA,hE,hlt,hpc,hrg⟩:=h.st.jF h.ob h.kind 21 a b c bf;have HU:=ah h;rw[tL K o 21 a b c bf (by omega)]at hres;have HR:=ah hres;obtain⟨xb,hxb⟩:∃xb,w.heap.size=xb:=⟨_,rfl⟩;have iB:Hid (g.tl o.name<(w.alloc (.cells #[.int .i64 21,.int .i64 a,.int .i64 b,.int .i64 c,.int .i32 bf] 26)).heap.size):=ah (by rw[au];omega);have IZ:=ah (h.st.kin.kS _ (aj _));rw[hxb]at hA IZ;have rb:=hA.reg b hb;have x0:(w.alloc (.cells #[.int .i64 21,.int .i64 a,.int .i64 b,.int .i64 c,.int .i32 bf] 26)).cell? ⟨xb,0,none⟩=some (.int .i64 21):=(hA.ins.cell 0).trans rfl;have x2:(w.alloc (.cells #[.int .i64 21,.int .i64 a,.int .i64 b,.int .i64 c,.int .i32 bf] 26)).cell? ⟨xb,2,none⟩=some (.int .i64 b):=(hA.ins.cell 2).trans rfl;have x4:(w.alloc (.cells #[.int .i64 21,.int .i64 a,.int .i64 b,.int .i64 c,.int .i32 bf] 26)).cell? ⟨xb,4,none⟩=some (.int .i32 bf):=(hA.ins.cell 4).trans rfl;have hai:(a:Int)<16:=by omega
 have hbi:(b:Int)<16:=by omega
 have HA:=ah hA;have wo:=ah (h.below ((aC _ w).alloc (aj _) (.cells #[.int .i64 21,.int .i64 a,.int .i64 b,.int .i64 c,.int .i32 bf] 26)));have om:Hid (∀k,Calls Tryz.prog 195 #[.int .u64 (o.th.r b),.int .i32 bf,.int .i64 (1:Nat)] ((w.alloc (.cells #[.int .i64 21,.int .i64 a,.int .i64 b,.int .i64 c,.int .i32 bf] 26)).drewN k) fun e w'=>e=.returned (fH (wu (o.th.r b+bf)) 1)/\w'=(w.alloc (.cells #[.int .i64 21,.int .i64 a,.int .i64 b,.int .i64 c,.int .i32 bf] 26)).drewN k):=ah (fun k=>(lY (o.th.r b) bf 1 _ (by omega) hm0 hm1).mono fun e w' (q:e=_/\_=w')=>⟨q.1,q.2.symm⟩);have hw:gN 21=1:=rfl;rw[hw]at HR;have yK:=ah (jL (o.th.r b+bf));obtain⟨va,hva⟩:∃va,wu (o.th.r b+bf)=va:=⟨_,rfl⟩;rw[hva]at HR om yK;clear h hA hE hpc hrg hres hw hva;by_cases hq:va>262144-((1:Nat):Int)\/va%((1:Nat):Int)≠0
 ·have hpv:fH va 1=.tuple #[.int .i64 0,.bool false]:=aD hq
  have HR2:Hid (some (o.th.r,wu (o.th.pc+8),(6:Int))=some (r',nx,en)):=ah (by have:=HR.out;rw[aD hq]at this;exact this);rw[hpv]at om;clear hq hpv HR;go_enter Tryz.func151,Tryz.ntmps151
  go_wp2_with fail
  refine(gW 21 _ (by omega)).mono ?_;rintro e w' ⟨rfl,rfl⟩;go_wp2_with fail
  go_quiet ((go_at_call 195;exact Calls.quiet_of_same (om.out _)))
  go_wp2_with fail
  go_ret;have h2:=HR2.out
  cases h2;exact⟨rfl,g,(wo.out.st.drewN _).none HU.out.ob⟩
 ·have hpv:fH va 1=.tuple #[.int .i64 va,.bool true]:=aA hq
  have hq2:¬(va>262144-((1:Nat):Int)):=fun e=>hq (.inl e)
  have hq3:va%((1:Nat):Int)=0:=by
   by_cases e:va%((1:Nat):Int)=0
   ·exact e
   ·exact absurd (.inr e) hq
  have HR2:Hid ((match K.bytes o va with
   | some B=>some (upd o.th.r a (oh B 1),wu (o.th.pc+8),(0:Int))
   | none=>some (o.th.r,wu (o.th.pc+8),3))=some (r',nx,en)):=ah (by have:=HR.out;rw[aA hq]at this;exact this)
  have Hq:=ah (show va<=262143/\va%64+((1:Nat):Int)<=64 from⟨by omega,by omega⟩);rw[hpv]at om;clear hq hpv HR hq2 hq3;go_enter Tryz.func151,Tryz.ntmps151
  go_wp2_with fail
  refine(gW 21 _ (by omega)).mono ?_;rintro e w' ⟨rfl,rfl⟩;go_upto_region 2 with fail
  go_cut [9,10] (fun u v wx=>u=.int .i64 va/\v=.bool true/\Hid (iI w0 g0 K o i mb wx g)/\Hid (iQ wx (g.tl o.name) xb o.th 21 a b c bf))
  case first =>
   go_wp2_with fail
   go_quiet ((go_at_call 195;exact Calls.quiet_of_same (om.out _)))
   go_wp2_with fail
   go_meet;exact⟨rfl,rfl,wo.out.below (bI _ _),HA.out.below iB.out (bI _ _)⟩
  case rest =>
   rename World=>w2
   clear rb x0 x2 x4 HA wo om iB;obtain⟨rfl,rfl,Ak,HA⟩:=hcut;have Aj:=ah (Ak.out.load va 1 yK.out.1 Hq.out.1 (by omega) (by omega) Hq.out.2)
   cases hB:K.bytes o va with
   | none =>
    rw[hB]at Aj HR2;unfold kg at Aj;clear hB;go_wp2_with fail
    refine Aj.out.mono ?_;rintro e w3 ⟨rfl,g3,lH⟩;have kr:=ah (Ak.out.st.from lH);clear lH;go_wp2_with fail
    go_ret;have h2:=HR2.out
    cases h2;exact⟨rfl,g3,kr.out.none HU.out.ob⟩
   | some B =>
    have HB:=ah hB;rw[hB]at Aj HR2;unfold kg at Aj;clear hB;go_wp2_with fail
    refine Aj.out.mono ?_;rintro e w3 ⟨rfl,g3,lH⟩;have kr:=ah (Ak.out.st.from lH);have hB3:=lH.ext.kept.blk HA.out.ins (fun q=>q IZ.out);have x1:w3.cell? ⟨xb,1,none⟩=some (.int .i64 a):=(hB3.cell 1).trans rfl;have xM:g3.tl=g.tl:=lH.same.tl;obtain⟨x3,uG⟩:=kr.out.kin.gQ HU.out.ob HU.out.kind;have ra:=uG.reg ha;have hfr:=uG.blk.free;rw[xM]at ra hfr;have h2:=HR2.out
    cases h2;have hbd:=BH (uo kr.out.kin kr.out.inv HU.out.maps HB.out 1 Hq.out.2) 1 (aj _) (by omega);have HF:=ah ((kr.out.reg HU.out.ob HU.out.kind ha hbd).below ((aC _ _).drew));rw[xM]at HF;clear xM uG hB3 lH HR2 hbd;go_wp2_with fail
    go_region
    all_goals
     go_wp2_with fail
     go_ret;exact⟨rfl,g3,HF.out⟩
theorem iI.wV{w0 w:World}{g0 g:Gh}{K:Km}{o:Ob}{i mb:Nat}(h:iI w0 g0 K o i mb w g)(va:Int)(n:Nat)(x:Value)(h0:0<=va)(h1:va<=262143)(hf:fU g K o va true=0) :
  Calls Tryz.prog 316 #[.pointer (some ⟨mb,0,none⟩),.int .i64 va,.int .i64 n,x] w fun e w'=>e=.returned (.bool false)/\∃g',bS w g K o w' g':=by
 have SL:=ah (zX w g K o i mb va true h.st.kin h.st.inv h.maps h.ob h.kind h.lens h.core h.flush h.last h.mem h0 h1);rw[hf]at SL;clear h hf h0 h1;go_enter Tryz.func316,Tryz.ntmps316
 go_wp2_with fail
 refine SL.out.mono ?_;rintro e w1 ⟨rfl,g1,hE1⟩;have oo:=ah hE1;clear hE1 SL;go_wp2_with fail
 go_ret;exact⟨rfl,g1,oo.out⟩
theorem Rm{w0 w:World}{g0 g:Gh}{K:Km}{o:Ob}{i mb:Nat}(h:iI w0 g0 K o i mb w g)(a b c:Nat)(bf:Int)(ha:a<16)(hb:b<16)(hm0:-2147483648<=bf)(hm1:bf<=2147483647){r':Nat->Int}{nx en:Int}(hres:eY K o ⟨22,a,b,c,bf⟩=some (r',nx,en)) :
  Calls Tryz.prog 151 #[.pointer (some ⟨g.tl o.name,0,none⟩),.agg #[.int .i64 22,.int .i64 a,.int .i64 b,.int .i64 c,.int .i32 bf],mR mb] w fun e w' =>
   e=.returned (.int .i64 en)/\∃g',bS w0 g0 (K.set (o.eF { o.th with r:=r' })) (o.eF { o.th with r:=r' }) w' g':=by
 obtain⟨hA,hE,hlt,hpc,hrg⟩:=h.st.jF h.ob h.kind 22 a b c bf;have HU:=ah h;rw[qP K o 22 a b c bf (by omega)]at hres;have HR:=ah hres;obtain⟨xb,hxb⟩:∃xb,w.heap.size=xb:=⟨_,rfl⟩;have iB:Hid (g.tl o.name<(w.alloc (.cells #[.int .i64 22,.int .i64 a,.int .i64 b,.int .i64 c,.int .i32 bf] 26)).heap.size):=ah (by rw[au];omega);have IZ:=ah (h.st.kin.kS _ (aj _));rw[hxb]at hA IZ;have rb:=hA.reg b hb;have x0:(w.alloc (.cells #[.int .i64 22,.int .i64 a,.int .i64 b,.int .i64 c,.int .i32 bf] 26)).cell? ⟨xb,0,none⟩=some (.int .i64 22):=(hA.ins.cell 0).trans rfl;have x2:(w.alloc (.cells #[.int .i64 22,.int .i64 a,.int .i64 b,.int .i64 c,.int .i32 bf] 26)).cell? ⟨xb,2,none⟩=some (.int .i64 b):=(hA.ins.cell 2).trans rfl;have x4:(w.alloc (.cells #[.int .i64 22,.int .i64 a,.int .i64 b,.int .i64 c,.int .i32 bf] 26)).cell? ⟨xb,4,none⟩=some (.int .i32 bf):=(hA.ins.cell 4).trans rfl;have hai:(a:Int)<16:=by omega
 have hbi:(b:Int)<16:=by omega
 have HA:=ah hA;have wo:=ah (h.below ((aC _ w).alloc (aj _) (.cells #[.int .i64 22,.int .i64 a,.int .i64 b,.int .i64 c,.int .i32 bf] 26)));have om:Hid (∀k,Calls Tryz.prog 195 #[.int .u64 (o.th.r b),.int .i32 bf,.int .i64 (8:Nat)] ((w.alloc (.cells #[.int .i64 22,.int .i64 a,.int .i64 b,.int .i64 c,.int .i32 bf] 26)).drewN k) fun e w'=>e=.returned (fH (wu (o.th.r b+bf)) 8)/\w'=(w.alloc (.cells #[.int .i64 22,.int .i64 a,.int .i64 b,.int .i64 c,.int .i32 bf] 26)).drewN k):=ah (fun k=>(lY (o.th.r b) bf 8 _ (by omega) hm0 hm1).mono fun e w' (q:e=_/\_=w')=>⟨q.1,q.2.symm⟩);have hw:gN 22=8:=rfl;rw[hw]at HR;have yK:=ah (jL (o.th.r b+bf));obtain⟨va,hva⟩:∃va,wu (o.th.r b+bf)=va:=⟨_,rfl⟩;rw[hva]at HR om yK;clear h hA hE hpc hrg hres hw hva;by_cases hq:va>262144-((8:Nat):Int)\/va%((8:Nat):Int)≠0
 ·have hpv:fH va 8=.tuple #[.int .i64 0,.bool false]:=aD hq
  have HR2:Hid (some (o.th.r,wu (o.th.pc+8),(6:Int))=some (r',nx,en)):=ah (by have:=HR.out;rw[aD hq]at this;exact this);rw[hpv]at om;clear hq hpv HR;go_enter Tryz.func151,Tryz.ntmps151
  go_wp2_with fail
  refine(gW 22 _ (by omega)).mono ?_;rintro e w' ⟨rfl,rfl⟩;go_wp2_with fail
  go_quiet ((go_at_call 195;exact Calls.quiet_of_same (om.out _)))
  go_wp2_with fail
  go_ret;have h2:=HR2.out
  cases h2;exact⟨rfl,g,(wo.out.st.drewN _).none HU.out.ob⟩
 ·have hpv:fH va 8=.tuple #[.int .i64 va,.bool true]:=aA hq
  have hq2:¬(va>262144-((8:Nat):Int)):=fun e=>hq (.inl e)
  have hq3:va%((8:Nat):Int)=0:=by
   by_cases e:va%((8:Nat):Int)=0
   ·exact e
   ·exact absurd (.inr e) hq
  have HR2:Hid ((match K.bN o va with
   | some (_,_,true)=>none
   | _=>some (o.th.r,wu (o.th.pc+8),(3:Int)))=some (r',nx,en)):=ah (by have:=HR.out;rw[aA hq]at this;exact this)
  have Hq:=ah (show va<=262143/\va%64+((8:Nat):Int)<=64 from⟨by omega,by omega⟩);rw[hpv]at om;clear hq hpv HR hq2 hq3;go_enter Tryz.func151,Tryz.ntmps151
  go_wp2_with fail
  refine(gW 22 _ (by omega)).mono ?_;rintro e w' ⟨rfl,rfl⟩;rw[show((gN 22:Nat):Int)=8 from rfl];go_upto_region 2 with fail
  go_cut [9,10] (fun u v wx=>u=.int .i64 va/\v=.bool true/\Hid (iI w0 g0 K o i mb wx g)/\Hid (iQ wx (g.tl o.name) xb o.th 22 a b c bf))
  case first =>
   go_wp2_with fail
   go_quiet ((go_at_call 195;exact Calls.quiet_of_same (om.out _)))
   go_wp2_with fail
   go_meet;exact⟨rfl,rfl,wo.out.below (bI _ _),HA.out.below iB.out (bI _ _)⟩
  case rest =>
   rename World=>w2
   clear rb x0 x2 x4 HA wo om iB;obtain⟨rfl,rfl,Ak,HA⟩:=hcut
   have HR3:Hid (fU g K o va true=0/\some (o.th.r,wu (o.th.pc+8),(3:Int))=some (r',nx,en)):=ah (by
    have h2:=HR2.out;unfold fU
    cases hw:K.bN o va with
    | none=>rw[hw]at h2;exact⟨rfl,h2⟩
    | some r =>
     obtain⟨s,q,may⟩:=r;rw[hw]at h2
     cases may
     ·exact⟨rfl,h2⟩
     ·cases h2)
   have Ja:=ah (fun x=>(Ak.out.below ((aC _ w2).drew)).wV va 8 x yK.out.1 Hq.out.1 HR3.out.1);have x1:w2.cell? ⟨xb,1,none⟩=some (.int .i64 a):=(HA.out.ins.cell 1).trans rfl;have ra:=HA.out.reg a ha;clear HR2;have s1:IntKind.i64.wrap 64=64:=by decide
   have s2:IntKind.i64.wrap 63=63:=by decide
   go_wp2_with fail
   have hna:=uP mb w2.drew;go_still_tail 24,(by kernel_rfl)
   rw[drew_eq w2];go_wp2_with fail
   refine(Ja.out _).mono ?_;rintro e w3 ⟨rfl,g3,lH⟩;have kr:=ah ((Ak.out.below ((aC _ w2).drew)).st.from lH);clear lH;go_wp2_with fail
   go_ret;have h2:=HR3.out.2
   cases h2;exact⟨rfl,g3,kr.out.none HU.out.ob⟩
theorem Rl{w0 w:World}{g0 g:Gh}{K:Km}{o:Ob}{i mb:Nat}(h:iI w0 g0 K o i mb w g)(a b c:Nat)(bf:Int)(ha:a<16)(hb:b<16)(hm0:-2147483648<=bf)(hm1:bf<=2147483647){r':Nat->Int}{nx en:Int}(hres:eY K o ⟨23,a,b,c,bf⟩=some (r',nx,en)) :
  Calls Tryz.prog 151 #[.pointer (some ⟨g.tl o.name,0,none⟩),.agg #[.int .i64 23,.int .i64 a,.int .i64 b,.int .i64 c,.int .i32 bf],mR mb] w fun e w' =>
   e=.returned (.int .i64 en)/\∃g',bS w0 g0 (K.set (o.eF { o.th with r:=r' })) (o.eF { o.th with r:=r' }) w' g':=by
 obtain⟨hA,hE,hlt,hpc,hrg⟩:=h.st.jF h.ob h.kind 23 a b c bf;have HU:=ah h;rw[qP K o 23 a b c bf (by omega)]at hres;have HR:=ah hres;obtain⟨xb,hxb⟩:∃xb,w.heap.size=xb:=⟨_,rfl⟩;have iB:Hid (g.tl o.name<(w.alloc (.cells #[.int .i64 23,.int .i64 a,.int .i64 b,.int .i64 c,.int .i32 bf] 26)).heap.size):=ah (by rw[au];omega);have IZ:=ah (h.st.kin.kS _ (aj _));rw[hxb]at hA IZ;have rb:=hA.reg b hb;have x0:(w.alloc (.cells #[.int .i64 23,.int .i64 a,.int .i64 b,.int .i64 c,.int .i32 bf] 26)).cell? ⟨xb,0,none⟩=some (.int .i64 23):=(hA.ins.cell 0).trans rfl;have x2:(w.alloc (.cells #[.int .i64 23,.int .i64 a,.int .i64 b,.int .i64 c,.int .i32 bf] 26)).cell? ⟨xb,2,none⟩=some (.int .i64 b):=(hA.ins.cell 2).trans rfl;have x4:(w.alloc (.cells #[.int .i64 23,.int .i64 a,.int .i64 b,.int .i64 c,.int .i32 bf] 26)).cell? ⟨xb,4,none⟩=some (.int .i32 bf):=(hA.ins.cell 4).trans rfl;have hai:(a:Int)<16:=by omega
 have hbi:(b:Int)<16:=by omega
 have HA:=ah hA;have wo:=ah (h.below ((aC _ w).alloc (aj _) (.cells #[.int .i64 23,.int .i64 a,.int .i64 b,.int .i64 c,.int .i32 bf] 26)));have om:Hid (∀k,Calls Tryz.prog 195 #[.int .u64 (o.th.r b),.int .i32 bf,.int .i64 (4:Nat)] ((w.alloc (.cells #[.int .i64 23,.int .i64 a,.int .i64 b,.int .i64 c,.int .i32 bf] 26)).drewN k) fun e w'=>e=.returned (fH (wu (o.th.r b+bf)) 4)/\w'=(w.alloc (.cells #[.int .i64 23,.int .i64 a,.int .i64 b,.int .i64 c,.int .i32 bf] 26)).drewN k):=ah (fun k=>(lY (o.th.r b) bf 4 _ (by omega) hm0 hm1).mono fun e w' (q:e=_/\_=w')=>⟨q.1,q.2.symm⟩);have hw:gN 23=4:=rfl;rw[hw]at HR;have yK:=ah (jL (o.th.r b+bf));obtain⟨va,hva⟩:∃va,wu (o.th.r b+bf)=va:=⟨_,rfl⟩;rw[hva]at HR om yK;clear h hA hE hpc hrg hres hw hva;by_cases hq:va>262144-((4:Nat):Int)\/va%((4:Nat):Int)≠0
 ·have hpv:fH va 4=.tuple #[.int .i64 0,.bool false]:=aD hq
  have HR2:Hid (some (o.th.r,wu (o.th.pc+8),(6:Int))=some (r',nx,en)):=ah (by have:=HR.out;rw[aD hq]at this;exact this);rw[hpv]at om;clear hq hpv HR;go_enter Tryz.func151,Tryz.ntmps151
  go_wp2_with fail
  refine(gW 23 _ (by omega)).mono ?_;rintro e w' ⟨rfl,rfl⟩;go_wp2_with fail
  go_quiet ((go_at_call 195;exact Calls.quiet_of_same (om.out _)))
  go_wp2_with fail
  go_ret;have h2:=HR2.out
  cases h2;exact⟨rfl,g,(wo.out.st.drewN _).none HU.out.ob⟩
 ·have hpv:fH va 4=.tuple #[.int .i64 va,.bool true]:=aA hq
  have hq2:¬(va>262144-((4:Nat):Int)):=fun e=>hq (.inl e)
  have hq3:va%((4:Nat):Int)=0:=by
   by_cases e:va%((4:Nat):Int)=0
   ·exact e
   ·exact absurd (.inr e) hq
  have HR2:Hid ((match K.bN o va with
   | some (_,_,true)=>none
   | _=>some (o.th.r,wu (o.th.pc+8),(3:Int)))=some (r',nx,en)):=ah (by have:=HR.out;rw[aA hq]at this;exact this)
  have Hq:=ah (show va<=262143/\va%64+((4:Nat):Int)<=64 from⟨by omega,by omega⟩);rw[hpv]at om;clear hq hpv HR hq2 hq3;go_enter Tryz.func151,Tryz.ntmps151
  go_wp2_with fail
  refine(gW 23 _ (by omega)).mono ?_;rintro e w' ⟨rfl,rfl⟩;rw[show((gN 23:Nat):Int)=4 from rfl];go_upto_region 2 with fail
  go_cut [9,10] (fun u v wx=>u=.int .i64 va/\v=.bool true/\Hid (iI w0 g0 K o i mb wx g)/\Hid (iQ wx (g.tl o.name) xb o.th 23 a b c bf))
  case first =>
   go_wp2_with fail
   go_quiet ((go_at_call 195;exact Calls.quiet_of_same (om.out _)))
   go_wp2_with fail
   go_meet;exact⟨rfl,rfl,wo.out.below (bI _ _),HA.out.below iB.out (bI _ _)⟩
  case rest =>
   rename World=>w2
   clear rb x0 x2 x4 HA wo om iB;obtain⟨rfl,rfl,Ak,HA⟩:=hcut
   have HR3:Hid (fU g K o va true=0/\some (o.th.r,wu (o.th.pc+8),(3:Int))=some (r',nx,en)):=ah (by
    have h2:=HR2.out;unfold fU
    cases hw:K.bN o va with
    | none=>rw[hw]at h2;exact⟨rfl,h2⟩
    | some r =>
     obtain⟨s,q,may⟩:=r;rw[hw]at h2
     cases may
     ·exact⟨rfl,h2⟩
     ·cases h2)
   have Ja:=ah (fun x=>(Ak.out.below ((aC _ w2).drew)).wV va 4 x yK.out.1 Hq.out.1 HR3.out.1);have x1:w2.cell? ⟨xb,1,none⟩=some (.int .i64 a):=(HA.out.ins.cell 1).trans rfl;have ra:=HA.out.reg a ha;clear HR2;have s1:IntKind.i64.wrap 32=32:=by decide
   have s2:IntKind.i64.wrap 31=31:=by decide
   go_wp2_with fail
   have hna:=uP mb w2.drew;go_still_tail 24,(by kernel_rfl)
   rw[drew_eq w2];go_wp2_with fail
   refine(Ja.out _).mono ?_;rintro e w3 ⟨rfl,g3,lH⟩;have kr:=ah ((Ak.out.below ((aC _ w2).drew)).st.from lH);clear lH;go_wp2_with fail
   go_ret;have h2:=HR3.out.2
   cases h2;exact⟨rfl,g3,kr.out.none HU.out.ob⟩
theorem Rn{w0 w:World}{g0 g:Gh}{K:Km}{o:Ob}{i mb:Nat}(h:iI w0 g0 K o i mb w g)(a b c:Nat)(bf:Int)(ha:a<16)(hb:b<16)(hm0:-2147483648<=bf)(hm1:bf<=2147483647){r':Nat->Int}{nx en:Int}(hres:eY K o ⟨24,a,b,c,bf⟩=some (r',nx,en)) :
  Calls Tryz.prog 151 #[.pointer (some ⟨g.tl o.name,0,none⟩),.agg #[.int .i64 24,.int .i64 a,.int .i64 b,.int .i64 c,.int .i32 bf],mR mb] w fun e w' =>
   e=.returned (.int .i64 en)/\∃g',bS w0 g0 (K.set (o.eF { o.th with r:=r' })) (o.eF { o.th with r:=r' }) w' g':=by
 obtain⟨hA,hE,hlt,hpc,hrg⟩:=h.st.jF h.ob h.kind 24 a b c bf;have HU:=ah h;rw[qP K o 24 a b c bf (by omega)]at hres;have HR:=ah hres;obtain⟨xb,hxb⟩:∃xb,w.heap.size=xb:=⟨_,rfl⟩;have iB:Hid (g.tl o.name<(w.alloc (.cells #[.int .i64 24,.int .i64 a,.int .i64 b,.int .i64 c,.int .i32 bf] 26)).heap.size):=ah (by rw[au];omega);have IZ:=ah (h.st.kin.kS _ (aj _));rw[hxb]at hA IZ;have rb:=hA.reg b hb;have x0:(w.alloc (.cells #[.int .i64 24,.int .i64 a,.int .i64 b,.int .i64 c,.int .i32 bf] 26)).cell? ⟨xb,0,none⟩=some (.int .i64 24):=(hA.ins.cell 0).trans rfl;have x2:(w.alloc (.cells #[.int .i64 24,.int .i64 a,.int .i64 b,.int .i64 c,.int .i32 bf] 26)).cell? ⟨xb,2,none⟩=some (.int .i64 b):=(hA.ins.cell 2).trans rfl;have x4:(w.alloc (.cells #[.int .i64 24,.int .i64 a,.int .i64 b,.int .i64 c,.int .i32 bf] 26)).cell? ⟨xb,4,none⟩=some (.int .i32 bf):=(hA.ins.cell 4).trans rfl;have hai:(a:Int)<16:=by omega
 have hbi:(b:Int)<16:=by omega
 have HA:=ah hA;have wo:=ah (h.below ((aC _ w).alloc (aj _) (.cells #[.int .i64 24,.int .i64 a,.int .i64 b,.int .i64 c,.int .i32 bf] 26)));have om:Hid (∀k,Calls Tryz.prog 195 #[.int .u64 (o.th.r b),.int .i32 bf,.int .i64 (1:Nat)] ((w.alloc (.cells #[.int .i64 24,.int .i64 a,.int .i64 b,.int .i64 c,.int .i32 bf] 26)).drewN k) fun e w'=>e=.returned (fH (wu (o.th.r b+bf)) 1)/\w'=(w.alloc (.cells #[.int .i64 24,.int .i64 a,.int .i64 b,.int .i64 c,.int .i32 bf] 26)).drewN k):=ah (fun k=>(lY (o.th.r b) bf 1 _ (by omega) hm0 hm1).mono fun e w' (q:e=_/\_=w')=>⟨q.1,q.2.symm⟩);have hw:gN 24=1:=rfl;rw[hw]at HR;have yK:=ah (jL (o.th.r b+bf));obtain⟨va,hva⟩:∃va,wu (o.th.r b+bf)=va:=⟨_,rfl⟩;rw[hva]at HR om yK;clear h hA hE hpc hrg hres hw hva;by_cases hq:va>262144-((1:Nat):Int)\/va%((1:Nat):Int)≠0
 ·have hpv:fH va 1=.tuple #[.int .i64 0,.bool false]:=aD hq
  have HR2:Hid (some (o.th.r,wu (o.th.pc+8),(6:Int))=some (r',nx,en)):=ah (by have:=HR.out;rw[aD hq]at this;exact this);rw[hpv]at om;clear hq hpv HR;go_enter Tryz.func151,Tryz.ntmps151
  go_wp2_with fail
  refine(gW 24 _ (by omega)).mono ?_;rintro e w' ⟨rfl,rfl⟩;go_wp2_with fail
  go_quiet ((go_at_call 195;exact Calls.quiet_of_same (om.out _)))
  go_wp2_with fail
  go_ret;have h2:=HR2.out
  cases h2;exact⟨rfl,g,(wo.out.st.drewN _).none HU.out.ob⟩
 ·have hpv:fH va 1=.tuple #[.int .i64 va,.bool true]:=aA hq
  have hq2:¬(va>262144-((1:Nat):Int)):=fun e=>hq (.inl e)
  have hq3:va%((1:Nat):Int)=0:=by
   by_cases e:va%((1:Nat):Int)=0
   ·exact e
   ·exact absurd (.inr e) hq
  have HR2:Hid ((match K.bN o va with
   | some (_,_,true)=>none
   | _=>some (o.th.r,wu (o.th.pc+8),(3:Int)))=some (r',nx,en)):=ah (by have:=HR.out;rw[aA hq]at this;exact this)
  have Hq:=ah (show va<=262143/\va%64+((1:Nat):Int)<=64 from⟨by omega,by omega⟩);rw[hpv]at om;clear hq hpv HR hq2 hq3;go_enter Tryz.func151,Tryz.ntmps151
  go_wp2_with fail
  refine(gW 24 _ (by omega)).mono ?_;rintro e w' ⟨rfl,rfl⟩;rw[show((gN 24:Nat):Int)=1 from rfl];go_upto_region 2 with fail
  go_cut [9,10] (fun u v wx=>u=.int .i64 va/\v=.bool true/\Hid (iI w0 g0 K o i mb wx g)/\Hid (iQ wx (g.tl o.name) xb o.th 24 a b c bf))
  case first =>
   go_wp2_with fail
   go_quiet ((go_at_call 195;exact Calls.quiet_of_same (om.out _)))
   go_wp2_with fail
   go_meet;exact⟨rfl,rfl,wo.out.below (bI _ _),HA.out.below iB.out (bI _ _)⟩
  case rest =>
   rename World=>w2
   clear rb x0 x2 x4 HA wo om iB;obtain⟨rfl,rfl,Ak,HA⟩:=hcut
   have HR3:Hid (fU g K o va true=0/\some (o.th.r,wu (o.th.pc+8),(3:Int))=some (r',nx,en)):=ah (by
    have h2:=HR2.out;unfold fU
    cases hw:K.bN o va with
    | none=>rw[hw]at h2;exact⟨rfl,h2⟩
    | some r =>
     obtain⟨s,q,may⟩:=r;rw[hw]at h2
     cases may
     ·exact⟨rfl,h2⟩
     ·cases h2)
   have Ja:=ah (fun x=>(Ak.out.below ((aC _ w2).drew)).wV va 1 x yK.out.1 Hq.out.1 HR3.out.1);have x1:w2.cell? ⟨xb,1,none⟩=some (.int .i64 a):=(HA.out.ins.cell 1).trans rfl;have ra:=HA.out.reg a ha;clear HR2;have s1:IntKind.i64.wrap 8=8:=by decide
   have s2:IntKind.i64.wrap 7=7:=by decide
   go_wp2_with fail
   have hna:=uP mb w2.drew;go_still_tail 24,(by kernel_rfl)
   rw[drew_eq w2];go_wp2_with fail
   refine(Ja.out _).mono ?_;rintro e w3 ⟨rfl,g3,lH⟩;have kr:=ah ((Ak.out.below ((aC _ w2).drew)).st.from lH);clear lH;go_wp2_with fail
   go_ret;have h2:=HR3.out.2
   cases h2;exact⟨rfl,g3,kr.out.none HU.out.ob⟩
end Go.Proofs.YtiadbhiadhgjkaaGreatDoor
