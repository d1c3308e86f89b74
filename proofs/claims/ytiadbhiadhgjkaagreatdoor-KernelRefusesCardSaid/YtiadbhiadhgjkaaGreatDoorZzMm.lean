import Derived.Test.YtiadbhiadhgjkaaGreatDoorZzMl
set_option maxRecDepth 100000
set_option maxHeartbeats 4000000
namespace Go.Proofs.YtiadbhiadhgjkaaGreatDoor
open Go.RowKit
attribute [local irreducible] World.setCell World.alloc World.drew World.setRow Calls Code.wp
theorem uT{K:Km}{o:Ob}{op:Int}{a b c:Nat}{bf:Int}{r':Nat->Int}{nx en:Int}(hop:op=19\/op=20\/op=21\/op=22\/op=23\/op=24)(h:eY K o ⟨op,a,b,c,bf⟩=some (r',nx,en)):nx=wu (o.th.pc+8):=by
 by_cases h3:op=19\/op=20\/op=21
 ·rw[tL K o op a b c bf h3]at h
  split at h
  ·cases h;rfl
  ·split at h
   ·cases h;rfl
   ·cases h;rfl
 ·rw[qP K o op a b c bf (by omega)]at h
  split at h
  ·cases h;rfl
  ·split at h
   ·cases h
   ·cases h;rfl
theorem iI.jF{w0 w:World}{g0 g:Gh}{K:Km}{o:Ob}{i mb:Nat}(h:iI w0 g0 K o i mb w g)(op a b c bf:Int) :
  iQ (w.alloc (.cells #[.int .i64 op,.int .i64 a,.int .i64 b,.int .i64 c,.int .i32 bf] 26)) (g.tl o.name) w.heap.size o.th op a b c bf/\iI w0 g0 K o i mb (w.alloc (.cells #[.int .i64 op,.int .i64 a,.int .i64 b,.int .i64 c,.int .i32 bf] 26)) g/\g.tl o.name<w.heap.size/\(0<=o.th.pc/\o.th.pc<=18446744073709551615)/\∀j,0<=o.th.r j/\o.th.r j<=18446744073709551615:=by
 obtain⟨h1,-,h3,h4,h5⟩:=h.st.jF h.ob h.kind op a b c bf;exact⟨h1,h.below ((aC _ w).alloc (aj _) _),h3,h4,h5⟩
theorem Uz{w0 w:World}{g0 g:Gh}{K:Km}{o:Ob}{i mb:Nat}(h:iI w0 g0 K o i mb w g)(a b c:Nat)(bf:Int)(ha:a<16)(hb:b<16)(hm0:-2147483648<=bf)(hm1:bf<=2147483647){r':Nat->Int}{nx en:Int}(hres:eY K o ⟨19,a,b,c,bf⟩=some (r',nx,en)) :
  Calls Tryz.prog 130 #[.pointer (some ⟨g.tl o.name,0,none⟩),.agg #[.int .i64 19,.int .i64 a,.int .i64 b,.int .i64 c,.int .i32 bf],mR mb] w fun e w' =>
   e=.returned (.tuple #[.int .u64 nx,.int .i64 en])/\∃g',bS w0 g0 (K.set (o.eF { o.th with r:=r' })) (o.eF { o.th with r:=r' }) w' g':=by
 obtain⟨hA,hE,hlt,hpc,hrg⟩:=h.jF 19 a b c bf;have HR:=ah hres;have mQ:=ah (uT (by omega) hres);obtain⟨xb,hxb⟩:∃xb,w.heap.size=xb:=⟨_,rfl⟩;have iB:Hid (g.tl o.name<(w.alloc (.cells #[.int .i64 19,.int .i64 a,.int .i64 b,.int .i64 c,.int .i32 bf] 26)).heap.size):=ah (by rw[au];omega);rw[hxb]at hA;have ra:=hA.reg a ha;have rb:=hA.reg b hb;have pc:=hA.pc;have x0:(w.alloc (.cells #[.int .i64 19,.int .i64 a,.int .i64 b,.int .i64 c,.int .i32 bf] 26)).cell? ⟨xb,0,none⟩=some (.int .i64 19):=(hA.ins.cell 0).trans rfl;have x1:(w.alloc (.cells #[.int .i64 19,.int .i64 a,.int .i64 b,.int .i64 c,.int .i32 bf] 26)).cell? ⟨xb,1,none⟩=some (.int .i64 a):=(hA.ins.cell 1).trans rfl;have x2:(w.alloc (.cells #[.int .i64 19,.int .i64 a,.int .i64 b,.int .i64 c,.int .i32 bf] 26)).cell? ⟨xb,2,none⟩=some (.int .i64 b):=(hA.ins.cell 2).trans rfl;have hai:(a:Int)<16:=by omega
 have hbi:(b:Int)<16:=by omega
 have HA:=ah hA;have HE:=ah hE;clear h hA hE hpc hrg hres;go_enter Tryz.func130,Tryz.ntmps130
 go_upto_region 2 with fail
 go_cut [9,10] (fun u v wx=>u=.int .u64 (o.th.r a)/\v=.int .u64 (o.th.r b)/\Hid (iI w0 g0 K o i mb wx g)/\Hid (iQ wx (g.tl o.name) xb o.th 19 a b c bf))
 case first =>
  go_quiet (fail)
  go_wp2_with fail
  go_meet;exact⟨rfl,rfl,HE.out.below (bI _ _),HA.out.below iB.out (bI _ _)⟩
 case rest =>
  rename World=>w2
  clear ra rb pc x0 x1 x2 HA HE;obtain⟨rfl,rfl,HE,HA⟩:=hcut;have x0:w2.cell? ⟨xb,0,none⟩=some (.int .i64 19):=(HA.out.ins.cell 0).trans rfl;have x1:w2.cell? ⟨xb,1,none⟩=some (.int .i64 a):=(HA.out.ins.cell 1).trans rfl;have x2:w2.cell? ⟨xb,2,none⟩=some (.int .i64 b):=(HA.out.ins.cell 2).trans rfl;have x3:w2.cell? ⟨xb,3,none⟩=some (.int .i64 c):=(HA.out.ins.cell 3).trans rfl;have x4:w2.cell? ⟨xb,4,none⟩=some (.int .i32 bf):=(HA.out.ins.cell 4).trans rfl;have zq:=ah (Rp HE.out a b c bf ha hb hm0 hm1 HR.out);go_wp2_with fail
  refine zq.out.mono ?_;rintro e w3 ⟨rfl,g3,lH⟩;have kr:=ah lH;clear lH zq;go_wp2_with fail
  go_ret2
  exact⟨by rw[mQ.out];rfl,g3,kr.out⟩
theorem Ux{w0 w:World}{g0 g:Gh}{K:Km}{o:Ob}{i mb:Nat}(h:iI w0 g0 K o i mb w g)(a b c:Nat)(bf:Int)(ha:a<16)(hb:b<16)(hm0:-2147483648<=bf)(hm1:bf<=2147483647){r':Nat->Int}{nx en:Int}(hres:eY K o ⟨20,a,b,c,bf⟩=some (r',nx,en)) :
  Calls Tryz.prog 130 #[.pointer (some ⟨g.tl o.name,0,none⟩),.agg #[.int .i64 20,.int .i64 a,.int .i64 b,.int .i64 c,.int .i32 bf],mR mb] w fun e w' =>
   e=.returned (.tuple #[.int .u64 nx,.int .i64 en])/\∃g',bS w0 g0 (K.set (o.eF { o.th with r:=r' })) (o.eF { o.th with r:=r' }) w' g':=by
 obtain⟨hA,hE,hlt,hpc,hrg⟩:=h.jF 20 a b c bf;have HR:=ah hres;have mQ:=ah (uT (by omega) hres);obtain⟨xb,hxb⟩:∃xb,w.heap.size=xb:=⟨_,rfl⟩;have iB:Hid (g.tl o.name<(w.alloc (.cells #[.int .i64 20,.int .i64 a,.int .i64 b,.int .i64 c,.int .i32 bf] 26)).heap.size):=ah (by rw[au];omega);rw[hxb]at hA;have ra:=hA.reg a ha;have rb:=hA.reg b hb;have pc:=hA.pc;have x0:(w.alloc (.cells #[.int .i64 20,.int .i64 a,.int .i64 b,.int .i64 c,.int .i32 bf] 26)).cell? ⟨xb,0,none⟩=some (.int .i64 20):=(hA.ins.cell 0).trans rfl;have x1:(w.alloc (.cells #[.int .i64 20,.int .i64 a,.int .i64 b,.int .i64 c,.int .i32 bf] 26)).cell? ⟨xb,1,none⟩=some (.int .i64 a):=(hA.ins.cell 1).trans rfl;have x2:(w.alloc (.cells #[.int .i64 20,.int .i64 a,.int .i64 b,.int .i64 c,.int .i32 bf] 26)).cell? ⟨xb,2,none⟩=some (.int .i64 b):=(hA.ins.cell 2).trans rfl;have hai:(a:Int)<16:=by omega
 have hbi:(b:Int)<16:=by omega
 have HA:=ah hA;have HE:=ah hE;clear h hA hE hpc hrg hres;go_enter Tryz.func130,Tryz.ntmps130
 go_upto_region 2 with fail
 go_cut [9,10] (fun u v wx=>u=.int .u64 (o.th.r a)/\v=.int .u64 (o.th.r b)/\Hid (iI w0 g0 K o i mb wx g)/\Hid (iQ wx (g.tl o.name) xb o.th 20 a b c bf))
 case first =>
  go_quiet (fail)
  go_wp2_with fail
  go_meet;exact⟨rfl,rfl,HE.out.below (bI _ _),HA.out.below iB.out (bI _ _)⟩
 case rest =>
  rename World=>w2
  clear ra rb pc x0 x1 x2 HA HE;obtain⟨rfl,rfl,HE,HA⟩:=hcut;have x0:w2.cell? ⟨xb,0,none⟩=some (.int .i64 20):=(HA.out.ins.cell 0).trans rfl;have x1:w2.cell? ⟨xb,1,none⟩=some (.int .i64 a):=(HA.out.ins.cell 1).trans rfl;have x2:w2.cell? ⟨xb,2,none⟩=some (.int .i64 b):=(HA.out.ins.cell 2).trans rfl;have x3:w2.cell? ⟨xb,3,none⟩=some (.int .i64 c):=(HA.out.ins.cell 3).trans rfl;have x4:w2.cell? ⟨xb,4,none⟩=some (.int .i32 bf):=(HA.out.ins.cell 4).trans rfl;have zq:=ah (Ro HE.out a b c bf ha hb hm0 hm1 HR.out);go_wp2_with fail
  refine zq.out.mono ?_;rintro e w3 ⟨rfl,g3,lH⟩;have kr:=ah lH;clear lH zq;go_wp2_with fail
  go_ret2
  exact⟨by rw[mQ.out];rfl,g3,kr.out⟩
theorem UA{w0 w:World}{g0 g:Gh}{K:Km}{o:Ob}{i mb:Nat}(h:iI w0 g0 K o i mb w g)(a b c:Nat)(bf:Int)(ha:a<16)(hb:b<16)(hm0:-2147483648<=bf)(hm1:bf<=2147483647){r':Nat->Int}{nx en:Int}(hres:eY K o ⟨21,a,b,c,bf⟩=some (r',nx,en)) :
  Calls Tryz.prog 130 #[.pointer (some ⟨g.tl o.name,0,none⟩),.agg #[.int .i64 21,.int .i64 a,.int .i64 b,.int .i64 c,.int .i32 bf],mR mb] w fun e w' =>
   e=.returned (.tuple #[.int .u64 nx,.int .i64 en])/\∃g',bS w0 g0 (K.set (o.eF { o.th with r:=r' })) (o.eF { o.th with r:=r' }) w' g':=by
 obtain⟨hA,hE,hlt,hpc,hrg⟩:=h.jF 21 a b c bf;have HR:=ah hres;have mQ:=ah (uT (by omega) hres);obtain⟨xb,hxb⟩:∃xb,w.heap.size=xb:=⟨_,rfl⟩;have iB:Hid (g.tl o.name<(w.alloc (.cells #[.int .i64 21,.int .i64 a,.int .i64 b,.int .i64 c,.int .i32 bf] 26)).heap.size):=ah (by rw[au];omega);rw[hxb]at hA;have ra:=hA.reg a ha;have rb:=hA.reg b hb;have pc:=hA.pc;have x0:(w.alloc (.cells #[.int .i64 21,.int .i64 a,.int .i64 b,.int .i64 c,.int .i32 bf] 26)).cell? ⟨xb,0,none⟩=some (.int .i64 21):=(hA.ins.cell 0).trans rfl;have x1:(w.alloc (.cells #[.int .i64 21,.int .i64 a,.int .i64 b,.int .i64 c,.int .i32 bf] 26)).cell? ⟨xb,1,none⟩=some (.int .i64 a):=(hA.ins.cell 1).trans rfl;have x2:(w.alloc (.cells #[.int .i64 21,.int .i64 a,.int .i64 b,.int .i64 c,.int .i32 bf] 26)).cell? ⟨xb,2,none⟩=some (.int .i64 b):=(hA.ins.cell 2).trans rfl;have hai:(a:Int)<16:=by omega
 have hbi:(b:Int)<16:=by omega
 have HA:=ah hA;have HE:=ah hE;clear h hA hE hpc hrg hres;go_enter Tryz.func130,Tryz.ntmps130
 go_upto_region 2 with fail
 go_cut [9,10] (fun u v wx=>u=.int .u64 (o.th.r a)/\v=.int .u64 (o.th.r b)/\Hid (iI w0 g0 K o i mb wx g)/\Hid (iQ wx (g.tl o.name) xb o.th 21 a b c bf))
 case first =>
  go_quiet (fail)
  go_wp2_with fail
  go_meet;exact⟨rfl,rfl,HE.out.below (bI _ _),HA.out.below iB.out (bI _ _)⟩
 case rest =>
  rename World=>w2
  clear ra rb pc x0 x1 x2 HA HE;obtain⟨rfl,rfl,HE,HA⟩:=hcut;have x0:w2.cell? ⟨xb,0,none⟩=some (.int .i64 21):=(HA.out.ins.cell 0).trans rfl;have x1:w2.cell? ⟨xb,1,none⟩=some (.int .i64 a):=(HA.out.ins.cell 1).trans rfl;have x2:w2.cell? ⟨xb,2,none⟩=some (.int .i64 b):=(HA.out.ins.cell 2).trans rfl;have x3:w2.cell? ⟨xb,3,none⟩=some (.int .i64 c):=(HA.out.ins.cell 3).trans rfl;have x4:w2.cell? ⟨xb,4,none⟩=some (.int .i32 bf):=(HA.out.ins.cell 4).trans rfl;have zq:=ah (Rq HE.out a b c bf ha hb hm0 hm1 HR.out);go_wp2_with fail
  refine zq.out.mono ?_;rintro e w3 ⟨rfl,g3,lH⟩;have kr:=ah lH;clear lH zq;go_wp2_with fail
  go_ret2
  exact⟨by rw[mQ.out];rfl,g3,kr.out⟩
theorem Uv{w0 w:World}{g0 g:Gh}{K:Km}{o:Ob}{i mb:Nat}(h:iI w0 g0 K o i mb w g)(a b c:Nat)(bf:Int)(ha:a<16)(hb:b<16)(hm0:-2147483648<=bf)(hm1:bf<=2147483647){r':Nat->Int}{nx en:Int}(hres:eY K o ⟨22,a,b,c,bf⟩=some (r',nx,en)) :
  Calls Tryz.prog 130 #[.pointer (some ⟨g.tl o.name,0,none⟩),.agg #[.int .i64 22,.int .i64 a,.int .i64 b,.int .i64 c,.int .i32 bf],mR mb] w fun e w' =>
   e=.returned (.tuple #[.int .u64 nx,.int .i64 en])/\∃g',bS w0 g0 (K.set (o.eF { o.th with r:=r' })) (o.eF { o.th with r:=r' }) w' g':=by
 obtain⟨hA,hE,hlt,hpc,hrg⟩:=h.jF 22 a b c bf;have HR:=ah hres;have mQ:=ah (uT (by omega) hres);obtain⟨xb,hxb⟩:∃xb,w.heap.size=xb:=⟨_,rfl⟩;have iB:Hid (g.tl o.name<(w.alloc (.cells #[.int .i64 22,.int .i64 a,.int .i64 b,.int .i64 c,.int .i32 bf] 26)).heap.size):=ah (by rw[au];omega);rw[hxb]at hA;have ra:=hA.reg a ha;have rb:=hA.reg b hb;have pc:=hA.pc;have x0:(w.alloc (.cells #[.int .i64 22,.int .i64 a,.int .i64 b,.int .i64 c,.int .i32 bf] 26)).cell? ⟨xb,0,none⟩=some (.int .i64 22):=(hA.ins.cell 0).trans rfl;have x1:(w.alloc (.cells #[.int .i64 22,.int .i64 a,.int .i64 b,.int .i64 c,.int .i32 bf] 26)).cell? ⟨xb,1,none⟩=some (.int .i64 a):=(hA.ins.cell 1).trans rfl;have x2:(w.alloc (.cells #[.int .i64 22,.int .i64 a,.int .i64 b,.int .i64 c,.int .i32 bf] 26)).cell? ⟨xb,2,none⟩=some (.int .i64 b):=(hA.ins.cell 2).trans rfl;have hai:(a:Int)<16:=by omega
 have hbi:(b:Int)<16:=by omega
 have HA:=ah hA;have HE:=ah hE;clear h hA hE hpc hrg hres;go_enter Tryz.func130,Tryz.ntmps130
 go_upto_region 2 with fail
 go_cut [9,10] (fun u v wx=>u=.int .u64 (o.th.r a)/\v=.int .u64 (o.th.r b)/\Hid (iI w0 g0 K o i mb wx g)/\Hid (iQ wx (g.tl o.name) xb o.th 22 a b c bf))
 case first =>
  go_quiet (fail)
  go_wp2_with fail
  go_meet;exact⟨rfl,rfl,HE.out.below (bI _ _),HA.out.below iB.out (bI _ _)⟩
 case rest =>
  rename World=>w2
  clear ra rb pc x0 x1 x2 HA HE;obtain⟨rfl,rfl,HE,HA⟩:=hcut;have x0:w2.cell? ⟨xb,0,none⟩=some (.int .i64 22):=(HA.out.ins.cell 0).trans rfl;have x1:w2.cell? ⟨xb,1,none⟩=some (.int .i64 a):=(HA.out.ins.cell 1).trans rfl;have x2:w2.cell? ⟨xb,2,none⟩=some (.int .i64 b):=(HA.out.ins.cell 2).trans rfl;have x3:w2.cell? ⟨xb,3,none⟩=some (.int .i64 c):=(HA.out.ins.cell 3).trans rfl;have x4:w2.cell? ⟨xb,4,none⟩=some (.int .i32 bf):=(HA.out.ins.cell 4).trans rfl;have zq:=ah (Rm HE.out a b c bf ha hb hm0 hm1 HR.out);go_wp2_with fail
  refine zq.out.mono ?_;rintro e w3 ⟨rfl,g3,lH⟩;have kr:=ah lH;clear lH zq;go_wp2_with fail
  go_ret2
  exact⟨by rw[mQ.out];rfl,g3,kr.out⟩
theorem Uu{w0 w:World}{g0 g:Gh}{K:Km}{o:Ob}{i mb:Nat}(h:iI w0 g0 K o i mb w g)(a b c:Nat)(bf:Int)(ha:a<16)(hb:b<16)(hm0:-2147483648<=bf)(hm1:bf<=2147483647){r':Nat->Int}{nx en:Int}(hres:eY K o ⟨23,a,b,c,bf⟩=some (r',nx,en)) :
  Calls Tryz.prog 130 #[.pointer (some ⟨g.tl o.name,0,none⟩),.agg #[.int .i64 23,.int .i64 a,.int .i64 b,.int .i64 c,.int .i32 bf],mR mb] w fun e w' =>
   e=.returned (.tuple #[.int .u64 nx,.int .i64 en])/\∃g',bS w0 g0 (K.set (o.eF { o.th with r:=r' })) (o.eF { o.th with r:=r' }) w' g':=by
 obtain⟨hA,hE,hlt,hpc,hrg⟩:=h.jF 23 a b c bf;have HR:=ah hres;have mQ:=ah (uT (by omega) hres);obtain⟨xb,hxb⟩:∃xb,w.heap.size=xb:=⟨_,rfl⟩;have iB:Hid (g.tl o.name<(w.alloc (.cells #[.int .i64 23,.int .i64 a,.int .i64 b,.int .i64 c,.int .i32 bf] 26)).heap.size):=ah (by rw[au];omega);rw[hxb]at hA;have ra:=hA.reg a ha;have rb:=hA.reg b hb;have pc:=hA.pc;have x0:(w.alloc (.cells #[.int .i64 23,.int .i64 a,.int .i64 b,.int .i64 c,.int .i32 bf] 26)).cell? ⟨xb,0,none⟩=some (.int .i64 23):=(hA.ins.cell 0).trans rfl;have x1:(w.alloc (.cells #[.int .i64 23,.int .i64 a,.int .i64 b,.int .i64 c,.int .i32 bf] 26)).cell? ⟨xb,1,none⟩=some (.int .i64 a):=(hA.ins.cell 1).trans rfl;have x2:(w.alloc (.cells #[.int .i64 23,.int .i64 a,.int .i64 b,.int .i64 c,.int .i32 bf] 26)).cell? ⟨xb,2,none⟩=some (.int .i64 b):=(hA.ins.cell 2).trans rfl;have hai:(a:Int)<16:=by omega
 have hbi:(b:Int)<16:=by omega
 have HA:=ah hA;have HE:=ah hE;clear h hA hE hpc hrg hres;go_enter Tryz.func130,Tryz.ntmps130
 go_upto_region 2 with fail
 go_cut [9,10] (fun u v wx=>u=.int .u64 (o.th.r a)/\v=.int .u64 (o.th.r b)/\Hid (iI w0 g0 K o i mb wx g)/\Hid (iQ wx (g.tl o.name) xb o.th 23 a b c bf))
 case first =>
  go_quiet (fail)
  go_wp2_with fail
  go_meet;exact⟨rfl,rfl,HE.out.below (bI _ _),HA.out.below iB.out (bI _ _)⟩
 case rest =>
  rename World=>w2
  clear ra rb pc x0 x1 x2 HA HE;obtain⟨rfl,rfl,HE,HA⟩:=hcut;have x0:w2.cell? ⟨xb,0,none⟩=some (.int .i64 23):=(HA.out.ins.cell 0).trans rfl;have x1:w2.cell? ⟨xb,1,none⟩=some (.int .i64 a):=(HA.out.ins.cell 1).trans rfl;have x2:w2.cell? ⟨xb,2,none⟩=some (.int .i64 b):=(HA.out.ins.cell 2).trans rfl;have x3:w2.cell? ⟨xb,3,none⟩=some (.int .i64 c):=(HA.out.ins.cell 3).trans rfl;have x4:w2.cell? ⟨xb,4,none⟩=some (.int .i32 bf):=(HA.out.ins.cell 4).trans rfl;have zq:=ah (Rl HE.out a b c bf ha hb hm0 hm1 HR.out);go_wp2_with fail
  refine zq.out.mono ?_;rintro e w3 ⟨rfl,g3,lH⟩;have kr:=ah lH;clear lH zq;go_wp2_with fail
  go_ret2
  exact⟨by rw[mQ.out];rfl,g3,kr.out⟩
theorem Uw{w0 w:World}{g0 g:Gh}{K:Km}{o:Ob}{i mb:Nat}(h:iI w0 g0 K o i mb w g)(a b c:Nat)(bf:Int)(ha:a<16)(hb:b<16)(hm0:-2147483648<=bf)(hm1:bf<=2147483647){r':Nat->Int}{nx en:Int}(hres:eY K o ⟨24,a,b,c,bf⟩=some (r',nx,en)) :
  Calls Tryz.prog 130 #[.pointer (some ⟨g.tl o.name,0,none⟩),.agg #[.int .i64 24,.int .i64 a,.int .i64 b,.int .i64 c,.int .i32 bf],mR mb] w fun e w' =>
   e=.returned (.tuple #[.int .u64 nx,.int .i64 en])/\∃g',bS w0 g0 (K.set (o.eF { o.th with r:=r' })) (o.eF { o.th with r:=r' }) w' g':=by
 obtain⟨hA,hE,hlt,hpc,hrg⟩:=h.jF 24 a b c bf;have HR:=ah hres;have mQ:=ah (uT (by omega) hres);obtain⟨xb,hxb⟩:∃xb,w.heap.size=xb:=⟨_,rfl⟩;have iB:Hid (g.tl o.name<(w.alloc (.cells #[.int .i64 24,.int .i64 a,.int .i64 b,.int .i64 c,.int .i32 bf] 26)).heap.size):=ah (by rw[au];omega);rw[hxb]at hA;have ra:=hA.reg a ha;have rb:=hA.reg b hb;have pc:=hA.pc;have x0:(w.alloc (.cells #[.int .i64 24,.int .i64 a,.int .i64 b,.int .i64 c,.int .i32 bf] 26)).cell? ⟨xb,0,none⟩=some (.int .i64 24):=(hA.ins.cell 0).trans rfl;have x1:(w.alloc (.cells #[.int .i64 24,.int .i64 a,.int .i64 b,.int .i64 c,.int .i32 bf] 26)).cell? ⟨xb,1,none⟩=some (.int .i64 a):=(hA.ins.cell 1).trans rfl;have x2:(w.alloc (.cells #[.int .i64 24,.int .i64 a,.int .i64 b,.int .i64 c,.int .i32 bf] 26)).cell? ⟨xb,2,none⟩=some (.int .i64 b):=(hA.ins.cell 2).trans rfl;have hai:(a:Int)<16:=by omega
 have hbi:(b:Int)<16:=by omega
 have HA:=ah hA;have HE:=ah hE;clear h hA hE hpc hrg hres;go_enter Tryz.func130,Tryz.ntmps130
 go_upto_region 2 with fail
 go_cut [9,10] (fun u v wx=>u=.int .u64 (o.th.r a)/\v=.int .u64 (o.th.r b)/\Hid (iI w0 g0 K o i mb wx g)/\Hid (iQ wx (g.tl o.name) xb o.th 24 a b c bf))
 case first =>
  go_quiet (fail)
  go_wp2_with fail
  go_meet;exact⟨rfl,rfl,HE.out.below (bI _ _),HA.out.below iB.out (bI _ _)⟩
 case rest =>
  rename World=>w2
  clear ra rb pc x0 x1 x2 HA HE;obtain⟨rfl,rfl,HE,HA⟩:=hcut;have x0:w2.cell? ⟨xb,0,none⟩=some (.int .i64 24):=(HA.out.ins.cell 0).trans rfl;have x1:w2.cell? ⟨xb,1,none⟩=some (.int .i64 a):=(HA.out.ins.cell 1).trans rfl;have x2:w2.cell? ⟨xb,2,none⟩=some (.int .i64 b):=(HA.out.ins.cell 2).trans rfl;have x3:w2.cell? ⟨xb,3,none⟩=some (.int .i64 c):=(HA.out.ins.cell 3).trans rfl;have x4:w2.cell? ⟨xb,4,none⟩=some (.int .i32 bf):=(HA.out.ins.cell 4).trans rfl;have zq:=ah (Rn HE.out a b c bf ha hb hm0 hm1 HR.out);go_wp2_with fail
  refine zq.out.mono ?_;rintro e w3 ⟨rfl,g3,lH⟩;have kr:=ah lH;clear lH zq;go_wp2_with fail
  go_ret2
  exact⟨by rw[mQ.out];rfl,g3,kr.out⟩
end Go.Proofs.YtiadbhiadhgjkaaGreatDoor
