import Derived.Test.YtiadbhiadhgjkaaGreatDoorZzMi
set_option maxRecDepth 100000
set_option maxHeartbeats 4000000
namespace Go.Proofs.YtiadbhiadhgjkaaGreatDoor
open Go.RowKit
attribute [local irreducible] World.setCell World.alloc World.drew World.setRow Calls Code.wp
theorem bS.drewN{w0 w:World}{g0 g:Gh}{K:Km}{o:Ob}(h:bS w0 g0 K o w g)(k:Nat):bS w0 g0 K o (w.drewN k) g:=h.below (bI w k)
structure iQ(w:World)(tb xb:Nat)(t:Th)(op a b c bf:Int):Prop where
 reg:∀j,j<16->w.cell? ⟨tb,j,none⟩=some (.int .u64 (t.r j))
 pc:w.cell? ⟨tb,16,none⟩=some (.int .u64 t.pc)
 ins:aR w xb #[.int .i64 op,.int .i64 a,.int .i64 b,.int .i64 c,.int .i32 bf] 26
 free:∀j,w.frozen? ⟨tb,j,none⟩=false
theorem iQ.below{w w':World}{tb xb:Nat}{t:Th}{op a b c bf:Int}(h:iQ w tb xb t op a b c bf)(hb:tb<w.heap.size)(k:Below w.heap.size w w'):iQ w' tb xb t op a b c bf :=
 ⟨fun j hj=>(k.cell (p:=⟨tb,j,none⟩) hb).trans (h.reg j hj),(k.cell (p:=⟨tb,16,none⟩) hb).trans h.pc,h.ins.below k h.ins.lt,fun j=>(k.frozen (p:=⟨tb,j,none⟩) hb).trans (h.free j)⟩
theorem bS.jF{w0 w:World}{g0 g:Gh}{K:Km}{o:Ob}(h:bS w0 g0 K o w g)(ho:K.obj o.name=some o)(hk:o.kind=3)(op a b c bf:Int) :
  iQ (w.alloc (.cells #[.int .i64 op,.int .i64 a,.int .i64 b,.int .i64 c,.int .i32 bf] 26)) (g.tl o.name) w.heap.size o.th op a b c bf/\bS w0 g0 K o (w.alloc (.cells #[.int .i64 op,.int .i64 a,.int .i64 b,.int .i64 c,.int .i32 bf] 26)) g/\g.tl o.name<w.heap.size/\(0<=o.th.pc/\o.th.pc<=18446744073709551615)/\∀j,0<=o.th.r j/\o.th.r j<=18446744073709551615:=by
 obtain⟨x,hT⟩:=h.kin.gQ ho hk;have hB:=(hT.below ((aC _ w).alloc (aj _) (.cells #[.int .i64 op,.int .i64 a,.int .i64 b,.int .i64 c,.int .i32 bf] 26)));exact⟨⟨fun j hj=>hB.reg hj,(hB.blk.cell 16).trans rfl,aR.new _ _ _,hB.blk.free⟩,h.below ((aC _ w).alloc (aj _) _),hT.blk.lt,hT.rows.pc,hT.rows.regs⟩
theorem jL(x:Int):0<=wu x/\wu x<=18446744073709551615:=by unfold wu;omega
theorem Uy{w0 w:World}{g0 g:Gh}{K:Km}{o:Ob}(h:bS w0 g0 K o w g)(ho:K.obj o.name=some o)(hk:o.kind=3)(a b c:Nat)(bf:Int)(mv:Value)(ha:a<16)(hb:b<16)(hm0:-2147483648<=bf)(hm1:bf<=2147483647) :
  Calls Tryz.prog 130 #[.pointer (some ⟨g.tl o.name,0,none⟩),.agg #[.int .i64 2,.int .i64 a,.int .i64 b,.int .i64 c,.int .i32 bf],mv] w fun e w' =>
   e=.returned (.tuple #[.int .u64 (wu (o.th.pc+8)),.int .i64 0])/\bS w0 g0 (K.set (o.eF { o.th with r:=upd o.th.r a (wu bf) })) (o.eF { o.th with r:=upd o.th.r a (wu bf) }) w' g:=by
 obtain⟨hA,hE,hlt,hpc,hrg⟩:=h.jF ho hk 2 a b c bf;have HO:=ah ho;obtain⟨xb,hxb⟩:∃xb,w.heap.size=xb:=⟨_,rfl⟩;have iB:Hid (g.tl o.name<(w.alloc (.cells #[.int .i64 2,.int .i64 a,.int .i64 b,.int .i64 c,.int .i32 bf] 26)).heap.size):=ah (by rw[au];omega);rw[hxb]at hA;have ra:=hA.reg a ha;have rb:=hA.reg b hb;have pc:=hA.pc;have x0:(w.alloc (.cells #[.int .i64 2,.int .i64 a,.int .i64 b,.int .i64 c,.int .i32 bf] 26)).cell? ⟨xb,0,none⟩=some (.int .i64 2):=(hA.ins.cell 0).trans rfl;have x1:(w.alloc (.cells #[.int .i64 2,.int .i64 a,.int .i64 b,.int .i64 c,.int .i32 bf] 26)).cell? ⟨xb,1,none⟩=some (.int .i64 a):=(hA.ins.cell 1).trans rfl;have x2:(w.alloc (.cells #[.int .i64 2,.int .i64 a,.int .i64 b,.int .i64 c,.int .i32 bf] 26)).cell? ⟨xb,2,none⟩=some (.int .i64 b):=(hA.ins.cell 2).trans rfl;have hai:(a:Int)<16:=by omega
 have hbi:(b:Int)<16:=by omega
 have HA:=ah hA;have HE:=ah hE;clear h ho hA hE hpc hrg;go_enter Tryz.func130,Tryz.ntmps130
 go_upto_region 2 with fail
 go_cut [9,10] (fun u v wx=>u=.int .u64 (o.th.r a)/\v=.int .u64 (o.th.r b)/\Hid (bS w0 g0 K o wx g)/\Hid (iQ wx (g.tl o.name) xb o.th 2 a b c bf))
 case first =>
  go_quiet (fail)
  go_wp2_with fail
  go_meet;exact⟨rfl,rfl,HE.out.drewN _,HA.out.below iB.out (bI _ _)⟩
 case rest =>
  rename World=>w2
  clear ra rb pc x0 x1 x2 HA HE;obtain⟨rfl,rfl,HE,HA⟩:=hcut;have x0:w2.cell? ⟨xb,0,none⟩=some (.int .i64 2):=(HA.out.ins.cell 0).trans rfl;have x1:w2.cell? ⟨xb,1,none⟩=some (.int .i64 a):=(HA.out.ins.cell 1).trans rfl;have x4:w2.cell? ⟨xb,4,none⟩=some (.int .i32 bf):=(HA.out.ins.cell 4).trans rfl;have ra:=HA.out.reg a ha;have hfr:=HA.out.free;have HF:=ah ((HE.out.reg HO.out hk ha (jL bf)).below ((aC _ _).drew));go_wp2_with fail
  go_region
  all_goals
   go_wp2_with fail
   go_ret2
   refine⟨rfl,?_⟩;exact HF.out
theorem RX(tb:Nat)(pc bf:Int)(w:World)(h:w.cell? ⟨tb,16,none⟩=some (.int .u64 pc))(hm0:-2147483648<=bf)(hm1:bf<=2147483647) :
  Calls Tryz.prog 149 #[.pointer (some ⟨tb,0,none⟩),.int .i32 bf] w fun e w'=>e=.returned (.int .u64 (wu (pc+8*bf)))/\w=w':=by
 have hv:IntKind.u64.wrap (pc+IntKind.u64.wrap (8*IntKind.u64.wrap bf))=wu (pc+8*bf):=by show(pc+(8*(bf%18446744073709551616))%18446744073709551616)%18446744073709551616=(pc+8*bf)%18446744073709551616;omega
 go_enter Tryz.func149,Tryz.ntmps149
 go_wp2_with fail
 go_ret;exact⟨rfl,rfl⟩
theorem Nq{w0 w:World}{g0 g:Gh}{K:Km}{o:Ob}(h:bS w0 g0 K o w g)(ho:K.obj o.name=some o)(hk:o.kind=3)(a b c:Nat)(bf:Int)(mv:Value)(ha:a<16)(hb:b<16) :
  Calls Tryz.prog 130 #[.pointer (some ⟨g.tl o.name,0,none⟩),.agg #[.int .i64 1,.int .i64 a,.int .i64 b,.int .i64 c,.int .i32 bf],mv] w fun e w' =>
   e=.returned (.tuple #[.int .u64 (wu (o.th.pc+8)),.int .i64 2])/\bS w0 g0 K o w' g:=by
 obtain⟨hA,hE,hlt,hpc,hrg⟩:=h.jF ho hk 1 a b c bf;have HO:=ah ho;obtain⟨xb,hxb⟩:∃xb,w.heap.size=xb:=⟨_,rfl⟩;have iB:Hid (g.tl o.name<(w.alloc (.cells #[.int .i64 1,.int .i64 a,.int .i64 b,.int .i64 c,.int .i32 bf] 26)).heap.size):=ah (by rw[au];omega);rw[hxb]at hA;have ra:=hA.reg a ha;have rb:=hA.reg b hb;have pc:=hA.pc;have x0:(w.alloc (.cells #[.int .i64 1,.int .i64 a,.int .i64 b,.int .i64 c,.int .i32 bf] 26)).cell? ⟨xb,0,none⟩=some (.int .i64 1):=(hA.ins.cell 0).trans rfl;have x1:(w.alloc (.cells #[.int .i64 1,.int .i64 a,.int .i64 b,.int .i64 c,.int .i32 bf] 26)).cell? ⟨xb,1,none⟩=some (.int .i64 a):=(hA.ins.cell 1).trans rfl;have x2:(w.alloc (.cells #[.int .i64 1,.int .i64 a,.int .i64 b,.int .i64 c,.int .i32 bf] 26)).cell? ⟨xb,2,none⟩=some (.int .i64 b):=(hA.ins.cell 2).trans rfl;have hai:(a:Int)<16:=by omega
 have hbi:(b:Int)<16:=by omega
 have HA:=ah hA;have HE:=ah hE;clear h ho hA hE hpc hrg;go_enter Tryz.func130,Tryz.ntmps130
 go_upto_region 2 with fail
 go_cut [9,10] (fun u v wx=>u=.int .u64 (o.th.r a)/\v=.int .u64 (o.th.r b)/\Hid (bS w0 g0 K o wx g)/\Hid (iQ wx (g.tl o.name) xb o.th 1 a b c bf))
 case first =>
  go_quiet (fail)
  go_wp2_with fail
  go_meet;exact⟨rfl,rfl,HE.out.drewN _,HA.out.below iB.out (bI _ _)⟩
 case rest =>
  rename World=>w2
  clear ra rb pc x0 x1 x2 HA HE;obtain⟨rfl,rfl,HE,HA⟩:=hcut;have x0:w2.cell? ⟨xb,0,none⟩=some (.int .i64 1):=(HA.out.ins.cell 0).trans rfl;go_wp2_with fail
  go_ret2
  exact⟨rfl,HE.out⟩
theorem Np{w0 w:World}{g0 g:Gh}{K:Km}{o:Ob}(h:bS w0 g0 K o w g)(ho:K.obj o.name=some o)(hk:o.kind=3)(a b c:Nat)(bf:Int)(mv:Value)(ha:a<16)(hb:b<16) :
  Calls Tryz.prog 130 #[.pointer (some ⟨g.tl o.name,0,none⟩),.agg #[.int .i64 43,.int .i64 a,.int .i64 b,.int .i64 c,.int .i32 bf],mv] w fun e w' =>
   e=.returned (.tuple #[.int .u64 (wu (o.th.pc+8)),.int .i64 1])/\bS w0 g0 K o w' g:=by
 obtain⟨hA,hE,hlt,hpc,hrg⟩:=h.jF ho hk 43 a b c bf;have HO:=ah ho;obtain⟨xb,hxb⟩:∃xb,w.heap.size=xb:=⟨_,rfl⟩;have iB:Hid (g.tl o.name<(w.alloc (.cells #[.int .i64 43,.int .i64 a,.int .i64 b,.int .i64 c,.int .i32 bf] 26)).heap.size):=ah (by rw[au];omega);rw[hxb]at hA;have ra:=hA.reg a ha;have rb:=hA.reg b hb;have pc:=hA.pc;have x0:(w.alloc (.cells #[.int .i64 43,.int .i64 a,.int .i64 b,.int .i64 c,.int .i32 bf] 26)).cell? ⟨xb,0,none⟩=some (.int .i64 43):=(hA.ins.cell 0).trans rfl;have x1:(w.alloc (.cells #[.int .i64 43,.int .i64 a,.int .i64 b,.int .i64 c,.int .i32 bf] 26)).cell? ⟨xb,1,none⟩=some (.int .i64 a):=(hA.ins.cell 1).trans rfl;have x2:(w.alloc (.cells #[.int .i64 43,.int .i64 a,.int .i64 b,.int .i64 c,.int .i32 bf] 26)).cell? ⟨xb,2,none⟩=some (.int .i64 b):=(hA.ins.cell 2).trans rfl;have hai:(a:Int)<16:=by omega
 have hbi:(b:Int)<16:=by omega
 have HA:=ah hA;have HE:=ah hE;clear h ho hA hE hpc hrg;go_enter Tryz.func130,Tryz.ntmps130
 go_upto_region 2 with fail
 go_cut [9,10] (fun u v wx=>u=.int .u64 (o.th.r a)/\v=.int .u64 (o.th.r b)/\Hid (bS w0 g0 K o wx g)/\Hid (iQ wx (g.tl o.name) xb o.th 43 a b c bf))
 case first =>
  go_quiet (fail)
  go_wp2_with fail
  go_meet;exact⟨rfl,rfl,HE.out.drewN _,HA.out.below iB.out (bI _ _)⟩
 case rest =>
  rename World=>w2
  clear ra rb pc x0 x1 x2 HA HE;obtain⟨rfl,rfl,HE,HA⟩:=hcut;have x0:w2.cell? ⟨xb,0,none⟩=some (.int .i64 43):=(HA.out.ins.cell 0).trans rfl;go_wp2_with fail
  go_ret2
  exact⟨rfl,HE.out⟩
theorem UC{w0 w:World}{g0 g:Gh}{K:Km}{o:Ob}(h:bS w0 g0 K o w g)(ho:K.obj o.name=some o)(hk:o.kind=3)(a b c:Nat)(bf:Int)(mv:Value)(ha:a<16)(hb:b<16) :
  Calls Tryz.prog 130 #[.pointer (some ⟨g.tl o.name,0,none⟩),.agg #[.int .i64 30,.int .i64 a,.int .i64 b,.int .i64 c,.int .i32 bf],mv] w fun e w' =>
   e=.returned (.tuple #[.int .u64 (o.th.r a),.int .i64 0])/\bS w0 g0 K o w' g:=by
 obtain⟨hA,hE,hlt,hpc,hrg⟩:=h.jF ho hk 30 a b c bf;have HO:=ah ho;obtain⟨xb,hxb⟩:∃xb,w.heap.size=xb:=⟨_,rfl⟩;have iB:Hid (g.tl o.name<(w.alloc (.cells #[.int .i64 30,.int .i64 a,.int .i64 b,.int .i64 c,.int .i32 bf] 26)).heap.size):=ah (by rw[au];omega);rw[hxb]at hA;have ra:=hA.reg a ha;have rb:=hA.reg b hb;have pc:=hA.pc;have x0:(w.alloc (.cells #[.int .i64 30,.int .i64 a,.int .i64 b,.int .i64 c,.int .i32 bf] 26)).cell? ⟨xb,0,none⟩=some (.int .i64 30):=(hA.ins.cell 0).trans rfl;have x1:(w.alloc (.cells #[.int .i64 30,.int .i64 a,.int .i64 b,.int .i64 c,.int .i32 bf] 26)).cell? ⟨xb,1,none⟩=some (.int .i64 a):=(hA.ins.cell 1).trans rfl;have x2:(w.alloc (.cells #[.int .i64 30,.int .i64 a,.int .i64 b,.int .i64 c,.int .i32 bf] 26)).cell? ⟨xb,2,none⟩=some (.int .i64 b):=(hA.ins.cell 2).trans rfl;have hai:(a:Int)<16:=by omega
 have hbi:(b:Int)<16:=by omega
 have HA:=ah hA;have HE:=ah hE;clear h ho hA hE hpc hrg;go_enter Tryz.func130,Tryz.ntmps130
 go_upto_region 2 with fail
 go_cut [9,10] (fun u v wx=>u=.int .u64 (o.th.r a)/\v=.int .u64 (o.th.r b)/\Hid (bS w0 g0 K o wx g)/\Hid (iQ wx (g.tl o.name) xb o.th 30 a b c bf))
 case first =>
  go_quiet (fail)
  go_wp2_with fail
  go_meet;exact⟨rfl,rfl,HE.out.drewN _,HA.out.below iB.out (bI _ _)⟩
 case rest =>
  rename World=>w2
  clear ra rb pc x0 x1 x2 HA HE;obtain⟨rfl,rfl,HE,HA⟩:=hcut;have x0:w2.cell? ⟨xb,0,none⟩=some (.int .i64 30):=(HA.out.ins.cell 0).trans rfl;go_wp2_with fail
  go_ret2
  exact⟨rfl,HE.out⟩
theorem Ns{w0 w:World}{g0 g:Gh}{K:Km}{o:Ob}(h:bS w0 g0 K o w g)(ho:K.obj o.name=some o)(hk:o.kind=3)(a b c:Nat)(bf:Int)(mv:Value)(ha:a<16)(hb:b<16)(hm0:-2147483648<=bf)(hm1:bf<=2147483647) :
  Calls Tryz.prog 130 #[.pointer (some ⟨g.tl o.name,0,none⟩),.agg #[.int .i64 18,.int .i64 a,.int .i64 b,.int .i64 c,.int .i32 bf],mv] w fun e w' =>
   e=.returned (.tuple #[.int .u64 (wu (o.th.pc+8)),.int .i64 0])/\bS w0 g0 (K.set (o.eF { o.th with r:=upd o.th.r a (wu (o.th.r b+bf)) })) (o.eF { o.th with r:=upd o.th.r a (wu (o.th.r b+bf)) }) w' g:=by
 obtain⟨hA,hE,hlt,hpc,hrg⟩:=h.jF ho hk 18 a b c bf;have HO:=ah ho;obtain⟨xb,hxb⟩:∃xb,w.heap.size=xb:=⟨_,rfl⟩;have iB:Hid (g.tl o.name<(w.alloc (.cells #[.int .i64 18,.int .i64 a,.int .i64 b,.int .i64 c,.int .i32 bf] 26)).heap.size):=ah (by rw[au];omega);rw[hxb]at hA;have ra:=hA.reg a ha;have rb:=hA.reg b hb;have pc:=hA.pc;have x0:(w.alloc (.cells #[.int .i64 18,.int .i64 a,.int .i64 b,.int .i64 c,.int .i32 bf] 26)).cell? ⟨xb,0,none⟩=some (.int .i64 18):=(hA.ins.cell 0).trans rfl;have x1:(w.alloc (.cells #[.int .i64 18,.int .i64 a,.int .i64 b,.int .i64 c,.int .i32 bf] 26)).cell? ⟨xb,1,none⟩=some (.int .i64 a):=(hA.ins.cell 1).trans rfl;have x2:(w.alloc (.cells #[.int .i64 18,.int .i64 a,.int .i64 b,.int .i64 c,.int .i32 bf] 26)).cell? ⟨xb,2,none⟩=some (.int .i64 b):=(hA.ins.cell 2).trans rfl;have hai:(a:Int)<16:=by omega
 have hbi:(b:Int)<16:=by omega
 have HA:=ah hA;have HE:=ah hE;clear h ho hA hE hpc hrg;go_enter Tryz.func130,Tryz.ntmps130
 go_upto_region 2 with fail
 go_cut [9,10] (fun u v wx=>u=.int .u64 (o.th.r a)/\v=.int .u64 (o.th.r b)/\Hid (bS w0 g0 K o wx g)/\Hid (iQ wx (g.tl o.name) xb o.th 18 a b c bf))
 case first =>
  go_quiet (fail)
  go_wp2_with fail
  go_meet;exact⟨rfl,rfl,HE.out.drewN _,HA.out.below iB.out (bI _ _)⟩
 case rest =>
  rename World=>w2
  clear ra rb pc x0 x1 x2 HA HE;obtain⟨rfl,rfl,HE,HA⟩:=hcut;have x0:w2.cell? ⟨xb,0,none⟩=some (.int .i64 18):=(HA.out.ins.cell 0).trans rfl;have x1:w2.cell? ⟨xb,1,none⟩=some (.int .i64 a):=(HA.out.ins.cell 1).trans rfl;have x4:w2.cell? ⟨xb,4,none⟩=some (.int .i32 bf):=(HA.out.ins.cell 4).trans rfl;have ra:=HA.out.reg a ha;have hfr:=HA.out.free;have HF:=ah ((HE.out.reg HO.out hk ha (jL (o.th.r b+bf))).below ((aC _ _).drew));have hv:IntKind.u64.wrap (o.th.r b+IntKind.u64.wrap bf)=wu (o.th.r b+bf):=by show(o.th.r b+bf%18446744073709551616)%18446744073709551616=(o.th.r b+bf)%18446744073709551616;omega
  go_wp2_with fail
  go_region
  all_goals
   go_wp2_with fail
   go_ret2
   refine⟨rfl,?_⟩;exact HF.out
theorem QZ{w0 w:World}{g0 g:Gh}{K:Km}{o:Ob}(h:bS w0 g0 K o w g)(ho:K.obj o.name=some o)(hk:o.kind=3)(a b c:Nat)(bf:Int)(mv:Value)(ha:a<16)(hb:b<16)(hm0:-2147483648<=bf)(hm1:bf<=2147483647) :
  Calls Tryz.prog 130 #[.pointer (some ⟨g.tl o.name,0,none⟩),.agg #[.int .i64 29,.int .i64 a,.int .i64 b,.int .i64 c,.int .i32 bf],mv] w fun e w' =>
   e=.returned (.tuple #[.int .u64 (wu (o.th.pc+8*bf)),.int .i64 0])/\bS w0 g0 (K.set (o.eF { o.th with r:=upd o.th.r a (wu (o.th.pc+8)) })) (o.eF { o.th with r:=upd o.th.r a (wu (o.th.pc+8)) }) w' g:=by
 obtain⟨hA,hE,hlt,hpc,hrg⟩:=h.jF ho hk 29 a b c bf;have HO:=ah ho;obtain⟨xb,hxb⟩:∃xb,w.heap.size=xb:=⟨_,rfl⟩;have iB:Hid (g.tl o.name<(w.alloc (.cells #[.int .i64 29,.int .i64 a,.int .i64 b,.int .i64 c,.int .i32 bf] 26)).heap.size):=ah (by rw[au];omega);rw[hxb]at hA;have ra:=hA.reg a ha;have rb:=hA.reg b hb;have pc:=hA.pc;have x0:(w.alloc (.cells #[.int .i64 29,.int .i64 a,.int .i64 b,.int .i64 c,.int .i32 bf] 26)).cell? ⟨xb,0,none⟩=some (.int .i64 29):=(hA.ins.cell 0).trans rfl;have x1:(w.alloc (.cells #[.int .i64 29,.int .i64 a,.int .i64 b,.int .i64 c,.int .i32 bf] 26)).cell? ⟨xb,1,none⟩=some (.int .i64 a):=(hA.ins.cell 1).trans rfl;have x2:(w.alloc (.cells #[.int .i64 29,.int .i64 a,.int .i64 b,.int .i64 c,.int .i32 bf] 26)).cell? ⟨xb,2,none⟩=some (.int .i64 b):=(hA.ins.cell 2).trans rfl;have hai:(a:Int)<16:=by omega
 have hbi:(b:Int)<16:=by omega
 have HA:=ah hA;have HE:=ah hE;clear h ho hA hE hpc hrg;go_enter Tryz.func130,Tryz.ntmps130
 go_upto_region 2 with fail
 go_cut [9,10] (fun u v wx=>u=.int .u64 (o.th.r a)/\v=.int .u64 (o.th.r b)/\Hid (bS w0 g0 K o wx g)/\Hid (iQ wx (g.tl o.name) xb o.th 29 a b c bf))
 case first =>
  go_quiet (fail)
  go_wp2_with fail
  go_meet;exact⟨rfl,rfl,HE.out.drewN _,HA.out.below iB.out (bI _ _)⟩
 case rest =>
  rename World=>w2
  clear ra rb pc x0 x1 x2 HA HE;obtain⟨rfl,rfl,HE,HA⟩:=hcut;have x0:w2.cell? ⟨xb,0,none⟩=some (.int .i64 29):=(HA.out.ins.cell 0).trans rfl;have x1:w2.cell? ⟨xb,1,none⟩=some (.int .i64 a):=(HA.out.ins.cell 1).trans rfl;have x4:w2.cell? ⟨xb,4,none⟩=some (.int .i32 bf):=(HA.out.ins.cell 4).trans rfl;have ra:=HA.out.reg a ha;have pc:=HA.out.pc;have hfr:=HA.out.free;have HF:=ah ((HE.out.reg HO.out hk ha (jL (o.th.pc+8))).below ((aC _ _).drew));go_wp2_with fail
  refine(RX _ _ _ _ pc hm0 hm1).mono ?_;rintro e w' ⟨rfl,rfl⟩;go_wp2_with fail
  go_region
  all_goals
   go_wp2_with fail
   go_ret2
   refine⟨rfl,?_⟩;exact HF.out
theorem CJ(x:Int)(w:World) :
  Calls Tryz.prog 152 #[.int .i64 7,.int .u64 x,.int .u64 0] w fun e w'=>e=.returned (.tuple #[.int .u64 0,.bool false])/\w=w':=by
 go_enter Tryz.func152,Tryz.ntmps152
 go_wp2_with go_in
 all_goals
  go_ret2
  exact⟨rfl,rfl⟩
theorem Nr{w0 w:World}{g0 g:Gh}{K:Km}{o:Ob}(h:bS w0 g0 K o w g)(ho:K.obj o.name=some o)(hk:o.kind=3)(a b c:Nat)(bf:Int)(mv:Value)(ha:a<16)(hb:b<16)(hc:c<16)(hc0:o.th.r c=0) :
  Calls Tryz.prog 130 #[.pointer (some ⟨g.tl o.name,0,none⟩),.agg #[.int .i64 7,.int .i64 a,.int .i64 b,.int .i64 c,.int .i32 bf],mv] w fun e w' =>
   e=.returned (.tuple #[.int .u64 (wu (o.th.pc+8)),.int .i64 5])/\bS w0 g0 K o w' g:=by
 obtain⟨hA,hE,hlt,hpc,hrg⟩:=h.jF ho hk 7 a b c bf;have HO:=ah ho;obtain⟨xb,hxb⟩:∃xb,w.heap.size=xb:=⟨_,rfl⟩;have iB:Hid (g.tl o.name<(w.alloc (.cells #[.int .i64 7,.int .i64 a,.int .i64 b,.int .i64 c,.int .i32 bf] 26)).heap.size):=ah (by rw[au];omega);rw[hxb]at hA;have ra:=hA.reg a ha;have rb:=hA.reg b hb;have pc:=hA.pc;have x0:(w.alloc (.cells #[.int .i64 7,.int .i64 a,.int .i64 b,.int .i64 c,.int .i32 bf] 26)).cell? ⟨xb,0,none⟩=some (.int .i64 7):=(hA.ins.cell 0).trans rfl;have x1:(w.alloc (.cells #[.int .i64 7,.int .i64 a,.int .i64 b,.int .i64 c,.int .i32 bf] 26)).cell? ⟨xb,1,none⟩=some (.int .i64 a):=(hA.ins.cell 1).trans rfl;have x2:(w.alloc (.cells #[.int .i64 7,.int .i64 a,.int .i64 b,.int .i64 c,.int .i32 bf] 26)).cell? ⟨xb,2,none⟩=some (.int .i64 b):=(hA.ins.cell 2).trans rfl;have hai:(a:Int)<16:=by omega
 have hbi:(b:Int)<16:=by omega
 have HA:=ah hA;have HE:=ah hE;clear h ho hA hE hpc hrg;go_enter Tryz.func130,Tryz.ntmps130
 go_upto_region 2 with fail
 go_cut [9,10] (fun u v wx=>u=.int .u64 (o.th.r a)/\v=.int .u64 (o.th.r b)/\Hid (bS w0 g0 K o wx g)/\Hid (iQ wx (g.tl o.name) xb o.th 7 a b c bf))
 case first =>
  go_quiet (fail)
  go_wp2_with fail
  go_meet;exact⟨rfl,rfl,HE.out.drewN _,HA.out.below iB.out (bI _ _)⟩
 case rest =>
  rename World=>w2
  clear ra rb pc x0 x1 x2 HA HE;obtain⟨rfl,rfl,HE,HA⟩:=hcut;have x0:w2.cell? ⟨xb,0,none⟩=some (.int .i64 7):=(HA.out.ins.cell 0).trans rfl;have x3:w2.cell? ⟨xb,3,none⟩=some (.int .i64 c):=(HA.out.ins.cell 3).trans rfl;have rc:=HA.out.reg c hc;rw[hc0]at rc;have hci:(c:Int)<16:=by omega
  have HRk:Hid (∀k,Calls Tryz.prog 152 #[.int .i64 7,.int .u64 (o.th.r b),.int .u64 0] (w2.drewN k) fun e w'=>e=.returned (.tuple #[.int .u64 0,.bool false])/\w'=w2.drewN k):=ah (fun k=>(CJ (o.th.r b) _).mono fun e w' (q:e=_/\_=w')=>⟨q.1,q.2.symm⟩);clear hc0;go_wp2_with fail
  go_quiet ((go_at_call 152;exact Calls.quiet_of_same (HRk.out _)))
  go_wp2_with fail
  go_ret2
  exact⟨rfl,HE.out.drewN _⟩
end Go.Proofs.YtiadbhiadhgjkaaGreatDoor
