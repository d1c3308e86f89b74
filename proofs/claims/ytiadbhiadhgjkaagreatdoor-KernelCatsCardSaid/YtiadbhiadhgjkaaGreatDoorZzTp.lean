import Derived.Test.YtiadbhiadhgjkaaGreatDoorZzNc
set_option maxRecDepth 100000
set_option maxHeartbeats 4000000
namespace Go.Proofs.YtiadbhiadhgjkaaGreatDoor
open Go.RowKit
attribute [local irreducible] World.setCell World.alloc World.drew World.setRow Calls Code.wp
theorem Jp(l:dn)(c level:Nat)(v:Value)(w:World)(h:bU w v l)(hn:l.ps.length<=900)(hps:eP l.d 0 l.ps=true)(hlv:level=l.d)(hlo:lo c l.ps=l.ps.length) :
  Calls Tryz.prog 23 #[v,.int .u32 (c:Nat),.int .i64 (level:Nat)] w fun e w'=>∃u,e=.returned u/\bU w' u l/\Below w.heap.size w w':=by
 obtain⟨la,lc,rfl,hp⟩:=fT h;obtain⟨h0,hh0⟩:∃h0,w.heap.size=h0:=⟨_,rfl⟩;obtain⟨w1,hw1⟩:∃w1,w1=(w.alloc (.cells #[.int .i64 (l.d:Nat),.slice la l.ps.length lc] 43)).alloc (.cells #[.int .i64 0,.slice none 0 0] 43):=⟨_,rfl⟩;have hB0:aR w1 h0 #[.int .i64 (l.d:Nat),.slice la l.ps.length lc] 43:=by rw[hw1,<-hh0];exact(aR.new _ _ _).alloc _
 have hB1:aR w1 (h0+1) #[.int .i64 0,.slice none 0 0] 43:=by
  rw[hw1,<-hh0];have:=aR.new (w.alloc (.cells #[.int .i64 (l.d:Nat),.slice la l.ps.length lc] 43)) #[.int .i64 0,.slice none 0 0] 43;rw[au]at this;exact this
 have hb1:Below h0 w w1:=by rw[hw1,<-hh0];exact((aC _ w).alloc (aj _) _).alloc (by simp) _
 have hs1:w1.heap.size=h0+1+1:=by rw[hw1,au,au,hh0]
 have hp1:bg w1 (.slice la l.ps.length lc) l.ps:=aJ.below hp hb1 (by omega);have HB0:=ah hB0;have HB1:=ah hB1;have Hb1:=ah hb1;have Cb:=ah hp1;have oU:=ah hh0;have Xo:=ah hps;have SI:=ah hlo;have Jc:=ah hs1;have Hlv:=ah hlv;clear h hp hB0 hB1 hb1 hp1 hps hlo hs1 hlv;go_enter Tryz.func23,Tryz.ntmps23
 go_upto_region 1 with fail
 try rw[<-hw1]
 clear hw1;go_cut [7] (fun vo wx=>∃tb a k,vo=.pointer (some ⟨tb,0,none⟩)/\Hid (WSt w h0 l (.slice la l.ps.length lc) tb a k wx))
 case first =>
  have x0:w1.drew.cell? ⟨h0,0,none⟩=some (.int .i64 (l.d:Nat)):=(HB0.out.drew.cell 0).trans rfl;have x1:w1.drew.cell? ⟨h0,1,none⟩=some (.slice la l.ps.length lc):=(HB0.out.drew.cell 1).trans rfl;have y0:(w1.alloc (.cells #[.int .i64 0,.slice none 0 0] 43)).drew.cell? ⟨h0,0,none⟩=some (.int .i64 (l.d:Nat)):=(((HB0.out.alloc _).drew).cell 0).trans rfl;have y1:(w1.alloc (.cells #[.int .i64 0,.slice none 0 0] 43)).drew.cell? ⟨h0,1,none⟩=some (.slice la l.ps.length lc):=(((HB0.out.alloc _).drew).cell 1).trans rfl
  have Hcl:Hid (∀W,Below w1.heap.size w1 W->Calls Tryz.prog 48 #[.slice la l.ps.length lc] W fun e w'=>∃v,e=.returned v/\((∃a k,v=.slice a l.ps.length k/\Hid (w'.ownsRow (h0+1+1) 111 2 (.slice a l.ps.length k) l.ps.length (l.ps.flatMap fG)))/\Below W.heap.size W w')):=ah (fun W hW=>by
   refine(Ad l.ps _ W (by omega) (aJ.below Cb.out hW (aj _))).mono ?_;rintro e w' ⟨a,k,h1,h2,h3⟩;exact⟨_,h1,⟨a,k,rfl,ah (Da h2 (by have:=hW.size;have:=Jc.out;omega))⟩,h3⟩)
  go_region_law (first
   | (refine cB (by rfl) (bP (vs:=#[.slice la l.ps.length lc]) (by simp[Act.eval]) (bE Tryz.func48 (by kernel_rfl) rfl)) (Hcl.out _ (by first|exact(aC _ w1).drew|exact jW _ _)) ?_;rintro v w3 ⟨⟨a3,k3,rfl,ho3⟩,hb3⟩;(have h30:aR w3 h0 #[.int .i64 (l.d:Nat),.slice la l.ps.length lc] 43:=(by first|exact(HB0.out.drew).below hb3 (HB0.out.drew).lt|exact((HB0.out.alloc _).drew).below hb3 ((HB0.out.alloc _).drew).lt));(have z0:w3.cell? ⟨h0,0,none⟩=some (.int .i64 (l.d:Nat)):=(h30.cell 0).trans rfl);(have z2:(w3.alloc (.cells #[.int .i64 0,.slice none 0 0] 43)).cell? ⟨h0,0,none⟩=some (.int .i64 (l.d:Nat)):=((h30.alloc _).cell 0).trans rfl);(try have uG:aR w3 w1.heap.size #[.int .i64 0,.slice none 0 0] 43:=((aR.new w1 _ _).drew).below hb3 ((aR.new w1 _ _).drew).lt);(try have hT4:w3.cell? ⟨w1.heap.size,0,none⟩=some (.int .i64 0):=(uG.cell 0).trans rfl);(try have hT5:w3.cell? ⟨w1.heap.size,1,none⟩=some (.slice none 0 0):=(uG.cell 1).trans rfl);(try have WQ:=uG.free);(try have KJ:w1.heap.size<w3.heap.size:=uG.lt)))
  all_goals
   have h31:aR w3 (h0+1) #[.int .i64 0,.slice none 0 0] 43:=(by first|exact(HB1.out.drew).below hb3 (HB1.out.drew).lt|exact((HB1.out.alloc _).drew).below hb3 ((HB1.out.alloc _).drew).lt);have hbb:Below h0 w w3:=Hb1.out.trans (by first|exact(((aC _ w1).drew).trans (hb3.mono (by rw[cK];exact aj _))).mono (by have:=Jc.out;omega)|exact((jW w1 _).trans (hb3.mono (by rw[cK,au];omega))).mono (by have:=Jc.out;omega));go_wp2_with fail
   go_meet;first
   | exact⟨_,_,_,rfl,ah (Tf hbb h30 h31 ho3.out)⟩
   | exact⟨_,_,_,rfl,ah (Te hbb h30 h31 ho3.out uG (by have:=Jc.out;omega))⟩
 case rest =>
  rename World=>w3
  obtain⟨tb,a,k,rfl,HW⟩:=hcut;have t0:w3.cell? ⟨tb,0,none⟩=some (.int .i64 (l.d:Nat)):=(HW.out.out.cell 0).trans rfl;have t1:w3.cell? ⟨tb,1,none⟩=some (.slice a l.ps.length k):=(HW.out.out.cell 1).trans rfl
  have Hfi:Hid (Calls Tryz.prog 19 #[.agg #[.int .i64 (l.d:Nat),.slice a l.ps.length k],.int .u32 (c:Nat)] w3 fun e w'=>e=.returned (.tuple #[.int .i64 (l.ps.length:Nat),.bool false])/\Below w3.heap.size w3 w'):=ah (by
   have:=qM l l.d c _ w3 Xo.out (by omega) ⟨_,rfl,aJ.own HW.out.row⟩;have hh:tQ c l.ps=false:=by unfold tQ;rw[SI.out,List.getElem?_eq_none (aj _)]
   rw[hh,SI.out]at this;exact this)
  go_wp2_with fail
  refine Hfi.out.mono ?_;rintro e w4 ⟨rfl,hb4⟩;have b0:=HW.out.box.below hb4 HW.out.box.lt;have b1:=HW.out.res.below hb4 HW.out.res.lt;have bt:=HW.out.out.below hb4 HW.out.out.lt;have ho4:w4.ownsRow (h0+1+1) 111 2 (.slice a l.ps.length k) l.ps.length (l.ps.flatMap fG):=dA HW.out.row (Kept.of_below hb4) (fun _ _ h=>h);have yO:Hid (Below h0 w w4):=ah (HW.out.eO.trans (hb4.mono (by have:=HW.out.box.lt;omega)));have u0:w4.cell? ⟨h0,0,none⟩=some (.int .i64 (l.d:Nat)):=(b0.cell 0).trans rfl;have u1:w4.cell? ⟨tb,1,none⟩=some (.slice a l.ps.length k):=(bt.cell 1).trans rfl;have LA:=ah b1;have Hbt:=ah bt;have Ho4:=ah ho4;have hlv1:((level:Int)==(l.d:Int))=true:=by rw[Hlv.out];simp
  have Zm:=ah HW.out.ne;have u2:w4.cell? ⟨tb,0,none⟩=some (.int .i64 (l.d:Nat)):=(bt.cell 0).trans rfl;have q2:w4.cell? ⟨h0+1,0,none⟩=some (.int .i64 0):=(b1.cell 0).trans rfl;have q3:w4.cell? ⟨h0+1,1,none⟩=some (.slice none 0 0):=(b1.cell 1).trans rfl;have q4:=b1.free;have hk6:=ah (((Kept.refl (·=h0+1) w4).bC (h0+1) 0 (.int .i64 (l.d:Nat)) rfl).bC (h0+1) 1 (.slice a l.ps.length k) rfl);clear t0 t1 b0 b1 bt ho4 hb4;go_wp2_with fail
  have hX:=((LA.out.set 0 (.int .i64 (l.d:Nat))).set 1 (.slice a l.ps.length k)).cells (d:=#[.int .i64 (l.d:Nat),.slice a l.ps.length k]) (by simp only[ay,aG,aH]);refine bodyPost_ret (results_cell_row rfl _ _ (h0+1) _ _ (0,0) _ rfl hX Tryz.underlying43 rfl (by kernel_rfl)) rfl ⟨_,rfl,⟨_,rfl,?_⟩,?_⟩
  ·refine aJ.own (dA Ho4.out hk6.out (fun b hb e=>?_))
   obtain⟨cs,hB⟩:=sV Ho4.out hb;rw[e]at hB;have:=hB.symm.trans LA.out;simp at this
  ·rw[oU.out]
   exact(yO.out.setCell (p:=⟨h0+1,0,none⟩) (Nat.le_succ h0) _).setCell (p:=⟨h0+1,1,none⟩) (Nat.le_succ h0) _
end Go.Proofs.YtiadbhiadhgjkaaGreatDoor
