import Derived.Test.YtiadbhiadhgjkaaGreatDoorZzMap
import Derived.Test.YtiadbhiadhgjkaaGreatDoorZzKe
set_option maxRecDepth 100000
set_option maxHeartbeats 2000000
namespace Go.Proofs.YtiadbhiadhgjkaaGreatDoor
open Go.RowKit
attribute [local irreducible] World.setCell World.alloc World.drew World.setRow Calls Code.wp
def wP(o:dR)(ls lc vd vm:Value):Value:=.agg #[.int .i64 o.kind,.int .i64 o.parent,.int .i64 (o.lab.d:Nat),ls,.int .i64 (o.gG.d:Nat),lc,.int .i64 o.pages,.int .i64 o.names,vd,vm,.int .i64 o.space,.int .i64 o.pc]
def PK(w:World)(v:Value)(l:List Int):Prop:=aJ w 37 v l.length (l.map (Value.int .u64))
theorem Gr(kv xv:Value)(o:dR)(ls lc vd vm mv:Value)(cores:Int)(w:World)(hv:pI w o ls lc vd vm)(h3:o.kind≠3)(h4:o.kind≠4)(h5:o.kind≠5)(hs:o.space=0) :
  Calls Tryz.prog 65 #[kv,xv,wP o ls lc vd vm,mv,.int .i64 cores] w fun e w'=>e=.returned (.tuple #[])/\Below w.heap.size w w':=by
 have b3:(o.kind==3)=false:=by simpa using h3
 have b4:(o.kind==4)=false:=by simpa using h4
 have b5:(o.kind==5)=false:=by simpa using h5
 obtain⟨la,lc1,rfl,-,-⟩:=aJ.form hv.lab;obtain⟨ca,cc1,rfl,-,-⟩:=aJ.form hv.gG;obtain⟨da,dc1,rfl,-,-⟩:=aJ.form hv.data;obtain⟨ma,mc1,rfl,-,-⟩:=aJ.form hv.maps;clear hv;unfold wP;rw[hs];go_enter Tryz.func65,Tryz.ntmps65
 go_wp2
 go_end0
 exact⟨rfl,(aC _ w).alloc (aj _) _⟩
def uI(x:Ob)(o:dR)(made:List Int)(cores:Int):Th:={ x.th with clear:=o.gG,space:=if 0<o.space then made.getD o.space.toNat 0 else 0,pc:=o.pc,state:=1,on:=x.name%cores }
theorem DU(w:World)(g:Gh)(K:Km)(h:cZ w g K)(x:Ob)(hx:K.obj x.name=some x)(hk:x.kind=3)(o:dR)(ls lc vd vm mv:Value)(made:List Int)(cores:Int)(hv:pI w o ls lc vd vm)(ho:o.kind=3)(Ov:PK w mv made)
  (hs:0<o.space/\o.space<made.length) (hpc:0<=o.pc/\o.pc<262144) (hc:1<=cores/\cores<=4) (hn:x.name<=4194304) (aco:fV o.gG) :
  Calls Tryz.prog 65 #[.pointer (some ⟨g.kb,0,none⟩),.pointer (some ⟨g.bl x.name,0,none⟩),wP o ls lc vd vm,mv,.int .i64 cores] w fun e w' =>
   e=.returned (.tuple #[])/\cZ w' g (K.set (x.eF (uI x o made cores)))/\Ext g g w w':=by
 obtain⟨xt,hT⟩:=h.gQ hx hk;have t19:=h.pU hx hk;obtain⟨s,T,hO⟩:=h.at hx;have c2:=hO.name;have hpos:=(h.objs _ _ hx).2.pos;have hlt:=hO.blk.lt;have hlt2:=hT.blk.lt
 have hbt:g.bl x.name≠g.tl x.name:=fun e=>by
  have e1:=(h.objs _ _ hx).2.tag;rw[e,hT.tag]at e1;cases e1
 have c17:w.cell? ⟨g.tl x.name,17,none⟩=some (.int .i64 (x.th.clear.d:Nat)):=(hT.blk.cell 17).trans rfl;have c18:w.cell? ⟨g.tl x.name,18,none⟩=some xt.cp:=(hT.blk.cell 18).trans rfl;have c19:w.cell? ⟨g.tl x.name,19,none⟩=some (.int .u64 x.th.space):=(hT.blk.cell 19).trans rfl;have c16:w.cell? ⟨g.tl x.name,16,none⟩=some (.int .u64 x.th.pc):=(hT.blk.cell 16).trans rfl;have c20:w.cell? ⟨g.tl x.name,20,none⟩=some (.int .i64 x.th.state):=(hT.blk.cell 20).trans rfl;have c21:w.cell? ⟨g.tl x.name,21,none⟩=some (.int .i64 x.th.on):=(hT.blk.cell 21).trans rfl;have hf:=hT.blk.free;obtain⟨la,lc1,rfl,-,-⟩:=aJ.form hv.lab;obtain⟨ca,cc1,rfl,-,-⟩:=aJ.form hv.gG;obtain⟨da,dc1,rfl,-,-⟩:=aJ.form hv.data;obtain⟨ma,mc1,rfl,-,-⟩:=aJ.form hv.maps;obtain⟨mr,mrc,rfl,hm1,hm2⟩:=aJ.form Ov;obtain⟨sp,hsp⟩:∃sp:Nat,o.space=(sp:Int):=⟨o.space.toNat,by omega⟩;obtain⟨mg,rfl,DC,hmc⟩:=aJ.cells Ov (by omega);have Od:sp<made.length:=by omega
 have hms:w.cell? ⟨mg,sp,none⟩=some (.int .u64 (made.getD sp 0)):=hmc sp _ (by rw[dF];simp[List.getD,Od]);have YA:=hv.gG;have H:=ah h;have HX:=ah hx;have HT:=ah hT;have HC:=ah YA;have hgd:made.getD o.space.toNat 0=made.getD sp 0:=by rw[hsp];rfl
 have Hgd:=ah hgd;generalize hgv:made.getD sp 0=gv at *;clear hmc Ov hv h hx hT hO YA hgv hgd;have q1:(0:Int)<sp:=by omega
 have q2:(sp:Int)<made.length:=by omega
 have q3:IntKind.i64.wrap x.name=x.name:=aV _ (by omega);have q4:IntKind.u64.wrap o.pc=o.pc:=IntWalk.u64_in _ (by omega);have q5:x.name.tmod cores=x.name%cores:=bQ (by omega);have q6:(cores==0)=false:=by simp;omega
 unfold wP;rw[ho,hsp];go_enter Tryz.func65,Tryz.ntmps65
 go_wp2_with fail
 go_region
 go_wp2_with fail
 go_region
 go_wp2_with fail
 go_end0
 have hfl:uI x o made cores={ x.th with clear:=o.gG,space:=gv,pc:=o.pc,state:=1,on:=x.name%cores }:=by
  unfold uI;rw[aD (by omega),Hgd.out]
 rw[hfl]
 refine And.intro rfl (H.out.AA HX.out hk HT.out (x':={ xt with cp:=.slice ca o.gG.ps.length cc1 }) (t:={ x.th with clear:=o.gG,space:=gv,pc:=o.pc,state:=1,on:=x.name%cores })
  ((((((((((Kept.refl (·=g.tl x.name) w).bC _ 17 (.int .i64 (o.gG.d:Nat)) rfl).bC _ 18 (.slice ca o.gG.ps.length cc1) rfl).bC _ 19 (.int .u64 gv) rfl).bC _ 16 (.int .u64 o.pc) rfl).bC _ 20 (.int .i64 1) rfl).bC _ 21 (.int .i64 (x.name%cores)) rfl).alloc _).drew).drew)
  ((((((((((HT.out.blk.set 17 (.int .i64 (o.gG.d:Nat))).set 18 (.slice ca o.gG.ps.length cc1)).set 19 (.int .u64 gv)).set 16 (.int .u64 o.pc)).set 20 (.int .i64 1)).set 21 (.int .i64 (x.name%cores))).alloc _).drew).drew).cells rfl)
  ⟨rfl,rfl,rfl,rfl,rfl⟩ ⟨rfl,rfl,rfl,rfl,rfl⟩ (bg.mild HC.out ((((((((((Kept.refl (·=g.tl x.name) w).bC _ 17 (.int .i64 (o.gG.d:Nat)) rfl).bC _ 18 (.slice ca o.gG.ps.length cc1) rfl).bC _ 19 (.int .u64 gv) rfl).bC _ 16 (.int .u64 o.pc) rfl).bC _ 20 (.int .i64 1) rfl).bC _ 21 (.int .i64 (x.name%cores)) rfl).alloc _).drew).drew) (dS.of HT.out.blk (by decide)))
  HT.out.rows.regs ⟨by show 0<=o.pc;omega,by show o.pc<=_;omega⟩ aco)
end Go.Proofs.YtiadbhiadhgjkaaGreatDoor
