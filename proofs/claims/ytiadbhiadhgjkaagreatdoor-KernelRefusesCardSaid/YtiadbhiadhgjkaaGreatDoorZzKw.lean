import Derived.Test.YtiadbhiadhgjkaaGreatDoorZzKn
import Derived.Deep.AppendLies
import Derived.Deep.LoopGhost
set_option maxRecDepth 100000
set_option maxHeartbeats 40000000
namespace Go.Proofs.YtiadbhiadhgjkaaGreatDoor
open Go.RowKit
attribute [local irreducible] World.setCell World.alloc World.drew World.setRow Calls Code.wp
attribute [local go_sem] Oper.semAt_some
def EK(w00:World)(lo:Nat)(bx:Nat×Array Value×TypeId)(g0:Gh)(os:List dR)(K1:Km)(mf:List Int)(k:Nat)(mv:Value)(w:World):Prop :=
 ∃g K made,fO w00 lo [bx] w g K mv made/\gF K made (os.drop k)=some (K1,mf)/\K.slots=[]/\g.kb=g0.kb/\made.length=k+1/\K.eU.length<=k
def Qr(w00:World)(lo:Nat)(bx:Nat×Array Value×TypeId)(g0:Gh)(os:List dR)(cores:Int)(K2:Km)(mf:List Int)(mv:Value)(k:Nat)(w:World):Prop :=
 ∃g K,fO w00 lo [bx] w g K mv mf/\iH K mf cores k (os.drop k)=some K2/\K.slots=[]/\g.kb=g0.kb
def Qq(w00:World)(lo:Nat)(bx:Nat×Array Value×TypeId)(g0:Gh)(ss:List (Int×Int))(K2:Km)(mf:List Int)(mv:Value)(k:Nat)(w:World):Prop :=
 ∃g,fO w00 lo [bx] w g { K2 with slots:=(ss.take k).map fun s=>(mf.getD s.1.toNat 0,s.2) } mv mf/\g.kb=g0.kb
def rV(K2:Km)(c:mU)(mf:List Int):Km:={ K2 with nc:=c.cores.toNat,cores:=fun _=>core0 (c.slots.getD 0 (0,0)).2,slots:=c.slots.map fun s=>(mf.getD s.1.toNat 0,s.2) }
structure Qp(w00:World)(lo:Nat)(bx:Nat×Array Value×TypeId)(g0:Gh)(K:Km)(left:Int)(k:Nat)(w:World)(g:Gh)(cv:Value):Prop where
 kin:GX w g K cv
 inv:BInv g K
 own:Own w g.A (0,6) 162 27 cv k (oO left k)
 le:lo<=w.heap.size
 eO:Below lo w00 w
 free:∀b,b<lo->g.A b=none
 kb:g.kb=g0.kb
 box:aR w bx.1 bx.2.1 bx.2.2/\g.A bx.1=none
theorem KD:(Tryz.prog.info? 162).map (fun i=>(i.zero,i.size,i.bytes))=some (some (.agg (yg 0).toArray),27,216):=by kernel_rfl
theorem Pn{w:World}{a:Option Addr}{c:Nat}{d:List UInt8}(h:dV w (.slice a d.length c) d):BytesIn w a d.length (nV d):=by
 by_cases h0:d.length=0
 ·exact .inl h0
 ·obtain⟨b,rfl,-,hc⟩:=aJ.cells h (by omega)
  refine .inr ⟨b,0,rfl,fun j hj=>?_⟩;rw[Nat.zero_add];refine hc j _ ?_;rw[dF];unfold nV;rw[aD hj];simp[List.getD,hj,fA]
theorem OW(d:List UInt8)(j:Nat):0<=nV d j/\nV d j<=255:=by
 unfold nV;split
 ·have:=(d.getD j 0).toNat_lt
  omega
 ·omega
theorem Pv(w00 w:World)(lo:Nat)(g:Gh)(K0 K1 K2:Km)(c:mU)(cv mv:Value)(mf:List Int)(hst:fO w00 lo [] w g K0 mv [1])(hlo:lo=w00.heap.size)(hc:rU w00 cv c)
  (h1:gF K0 [1] c.objs=some (K1,mf)) (h2:iH K1 mf c.cores 0 c.objs=some K2) (h3:c.slots.all (fun s=>decide (0<=s.1/\s.1<(mf.length:Int)))=true) (h64:c.objs.length<=64) (h8:1<=c.slots.length/\c.slots.length<=8) (hcr:1<=c.cores/\c.cores<=4) (WR:K0.slots=[]/\K0.eU=[]) (hsl:∀s∈c.slots,1<=s.2/\s.2<=16) :
  Calls Tryz.prog 39 #[.pointer (some ⟨g.kb,0,none⟩),cv,mv] w fun e w'=>e=.returned (.tuple #[.pointer (some ⟨g.kb,0,none⟩),.int .i64 0])/\Below lo w00 w'/\∃g',cZ w' g' (rV K2 c mf)/\Inv g' (rV K2 c mf)/\g'.kb=g.kb/\∀b,b<lo->g'.A b=none:=by
 obtain⟨sv,ov,rfl,hs,ho⟩:=hc;obtain⟨sa,sc,rfl,-,-⟩:=aJ.form hs;obtain⟨oa,oc,rfl,ho1,ho2⟩:=ho.form;obtain⟨ma,mc,rfl,-,-⟩:=aJ.form (aJ.own hst.row);have HSl:=ah hs;have pJ:=ah ho;have H2:=ah h2;have H3:=ah h3;have HS:=ah hsl;have Xt:=ah hlo;obtain⟨cb,hcb⟩:∃cb,cb=w.heap.size:=⟨_,rfl⟩
 have HB0:Hid (EK w00 lo (cb,#[.int .i64 c.cores,.int .i64 c.frames,.int .i64 c.names,.slice sa c.slots.length sc,.slice oa c.objs.length oc],81) g c.objs K1 mf 0 (.slice ma 1 mc) (w.alloc (.cells #[.int .i64 c.cores,.int .i64 c.frames,.int .i64 c.names,.slice sa c.slots.length sc,.slice oa c.objs.length oc] 81))):=by
  rw[hcb];exact⟨g,K0,[1],hst.BJ _ _,by rw[List.drop_zero];exact h1,WR.1,rfl,rfl,by rw[WR.2];exact aj _⟩
 clear hst hs ho h1 h2 h3 hsl WR hlo;go_enter Tryz.func39,Tryz.ntmps39
 go_wp2_with fail
 rw[<-hcb];clear hcb;go_loopw [2,20] (fun m i wx=>∃k:Nat,k<=c.objs.length/\i=.int .i64 k/\Hid (EK w00 lo (cb,#[.int .i64 c.cores,.int .i64 c.frames,.int .i64 c.names,.slice sa c.slots.length sc,.slice oa c.objs.length oc],81) g c.objs K1 mf k m wx)) (fun _ i _=>c.objs.length-(intOf i).toNat)
 case atStart=>exact⟨0,Nat.zero_le _,rfl,HB0⟩
 case round =>
  obtain⟨k,hkl,rfl,HI⟩:=hrel;by_cases hlt:k<c.objs.length
  ·obtain⟨g1,K,made,hS,hB,hsl,hkb,hml,hdv⟩:=HI.out
   have Hdv:=ah hdv;clear hdv;obtain⟨o,ho⟩:∃o,c.objs[k]? = some o:=⟨c.objs[k],by simp[hlt]⟩
   have hdr:c.objs.drop k=o::c.objs.drop (k+1):=by
    obtain⟨e1,e2⟩:=aW.1 ho;rw[<-e2];exact List.drop_eq_getElem_cons hlt
   rw[hdr]at hB;obtain⟨K',made',hone,hrest⟩:=BG hB;obtain⟨hok,hm,Kp,x,hh,hhk,hpl,rfl,rfl⟩:=BF hone;obtain⟨ra,rc,rfl,hr1,hr2⟩:=aJ.form (aJ.own hS.row);obtain⟨b,s,rfl,hbl,yT,hcell0⟩:=pJ.out.at ho;have hcell:=fun j hj=>(hS.eO.cell (p:=⟨b,k*12+j,none⟩) (by rw[Xt.out];exact hbl)).trans (hcell0 j hj)
   obtain⟨la,lc,hls,hl1,hl2⟩:=aJ.form yT.lab;obtain⟨ca,cc,hlc,hc1',hc2'⟩:=aJ.form yT.gG;obtain⟨da,dc,hvd,hd1,hd2⟩:=aJ.form yT.data;obtain⟨LH,LG,Oa,hm1,hm2⟩:=aJ.form yT.maps;have q0:wr.cell? ⟨b,k*12,none⟩=some (.int .i64 o.kind):=by have:=hcell 0 (by omega);rw[Nat.add_zero]at this;rw[this];rfl
   have q1:wr.cell? ⟨b,k*12+1,none⟩=some (.int .i64 o.parent):=by rw[hcell 1 (by omega)];rfl
   have q2:wr.cell? ⟨b,k*12+2,none⟩=some (.int .i64 (o.lab.d:Nat)):=by rw[hcell 2 (by omega)];rfl
   have q3:wr.cell? ⟨b,k*12+3,none⟩=some (.slice la o.lab.ps.length lc):=by rw[hcell 3 (by omega),<-hls];rfl
   have q4:wr.cell? ⟨b,k*12+4,none⟩=some (.int .i64 (o.gG.d:Nat)):=by rw[hcell 4 (by omega)];rfl
   have q5:wr.cell? ⟨b,k*12+5,none⟩=some (.slice ca o.gG.ps.length cc):=by rw[hcell 5 (by omega),<-hlc];rfl
   have q6:wr.cell? ⟨b,k*12+6,none⟩=some (.int .i64 o.pages):=by rw[hcell 6 (by omega)];rfl
   have q7:wr.cell? ⟨b,k*12+7,none⟩=some (.int .i64 o.names):=by rw[hcell 7 (by omega)];rfl
   have q8:wr.cell? ⟨b,k*12+8,none⟩=some (.slice da o.data.length dc):=by rw[hcell 8 (by omega),<-hvd];rfl
   have q9:wr.cell? ⟨b,k*12+9,none⟩=some (.slice LH o.maps.length LG):=by rw[hcell 9 (by omega),<-Oa];rfl
   have q10:wr.cell? ⟨b,k*12+10,none⟩=some (.int .i64 o.space):=by rw[hcell 10 (by omega)];rfl
   have q11:wr.cell? ⟨b,k*12+11,none⟩=some (.int .i64 o.pc):=by rw[hcell 11 (by omega)];rfl
   rw[hls]at yT;rw[hlc]at yT;rw[hvd]at yT;rw[Oa]at yT;have hV:=yT.below hS.eO (by rw[Xt.out];exact aj _);have HV0:=ah yT;have HOK:=hok;unfold sG at HOK;simp only[aM,aY]at HOK;obtain⟨pn,hpn⟩:∃pn:Nat,o.parent=(pn:Int):=⟨o.parent.toNat,by omega⟩;have abQ:pn<made.length:=by omega
   obtain⟨mg,rfl,DC,hmc⟩:=aJ.cells (aJ.own hS.row) (by omega);have hgd:made.getD o.parent.toNat 0=made.getD pn 0:=by rw[hpn];rfl
   obtain⟨hn,hhn⟩:∃hn,hn=made.getD pn 0:=⟨_,rfl⟩;have hmp:wr.cell? ⟨mg,pn,none⟩=some (.int .u64 hn):=by rw[hhn];exact hmc pn _ (by rw[dF];simp[List.getD,abQ])
   rw[hgd,<-hhn]at hh;have Yu:=hS.inv.inv.name _ _ hh;have hSb:=hS.BJ #[.int .i64 o.kind,.int .i64 (pn:Int),.int .i64 (o.lab.d:Nat),.slice la o.lab.ps.length lc,.int .i64 (o.gG.d:Nat),.slice ca o.gG.ps.length cc,.int .i64 o.pages,.int .i64 o.names,.slice da o.data.length dc,.slice LH o.maps.length LG,.int .i64 o.space,.int .i64 o.pc] 120;have hkc:=hSb.kin.iV.1;rw[hkb]at hkc;have yN:=ah hSb;have HV:=ah hV;have Hhh:=ah hh;have Hpl:=ah hpl;have Ez:=ah hrest;have Je:=ah hkb;have Lv:=ah hsl;have Hho:=ah ho;have TR:=ah hok;have Xf:=ah Yu;have Zq:=ah hml;clear hS hSb hV yT hcell0 hh hpl hrest hkb hsl ho hok Yu HOK hcell hmc hgd hhn hls hlc hvd Oa hone hB hdr;rw[hpn]at q1;have ahN:(pn:Int)<made.length:=by omega
   have Hpn:=ah hpn;clear hml hpn;go_wp2_with fail
   obtain⟨wb,hwb⟩:∃wb,wb=wr.alloc (.cells #[.int .i64 o.kind,.int .i64 (pn:Int),.int .i64 (o.lab.d:Nat),.slice la o.lab.ps.length lc,.int .i64 (o.gG.d:Nat),.slice ca o.gG.ps.length cc,.int .i64 o.pages,.int .i64 o.names,.slice da o.data.length dc,.slice LH o.maps.length LG,.int .i64 o.space,.int .i64 o.pc] 120):=⟨_,rfl⟩;have hbb:Below wr.heap.size wr wb:=by rw[hwb];exact(aC _ _).alloc (aj _) _
   rw[<-hwb]at yN hkc ⊢;have UY:wb.cell? ⟨mg,pn,none⟩=some (.int .u64 hn):=by rw[<-hmp];exact hbb.cell (p:=⟨mg,pn,none⟩) DC
   have hxb:=(yN.out.box _ bq).1;have p0:wb.cell? ⟨wr.heap.size,0,none⟩=some (.int .i64 o.kind):=(hxb.cell 0).trans rfl;have p1:wb.cell? ⟨wr.heap.size,1,none⟩=some (.int .i64 (pn:Int)):=(hxb.cell 1).trans rfl;have p2:wb.cell? ⟨wr.heap.size,2,none⟩=some (.int .i64 (o.lab.d:Nat)):=(hxb.cell 2).trans rfl;have p3:wb.cell? ⟨wr.heap.size,3,none⟩=some (.slice la o.lab.ps.length lc):=(hxb.cell 3).trans rfl;have p6:wb.cell? ⟨wr.heap.size,6,none⟩=some (.int .i64 o.pages):=(hxb.cell 6).trans rfl;have p7:wb.cell? ⟨wr.heap.size,7,none⟩=some (.int .i64 o.names):=(hxb.cell 7).trans rfl;have HVb:=ah (HV.out.below hbb (aj _))
   have Ws:Hid (∀wz,wz=wb.drew->Calls Tryz.prog 15 #[.pointer (some ⟨g1.tb,0,none⟩),.int .u64 hn] wz fun e w'=>∃v,e=.returned v/\(v=.pointer (some ⟨g1.bl hn,0,none⟩)/\w'=wb.drew)):=fun wz ez=>by
    rw[ez];refine(kK _ g1 _ hn (yN.out.kin.drew).tab).mono ?_;rintro e w' ⟨rfl,rfl⟩;exact⟨_,rfl,gK Hhh.out,rfl⟩
   clear hxb hwb hbb hmp q0 q1 q2 q3 q4 q5 q6 q7 q8 q9 q10 q11;go_region_law (refine cB (by rfl) (bP (vs:=#[.pointer (some ⟨g1.tb,0,none⟩),.int .u64 hn]) (by simp[Act.eval]) (bE Tryz.func15 (by kernel_rfl) rfl)) (Ws.out _ (by first|rfl|exact drew_eq _)) ?_;rintro v w9 ⟨rfl,rfl⟩)
   all_goals
    clear hkc UY;go_wp2_with fail
    have hpc:=FH wb.drew g1 K Kp hm x o (.agg #[.int .i64 (o.lab.d:Nat),.slice la o.lab.ps.length lc]) (yN.out.kin.drew) yN.out.inv.inv (by rw[Xf.out];exact Hhh.out) hhk ⟨_,rfl,aJ.below HVb.out.lab ((aC _ wb).drew) (aj _)⟩ TR.out Hpl.out;rw[Xf.out,Je.out]at hpc;refine hpc.mono ?_;clear hpc;rintro e w5 ⟨g5,rfl,k5,i5,e5,l5,t5⟩;have UR:=placed (by rw[Xf.out];exact Hhh.out) Hpl.out;have hb5:BInv g5 Kp:=yN.out.inv.more i5 UR.new (by rw[UR.nc];exact yN.out.inv.nc) l5 t5 UR.old;have hS5:=(yN.out.below ((aC _ wb).drew)).step k5 hb5 e5;have xQ:g5.kb=g.kb:=e5.al.kb.trans Je.out;have abD:=k5.objs _ _ UR.there;obtain⟨s5,T5,TK⟩:=k5.at UR.there;have c2:w5.cell? ⟨g5.bl x.name,2,none⟩=some (.int .u64 x.name):=TK.name;have aiM:g5.bl x.name<w5.heap.size:=TK.blk.lt;have p05:w5.cell? ⟨wr.heap.size,0,none⟩=some (.int .i64 o.kind):=((hS5.box _ bq).1.cell 0).trans rfl;have plt:wr.heap.size<w5.heap.size:=(hS5.box _ bq).1.lt;obtain⟨i0,hi0,hz0,hz1,hz2⟩:=info_parts qm;have yM:=ah hi0;have lJ:=ah hz0;have lI:=ah hz1;have kT:=ah hz2;have GY:Hid (World.ownsRow (w5.alloc (.cells #[.int .u64 x.name] 37)) lo 37 1 (.slice (some ⟨mg,0,none⟩) made.length rc) made.length (made.map (.int .u64))):=dA (T:=fun _=>False) hS5.row ((Kept.refl _ _).alloc _) (fun _ _ q=>q)
    have LX:Hid (∀u∈[Value.int .u64 x.name],u.oneCell'=true):=fun u hu=>by simp at hu;subst hu;rfl
    have TS:Hid (lo<=(w5.alloc (.cells #[.int .u64 x.name] 37)).heap.size):=by rw[au];exact Nat.le_succ_of_le hS5.le
    have hm100:made.length<=100:=by have:=Zq.out;omega
    have Qz:=ah hS5;have TT:=ah xQ;have EA:=ah UR;clear hS5 xQ UR abD TK hb5 k5 i5 e5 l5 t5 hi0 hz0 hz1 hz2 p0 p1 p2 p3 p6 p7
    have PW:Hid (∀g7 cap w7,World.ownsRow w7 lo 37 1 (.slice (some ⟨g7,0,none⟩) (made.length+1) cap) (made.length+1) (made.map (.int .u64)++[.int .u64 x.name])->World.grownBy (w5.alloc (.cells #[.int .u64 x.name] 37)) w7 (Value.slice (some ⟨mg,0,none⟩) made.length rc).ownBlock->((Value.slice (some ⟨mg,0,none⟩) made.length rc).ownBlock=some g7\/g7=(w5.alloc (.cells #[.int .u64 x.name] 37)).heap.size)->fO w00 lo [(wr.heap.size,#[.int .i64 o.kind,.int .i64 (pn:Int),.int .i64 (o.lab.d:Nat),.slice la o.lab.ps.length lc,.int .i64 (o.gG.d:Nat),.slice ca o.gG.ps.length cc,.int .i64 o.pages,.int .i64 o.names,.slice da o.data.length dc,.slice LH o.maps.length LG,.int .i64 o.space,.int .i64 o.pc],120),(cb,#[.int .i64 c.cores,.int .i64 c.frames,.int .i64 c.names,.slice sa c.slots.length sc,.slice (some ⟨b,0,none⟩) c.objs.length oc],81)] w7 g5 Kp (.slice (some ⟨g7,0,none⟩) (made.length+1) cap) (made++[x.name])):=fun g7 cap w7 a1 a2 a3 =>
     (Qz.out.below ((aC _ w5).alloc (aj _) _)).more a1 (dG a2) (a3.imp id (fun e=>Nat.le_of_eq e.symm))
    rcases(show o.kind=2\/o.kind=6\/(o.kind≠2/\o.kind≠6)by omega)with h2|h6|⟨h2,h6⟩
    ·rw[h2]at p05
     go_wp2_with (at_builtin;refine wpList_append_lies _ rfl _ _ 46 rfl lo 37 i0 (.int .u64 0) 1 8 Tryz.underlying46 yM.out lJ.out lI.out kT.out rfl (by decide) _ _ _ rfl GY.out ⟨w5.heap.size,0,none⟩ 1 1 [.int .u64 x.name] rfl rfl (World.news_of_block (aR.new w5 #[.int .u64 x.name] 37)) LX.out (by omega) (by unfold maxLen;omega) (by omega) TS.out _ rfl ?_;intro g7 cap w7 vN qx hg7 Ow;have lq:=ah (PW.out g7 cap w7 vN qx hg7);clear vN qx hg7 Ow;have p07:w7.cell? ⟨wr.heap.size,0,none⟩=some (.int .i64 2):=((lq.out.box _ bq).1.cell 0).trans (by rw[<-h2];rfl))
     have Yq:=lq.out.kin.iV.2;rw[TT.out]at Yq;have p87:w7.cell? ⟨wr.heap.size,8,none⟩=some (.slice da o.data.length dc):=((lq.out.box _ bq).1.cell 8).trans rfl;have hxk:x.kind=2:=by rw[EA.out.kd,h2]
     obtain⟨s7,T7,Vs⟩:=lq.out.kin.at EA.out.there;have hsg:=lq.out.inv.inv.seg _ _ EA.out.there hxk;have YC:Hid (dV w7 (.slice da o.data.length dc) o.data):=aJ.below HV0.out.data lq.out.eO (by rw[Xt.out];exact aj _);have hlen:=hsg.len;have hseg:=ah (show iZ w7 (g5.bl x.name) 16 (jO x s7 (g5.mt x.name) T7) (g5.bl x.name+1) s7.fr (g5.fr x.name)from⟨Vs.blk,rfl,Vs.rows.TL,by omega,by rw[hlen];exact hsg.p16⟩);have Ox:=(lq.out.kin.objs _ _ EA.out.there).2.late;have hpg:x.pages=o.pages.toNat:=(EA.out.pages h2).trans (by rw[aD (.inr h2)])
     have hsw:JL (g5.fr x.name) ((0:Nat):Int) (o.data.length:Nat)=true:=(Cu _ _ _).2 (by
      have h5:=TR.out;unfold sG at h5;simp only[aM,Bool.or_eq_true,aY]at h5
      have h6:0<=o.pages/\o.pages<=16/\(o.data.length:Int)<=o.pages*64:=by
       rcases h5.2.2 with(((⟨k1,_⟩|⟨_,k2⟩)|k1)|k1)|k1
       ·omega
       ·exact k2
       ·omega
       ·omega
       ·omega
      unfold rW;rw[hlen,hpg];omega)
     have Hwr:Hid (∀wz,wz=w7.drew->Calls Tryz.prog 64 #[.pointer (some ⟨g5.bl x.name,16,none⟩),.pointer (some ⟨g5.pb,0,none⟩),.int .i64 0,.slice da o.data.length dc] wz fun e w'=>∃v,e=.returned v/\(v=.bool true/\∃P',bB w' g5.pb g5.db g5.ob P'/\jr g5.P P' (g5.fr x.name) 0 o.data.length (nV o.data)/\Kept (PS g5.pb g5.db g5.ob) w7 w')):=fun wz ez=>by
      rw[ez];have hdr:=(aC w7.heap.size w7).drew;refine(EY (g5.bl x.name) 16 g5.pb g5.db g5.ob _ _ _ _ g5.P x.name 0 da o.data.length dc (nV o.data) _ (hseg.out.below hdr) (lq.out.kin.pool.below hdr) hsg.inn hsw (fun w' hk=>Pn (dV.mild (aJ.below YC.out hdr (aj _)) hk (sU (lq.out.kin.pool.below hdr)))) (OW o.data) (by omega) (by omega) ?_ ?_).mono ?_
      ·rintro(e|e|e)<;>omega
      ·intro c hc q
       have:=(hseg.out.hv.lt c hc).1;rcases q with e|e|e<;>omega
      ·rintro e w' ⟨rfl,P',r1,r2,r3⟩
       exact⟨_,rfl,rfl,P',r1,r2,(Kept.of_below (S:=PS g5.pb g5.db g5.ob) hdr).trans r3⟩
     have TP:=ah hsg;have Hpg:=ah hpg;clear Vs hsg YC hseg hsw hlen hpg Ox;go_wp2_with fail
     go_region_law (refine cB (by rfl) (bP (vs:=#[.pointer (some ⟨g5.bl x.name,16,none⟩),.pointer (some ⟨g5.pb,0,none⟩),.int .i64 0,.slice da o.data.length dc]) (by simp[Act.eval]) (bE Tryz.func64 (by kernel_rfl) rfl)) (Hwr.out _ (by first|rfl|exact drew_eq _)) ?_;rintro v w9 ⟨rfl,P',hP9,OC,hK9⟩)
     all_goals
      have p09:w9.cell? ⟨wr.heap.size,0,none⟩=some (.int .i64 2):=by
       have e:=(lq.out.box _ bq)
       have hn:¬PS g5.pb g5.db g5.ob wr.heap.size:=fun q=>by
        have h0:g5.A wr.heap.size=none:=e.2.1;rcases q with q|q|q
        ·rw[q,lq.out.kin.tags.pb]at h0;cases h0
        ·rw[q,lq.out.kin.tags.db]at h0;cases h0
        ·rw[q,lq.out.kin.tags.ob]at h0;cases h0
       exact((hK9.blk e.1 hn).cell 0).trans (by rw[<-h2];rfl)
      have hkn:=lq.out.kin.wD hK9 (sU lq.out.kin.pool) (fun b q _=>.inr q) hP9;obtain⟨s9,T9,RN⟩:=hkn.at EA.out.there;have hnm:x.name=x.name:=rfl;obtain⟨kk9,-⟩:=hkn.nums (o:=x) (o':={ x with data:=nV o.data }) EA.out.there RN (Kept.refl _ _) RN.blk ⟨rfl,rfl,rfl,rfl,rfl,rfl,rfl,rfl⟩ rfl rfl
      have hbi:BInv { g5 with P:=P' } (Kp.set { x with data:=nV o.data }):=lq.out.inv.set (o:=x) EA.out.there rfl rfl (fun q=>absurd (hxk.symm.trans q) (by decide)) (fun _=>⟨OC.Cw TP.out.inn,TP.out.len,TP.out.p16,fun j hj=>by
        have hj':j<x.pages*64:=hj;have e1:=OC.D j (by rw[TP.out.len];exact hj');show nV o.data j=kV P' (g5.fr x.name) j
        rw[e1];by_cases q:j<o.data.length
        ·rw[aD ⟨Nat.zero_le _,by omega⟩,Nat.sub_zero]
        ·rw[aA (by omega),<-TP.out.data j hj',EA.out.data]
         unfold nV;rw[aA q]⟩) (JM OC TP.out.inn) OC.left (fun n=>⟨rfl,rfl,rfl,rfl,rfl,rfl⟩) rfl (fun b n i e=>.inl e)
      have hex:Ext g5 { g5 with P:=P' } w7 w9:=Ext.wrote ⟨rfl,rfl,rfl,rfl,rfl,rfl,rfl,fun _ _ e=>e⟩ hK9 (fun b q _=>by
       rcases q with q|q|q
       ·rw[q];exact⟨_,lq.out.kin.tags.pb⟩
       ·rw[q];exact⟨_,lq.out.kin.tags.db⟩
       ·rw[q];exact⟨_,lq.out.kin.tags.ob⟩) (fun _ _ e=>e) (fun _ _=>⟨rfl,rfl⟩)
      have Ua:=lq.out.step kk9 hbi hex
      have HF:Hid (EK w00 lo (cb,#[.int .i64 c.cores,.int .i64 c.frames,.int .i64 c.names,.slice sa c.slots.length sc,.slice (some ⟨b,0,none⟩) c.objs.length oc],81) g c.objs K1 mf (k+1) (.slice (some ⟨g7,0,none⟩) (made.length+1) cap) w9):=by
       refine⟨_,_,made++[x.name],Ua.DY,?_,(show Kp.slots=[]by rw[EA.out.slots];exact Lv.out),TT.out,by rw[aO,Zq.out];rfl,by show Kp.eU.length<=k+1;rw[EA.out.eU];have:=Hdv.out;omega⟩;have:=Ez.out;rw[aD h2]at this;exact this
      clear Yq p87 hP9 OC hK9 hkn RN kk9 hbi hex Ua;go_wp2_with fail
      go_roundw
      case rel=>exact⟨k+1,by omega,by go_num,HF⟩
      case measure=>simp[intOf];omega
    ·have b2:(o.kind==2)=false:=by rw[h6];rfl
     rw[h6]at p05;go_wp2_with (at_builtin;refine wpList_append_lies _ rfl _ _ 46 rfl lo 37 i0 (.int .u64 0) 1 8 Tryz.underlying46 yM.out lJ.out lI.out kT.out rfl (by decide) _ _ _ rfl GY.out ⟨w5.heap.size,0,none⟩ 1 1 [.int .u64 x.name] rfl rfl (World.news_of_block (aR.new w5 #[.int .u64 x.name] 37)) LX.out (by omega) (by unfold maxLen;omega) (by omega) TS.out _ rfl ?_;intro g7 cap w7 vN qx hg7 Ow;have lq:=ah (PW.out g7 cap w7 vN qx hg7);clear vN qx hg7 Ow;have p07:w7.cell? ⟨wr.heap.size,0,none⟩=some (.int .i64 6):=((lq.out.box _ bq).1.cell 0).trans (by rw[<-h6];rfl))
     obtain⟨kcv,ksv,kdv,kv1,kv2,kv3,kv4⟩:=lq.out.kin.gZ.ex;obtain⟨DX,DW,rfl,-,-⟩:=Own.form kv4;rw[TT.out]at kv2;have hk4:w7.cell? ⟨g.kb,4,none⟩=some (.slice DX Kp.eU.length DW):=(kv2.cell 4).trans rfl;have aia:(w7.alloc (.cells #[.int .u64 x.name] 37)).cell? ⟨g.kb,4,none⟩=some (.slice DX Kp.eU.length DW):=((kv2.alloc _).cell 4).trans rfl;have hkf:w7.frozen? ⟨g.kb,4,none⟩=false:=kv2.free 4;have Yp:=kv2.lt;obtain⟨s7,T7,Vs⟩:=lq.out.kin.at EA.out.there;have c27:w7.cell? ⟨g5.bl x.name,2,none⟩=some (.int .u64 x.name):=Vs.name;have afE:=Vs.blk.lt;have hdl:Kp.eU.length<=100:=by rw[EA.out.eU];have:=Hdv.out;have:=Zq.out;omega
     have Ey:Hid (World.ownsRow (w7.alloc (.cells #[.int .u64 x.name] 37)).drew 0 37 1 (.slice DX Kp.eU.length DW) Kp.eU.length (Kp.eU.map (.int .u64))):=dA (T:=fun _=>False) kv4.row ((Kept.refl _ _).alloc _).drew (fun _ _ q=>q)
     have ED:Hid (∀w8,World.grownBy (w7.alloc (.cells #[.int .u64 x.name] 37)).drew w8 (Value.slice DX Kp.eU.length DW).ownBlock->aR w8 g.kb (pz g5 kcv ksv (.slice DX Kp.eU.length DW) Kp.done) 88):=fun w8 hg=>(dG hg).blk ((kv2.alloc _).drew) (fun e=>by
      have e1:=kv4.tag _ e;have e2:=lq.out.kin.tags.kb;rw[TT.out]at e2;rw[e1]at e2;cases e2)
     have SX:=ah (And.intro kv1 (And.intro kv2 (And.intro kv3 kv4)));clear kv1 kv2 kv3 kv4 Vs;go_wp2_with fail
     go_region_law (first
      | (refine step_append_lies _ (by rfl) (.tmp 78) (.tmp 83) 46 (by rfl) 0 37 i0 _ 1 8 Tryz.underlying46 yM.out lJ.out lI.out kT.out rfl (by decide) (.slice DX Kp.eU.length DW) Kp.eU.length (Kp.eU.map (.int .u64)) (by simp[Act.eval]) Ey.out ⟨w7.heap.size,0,none⟩ 1 1 [.int .u64 x.name] (by simp[Act.eval]) rfl (World.news_of_block (aR.new w7 #[.int .u64 x.name] 37).drew) LX.out (by omega) (by unfold maxLen;omega) (by omega) (by simp) _ rfl ?_;intro g8 Lg w8 pE mI hg8 Bh;have OD:=ED.out w8 mI;have j4:w8.cell? ⟨g.kb,4,none⟩=some (.slice DX Kp.eU.length DW):=(OD.cell 4).trans rfl
         have k4:w8.frozen? ⟨g.kb,4,none⟩=false:=OD.free 4))
     all_goals
      clear j4 k4 OD
      have hg9:(Value.slice DX Kp.eU.length DW).ownBlock=some g8\/w7.heap.size<=g8:=by
       rcases hg8 with e|e
       ·exact .inl e
       ·right;rw[e];simp
      obtain⟨f1,f2⟩:=lq.out.kin.QV SX.out.1 (by rw[TT.out];exact SX.out.2.1) SX.out.2.2.1 SX.out.2.2.2 (((Kept.refl _ w7).alloc _).drew.trans (dG mI)) pE hg9 Bh;rw[TT.out]at f1 f2;have hbi:BInv (g5.own g8 (0,8)) { Kp with eU:=Kp.eU++[x.name] }:=lq.out.inv.own g8 (0,8) rfl (Kp.eU++[x.name]);have Ua:=lq.out.step f1 hbi f2
      have HF:Hid (EK w00 lo (cb,#[.int .i64 c.cores,.int .i64 c.frames,.int .i64 c.names,.slice sa c.slots.length sc,.slice (some ⟨b,0,none⟩) c.objs.length oc],81) g c.objs K1 mf (k+1) (.slice (some ⟨g7,0,none⟩) (made.length+1) cap) (w8.setCell ⟨g.kb,4,none⟩ (.slice (some ⟨g8,0,none⟩) (Kp.eU.length+1) Lg))):=by
       refine⟨_,_,made++[x.name],Ua.DY,?_,(show Kp.slots=[]by rw[EA.out.slots];exact Lv.out),TT.out,by rw[aO,Zq.out];rfl,?_⟩
       ·have:=Ez.out
        rw[aA (by omega),aD h6]at this;exact this
       ·show(Kp.eU++[x.name]).length<=k+1
        rw[aO,EA.out.eU];have:=Hdv.out;show K.eU.length+1<=k+1
        omega
      clear pE mI hg8 Bh hg9 f1 f2 hbi Ua;go_wp2_with fail
      go_roundw
      case rel=>exact⟨k+1,by omega,by go_num,HF⟩
      case measure=>simp[intOf];omega
    ·have b2:(o.kind==2)=false:=by simpa using h2
     have b6:(o.kind==6)=false:=by simpa using h6
     go_wp2_with (at_builtin;refine wpList_append_lies _ rfl _ _ 46 rfl lo 37 i0 (.int .u64 0) 1 8 Tryz.underlying46 yM.out lJ.out lI.out kT.out rfl (by decide) _ _ _ rfl GY.out ⟨w5.heap.size,0,none⟩ 1 1 [.int .u64 x.name] rfl rfl (World.news_of_block (aR.new w5 #[.int .u64 x.name] 37)) LX.out (by omega) (by unfold maxLen;omega) (by omega) TS.out _ rfl ?_;intro g7 cap w7 vN qx hg7 Ow;have lq:=ah (PW.out g7 cap w7 vN qx hg7);clear vN qx hg7 Ow;have p07:w7.cell? ⟨wr.heap.size,0,none⟩=some (.int .i64 o.kind):=((lq.out.box _ bq).1.cell 0).trans (by rfl))
     have HF:Hid (EK w00 lo (cb,#[.int .i64 c.cores,.int .i64 c.frames,.int .i64 c.names,.slice sa c.slots.length sc,.slice (some ⟨b,0,none⟩) c.objs.length oc],81) g c.objs K1 mf (k+1) (.slice (some ⟨g7,0,none⟩) (made.length+1) cap) w7):=by
      refine⟨g5,Kp,made++[x.name],lq.out.DY,?_,by rw[EA.out.slots];exact Lv.out,TT.out,by rw[aO,Zq.out];rfl,by rw[EA.out.eU];have:=Hdv.out;omega⟩;have:=Ez.out;rw[aA h2,aA h6]at this;exact this
     go_roundw
     case rel=>exact⟨k+1,by omega,by go_num,HF⟩
     case measure=>simp[intOf];omega
  ·obtain rfl:k=c.objs.length:=by omega
   obtain⟨g1,K,made,hS,hB,hsl,hkb,hml,-⟩:=HI.out;rw[List.drop_length]at hB;have hB':some (K,made)=some (K1,mf):=hB;simp only[Option.some.injEq,Prod.mk.injEq]at hB';obtain⟨rfl,rfl⟩:=hB';obtain⟨ra,rc,rfl,hr1,hr2⟩:=aJ.form (aJ.own hS.row);obtain⟨mg,rfl,-,-⟩:=aJ.cells (aJ.own hS.row) (by omega);have Bl:=(hS.box _ bq).1;have d4:wr.cell? ⟨cb,4,none⟩=some (.slice oa c.objs.length oc):=(Bl.cell 4).trans rfl;have HML:=ah hml;have HB2:Hid (Qr w00 lo (cb,#[.int .i64 c.cores,.int .i64 c.frames,.int .i64 c.names,.slice sa c.slots.length sc,.slice oa c.objs.length oc],81) g c.objs c.cores K2 made (.slice (some ⟨mg,0,none⟩) made.length rc) 0 wr):=⟨g1,K,hS,by rw[List.drop_zero];exact H2.out,hsl,hkb⟩;clear hS hB hsl hkb hml Bl;go_wp2_with fail
   clear d4;go_loopw [91] (fun i wx=>∃k:Nat,k<=c.objs.length/\i=.int .i64 k/\Hid (Qr w00 lo (cb,#[.int .i64 c.cores,.int .i64 c.frames,.int .i64 c.names,.slice sa c.slots.length sc,.slice oa c.objs.length oc],81) g c.objs c.cores K2 made (.slice (some ⟨mg,0,none⟩) made.length rc) k wx)) (fun i _=>c.objs.length-(intOf i).toNat)
   case atStart=>exact⟨0,Nat.zero_le _,rfl,HB2⟩
   case round =>
    obtain⟨k,hkl,rfl,HI2⟩:=hrel;by_cases hlt2:k<c.objs.length
    ·obtain⟨g2,Kk,hS,hB,hsl,hkb⟩:=HI2.out
     obtain⟨o,ho⟩:∃o,c.objs[k]? = some o:=⟨c.objs[k],by simp[hlt2]⟩
     have hdr:c.objs.drop k=o::c.objs.drop (k+1):=by
      obtain⟨e1,e2⟩:=aW.1 ho;rw[<-e2];exact List.drop_eq_getElem_cons hlt2
     rw[hdr]at hB;obtain⟨Kn,hone,hrest⟩:=Br hB;obtain⟨x,hx,hxk,hok,hKn⟩:=Bq hone;obtain⟨b,s,rfl,hbl,yT,hcell0⟩:=pJ.out.at ho;have hcell:=fun j hj=>(hS.eO.cell (p:=⟨b,k*12+j,none⟩) (by rw[Xt.out];exact hbl)).trans (hcell0 j hj)
     obtain⟨la,lc,hls,hl1,hl2⟩:=aJ.form yT.lab;obtain⟨ca,cc,hlc,hc1',hc2'⟩:=aJ.form yT.gG;obtain⟨da,dc,hvd,hd1,hd2⟩:=aJ.form yT.data;obtain⟨LH,LG,Oa,hm1,hm2⟩:=aJ.form yT.maps;have q0:wr.cell? ⟨b,k*12,none⟩=some (.int .i64 o.kind):=by have:=hcell 0 (by omega);rw[Nat.add_zero]at this;rw[this];rfl
     have q1:wr.cell? ⟨b,k*12+1,none⟩=some (.int .i64 o.parent):=by rw[hcell 1 (by omega)];rfl
     have q2:wr.cell? ⟨b,k*12+2,none⟩=some (.int .i64 (o.lab.d:Nat)):=by rw[hcell 2 (by omega)];rfl
     have q3:wr.cell? ⟨b,k*12+3,none⟩=some (.slice la o.lab.ps.length lc):=by rw[hcell 3 (by omega),<-hls];rfl
     have q4:wr.cell? ⟨b,k*12+4,none⟩=some (.int .i64 (o.gG.d:Nat)):=by rw[hcell 4 (by omega)];rfl
     have q5:wr.cell? ⟨b,k*12+5,none⟩=some (.slice ca o.gG.ps.length cc):=by rw[hcell 5 (by omega),<-hlc];rfl
     have q6:wr.cell? ⟨b,k*12+6,none⟩=some (.int .i64 o.pages):=by rw[hcell 6 (by omega)];rfl
     have q7:wr.cell? ⟨b,k*12+7,none⟩=some (.int .i64 o.names):=by rw[hcell 7 (by omega)];rfl
     have q8:wr.cell? ⟨b,k*12+8,none⟩=some (.slice da o.data.length dc):=by rw[hcell 8 (by omega),<-hvd];rfl
     have q9:wr.cell? ⟨b,k*12+9,none⟩=some (.slice LH o.maps.length LG):=by rw[hcell 9 (by omega),<-Oa];rfl
     have q10:wr.cell? ⟨b,k*12+10,none⟩=some (.int .i64 o.space):=by rw[hcell 10 (by omega)];rfl
     have q11:wr.cell? ⟨b,k*12+11,none⟩=some (.int .i64 o.pc):=by rw[hcell 11 (by omega)];rfl
     rw[hls]at yT;rw[hlc]at yT;rw[hvd]at yT;rw[Oa]at yT;have HV0:=ah yT;obtain⟨mg',he',DC,hmc⟩:=aJ.cells (aJ.own hS.row) (by have:=HML.out;omega)
     cases he';have hkm:k+1<made.length:=by have:=HML.out;omega
     obtain⟨hn,hhn⟩:∃hn,hn=made.getD (k+1) 0:=⟨_,rfl⟩;have hmp:wr.cell? ⟨mg,k+1,none⟩=some (.int .u64 hn):=by rw[hhn];exact hmc (k+1) _ (by rw[dF];simp[List.getD,hkm])
     rw[<-hhn]at hx;have XK:=hS.inv.inv.name _ _ hx;have hSb:=hS.BJ #[.int .i64 o.kind,.int .i64 o.parent,.int .i64 (o.lab.d:Nat),.slice la o.lab.ps.length lc,.int .i64 (o.gG.d:Nat),.slice ca o.gG.ps.length cc,.int .i64 o.pages,.int .i64 o.names,.slice da o.data.length dc,.slice LH o.maps.length LG,.int .i64 o.space,.int .i64 o.pc] 120;have hkc:=hSb.kin.iV.1;rw[hkb]at hkc;have yN:=ah hSb;have Hhx:=ah hx;have Ez:=ah hrest;have Je:=ah hkb;have Lv:=ah hsl;have TR:=ah hok;have Xf:=ah XK;have Hxk:=ah hxk;have HKn:=ah hKn;clear hS hSb yT hcell0 hx hrest hkb hsl ho hok XK hxk hKn hcell hmc hhn hls hlc hvd Oa hone hB hdr;have ahY:((k:Int)+1)<made.length:=by omega
     go_wp2_with fail
     obtain⟨wb,hwb⟩:∃wb,wb=wr.alloc (.cells #[.int .i64 o.kind,.int .i64 o.parent,.int .i64 (o.lab.d:Nat),.slice la o.lab.ps.length lc,.int .i64 (o.gG.d:Nat),.slice ca o.gG.ps.length cc,.int .i64 o.pages,.int .i64 o.names,.slice da o.data.length dc,.slice LH o.maps.length LG,.int .i64 o.space,.int .i64 o.pc] 120):=⟨_,rfl⟩;have hbb:Below wr.heap.size wr wb:=by rw[hwb];exact(aC _ _).alloc (aj _) _
     rw[<-hwb]at yN hkc ⊢;have UY:wb.cell? ⟨mg,k+1,none⟩=some (.int .u64 hn):=by rw[<-hmp];exact hbb.cell (p:=⟨mg,k+1,none⟩) DC
     have hxb:=(yN.out.box _ bq).1;have p0:wb.cell? ⟨wr.heap.size,0,none⟩=some (.int .i64 o.kind):=(hxb.cell 0).trans rfl;have p1:wb.cell? ⟨wr.heap.size,1,none⟩=some (.int .i64 o.parent):=(hxb.cell 1).trans rfl;have p2:wb.cell? ⟨wr.heap.size,2,none⟩=some (.int .i64 (o.lab.d:Nat)):=(hxb.cell 2).trans rfl;have p3:wb.cell? ⟨wr.heap.size,3,none⟩=some (.slice la o.lab.ps.length lc):=(hxb.cell 3).trans rfl;have p4:wb.cell? ⟨wr.heap.size,4,none⟩=some (.int .i64 (o.gG.d:Nat)):=(hxb.cell 4).trans rfl;have p5:wb.cell? ⟨wr.heap.size,5,none⟩=some (.slice ca o.gG.ps.length cc):=(hxb.cell 5).trans rfl;have p6:wb.cell? ⟨wr.heap.size,6,none⟩=some (.int .i64 o.pages):=(hxb.cell 6).trans rfl;have p7:wb.cell? ⟨wr.heap.size,7,none⟩=some (.int .i64 o.names):=(hxb.cell 7).trans rfl;have p8:wb.cell? ⟨wr.heap.size,8,none⟩=some (.slice da o.data.length dc):=(hxb.cell 8).trans rfl;have p9:wb.cell? ⟨wr.heap.size,9,none⟩=some (.slice LH o.maps.length LG):=(hxb.cell 9).trans rfl;have p10:wb.cell? ⟨wr.heap.size,10,none⟩=some (.int .i64 o.space):=(hxb.cell 10).trans rfl;have p11:wb.cell? ⟨wr.heap.size,11,none⟩=some (.int .i64 o.pc):=(hxb.cell 11).trans rfl;have e0:wb.cell? ⟨cb,0,none⟩=some (.int .i64 c.cores):=((yN.out.box _ (List.mem_cons_of_mem _ bq)).1.cell 0).trans rfl
     have Ws:Hid (∀wz,wz=wb.drew->Calls Tryz.prog 15 #[.pointer (some ⟨g2.tb,0,none⟩),.int .u64 hn] wz fun e w'=>∃v,e=.returned v/\(v=.pointer (some ⟨g2.bl hn,0,none⟩)/\w'=wb.drew)):=fun wz ez=>by
      rw[ez];refine(kK _ g2 _ hn (yN.out.kin.drew).tab).mono ?_;rintro e w' ⟨rfl,rfl⟩;exact⟨_,rfl,gK Hhx.out,rfl⟩
     have Zw:Hid (∀wz,wz=wb.drew->Calls Tryz.prog 65 #[.pointer (some ⟨g.kb,0,none⟩),.pointer (some ⟨g2.bl hn,0,none⟩),.agg #[.int .i64 o.kind,.int .i64 o.parent,.int .i64 (o.lab.d:Nat),.slice la o.lab.ps.length lc,.int .i64 (o.gG.d:Nat),.slice ca o.gG.ps.length cc,.int .i64 o.pages,.int .i64 o.names,.slice da o.data.length dc,.slice LH o.maps.length LG,.int .i64 o.space,.int .i64 o.pc],.slice (some ⟨mg,0,none⟩) made.length rc,.int .i64 c.cores] wz fun e w'=>∃v,e=.returned v/\(v=.tuple #[]/\∃g',fO w00 lo [(wr.heap.size,#[.int .i64 o.kind,.int .i64 o.parent,.int .i64 (o.lab.d:Nat),.slice la o.lab.ps.length lc,.int .i64 (o.gG.d:Nat),.slice ca o.gG.ps.length cc,.int .i64 o.pages,.int .i64 o.names,.slice da o.data.length dc,.slice LH o.maps.length LG,.int .i64 o.space,.int .i64 o.pc],120),(cb,#[.int .i64 c.cores,.int .i64 c.frames,.int .i64 c.names,.slice sa c.slots.length sc,.slice (some ⟨b,0,none⟩) c.objs.length oc],81)] w' g' Kn (.slice (some ⟨mg,0,none⟩) made.length rc) made/\g'.kb=g2.kb/\Kn.slots=Kk.slots)):=fun wz ez=>by
      rw[ez];have:=KP (yN.out.below ((aC _ wb).drew)) Xt.out HV0.out (x:=x) (by rw[Xf.out];exact Hhx.out) Hxk.out hcr TR.out (by have:=HML.out;omega) HKn.out;rw[Xf.out,Je.out]at this;refine this.mono ?_;rintro e w' ⟨rfl,g',h1,h2,h3⟩;exact⟨_,rfl,rfl,g',h1,h2.trans Je.out.symm,h3⟩
     have s1:IntKind.i64.wrap ((k:Int)+1)=(k:Int)+1:=aV _ (by omega);have s2:(0:Int)<=(k:Int)+1:=by omega
     have s3:((k:Int)+1).toNat=k+1:=by omega
     clear hxb hwb hbb hmp q0 q1 q2 q3 q4 q5 q6 q7 q8 q9 q10 q11
     go_region_law (first
      | (refine cB (by rfl) (bP (vs:=#[.pointer (some ⟨g2.tb,0,none⟩),.int .u64 hn]) (by simp[Act.eval]) (bE Tryz.func15 (by kernel_rfl) rfl)) (Ws.out _ (by first|rfl|exact drew_eq _)) ?_;rintro v w9 ⟨rfl,rfl⟩)
      | (refine cB (by rfl) (bP (vs:=#[.pointer (some ⟨g.kb,0,none⟩),.pointer (some ⟨g2.bl hn,0,none⟩),.agg #[.int .i64 o.kind,.int .i64 o.parent,.int .i64 (o.lab.d:Nat),.slice la o.lab.ps.length lc,.int .i64 (o.gG.d:Nat),.slice ca o.gG.ps.length cc,.int .i64 o.pages,.int .i64 o.names,.slice da o.data.length dc,.slice LH o.maps.length LG,.int .i64 o.space,.int .i64 o.pc],.slice (some ⟨mg,0,none⟩) made.length rc,.int .i64 c.cores]) (by simp[Act.eval]) (bE Tryz.func65 (by kernel_rfl) rfl)) (Zw.out _ (by first|rfl|exact drew_eq _)) ?_;rintro v w9 ⟨rfl,g9,hS9,hk9,hs9⟩))
     all_goals
      have HF:Hid (Qr w00 lo (cb,#[.int .i64 c.cores,.int .i64 c.frames,.int .i64 c.names,.slice sa c.slots.length sc,.slice (some ⟨b,0,none⟩) c.objs.length oc],81) g c.objs c.cores K2 made (.slice (some ⟨mg,0,none⟩) made.length rc) (k+1) w9):=⟨g9,Kn,hS9.DY,Ez.out,hs9.trans Lv.out,hk9.trans Je.out⟩;clear hS9 hk9 hs9 hkc UY s1 s2 s3;go_wp2_with fail
      go_roundw
      case rel=>exact⟨k+1,by omega,by go_num,HF⟩
      case measure=>simp[intOf];omega
    ·obtain rfl:k=c.objs.length:=by omega
     obtain⟨g2,Kk,hS,hB,hsl,hkb⟩:=HI2.out;rw[List.drop_length]at hB;have hB':some Kk=some K2:=hB;simp only[Option.some.injEq]at hB';subst hB';have Bl:=(hS.box _ bq).1;have d3:wr.cell? ⟨cb,3,none⟩=some (.slice sa c.slots.length sc):=(Bl.cell 3).trans rfl
     have HB3:Hid (Qq w00 lo (cb,#[.int .i64 c.cores,.int .i64 c.frames,.int .i64 c.names,.slice sa c.slots.length sc,.slice oa c.objs.length oc],81) g c.slots Kk made (.slice (some ⟨mg,0,none⟩) made.length rc) 0 wr):=⟨g2,by
      have e:({ Kk with slots:=(c.slots.take 0).map fun s=>(made.getD s.1.toNat 0,s.2) }:Km)=Kk:=by
       obtain⟨n1,n2,n3,n4,n5,n6,n7⟩:=Kk;have abI:n3=[]:=hsl;subst abI;rfl
      rw[e];exact hS,hkb⟩
     clear hS hB hsl hkb Bl;go_wp2_with fail
     clear d3;go_loopw [116] (fun i wx=>∃k:Nat,k<=c.slots.length/\i=.int .i64 k/\Hid (Qq w00 lo (cb,#[.int .i64 c.cores,.int .i64 c.frames,.int .i64 c.names,.slice sa c.slots.length sc,.slice oa c.objs.length oc],81) g c.slots Kk made (.slice (some ⟨mg,0,none⟩) made.length rc) k wx)) (fun i _=>c.slots.length-(intOf i).toNat)
     case atStart=>exact⟨0,Nat.zero_le _,rfl,HB3⟩
     case round =>
      obtain⟨k,hkl,rfl,HI3⟩:=hrel;by_cases hlt3:k<c.slots.length
      ·obtain⟨g2,hS,hkb⟩:=HI3.out
       obtain⟨L,hL⟩:∃L:List (Int×Int),L=(c.slots.take k).map fun s=>(made.getD s.1.toNat 0,s.2):=⟨_,rfl⟩
       rw[<-hL]at hS;have hLl:L.length=k:=by rw[hL,List.length_map,List.length_take];omega
       have HL:=ah hL;clear hL;have XR:=aJ.below HSl.out hS.eO (by rw[Xt.out];exact aj _);obtain⟨sb,rfl,aeQ,UO⟩:=aJ.cells XR (by omega);obtain⟨sl,hsl⟩:∃sl,c.slots[k]? = some sl:=⟨c.slots[k],by simp[hlt3]⟩;have rH:=fun i (hi:i<2)=>gP jS 2 (fun _=>rfl) c.slots k sl hsl i hi
       have q0:wr.cell? ⟨sb,k*2,none⟩=some (.int .u64 sl.1):=UO (k*2) _ (by have:=rH 0 (by omega);rw[Nat.add_zero]at this;rw[this];rfl);have q1:wr.cell? ⟨sb,k*2+1,none⟩=some (.int .i64 sl.2):=UO _ _ (by rw[rH 1 (by omega)];rfl);have hall:=H3.out;simp only[List.all_eq_true,aY]at hall;obtain⟨sg1,sg2⟩:=hall sl (bG hsl);have sg3:=HS.out sl (bG hsl);obtain⟨sn,hsn⟩:∃sn:Nat,sl.1=(sn:Int):=⟨sl.1.toNat,by omega⟩;have UN:sn<made.length:=by omega
       obtain⟨mg',he',DC,hmc⟩:=aJ.cells (aJ.own hS.row) (by omega)
       cases he';obtain⟨gv,hgv⟩:∃gv,gv=made.getD sn 0:=⟨_,rfl⟩;have hms:wr.cell? ⟨mg,sn,none⟩=some (.int .u64 gv):=by rw[hgv];exact hmc sn _ (by rw[dF];simp[List.getD,UN])
       rw[hsn]at q0;have ahz:(sn:Int)<made.length:=by omega
       have hxe:(made.getD sl.1.toNat 0,sl.2)=(gv,sl.2):=by rw[hsn,hgv];rfl
       have Hxe:=ah hxe;obtain⟨sv2,UM⟩:∃sv2,sl.2=sv2:=⟨_,rfl⟩;rw[UM]at q1 sg3;have hSb:=hS.BJ #[.int .u64 (sn:Int),.int .i64 sv2] 127;have Lv:=ah hsl;have Hsv:=ah UM;have Je:=ah hkb;have yN:=ah hSb;obtain⟨wb,hwb⟩:∃wb,wb=wr.alloc (.cells #[.int .u64 (sn:Int),.int .i64 sv2] 127):=⟨_,rfl⟩;have hbb:Below wr.heap.size wr wb:=by rw[hwb];exact(aC _ _).alloc (aj _) _
       clear hS hSb XR UO rH hall hmc hgv hxe hsl UM hkb hsn sg1 sg2;go_wp2_with fail
       rw[<-hwb]at yN ⊢;have ahS:wb.cell? ⟨mg,sn,none⟩=some (.int .u64 gv):=by rw[<-hms];exact hbb.cell (p:=⟨mg,sn,none⟩) DC
       have hxb:=(yN.out.box _ bq).1;have p0:wb.cell? ⟨wr.heap.size,0,none⟩=some (.int .u64 (sn:Int)):=(hxb.cell 0).trans rfl;have p1:wb.cell? ⟨wr.heap.size,1,none⟩=some (.int .i64 sv2):=(hxb.cell 1).trans rfl;have aeR:mg<wb.heap.size:=bA DC hbb.size;have aht:=hxb.lt;obtain⟨kcv,ksv,kdv,kv1,kv2,kv3,kv4⟩:=yN.out.kin.gZ.ex;obtain⟨DX,DW,rfl,-,-⟩:=Own.form kv3;rw[Je.out]at kv2;have kv2':=kv2;have hk3:wb.cell? ⟨g.kb,3,none⟩=some (.slice DX L.length DW):=(kv2.cell 3).trans rfl;have aib:(wb.alloc (.cells #[.int .u64 gv,.int .i64 sv2] 127)).cell? ⟨g.kb,3,none⟩=some (.slice DX L.length DW):=((kv2.alloc _).cell 3).trans rfl;have Yp:=kv2.lt;obtain⟨i0,hi0,hz0,hz1,hz2⟩:=info_parts Gf;have yM:=ah hi0;have lJ:=ah hz0;have lI:=ah hz1;have kT:=ah hz2;have Ey:Hid (World.ownsRow (wb.alloc (.cells #[.int .u64 gv,.int .i64 sv2] 127)).drew 0 127 2 (.slice DX L.length DW) L.length (L.flatMap jS)):=dA (T:=fun _=>False) kv3.row ((Kept.refl _ _).alloc _).drew (fun _ _ q=>q)
       have LX:Hid (∀u∈[Value.int .u64 gv,.int .i64 sv2],u.oneCell'=true):=fun u hu=>by
        simp at hu;rcases hu with rfl|rfl<;>rfl
       have ED:Hid (∀w8,World.grownBy (wb.alloc (.cells #[.int .u64 gv,.int .i64 sv2] 127)).drew w8 (Value.slice DX L.length DW).ownBlock->aR w8 g.kb (pz g2 kcv (.slice DX L.length DW) kdv Kk.done) 88):=fun w8 hg=>(dG hg).blk ((kv2.alloc _).drew) (fun e=>by
        have e1:=kv3.tag _ e;have e2:=yN.out.kin.tags.kb;rw[Je.out]at e2;rw[e1]at e2;cases e2)
       have SX:=ah (And.intro kv1 (And.intro kv2 (And.intro kv3 kv4)));have hl8:L.length<8:=by omega
       have Qi:=ah hLl;clear kv1 kv2 kv2' kv3 kv4 hxb hwb hbb hms q0 q1 hi0 hz0 hz1 hz2 hLl
       go_region_law (first
        | (refine step_append_lies _ (by rfl) (.tmp 124) (.tmp 133) 78 (by rfl) 0 127 i0 _ 2 16 Tryz.underlying78 yM.out lJ.out lI.out kT.out rfl (by decide) (.slice DX L.length DW) L.length (L.flatMap jS) (by simp[Act.eval]) Ey.out ⟨wb.heap.size,0,none⟩ 1 1 [.int .u64 gv,.int .i64 sv2] (by simp[Act.eval]) rfl (World.news_of_block (aR.new wb #[.int .u64 gv,.int .i64 sv2] 127).drew) LX.out (by omega) (by unfold maxLen;omega) (by omega) (by simp) _ rfl ?_;intro g8 Lg w8 pE mI hg8 Bh;have OD:=ED.out w8 mI;have j3:w8.cell? ⟨g.kb,3,none⟩=some (.slice DX L.length DW):=(OD.cell 3).trans rfl
           have k3:w8.frozen? ⟨g.kb,3,none⟩=false:=OD.free 3))
       all_goals
        clear j3 k3 OD
        have hg9:(Value.slice DX L.length DW).ownBlock=some g8\/wb.heap.size<=g8:=by
         rcases hg8 with e|e
         ·exact .inl e
         ·right;rw[e];simp
        obtain⟨f1,f2⟩:=yN.out.kin.MZ yN.out.inv.nc (x:=(gv,sv2)) SX.out.1 (by rw[Je.out];exact SX.out.2.1) SX.out.2.2.1 SX.out.2.2.2 (((Kept.refl _ wb).alloc _).drew.trans (dG mI)) pE hg9 Bh sg3 hl8;rw[Je.out]at f1 f2;have hbi:BInv (g2.own g8 (0,7)) { Kk with slots:=L++[(gv,sv2)] }:=(yN.out.inv.own g8 (0,7) rfl Kk.eU).slots (L++[(gv,sv2)]);have Ua:=yN.out.step f1 hbi f2
        have HF:Hid (Qq w00 lo (cb,#[.int .i64 c.cores,.int .i64 c.frames,.int .i64 c.names,.slice (some ⟨sb,0,none⟩) c.slots.length sc,.slice oa c.objs.length oc],81) g c.slots Kk made (.slice (some ⟨mg,0,none⟩) made.length rc) (k+1) (w8.setCell ⟨g.kb,3,none⟩ (.slice (some ⟨g8,0,none⟩) (L.length+1) Lg))):=by
         refine⟨g2.own g8 (0,7),?_,Je.out⟩;rw[List.take_add_one,Lv.out];simp only[Option.toList_some,List.map_append,bW,List.map_nil];rw[<-HL.out,show(made.getD sl.1.toNat 0,sl.2)=(gv,sv2)by rw[Hxe.out,Hsv.out]];exact Ua.DY
        clear pE mI hg8 Bh hg9 f1 f2 hbi Ua;go_wp2_with fail
        go_roundw
        case rel=>exact⟨k+1,by omega,by go_num,HF⟩
        case measure=>simp[intOf];omega
      ·obtain rfl:k=c.slots.length:=by omega
       obtain⟨g2,hS,hkb⟩:=HI3.out;rw[List.take_length]at hS;have Bl:=(hS.box _ bq).1;have d0:wr.cell? ⟨cb,0,none⟩=some (.int .i64 c.cores):=(Bl.cell 0).trans rfl;obtain⟨cn,hcn⟩:∃cn:Nat,c.cores=(cn:Int):=⟨c.cores.toNat,by omega⟩;obtain⟨s0,hs0⟩:∃s0,c.slots[0]? = some s0:=⟨c.slots[0],by simp⟩;have Yc:(c.slots.getD 0 (0,0)).2=s0.2:=by simp[List.getD,hs0]
       have hs016:=HS.out s0 (bG hs0);obtain⟨K3,hK3⟩:∃K3:Km,K3={ Kk with slots:=c.slots.map fun s=>(made.getD s.1.toNat 0,s.2) }:=⟨_,rfl⟩;rw[<-hK3]at hS;have hs3:K3.slots=c.slots.map fun s=>(made.getD s.1.toNat 0,s.2):=by rw[hK3]
       have Yb:K3.slots.length=c.slots.length:=by rw[hs3,List.length_map]
       have hs30:K3.slots[0]? = some (made.getD s0.1.toNat 0,s0.2):=by rw[hs3,dF,hs0];rfl
       have yO:Hid (Qp w00 lo (cb,#[.int .i64 c.cores,.int .i64 c.frames,.int .i64 c.names,.slice sa c.slots.length sc,.slice oa c.objs.length oc],81) g K3 s0.2 0 wr g2 (.slice none 0 0)) :=
        ⟨hS.kin.toM hS.inv.nc,hS.inv,Own.nil _ _ _ _ _,hS.le,hS.eO,hS.free,hkb,Bl,(hS.box _ bq).2.1⟩
       have wM:=ah (And.intro hK3 (And.intro Yb (And.intro hs30 (And.intro Yc hs016))));have LJ:=ah hcn;clear hS hkb Bl hK3 hs3 Yb hs30 Yc hs0 hs016;rw[hcn]at d0;have acp:1<=cn/\cn<=4:=by omega
       clear hcn;go_wp2_with fail
       clear d0;go_loopw [140] (fun i wx=>∃k:Nat,k<=cn/\i=.int .i64 k/\∃g3 cv3,Hid (Qp w00 lo (cb,#[.int .i64 c.cores,.int .i64 c.frames,.int .i64 c.names,.slice sa c.slots.length sc,.slice oa c.objs.length oc],81) g K3 s0.2 k wx g3 cv3)) (fun i _=>cn-(intOf i).toNat)
       case atStart=>exact⟨0,Nat.zero_le _,rfl,_,_,yO⟩
       case round =>
        obtain⟨k,hkl,rfl,g3,cv3,HI4⟩:=hrel;by_cases UZ:k<cn
        ·obtain⟨s4,d4,kv2,kv3,kv4⟩:=HI4.out.kin.gZ
         obtain⟨Sg,Sd,rfl,ail,aik⟩:=Own.form HI4.out.own;obtain⟨sva,XA,rfl,-,-⟩:=Own.form kv3;obtain⟨Un,rfl,XT,XU⟩:=aJ.cells (aJ.own kv3.row) (by rw[wM.out.2.1];omega);rw[HI4.out.kb]at kv2;have hk2:wr.cell? ⟨g.kb,2,none⟩=some (.slice Sg k Sd):=(kv2.cell 2).trans rfl;have hk3:wr.cell? ⟨g.kb,3,none⟩=some (.slice (some ⟨Un,0,none⟩) K3.slots.length XA):=(kv2.cell 3).trans rfl;have Yp:=kv2.lt
         have hs01:wr.cell? ⟨Un,1,none⟩=some (.int .i64 s0.2):=XU 1 _ (by
          have:=gP jS 2 (fun _=>rfl) K3.slots 0 _ wM.out.2.2.1 1 (by omega);rw[Nat.zero_mul,Nat.zero_add]at this;rw[this];rfl)
         have XQ:0<K3.slots.length:=by rw[wM.out.2.1];omega
         have Zx:Hid (∀wz,wz=wr.drew->Calls Tryz.prog 66 #[.slice (some ⟨Un,0,none⟩) K3.slots.length XA] wz fun e w'=>∃v,e=.returned v/\(v=yx s0.2/\Below wr.drew.heap.size wr.drew w')):=fun wz ez=>by
          rw[ez];refine(Ld Un K3.slots.length XA s0.2 _ XQ (by rw[<-hs01];exact((aC _ wr).drew).cell (p:=⟨Un,1,none⟩) XT)).mono ?_;rintro e w' ⟨rfl,hb⟩;exact⟨_,rfl,rfl,hb⟩
         obtain⟨i0,hi0,hz0,hz1,hz2⟩:=info_parts KD;have yM:=ah hi0;have lJ:=ah hz0;have lI:=ah hz1;have kT:=ah hz2
         have LX:Hid (∀u∈yg s0.2,u.oneCell'=true):=fun u hu=>by
          unfold yg coreC at hu;simp only[List.mem_cons,List.not_mem_nil,or_false]at hu;rcases hu with rfl|rfl|rfl|rfl|rfl|rfl|rfl|rfl|rfl|rfl|rfl|rfl|rfl|rfl|rfl|rfl|rfl|rfl|rfl|rfl|rfl|rfl|rfl|rfl|rfl|rfl|rfl<;>rfl
         have Ey:Hid (∀w9,Below wr.drew.heap.size wr.drew w9->World.ownsRow (w9.alloc (.cells #[.int .i64 0,.int .i64 s0.2,.int .u64 0,.int .u64 0,.int .u64 0,.int .u64 0,.int .u64 0,.int .u64 0,.int .u64 0,.int .u64 0,.int .u64 0,.int .i64 0,.int .i64 0,.bool false,.int .i64 0,.int .i64 0,.bool false,.int .i64 0,.int .i64 0,.bool false,.int .i64 0,.int .i64 0,.bool false,.int .i64 0,.bool false,.int .u64 0,.int .u64 0] 162)) 0 162 27 (.slice Sg k Sd) k (oO s0.2 k)):=fun w9 hb=>dA (T:=fun _=>False) HI4.out.own.row ((((Kept.refl _ wr).drew).trans (Kept.of_below hb)).alloc _) (fun _ _ q=>q)
         have ED:Hid (∀w9 w8,Below wr.drew.heap.size wr.drew w9->World.grownBy (w9.alloc (.cells #[.int .i64 0,.int .i64 s0.2,.int .u64 0,.int .u64 0,.int .u64 0,.int .u64 0,.int .u64 0,.int .u64 0,.int .u64 0,.int .u64 0,.int .u64 0,.int .i64 0,.int .i64 0,.bool false,.int .i64 0,.int .i64 0,.bool false,.int .i64 0,.int .i64 0,.bool false,.int .i64 0,.int .i64 0,.bool false,.int .i64 0,.bool false,.int .u64 0,.int .u64 0] 162)) w8 (Value.slice Sg k Sd).ownBlock->aR w8 g.kb (pz g3 (.slice Sg k Sd) (.slice (some ⟨Un,0,none⟩) K3.slots.length XA) d4 K3.done) 88):=fun w9 w8 hb hg=>(dG hg).blk ((((kv2.drew).below hb kv2.drew.lt)).alloc _) (fun e=>by
          have e1:=HI4.out.own.tag _ e;have e2:=HI4.out.kin.tags.kb;rw[HI4.out.kb]at e2;rw[e1]at e2;cases e2)
         have TU:Hid (∀w9,Below wr.drew.heap.size wr.drew w9->w9.cell? ⟨g.kb,2,none⟩=some (.slice Sg k Sd)/\(w9.alloc (.cells #[.int .i64 0,.int .i64 s0.2,.int .u64 0,.int .u64 0,.int .u64 0,.int .u64 0,.int .u64 0,.int .u64 0,.int .u64 0,.int .u64 0,.int .u64 0,.int .i64 0,.int .i64 0,.bool false,.int .i64 0,.int .i64 0,.bool false,.int .i64 0,.int .i64 0,.bool false,.int .i64 0,.int .i64 0,.bool false,.int .i64 0,.bool false,.int .u64 0,.int .u64 0] 162)).cell? ⟨g.kb,2,none⟩=some (.slice Sg k Sd)):=fun w9 hb=>by
          have e:=(kv2.drew).below hb kv2.drew.lt;exact⟨(e.cell 2).trans rfl,((e.alloc _).cell 2).trans rfl⟩
         have hk4:k<=4:=by omega
         clear kv2 kv3 kv4 XU hi0 hz0 hz1 hz2;unfold yx at Zx;go_wp2_with fail
         go_region_law (first
          | (refine cB (by rfl) (bP (vs:=#[.slice (some ⟨Un,0,none⟩) K3.slots.length XA]) (by simp[Act.eval]) (bE Tryz.func66 (by kernel_rfl) rfl)) (Zx.out _ (by first|rfl|exact drew_eq _)) ?_;rintro v w9 ⟨rfl,hb9⟩;obtain⟨n2,n2a⟩:=TU.out w9 hb9)
          | (refine step_append_lies _ (by rfl) (.tmp 146) (.tmp 153) 86 (by rfl) 0 162 i0 _ 27 216 Tryz.underlying86 yM.out lJ.out lI.out kT.out rfl (by decide) (.slice Sg k Sd) k (oO s0.2 k) (by simp[Act.eval]) (Ey.out w9 hb9) ⟨w9.heap.size,0,none⟩ 1 1 (yg s0.2) (by simp[Act.eval]) rfl (World.news_of_block (aR.new w9 #[.int .i64 0,.int .i64 s0.2,.int .u64 0,.int .u64 0,.int .u64 0,.int .u64 0,.int .u64 0,.int .u64 0,.int .u64 0,.int .u64 0,.int .u64 0,.int .i64 0,.int .i64 0,.bool false,.int .i64 0,.int .i64 0,.bool false,.int .i64 0,.int .i64 0,.bool false,.int .i64 0,.int .i64 0,.bool false,.int .i64 0,.bool false,.int .u64 0,.int .u64 0] 162)) LX.out (by omega) (by unfold maxLen;omega) (by omega) (by simp) _ rfl ?_;intro g8 Lg w8 pE mI hg8 Bh;have OD:=ED.out w9 w8 hb9 mI;have j2:w8.cell? ⟨g.kb,2,none⟩=some (.slice Sg k Sd):=(OD.cell 2).trans rfl
             have k2:w8.frozen? ⟨g.kb,2,none⟩=false:=OD.free 2))
         all_goals
          clear j2 k2 OD n2 n2a;have hbz:wr.heap.size<=w9.heap.size:=by have:=hb9.size;rw[Aa]at this;exact this
          have hg9:(Value.slice Sg k Sd).ownBlock=some g8\/wr.heap.size<=g8:=by
           rcases hg8 with e|e
           ·exact .inl e
           ·right;rw[e,au];omega
          obtain⟨f1,f2,f3⟩:=HI4.out.kin.put HI4.out.own ((((Kept.refl _ wr).drew).trans (Kept.of_below hb9)).alloc _ |>.trans (dG mI)) pE hg9 Bh;rw[HI4.out.kb]at f1 f2 f3
          have HF:Hid (Qp w00 lo (cb,#[.int .i64 c.cores,.int .i64 c.frames,.int .i64 c.names,.slice sa c.slots.length sc,.slice oa c.objs.length oc],81) g K3 s0.2 (k+1) (w8.setCell ⟨g.kb,2,none⟩ (.slice (some ⟨g8,0,none⟩) (k+1) Lg)) (g3.own g8 (0,6)) (.slice (some ⟨g8,0,none⟩) (k+1) Lg)) :=
           ⟨f1,HI4.out.inv.own g8 (0,6) rfl K3.eU,f2,bD HI4.out.le f3.kept.size,HI4.out.eO.trans (f3.kept.below HI4.out.le (fun b hb q=>q (HI4.out.free b hb))),fun b hb=>f3.tag b (bA hb HI4.out.le) (HI4.out.free b hb),HI4.out.kb,f3.kept.blk HI4.out.box.1 (fun q=>q HI4.out.box.2),f3.tag _ HI4.out.box.1.lt HI4.out.box.2⟩
          clear pE mI hg8 Bh hg9 f1 f2 f3 hb9 hbz;go_wp2_with fail
          go_roundw
          case rel=>exact⟨k+1,by omega,by go_num,_,_,HF⟩
          case measure=>simp[intOf];omega
        ·obtain rfl:k=cn:=by omega
         go_wp2_with fail
         go_ret2
         obtain⟨b,hb⟩:=HI4.out.kin.done (n:=k) (left:=s0.2) acp (by rw[wM.out.2.1];omega) wM.out.2.2.2.2 HI4.out.own;have hbi:=HI4.out.inv.done (left:=s0.2) (n:=k) (b:=b)
         have e:({ K3 with nc:=k,cores:=fun _=>core0 s0.2 }:Km)=rV Kk c made:=by
          unfold rV;rw[wM.out.2.2.2.1,wM.out.1,LJ.out];rfl
         rw[e]at hb hbi;exact⟨rfl,HI4.out.eO,_,hb,hbi,HI4.out.kb,HI4.out.free⟩
end Go.Proofs.YtiadbhiadhgjkaaGreatDoor
