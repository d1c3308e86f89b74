import Derived.Test.YtiadbhiadhgjkaaGreatDoorZzWoHm
import Derived.Test.YtiadbhiadhgjkaaGreatDoorZzKq
set_option maxRecDepth 100000
set_option maxHeartbeats 4000000
namespace Go.Proofs.YtiadbhiadhgjkaaGreatDoor
open Go.RowKit
attribute [local irreducible] World.setCell World.alloc World.drew World.setRow Calls Code.wp
attribute [local go_sem] Oper.semAt_some
theorem rY{d:Nat}:∀{last:Nat} {l:List (Nat×Nat)},eP d last l=true->∀p∈l,last<p.1
 | _,[],_,p,hp=>by cases hp
 | last,q::r,h,p,hp=>by
  simp only[eP,aM,aY]at h;rcases List.mem_cons.1 hp with rfl|hp
  ·exact h.1.1
  ·exact Nat.lt_trans h.1.1 (rY h.2 p hp)
theorem iE{l:dn}(h:l.right=true):fV l:=by
 obtain⟨⟨d1,d4⟩,hn,hp⟩:=dn.gJ h;have h2:eP l.d 0 l.ps=true:=by unfold dn.right at h;simp only[aM]at h;exact h.2
 exact⟨by omega,by omega,fun p hm=>⟨by have:=rY h2 p hm;omega,by have:=(hp p hm).2;omega⟩⟩
theorem CB{l:dn}(h:l.right=true):l.rest.ps.length<=1000:=by
 have hn:=(dn.gJ h).2.1;have h1:l.rest.ps.length<=(nZ l l).length:=by unfold dn.rest dn.merge;exact List.length_filterMap_le _ _
 have h2:(nZ l l).length<=l.ps.length+l.ps.length:=kH _ _ _ _ _;omega
theorem Gu(x y z:Int)(sv ov:Value)(os:List dR)(i:Nat)(o:dR)(w:World)(hO:mO w ov os)(hi:os[i]? = some o)(hbd:o.bd)(hbo:∀p∈os,p.lab.ps.length<=1000)(hn:os.length<=100000) :
  Calls Tryz.prog 60 #[.agg #[.int .i64 x,.int .i64 y,.int .i64 z,sv,ov],.int .i64 (i:Int)] w fun e w'=>e=.returned (.bool (qZ os i o))/\Below w.heap.size w w':=by
 obtain⟨a,c,rfl,hc1,hc2⟩:=hO.form;have hlt:=(aW.1 hi).1;obtain⟨w1,hw1⟩:∃w1:World,w1=w.alloc (.cells #[.int .i64 x,.int .i64 y,.int .i64 z,sv,.slice a os.length c] 81):=⟨_,rfl⟩;obtain⟨xb,hxb⟩:∃xb,xb=w.heap.size:=⟨_,rfl⟩
 have HLh:Hid (∀h,jP os i o=some h->h.ps.length<=1000):=fun h e=>by
  unfold jP at e;split at e
  ·cases e;exact Nat.zero_le _
  split at e
  ·cases e
  split at e
  ·rename_i p hp
   split at e
   ·cases e;exact hbo p (bG hp)
   ·cases e
  ·cases e
 have HX:Hid (aR w1 xb #[.int .i64 x,.int .i64 y,.int .i64 z,sv,.slice a os.length c] 81):=by rw[hw1,hxb];exact aR.new _ _ _
 have HB1:Hid (Below w.heap.size w w1):=by rw[hw1];exact(aC _ w).alloc (aj _) _
 have HO1:=ah (hO.below HB1.out (aj _));obtain⟨b,s,rfl,hb,hV,hcell⟩:=HO1.out.at hi;obtain⟨la,lc,hls,hl1,hl2⟩:=aJ.form hV.lab;obtain⟨ca,cc,hlc,hc1',hc2'⟩:=aJ.form hV.gG;obtain⟨da,dc,hvd,hd1,hd2⟩:=aJ.form hV.data;obtain⟨ma,mc,Oa,hm1,hm2⟩:=aJ.form hV.maps;have q0:w1.cell? ⟨b,i*12,none⟩=some (.int .i64 o.kind):=by have:=hcell 0 (by omega);rw[Nat.add_zero]at this;rw[this];rfl
 have q1:w1.cell? ⟨b,i*12+1,none⟩=some (.int .i64 o.parent):=by rw[hcell 1 (by omega)];rfl
 have q2:w1.cell? ⟨b,i*12+2,none⟩=some (.int .i64 (o.lab.d:Nat)):=by rw[hcell 2 (by omega)];rfl
 have q3:w1.cell? ⟨b,i*12+3,none⟩=some (.slice la o.lab.ps.length lc):=by rw[hcell 3 (by omega),<-hls];rfl
 have q4:w1.cell? ⟨b,i*12+4,none⟩=some (.int .i64 (o.gG.d:Nat)):=by rw[hcell 4 (by omega)];rfl
 have q5:w1.cell? ⟨b,i*12+5,none⟩=some (.slice ca o.gG.ps.length cc):=by rw[hcell 5 (by omega),<-hlc];rfl
 have q6:w1.cell? ⟨b,i*12+6,none⟩=some (.int .i64 o.pages):=by rw[hcell 6 (by omega)];rfl
 have q7:w1.cell? ⟨b,i*12+7,none⟩=some (.int .i64 o.names):=by rw[hcell 7 (by omega)];rfl
 have q8:w1.cell? ⟨b,i*12+8,none⟩=some (.slice da o.data.length dc):=by rw[hcell 8 (by omega),<-hvd];rfl
 have q9:w1.cell? ⟨b,i*12+9,none⟩=some (.slice ma o.maps.length mc):=by rw[hcell 9 (by omega),<-Oa];rfl
 have q10:w1.cell? ⟨b,i*12+10,none⟩=some (.int .i64 o.space):=by rw[hcell 10 (by omega)];rfl
 have q11:w1.cell? ⟨b,i*12+11,none⟩=some (.int .i64 o.pc):=by rw[hcell 11 (by omega)];rfl
 obtain⟨w2,hw2⟩:∃w2:World,w2=w1.alloc (.cells #[.int .i64 o.kind,.int .i64 o.parent,.int .i64 (o.lab.d:Nat),.slice la o.lab.ps.length lc,.int .i64 (o.gG.d:Nat),.slice ca o.gG.ps.length cc,.int .i64 o.pages,.int .i64 o.names,.slice da o.data.length dc,.slice ma o.maps.length mc,.int .i64 o.space,.int .i64 o.pc] 120):=⟨_,rfl⟩;obtain⟨ob,ru⟩:∃ob,ob=w1.heap.size:=⟨_,rfl⟩;have Xi:Hid (aR w2 xb #[.int .i64 x,.int .i64 y,.int .i64 z,sv,.slice (some ⟨b,0,none⟩) os.length c] 81):=by rw[hw2];exact HX.out.alloc _
 have HE2:Hid (aR w2 ob #[.int .i64 o.kind,.int .i64 o.parent,.int .i64 (o.lab.d:Nat),.slice la o.lab.ps.length lc,.int .i64 (o.gG.d:Nat),.slice ca o.gG.ps.length cc,.int .i64 o.pages,.int .i64 o.names,.slice da o.data.length dc,.slice ma o.maps.length mc,.int .i64 o.space,.int .i64 o.pc] 120):=by rw[hw2,ru];exact aR.new _ _ _
 have Qn:Hid (Below w1.heap.size w1 w2):=by rw[hw2];exact(aC _ w1).alloc (aj _) _
 have HB2:=ah (aT HB1.out Qn.out);have qX:=ah (HO1.out.below Qn.out (aj _));have TV:=ah (hV.below Qn.out (aj _));have hcx:=HX.out.cell;have Vp:=Xi.out.cell;have hi':(i:Int)<os.length:=by omega
 have Hi:=ah hi;have HV:=ah hV;have wL:=ah hbd;have Zr:=ah hls;have Hlc:=ah hlc;have Hvd:=ah hvd;have Hvm:=ah Oa;clear hcell hV hO hi hbd hls hlc hvd Oa;go_enter Tryz.func60,Tryz.ntmps60
 go_upto_region 1 with fail
 rw[<-hw1,<-hxb];have Qx:=ah hxb;clear hw1 hxb;go_upto_region 2 with fail
 rw[<-hw2,<-ru];have PU:=ah ru;clear hw2 ru hcx q0 q1 q2 q3 q4 q5 q6 q7 q8 q9 q10 q11;go_wp2_with fail
 refine(Ol x y z sv _ os i o w2 qX.out Hi.out wL.out.p hn).mono ?_;rintro e w3 ⟨dv,ha,hl,hc,rfl,hh,hb3⟩;obtain⟨kb,hkb⟩:∃kb,kb=w3.heap.size:=⟨_,rfl⟩;obtain⟨w4,hw4⟩:∃w4:World,w4=w3.alloc (.cells #[.int .i64 dv,.slice ha hl hc] 43):=⟨_,rfl⟩;have HX4:Hid (aR w4 xb #[.int .i64 x,.int .i64 y,.int .i64 z,sv,.slice (some ⟨b,0,none⟩) os.length c] 81):=by rw[hw4];exact(aR.below Xi.out hb3 Xi.out.lt).alloc _
 have WG:Hid (aR w4 ob #[.int .i64 o.kind,.int .i64 o.parent,.int .i64 (o.lab.d:Nat),.slice la o.lab.ps.length lc,.int .i64 (o.gG.d:Nat),.slice ca o.gG.ps.length cc,.int .i64 o.pages,.int .i64 o.names,.slice da o.data.length dc,.slice ma o.maps.length mc,.int .i64 o.space,.int .i64 o.pc] 120):=by rw[hw4];exact(aR.below HE2.out hb3 HE2.out.lt).alloc _
 have Ib:Hid (aR w4 kb #[.int .i64 dv,.slice ha hl hc] 43):=by rw[hw4,hkb];exact aR.new _ _ _
 have Qm:Hid (Below w2.heap.size w2 w4):=by rw[hw4];exact hb3.alloc hb3.size _
 have yO:=ah (aT HB2.out Qm.out);have HV4:=ah (TV.out.below Qm.out (aj _));have BN:=ah (qX.out.below Qm.out (aj _))
 have HH4:Hid (∀h,jP os i o=some h->bU w4 (.agg #[.int .i64 dv,.slice ha hl hc]) h):=fun h e=>by
  rw[hw4];exact(hh h e).below ((aC _ w3).alloc (aj _) _) (aj _)
 go_upto_region 3 with fail
 rw[<-hw4,<-hkb];have Je:=ah hkb;clear hw4 hkb hh hb3
 have iR:Hid (∀w',Below w4.drew.heap.size w4.drew w'->w'.cell? ⟨ob,2,none⟩=some (.int .i64 (o.lab.d:Nat))/\w'.cell? ⟨ob,3,none⟩=some (.slice la o.lab.ps.length lc)/\w'.cell? ⟨kb,0,none⟩=some (.int .i64 dv)/\w'.cell? ⟨kb,1,none⟩=some (.slice ha hl hc)):=fun w' k=>by
  have h1:=aR.below WG.out.drew k WG.out.drew.lt;have h2:=aR.below Ib.out.drew k Ib.out.drew.lt;exact⟨h1.cell 2,h1.cell 3,h2.cell 0,h2.cell 1⟩
 have HLd:Hid (bg w4.drew (.slice la o.lab.ps.length lc) o.lab.ps):=by
  have:=HV4.out.lab;rw[Zr.out]at this;exact aJ.below this (aC _ w4).drew (aj _)
 have HD:Hid (Below w4.heap.size w4 w4.drew):=(aC _ w4).drew;have hr1:=iR.out _ (aC _ w4.drew);obtain⟨abO,abN,abM,abL⟩:=hr1;obtain⟨okB,Om⟩:∃b:Bool,(match jP os i o with|none=>false|some h=>o.lab.right&&h.leq o.lab.rest)=b:=⟨_,rfl⟩;have Lx:=ah Om;go_cut [7,34] (fun _ v wx=>v=.bool (!okB)/\Hid (Below w4.heap.size w4 wx))
 case first =>
  rcases hA:jP os i o with _|h
  ·have Hd:Hid (okB=false):=by show _=_;rw[<-Lx.out,hA]
   simp only[Option.isSome];clear hA Om;go_region
   all_goals
    go_wp2_with fail
    go_meet;exact⟨by rw[Hd.out];rfl,HD⟩
  simp only[Option.isSome];have hR1:=jD o.lab (by have:=wL.out.lab.1;omega) (fun p hp=>⟨(wL.out.lab.2.2 p hp).1,by have:=(wL.out.lab.2.2 p hp).2;omega⟩) (.agg #[.int .i64 (o.lab.d:Nat),.slice la o.lab.ps.length lc]) w4.drew ⟨_,rfl,(HLd.out)⟩;have HR1:Hid (Calls Tryz.prog 25 #[.agg #[.int .i64 (o.lab.d:Nat),.slice la o.lab.ps.length lc]] w4.drew fun e w'=>∃v,e=.returned v/\(v=.bool o.lab.right/\Below w4.drew.heap.size w4.drew w')):=hR1.mono fun e w' h=>⟨_,h.1,rfl,h.2⟩
  clear hR1
  cases hB:o.lab.right
  ·have Hd:Hid (okB=false):=by show _=_;rw[<-Lx.out,hA,hB];rfl
   clear hA Om;rw[hB]at HR1;first
   | go_region_law (refine iU (by rfl) (bP (vs:=#[.agg #[.int .i64 (o.lab.d:Nat),.slice la o.lab.ps.length lc]]) (by simp[Act.eval]) (bE Tryz.func25 (by kernel_rfl) rfl)) (HR1.out) ?_;rintro v w6 ⟨rfl,hb6⟩)
   | fail
   all_goals
    go_wp2_with fail
    go_meet;exact⟨by rw[Hd.out];rfl,ah (aT HD.out hb6)⟩
  rw[hB]at HR1
  have hR2:∀w',Below w4.drew.heap.size w4.drew w'->Calls Tryz.prog 27 #[.agg #[.int .i64 (o.lab.d:Nat),.slice la o.lab.ps.length lc]] w' fun e w''=>∃v,e=.returned v/\(bU w'' v o.lab.rest/\Below w'.heap.size w' w''):=fun w' k =>
   oD o.lab _ w' (iE hB) ⟨_,rfl,aJ.below HLd.out k (aj _)⟩
  have HR2:=ah hR2;have HHd:Hid (bU w4.drew (.agg #[.int .i64 dv,.slice ha hl hc]) h):=(HH4.out h hA).below HD.out (aj _)
  have YF:∀w' v,Below w4.drew.heap.size w4.drew w'->bU w' v o.lab.rest->Calls Tryz.prog 26 #[.agg #[.int .i64 dv,.slice ha hl hc],v] w' fun e w''=>∃u,e=.returned u/\(u=.bool (h.leq o.lab.rest)/\Below w'.heap.size w' w''):=fun w' v k hv =>
   (qN h o.lab.rest _ v w' (HHd.out.below k (aj _)) hv ⟨HLh.out h hA,CB hB⟩).mono fun e w' h=>⟨_,h.1,rfl,h.2⟩
  have HR3:=ah YF;have Hd:Hid (okB=h.leq o.lab.rest):=by show _=_;rw[<-Lx.out,hA,hB];rfl
  clear hR2 YF hA Om;first
  | go_region_law (first
   | (refine iU (by rfl) (bP (vs:=#[.agg #[.int .i64 (o.lab.d:Nat),.slice la o.lab.ps.length lc]]) (by simp[Act.eval]) (bE Tryz.func25 (by kernel_rfl) rfl)) (HR1.out) ?_;rintro v w6 ⟨rfl,hb6⟩;obtain⟨ahJ,ahI,ahH,ahG⟩:=iR.out _ hb6)
   | (refine iU (by rfl) (bP (vs:=#[.agg #[.int .i64 (o.lab.d:Nat),.slice la o.lab.ps.length lc]]) (by simp[Act.eval]) (bE Tryz.func27 (by kernel_rfl) rfl)) (HR2.out _ hb6) ?_;rintro v7 w7 ⟨hl7,hb7⟩;obtain⟨ahF,ahE,ahD,ahC⟩:=iR.out _ (aT hb6 hb7))
   | (refine iU (by rfl) (bP (vs:=#[.agg #[.int .i64 dv,.slice ha hl hc],v7]) (by simp[Act.eval]) (bE Tryz.func26 (by kernel_rfl) rfl)) (HR3.out _ _ (aT hb6 hb7) hl7) ?_;rintro v w8 ⟨rfl,hb8⟩))
  | fail
  all_goals
   go_wp2_with fail
   go_meet;exact⟨by rw[Hd.out],ah (aT HD.out (aT (aT hb6 hb7) hb8))⟩
 case rest =>
 rename World=>w8
 obtain⟨rfl,LW⟩:=hcut;clear Om
 cases okB
 ·have Hd:Hid (qZ os i o=false):=by
   show _=_
   unfold qZ;have hh:=Lx.out
   cases hA:jP os i o with
   | none=>rfl
   | some h =>
    rw[hA]at hh;show(o.lab.right&&(h.leq o.lab.rest&&_))=false
    rw[<-Bool.and_assoc];simp only at hh;rw[hh,Bool.false_and]
  go_wp2_with fail
  go_ret;exact⟨by rw[Hd.out];rfl,aT yO.out LW.out⟩
 all_goals
  have Ta:=ah (aR.below WG.out LW.out WG.out.lt);have SQ:=ah (aR.below HX4.out LW.out HX4.out.lt);have Xl:=ah (HV4.out.below LW.out (aj _));have Xj:=ah (aT yO.out LW.out)
  have pJ:Hid (qZ os i o=(if o.kind=1 then o.lab.plain&&decide (0<=o.pages/\o.pages<=4096/\0<=o.names/\o.names<=4194304)
   else if o.kind=2 then o.lab.plain&&decide (0<=o.pages/\o.pages<=16/\(o.data.length:Int)<=o.pages*64)
   else if o.kind=4 then o.lab.plain&&(jf o.maps&&o.maps.all fun m=>decide (m.seg<=(os.length:Int)))
   else if o.kind=3\/o.kind=5 then o.gG.right&&(o.lab.leq o.gG&&decide (0<=o.pc/\o.pc<262144/\0<=o.space/\o.space<=(os.length:Int)))
   else if o.kind=6 then o.lab.plain else false)):=by
   show _=_
   unfold qZ;have hh:=Lx.out
   cases hA:jP os i o with
   | none=>rw[hA]at hh;cases hh
   | some h =>
    rw[hA]at hh;show(o.lab.right&&(h.leq o.lab.rest&&_))=_
    rw[<-Bool.and_assoc];simp only at hh;rw[hh,Bool.true_and]
  have Hpl:=ah (yX o.lab (.agg #[.int .i64 (o.lab.d:Nat),.slice la o.lab.ps.length lc]) w8 ⟨_,rfl,by have:=Xl.out.lab;rw[Zr.out]at this;exact this⟩ wL.out.lab.2.1);have hE:=Ta.out.cell;have hX:=SQ.out.cell;have Hlen:Hid (o.data.length<=100000/\o.maps.length<=100000):=wL.out.ln;clear Lx LW yO WG HX4 HV4 BN qX TV HO1 HV HH4 iR HLd abO abN abM abL;by_cases k1:o.kind=1
  ·have XJ:(o.kind==1)=true:=by simp[k1]
   rw[aD k1]at pJ;clear k1;go_wp2_with fail
   refine Hpl.out.mono ?_;rintro e w9 ⟨rfl,hb9⟩;have rA:=ah (aT Xj.out hb9);have Qk:=ah (aR.below Ta.out hb9 Ta.out.lt);have Qb:=ah (aR.below SQ.out hb9 SQ.out.lt);have HV9:=ah (Xl.out.below hb9 (aj _));have YK:=Qk.out.cell;clear hE hb9
   cases hP:o.lab.plain
   ·go_wp2_with fail
    go_ret;exact⟨by rw[pJ.out,hP];rfl,rA.out⟩
   rw[hP,Bool.true_and]at pJ;have hcs:(0<=o.pages/\o.pages<=4096/\0<=o.names/\o.names<=4194304)\/(¬0<=o.pages)\/(0<=o.pages/\¬o.pages<=4096)\/(0<=o.pages/\o.pages<=4096/\¬0<=o.names)\/(0<=o.pages/\o.pages<=4096/\0<=o.names/\¬o.names<=4194304):=by omega
   rcases hcs with⟨c1,c2,c3,c4⟩|c1|⟨c1,c2⟩|⟨c1,c2,c3⟩|⟨c1,c2,c3,c4⟩
   all_goals
    go_wp2_with fail
    go_ret;first
    | (have Hd:qZ os i o=true:=by rw[pJ.out,bK (by omega)]
       exact⟨by rw[Hd];first|rfl|exact congrArg (fun b=>Ending.returned (Value.bool b)) (bK (by omega)),rA.out⟩)
    | (have Hd:qZ os i o=false:=by rw[pJ.out,aX (by omega)]
       exact⟨by rw[Hd];first|rfl|exact congrArg (fun b=>Ending.returned (Value.bool b)) (aX (by omega)),rA.out⟩)
  by_cases k2:o.kind=2
  ·have XJ:(o.kind==1)=false:=by simpa using k1
   have k2b:(o.kind==2)=true:=by simp[k2]
   rw[aA k1,aD k2]at pJ;clear k1 k2;go_wp2_with fail
   refine Hpl.out.mono ?_;rintro e w9 ⟨rfl,hb9⟩;have rA:=ah (aT Xj.out hb9);have Qk:=ah (aR.below Ta.out hb9 Ta.out.lt);have Qb:=ah (aR.below SQ.out hb9 SQ.out.lt);have HV9:=ah (Xl.out.below hb9 (aj _));have YK:=Qk.out.cell;clear hE hb9
   cases hP:o.lab.plain
   ·go_wp2_with fail
    go_ret;exact⟨by rw[pJ.out,hP];rfl,rA.out⟩
   rw[hP,Bool.true_and]at pJ;obtain⟨hdl,-⟩:=Hlen.out;have hcs:(0<=o.pages/\o.pages<=16)\/(¬0<=o.pages)\/(0<=o.pages/\¬o.pages<=16):=by omega
   rcases hcs with⟨c1,c2⟩|c1|⟨c1,c2⟩
   ·have hw:IntKind.i64.wrap (o.pages*64)=o.pages*64:=aV _ (by omega)
    rcases Decidable.em ((o.data.length:Int)<=o.pages*64)with c3|c3
    all_goals
     go_wp2_with fail
     go_ret;first
     | (have Hd:qZ os i o=true:=by rw[pJ.out,bK (by omega)]
        exact⟨by rw[Hd];first|rfl|exact congrArg (fun b=>Ending.returned (Value.bool b)) (bK (by omega)),rA.out⟩)
     | (have Hd:qZ os i o=false:=by rw[pJ.out,aX (by omega)]
        exact⟨by rw[Hd];first|rfl|exact congrArg (fun b=>Ending.returned (Value.bool b)) (aX (by omega)),rA.out⟩)
   all_goals
    go_wp2_with fail
    go_ret;first
    | (have Hd:qZ os i o=true:=by rw[pJ.out,bK (by omega)]
       exact⟨by rw[Hd];first|rfl|exact congrArg (fun b=>Ending.returned (Value.bool b)) (bK (by omega)),rA.out⟩)
    | (have Hd:qZ os i o=false:=by rw[pJ.out,aX (by omega)]
       exact⟨by rw[Hd];first|rfl|exact congrArg (fun b=>Ending.returned (Value.bool b)) (aX (by omega)),rA.out⟩)
  by_cases k4:o.kind=4
  ·have XJ:(o.kind==1)=false:=by simpa using k1
   have k2b:(o.kind==2)=false:=by simpa using k2
   have k4b:(o.kind==4)=true:=by simp[k4]
   rw[aA k1,aA k2,aD k4]at pJ;clear k1 k2 k4;go_wp2_with fail
   refine Hpl.out.mono ?_;rintro e w9 ⟨rfl,hb9⟩;have rA:=ah (aT Xj.out hb9);have Qk:=ah (aR.below Ta.out hb9 Ta.out.lt);have Qb:=ah (aR.below SQ.out hb9 SQ.out.lt);have HV9:=ah (Xl.out.below hb9 (aj _));have YK:=Qk.out.cell;clear hE hb9
   cases hP:o.lab.plain
   ·go_wp2_with fail
    go_ret;exact⟨by rw[pJ.out,hP];rfl,rA.out⟩
   rw[hP,Bool.true_and]at pJ;have HMs:Hid (iM w9 (.slice ma o.maps.length mc) o.maps):=by have:=HV9.out.maps;rw[Hvm.out]at this;exact this
   have Hmr:=ah (Ki o.maps _ w9 HMs.out wL.out.ms Hlen.out.2);go_wp2_with fail
   refine Hmr.out.mono ?_;rintro e w10 ⟨rfl,hb10⟩;have EJ:=ah (aT rA.out hb10);have acR:=(aR.below Qk.out hb10 Qk.out.lt).cell;have acC:=(aR.below Qb.out hb10 Qb.out.lt).cell;have TP:=ah (MO x y z sv (some ⟨b,0,none⟩) os.length c hn o.maps (.slice ma o.maps.length mc) w10 (aJ.below HMs.out hb10 (aj _)) wL.out.ms Hlen.out.2);clear YK hb10
   cases hQ:jf o.maps
   ·go_wp2_with fail
    go_ret;exact⟨by rw[pJ.out,hQ];rfl,EJ.out⟩
   rw[hQ,Bool.true_and]at pJ;go_wp2_with fail
   refine TP.out.mono ?_;rintro e w11 ⟨rfl,hb11⟩;go_wp2_with fail
   go_ret;exact⟨by rw[pJ.out];rfl,aT EJ.out hb11⟩
  by_cases k3:o.kind=3\/o.kind=5
  ·have XJ:(o.kind==1)=false:=by simpa using k1
   have k2b:(o.kind==2)=false:=by simpa using k2
   have k4b:(o.kind==4)=false:=by simpa using k4
   rw[aA k1,aA k2,aA k4,aD k3]at pJ;have HC8:Hid (bg w8 (.slice ca o.gG.ps.length cc) o.gG.ps):=by have:=Xl.out.gG;rw[Hlc.out]at this;exact this
   have HL8:Hid (bg w8 (.slice la o.lab.ps.length lc) o.lab.ps):=by have:=Xl.out.lab;rw[Zr.out]at this;exact this
   have Hcr:=ah (jD o.gG (by have:=wL.out.gG.1;omega) (fun p hp=>⟨(wL.out.gG.2.2 p hp).1,by have:=(wL.out.gG.2.2 p hp).2;omega⟩) (.agg #[.int .i64 (o.gG.d:Nat),.slice ca o.gG.ps.length cc]) w8 ⟨_,rfl,HC8.out⟩)
   have hk:(o.kind=3/\(o.kind==3)=true)\/((o.kind==3)=false/\(o.kind==5)=true):=by
    rcases Decidable.em (o.kind=3)with h|h
    ·exact .inl ⟨h,by simp[h]⟩
    ·exact .inr ⟨by simpa using h,by rcases k3 with h'|h';exact absurd h' h;simp[h']⟩
   clear k1 k2 k4 k3;rcases hk with⟨-,k3⟩|⟨k3,k5⟩
   all_goals
    go_wp2_with fail
    refine Hcr.out.mono ?_;rintro e w9 ⟨rfl,hb9⟩;have rA:=ah (aT Xj.out hb9);have Qk:=ah (aR.below Ta.out hb9 Ta.out.lt);have Qb:=ah (aR.below SQ.out hb9 SQ.out.lt);have YK:=Qk.out.cell
    cases hQ:o.gG.right
    ·go_wp2_with fail
     go_ret;exact⟨by rw[pJ.out,hQ];rfl,rA.out⟩
    rw[hQ,Bool.true_and]at pJ;have Hlq:=ah (qN o.lab o.gG (.agg #[.int .i64 (o.lab.d:Nat),.slice la o.lab.ps.length lc]) (.agg #[.int .i64 (o.gG.d:Nat),.slice ca o.gG.ps.length cc]) w9 ⟨_,rfl,aJ.below HL8.out hb9 (aj _)⟩ ⟨_,rfl,aJ.below HC8.out hb9 (aj _)⟩ ⟨wL.out.lab.2.1,wL.out.gG.2.1⟩);clear hb9;go_wp2_with fail
    refine Hlq.out.mono ?_;rintro e w10 ⟨rfl,hb10⟩;have EJ:=ah (aT rA.out hb10);have acR:=(aR.below Qk.out hb10 Qk.out.lt).cell;have acC:=(aR.below Qb.out hb10 Qb.out.lt).cell;clear YK hb10
    cases hR:o.lab.leq o.gG
    ·go_wp2_with fail
     go_ret;exact⟨by rw[pJ.out,hR];rfl,EJ.out⟩
    rw[hR,Bool.true_and]at pJ;have hcs:(0<=o.pc/\o.pc<262144/\0<=o.space/\o.space<=(os.length:Int))\/(¬0<=o.pc)\/(0<=o.pc/\¬o.pc<262144)\/(0<=o.pc/\o.pc<262144/\¬0<=o.space)\/(0<=o.pc/\o.pc<262144/\0<=o.space/\¬o.space<=(os.length:Int)):=by omega
    have rA:=EJ;rcases hcs with⟨c1,c2,c3,c4⟩|c1|⟨c1,c2⟩|⟨c1,c2,c3⟩|⟨c1,c2,c3,c4⟩
    all_goals
     go_wp2_with fail
     go_ret;first
     | (have Hd:qZ os i o=true:=by rw[pJ.out,bK (by omega)]
        exact⟨by rw[Hd];first|rfl|exact congrArg (fun b=>Ending.returned (Value.bool b)) (bK (by omega)),rA.out⟩)
     | (have Hd:qZ os i o=false:=by rw[pJ.out,aX (by omega)]
        exact⟨by rw[Hd];first|rfl|exact congrArg (fun b=>Ending.returned (Value.bool b)) (aX (by omega)),rA.out⟩)
  by_cases k6:o.kind=6
  ·have XJ:(o.kind==1)=false:=by simpa using k1
   have k2b:(o.kind==2)=false:=by simpa using k2
   have k4b:(o.kind==4)=false:=by simpa using k4
   have k3b:(o.kind==3)=false:=by simp;exact fun h=>k3 (.inl h)
   have k5b:(o.kind==5)=false:=by simp;exact fun h=>k3 (.inr h)
   have k6b:(o.kind==6)=true:=by simp[k6]
   rw[aA k1,aA k2,aA k4,aA k3,aD k6]at pJ;clear k1 k2 k4 k3 k6;go_wp2_with fail
   refine Hpl.out.mono ?_;rintro e w9 ⟨rfl,hb9⟩;go_wp2_with fail
   go_ret;exact⟨by rw[pJ.out];rfl,aT Xj.out hb9⟩
  ·have XJ:(o.kind==1)=false:=by simpa using k1
   have k2b:(o.kind==2)=false:=by simpa using k2
   have k4b:(o.kind==4)=false:=by simpa using k4
   have k3b:(o.kind==3)=false:=by simp;exact fun h=>k3 (.inl h)
   have k5b:(o.kind==5)=false:=by simp;exact fun h=>k3 (.inr h)
   have k6b:(o.kind==6)=false:=by simpa using k6
   rw[aA k1,aA k2,aA k4,aA k3,aA k6]at pJ;clear k1 k2 k4 k3 k6;go_wp2_with fail
   go_ret;exact⟨by rw[pJ.out];rfl,Xj.out⟩
end Go.Proofs.YtiadbhiadhgjkaaGreatDoor
