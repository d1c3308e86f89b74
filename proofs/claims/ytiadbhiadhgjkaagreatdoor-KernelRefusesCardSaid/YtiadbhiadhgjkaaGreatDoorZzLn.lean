import Derived.Test.YtiadbhiadhgjkaaGreatDoorZzKn
import Derived.Test.YtiadbhiadhgjkaaGreatDoorZzKw
import Derived.StillTailTactics
set_option maxRecDepth 100000
set_option maxHeartbeats 4000000
namespace Go.Proofs.YtiadbhiadhgjkaaGreatDoor
open Go.RowKit
attribute [local irreducible] World.setCell World.alloc World.drew World.setRow Calls Code.wp
theorem nM{c:mU}{K:Km}(h:tu c=some K):c.right=true/\∃K1 made K2,gF (km0 c) [1] c.objs=some (K1,made)/\iH K1 made c.cores 0 c.objs=some K2 /\
  c.slots.all (fun s=>decide (0<=s.1/\s.1<(made.length:Int)))=true/\K=rV K2 c made:=by
 unfold tu at h;split at h
 ·rename_i hr
  split at h
  ·cases h
  ·rename_i K1 made h1
   split at h
   ·cases h
   ·rename_i K2 h2
    split at h
    ·rename_i h3
     cases h;exact⟨hr,K1,made,K2,h1,h2,h3,rfl⟩
    ·cases h
 ·cases h
theorem gJ{c:mU}(h:c.right=true):(1<=c.cores/\c.cores<=4)/\(1<=c.frames/\c.frames<=4096/\0<=c.names/\c.names<=4194302)/\c.objs.length<=64/\(1<=c.slots.length/\c.slots.length<=8)/\∀s∈c.slots,1<=s.2/\s.2<=16:=by
 simp only[mU.right,gH,aM,aY,List.all_eq_true]at h;obtain⟨⟨h1,h2,h3,h4,h5,h6,h7⟩,⟨h8,h9⟩,-⟩:=h;exact⟨⟨h1,h2⟩,⟨h3,h4,h5,h6⟩,h7,h9,h8⟩
def zK(c:mU)(u:Int):Ob:={ ob0 1 1 ⟨2,[]⟩ 0 with purse:=⟨c.frames,u,0⟩,names:=⟨2,2,2+c.names⟩ }
theorem Dv(w:World)(c:mU)(v:Value)(K:Km)(hc:rU w v c)(hbd:c.bd)(hK:tu c=some K) :
  Calls Tryz.prog 17 #[v] w fun e w'=>∃kb,e=.returned (.tuple #[.pointer (some ⟨kb,0,none⟩),.int .i64 0])/\Below w.heap.size w w'/\∃g,cZ w' g K/\Inv g K/\g.kb=kb/\∀b,b<w.heap.size->g.A b=none:=by
 have HC:=ah hc;obtain⟨hr,K1,made,K2,h1,h2,h3,rfl⟩:=nM hK;obtain⟨rc,rf,ro,rs,rs2⟩:=gJ hr;have HR:=ah hr;have H1:=ah h1;have H2:=ah h2;have H3:=ah h3;have HS:=ah rs2;have QC:=ah hbd;obtain⟨sv,ov,rfl,hs,ho⟩:=hc;obtain⟨sa,sc,rfl,-,-⟩:=aJ.form hs;obtain⟨oa,oc,rfl,-,-⟩:=ho.form;obtain⟨fn,hfn⟩:∃fn:Nat,c.frames=(fn:Int):=⟨c.frames.toNat,by omega⟩;have ZY:=ah hfn;clear hfn;obtain⟨cb,hcb⟩:∃cb,cb=w.heap.size:=⟨_,rfl⟩;have hBx:aR (w.alloc (.cells #[.int .i64 c.cores,.int .i64 c.frames,.int .i64 c.names,.slice sa c.slots.length sc,.slice oa c.objs.length oc] 81)) cb #[.int .i64 c.cores,.int .i64 c.frames,.int .i64 c.names,.slice sa c.slots.length sc,.slice oa c.objs.length oc] 81:=by rw[hcb];exact aR.new _ _ _
 have Hb0:Hid (Below w.heap.size w (w.alloc (.cells #[.int .i64 c.cores,.int .i64 c.frames,.int .i64 c.names,.slice sa c.slots.length sc,.slice oa c.objs.length oc] 81))):=ah ((aC _ w).alloc (aj _) _);have HRt:=ah (zl _ _ _ (HC.out.below Hb0.out (aj _)) hbd);have HBx:=ah hBx;clear hs ho h1 h2 h3 hr rs2 hbd hK hBx;go_enter Tryz.func17,Tryz.ntmps17
 go_wp2_with fail
 rw[<-hcb];clear hcb;refine HRt.out.mono ?_;rintro e w1 ⟨rfl,hb1⟩;rw[HR.out];have HB1:Hid (Below w.heap.size w w1):=aT Hb0.out hb1;have hBx1:=aR.below HBx.out hb1 HBx.out.lt;have hlt1:=hBx1.lt;have k1:w1.cell? ⟨cb,1,none⟩=some (.int .i64 c.frames):=(hBx1.cell 1).trans rfl;have aeB:=ah hBx1
 have Hct:Hid (∀wz,wz=w1.drew->Calls Tryz.prog 33 #[] wz fun e w'=>∃v,e=.returned v/\(v=.pointer (some ⟨w1.heap.size+1,0,none⟩)/\aR w' (w1.heap.size+1) #[.map (some w1.heap.size)] 137/\MapAt w' w1.heap.size []/\Below w1.heap.size w1 w')):=fun wz ez=>by
  rw[ez];refine(Mr _).mono ?_;rintro e w' ⟨rfl,t1,t2,t3⟩;rw[cK]at t1 t2 t3;refine⟨_,rfl,by rw[cK],t1,t2,(aC _ w1).drew.trans t3⟩
 have Hcf:Hid (∀w',Calls Tryz.prog 34 #[.int .i64 c.frames] w' fun e w''=>∃v,e=.returned v/\∃pb db ob,v=.pointer (some ⟨pb,0,none⟩)/\bB w'' pb db ob (fD fn)/\w'.heap.size<=pb/\w'.heap.size<=db/\w'.heap.size<=ob/\Below w'.heap.size w' w''):=fun w'=>by
  rw[ZY.out];have h:=ZY.out;refine(Rj fn w' (by omega) (by omega)).mono ?_;rintro e w'' ⟨pb,db,ob,rfl,t⟩;exact⟨_,rfl,pb,db,ob,rfl,t⟩
 clear hb1 hBx1;go_upto_region 3 with fail
 go_cut [4] (fun k wx=>∃kb tb mb pb db ob,k=.pointer (some ⟨kb,0,none⟩)/\Hid (mP w cb #[.int .i64 c.cores,.int .i64 c.frames,.int .i64 c.names,.slice sa c.slots.length sc,.slice oa c.objs.length oc] kb tb mb pb db ob (fD fn) [] wx))
 case first =>
  go_region_law (first
   | (refine cB (by rfl) (bP (vs:=#[]) (by simp) (bE Tryz.func33 (by kernel_rfl) rfl)) (Hct.out _ (by first|rfl|exact drew_eq w1)) ?_;rintro v w2 ⟨rfl,DJ,hM2,hb2⟩;have k2:w2.cell? ⟨cb,1,none⟩=some (.int .i64 c.frames):=(hb2.cell (p:=⟨cb,1,none⟩) hlt1).trans k1)
   | (refine cB (by rfl) (bP (vs:=#[.int .i64 c.frames]) (by simp[Act.eval]) (bE Tryz.func34 (by kernel_rfl) rfl)) (Hcf.out _) ?_;rintro v w3 ⟨pb,db,ob,rfl,hP3,q1,q2,q3,hb3⟩))
  all_goals
   have HG3:Hid (mP w cb #[.int .i64 c.cores,.int .i64 c.frames,.int .i64 c.names,.slice sa c.slots.length sc,.slice oa c.objs.length oc] w3.heap.size (w1.heap.size+1) w1.heap.size pb db ob (fD fn) [] (w3.alloc (.cells #[.pointer (some ⟨w1.heap.size+1,0,none⟩),.pointer (some ⟨pb,0,none⟩),.slice none 0 0,.slice none 0 0,.slice none 0 0,.bool false] 88))):=by
    have s1:=HB1.out.size;have s2:=hb2.size;have s3:=hb3.size;have b2:Below w.heap.size w w2:=aT HB1.out hb2;exact⟨aR.new _ _ _,(DJ.below hb3 DJ.lt).alloc _,(hM2.below hb3 (map_lt hM2)).alloc _,hP3.below ((aC _ _).alloc (aj _) _),((aeB.out.below hb2 hlt1).below hb3 (by have:=s2;omega)).alloc _,(aT b2 hb3).trans ((aC _ w3).alloc (by omega) _),by omega,by omega,by omega,by omega,by omega,by omega⟩
   clear k2 DJ hM2 hb2 hP3 q1 q2 q3 hb3;go_wp2_with fail
   go_meet;exact⟨_,_,_,_,_,_,rfl,HG3⟩
 case rest =>
  rename World=>w4
  obtain⟨kb,tb,mb,pb,db,ob,rfl,HG3⟩:=hcut;have k4:w4.cell? ⟨cb,2,none⟩=some (.int .i64 c.names):=(HG3.out.box.cell 2).trans rfl;have LJ:Hid (Calls Tryz.prog 35 #[.int .u64 2,.int .i64 c.names] w4 fun e w'=>e=.returned (.tuple #[.agg #[.int .u64 2,.int .u64 2,.int .u64 (2+c.names)],.bool true])/\Below w4.heap.size w4 w'):=Ny 2 c.names w4 (by omega) (by omega);go_wp2_with fail
  refine LJ.out.mono ?_;rintro e w5 ⟨rfl,hb5⟩;have HG5:=ah (HG3.out.below hb5);clear hb5 k4;go_wp2_with fail
  have HG6:=ah (HG5.out.below ((aC _ w5).alloc (aj _) (.cells #[.int .u64 2,.int .u64 2,.int .u64 (2+c.names)] 58)));have HR6:=ah (aR.new w5 #[.int .u64 2,.int .u64 2,.int .u64 (2+c.names)] 58);generalize hg1:w5.alloc (.cells #[.int .u64 2,.int .u64 2,.int .u64 (2+c.names)] 58)=w6 at *;generalize hg2:w5.heap.size=gb at *;clear hg1 hg2;have hcl:=HG6.out.box.lt;have hgl:=HR6.out.lt;have j1:w6.cell? ⟨cb,1,none⟩=some (.int .i64 c.frames):=(HG6.out.box.cell 1).trans rfl;have g0:w6.cell? ⟨gb,0,none⟩=some (.int .u64 2):=(HR6.out.cell 0).trans rfl;have g1:w6.cell? ⟨gb,1,none⟩=some (.int .u64 2):=(HR6.out.cell 1).trans rfl;have g2:w6.cell? ⟨gb,2,none⟩=some (.int .u64 (2+c.names)):=(HR6.out.cell 2).trans rfl
  have SI:Hid (∀wz,wz=w6.drew->Calls Tryz.prog 22 #[.int .i64 2] wz fun e w'=>∃v,e=.returned v/\(v=.agg #[.int .i64 2,.slice none 0 0]/\Below w6.heap.size w6 w')):=fun wz ez=>by
   rw[ez];refine(oI 2 _).mono ?_;rintro e w' ⟨rfl,t1⟩;rw[cK]at t1;exact⟨_,rfl,rfl,(aC _ w6).drew.trans t1⟩
  go_cut [7] (fun r wx=>∃rb,r=.pointer (some ⟨rb,0,none⟩)/\Hid (mP w cb #[.int .i64 c.cores,.int .i64 c.frames,.int .i64 c.names,.slice sa c.slots.length sc,.slice oa c.objs.length oc] kb tb mb pb db ob (fD fn) [] wx)/\Hid (aR wx rb (jO (zK c 0) (fJ fB fB) 0 (.pointer none)) 68)/\Hid (w.heap.size<=rb/\pb<rb/\db<rb/\ob<rb))
  case first =>
   go_region_law (refine cB (by rfl) (bP (vs:=#[.int .i64 2]) (by simp[Act.eval]) (bE Tryz.func22 (by kernel_rfl) rfl)) (SI.out _ (by first|rfl|exact drew_eq w6)) ?_;rintro v w7 ⟨rfl,hb7⟩;have i1:w7.cell? ⟨cb,1,none⟩=some (.int .i64 c.frames):=(hb7.cell (p:=⟨cb,1,none⟩) hcl).trans j1;have l0:w7.cell? ⟨gb,0,none⟩=some (.int .u64 2):=(hb7.cell (p:=⟨gb,0,none⟩) hgl).trans g0;have l1:w7.cell? ⟨gb,1,none⟩=some (.int .u64 2):=(hb7.cell (p:=⟨gb,1,none⟩) hgl).trans g1;have l2:w7.cell? ⟨gb,2,none⟩=some (.int .u64 (2+c.names)):=(hb7.cell (p:=⟨gb,2,none⟩) hgl).trans g2)
   all_goals
    have Xv:=HG6.out.below hb7;have HF:=And.intro (Xv.below ((aC _ w7).alloc (aj _) (.cells (jO (zK c 0) (fJ fB fB) 0 (.pointer none)) 68))) (And.intro (aR.new w7 (jO (zK c 0) (fJ fB fB) 0 (.pointer none)) 68) (And.intro Xv.eO.size (And.intro Xv.pool.hp.lt (And.intro Xv.pool.hd.lt Xv.pool.ho.lt))));have HFF:=ah HF;clear i1 l0 l1 l2 j1 g0 g1 g2 Xv HF;go_wp2_with fail
    go_meet;exact⟨_,rfl,HFF.out.1,HFF.out.2.1,HFF.out.2.2⟩
  case rest =>
   rename World=>w8
   obtain⟨rb,rfl,Al,LW,HL8⟩:=hcut;obtain⟨lo1,lo2,lo3,lo4⟩:=HL8.out;have e0:w8.cell? ⟨kb,0,none⟩=some (.pointer (some ⟨tb,0,none⟩)):=(Al.out.gZ.cell 0).trans rfl
   have Zz:Hid (Calls Tryz.prog 36 #[.pointer (some ⟨tb,0,none⟩),.pointer (some ⟨rb,0,none⟩)] w8 fun e w'=>e=.returned (.bool true)/\(mP w cb #[.int .i64 c.cores,.int .i64 c.frames,.int .i64 c.names,.slice sa c.slots.length sc,.slice oa c.objs.length oc] kb tb mb pb db ob (fD fn) [(1,.pointer (some ⟨rb,0,none⟩))] w'/\aR w' rb (jO (zK c 0) (fJ fB fB) 0 (.pointer none)) 68)):=by
    refine(PE tb mb rb w8 Al.out.tab Al.out.map ((LW.out.cell 2).trans rfl) ((LW.out.cell 6).trans rfl)).mono ?_;rintro e w' ⟨rfl,t1,t2⟩;have m1:=iL Al.out.gZ Al.out.map;have m2:=iL Al.out.tab Al.out.map;have m3:=iL Al.out.box Al.out.map;have m4:=iL Al.out.pool.hp Al.out.map;have m5:=iL Al.out.pool.hd Al.out.map;have m6:=iL Al.out.pool.ho Al.out.map;have hl:=Al.out.lo;exact⟨rfl,Al.out.wrote t2 m1 m2 m3 (fun b hb q=>by subst q;omega) t1 (Al.out.pool.kept t2 m4 m5 m6),t2.blk LW.out (iL LW.out Al.out.map)⟩
   clear HL8;go_wp2_with fail
   refine Zz.out.mono ?_;rintro e w9 ⟨rfl,hG9,hB9⟩;have SY:=ah hG9;have rA:=ah hB9;clear hG9 hB9 e0 Zz Al LW;go_wp2_with fail
   have RH:c.frames=fn:=ZY.out;refine(nI ⟨c.frames,0,0⟩ 1 rb 9 _ _ w9 rA.out (kF _ _ _ _) ⟨⟨by show(-1099511627776:Int)<=c.frames;omega,by show c.frames<=1099511627776;omega⟩,⟨by show(-1099511627776:Int)<=0;decide,by show(0:Int)<=1099511627776;decide⟩,by show(-1099511627776:Int)<=0;decide,by show(0:Int)<=1099511627776;decide⟩ ⟨by decide,by show(1:Int)<=c.frames-0-0;omega⟩).mono ?_;clear RH;rintro e w10 ⟨rfl,hP⟩;obtain⟨cs',p1,p2,p3,p4,-⟩:=hP;rw[tq p2 p3]at p1;have EJ:Hid (aR w10 rb (jO (zK c 1) (fJ fB fB) 0 (.pointer none)) 68):=p1
   have oV:Hid (mP w cb #[.int .i64 c.cores,.int .i64 c.frames,.int .i64 c.names,.slice sa c.slots.length sc,.slice oa c.objs.length oc] kb tb mb pb db ob (fD fn) [(1,.pointer (some ⟨rb,0,none⟩))] w10):=by
    have hd:=SY.out.pool.hd.lt;exact SY.out.wrote p4 (fK SY.out.gZ rA.out (by decide)) (fK SY.out.tab rA.out (by decide)) (fK SY.out.box rA.out (by decide)) (fun b hb q=>by subst q;omega) (SY.out.map.kept p4 (fun q=>iL rA.out SY.out.map q.symm)) (SY.out.pool.kept p4 (by omega) (by omega) (by omega))
   clear p1 p2 p3 p4 SY rA;have e1:w10.cell? ⟨kb,1,none⟩=some (.pointer (some ⟨pb,0,none⟩)):=(oV.out.gZ.cell 1).trans rfl;go_wp2_with fail
   refine(jk pb db ob (fD fn) 1 w10 oV.out.pool).mono ?_;rintro e w11 ⟨rfl,hP,hk⟩;generalize KH:(fD fn).bJ 1=fv;have EI:Hid (aR w11 rb (jO (zK c 1) (fJ fB fB) 0 (.pointer none)) 68):=hk.blk EJ.out (by unfold PS;omega)
   have EH:Hid (mP w cb #[.int .i64 c.cores,.int .i64 c.frames,.int .i64 c.names,.slice sa c.slots.length sc,.slice oa c.objs.length oc] kb tb mb pb db ob ((fD fn).alloc 1) [(1,.pointer (some ⟨rb,0,none⟩))] w11):=by
    have hp:=oV.out.pool;have hl:=oV.out.lo;refine oV.out.wrote hk ?_ ?_ ?_ (fun b hb q=>by unfold PS at q;omega) (oV.out.map.kept hk ?_) hP
    ·rintro(q|q|q)
     ·exact fK oV.out.gZ hp.hp (by decide) q
     ·exact fK oV.out.gZ hp.hd (by decide) q
     ·exact fK oV.out.gZ hp.ho (by decide) q
    ·rintro(q|q|q)
     ·exact fK oV.out.tab hp.hp (by decide) q
     ·exact fK oV.out.tab hp.hd (by decide) q
     ·exact fK oV.out.tab hp.ho (by decide) q
    ·rintro(q|q|q)
     ·exact fK oV.out.box hp.hp (by decide) q
     ·exact fK oV.out.box hp.hd (by decide) q
     ·exact fK oV.out.box hp.ho (by decide) q
    ·rintro(q|q|q)
     ·exact iL hp.hp oV.out.map q.symm
     ·exact iL hp.hd oV.out.map q.symm
     ·exact iL hp.ho oV.out.map q.symm
   have x8:w11.cell? ⟨rb,8,none⟩=some (.int .i64 0):=(EI.out.cell 8).trans rfl;have f8:w11.frozen? ⟨rb,8,none⟩=false:=EI.out.free 8;clear hP hk KH oV EJ e1;have hk12:Kept (·=rb) w11 (w11.setCell ⟨rb,8,none⟩ (.int .i64 fv)):=(Kept.refl (·=rb) w11).bC rb 8 _ rfl;have Qn:Hid (aR (w11.setCell ⟨rb,8,none⟩ (.int .i64 fv)) rb (jO (xk c) (fJ fB fB) fv (.pointer none)) 68):=(EI.out.set 8 (.int .i64 fv)).cells rfl
   have uE:Hid (mP w cb #[.int .i64 c.cores,.int .i64 c.frames,.int .i64 c.names,.slice sa c.slots.length sc,.slice oa c.objs.length oc] kb tb mb pb db ob ((fD fn).alloc 1) [(1,.pointer (some ⟨rb,0,none⟩))] (w11.setCell ⟨rb,8,none⟩ (.int .i64 fv))):=by
    exact EH.out.wrote hk12 (fK EH.out.gZ EI.out (by decide)) (fK EH.out.tab EI.out (by decide)) (fK EH.out.box EI.out (by decide)) (fun b hb q=>by subst q;omega) (EH.out.map.kept hk12 (fun q=>iL EI.out EH.out.map q.symm)) (EH.out.pool.kept hk12 (by omega) (by omega) (by omega))
   clear hk12;go_upto_region 10 with fail
   generalize hw12:w11.setCell ⟨rb,8,none⟩ (.int .i64 fv)=w12 at *;clear hw12 EI EH x8 f8;have d0:w12.cell? ⟨cb,0,none⟩=some (.int .i64 c.cores):=(uE.out.box.cell 0).trans rfl;have d1:w12.cell? ⟨cb,1,none⟩=some (.int .i64 c.frames):=(uE.out.box.cell 1).trans rfl;have d2:w12.cell? ⟨cb,2,none⟩=some (.int .i64 c.names):=(uE.out.box.cell 2).trans rfl;have d3:w12.cell? ⟨cb,3,none⟩=some (.slice sa c.slots.length sc):=(uE.out.box.cell 3).trans rfl;have d4:w12.cell? ⟨cb,4,none⟩=some (.slice oa c.objs.length oc):=(uE.out.box.cell 4).trans rfl;have hR:GU w12 kb tb mb pb db ob rb ((fD fn).alloc 1) fv c:=⟨uE.out.gZ,uE.out.tab,uE.out.map,uE.out.pool,Qn.out,lo2,lo3,lo4⟩;obtain⟨n1,-,n3⟩:=NM fn (by have:=ZY.out;omega);have Vf:=hR.kin
   have hst:fO w w.heap.size [] (w12.alloc (.cells #[.int .u64 1] 37)) (gh0 kb tb mb pb db ob rb ((fD fn).alloc 1) fv) (km0 c) (.slice (some ⟨w12.heap.size,0,none⟩) 1 1) [1]:=by
    refine⟨Vf.alloc _,JN rf (by rw[ZY.out];exact n1) n3,bD uE.out.eO.size (by simp),uE.out.eO.trans ((aC _ w12).alloc uE.out.eO.size _),uE.out.free lo1,⟨rfl,.inr ⟨w12.heap.size,1,#[.int .u64 1],rfl,uE.out.eO.size,aR.new _ _ _,aj _,by unfold maxLen;omega,rfl,rfl⟩⟩,fun b hb=>?_,fun t ht=>(by cases ht)⟩
    cases hb;exact Vf.kS _ (aj _)
   have aaf:=ah (Pv w _ w.heap.size _ (km0 c) K1 K2 c _ _ made hst rfl HC.out H1.out H2.out H3.out ro rs rc ⟨rfl,rfl⟩ HS.out);clear hst Vf n1 n3 hR;go_wp2_with fail
   refine aaf.out.mono ?_;rintro e w14 ⟨rfl,hb14,g',hk,hi,hkb⟩;go_wp2_with fail
   exact bodyPost_ret (v:=.tuple #[.pointer (some ⟨kb,0,none⟩),.int .i64 0]) (by simp[results,Tryz.results17,go_sem];rfl) rfl ⟨kb,rfl,hb14,g',hk,hi,hkb⟩
end Go.Proofs.YtiadbhiadhgjkaaGreatDoor
