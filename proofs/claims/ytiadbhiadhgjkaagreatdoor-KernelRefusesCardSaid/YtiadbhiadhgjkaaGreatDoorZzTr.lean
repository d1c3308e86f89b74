import Derived.Test.YtiadbhiadhgjkaaGreatDoorZzTe
import Derived.Test.YtiadbhiadhgjkaaGreatDoorZzTf
import Derived.Test.YtiadbhiadhgjkaaGreatDoorZzNc
import Derived.Test.YtiadbhiadhgjkaaGreatDoorZzLc
import Derived.Test.YtiadbhiadhgjkaaGreatDoorZzQd
import Derived.Test.YtiadbhiadhgjkaaGreatDoorZzQa
import Derived.Test.YtiadbhiadhgjkaaGreatDoorZzQe
import Derived.Laws.CopyOwn
set_option maxRecDepth 100000
set_option maxHeartbeats 4000000
namespace Go.Proofs.YtiadbhiadhgjkaaGreatDoor
open Go.RowKit
attribute [local irreducible] World.setCell World.alloc World.drew World.setRow Calls Code.wp
theorem Dy(v:Value)(w:World):Calls Tryz.prog 156 #[v,.int .i64 0,.int .i64 1] w fun e w'=>e=.returned (.tuple #[])/\w'=w:=by
 go_enter Tryz.func156,Tryz.ntmps156
 go_wp2_with fail
 go_loopg [6] 1 (fun gg v6 wq=>v6=.int .i64 1/\wq=w)
 case atStart=>exact⟨rfl,rfl⟩
 case round =>
  obtain⟨rfl,rfl⟩:=hrel;go_wp2_with fail
  refine bodyPost_end (results_none rfl _ _ _) rfl ?_;exact⟨rfl,rfl⟩
theorem Nh(a:Option Addr)(c:Nat)(k:Int)(w:World):Calls Tryz.prog 136 #[.slice a 1 c,.int .i64 0,.int .i64 1,.int .i64 k] w fun e w'=>e=.returned (.tuple #[])/\w'=w:=by
 have HI:=ah (Dy (.slice a 1 c) w);go_enter Tryz.func136,Tryz.ntmps136
 go_wp2_with fail
 go_loopg [1,2,3] 1 (fun gg v1 v2 _ wq=>v1=.int .i64 0/\v2=.int .i64 1/\wq=w)
 case atStart=>exact⟨rfl,rfl,rfl⟩
 case round =>
  obtain⟨rfl,rfl,rfl⟩:=hrel;go_wp2_with fail
  refine HI.out.mono ?_;rintro e w1 ⟨rfl,rfl⟩;go_wp2_with fail
  refine bodyPost_ret (results_none rfl _ _ _) rfl ?_;exact⟨rfl,rfl⟩
theorem JI(a:Option Addr)(c:Nat)(w:World):Calls Tryz.prog 114 #[.slice a 1 c] w fun e w'=>e=.returned (.tuple #[])/\w'=w:=by
 have HL:=ah (Tryz.bits_Len 1 w (by decide) (by decide));have HP:=ah (fun k=>Nh a c k w);go_enter Tryz.func114,Tryz.ntmps114
 go_wp2_with fail
 refine HL.out.mono ?_;rintro e w1 ⟨rfl,rfl⟩;have LC:=ah (HP.out ((Lib.bitLen (1:Int).toNat:Nat):Int));go_wp2_with fail
 refine LC.out.mono ?_;rintro e w2 ⟨rfl,rfl⟩;go_wp2_with fail
 refine bodyPost_end (results_none rfl _ _ _) rfl ?_;exact⟨rfl,rfl⟩
theorem Bv(a:Option Addr)(c:Nat)(w:World):Calls Tryz.prog 115 #[.slice a 1 c] w fun e w'=>e=.returned (.slice a 1 c)/\w'=w:=by
 go_enter Tryz.func115,Tryz.ntmps115
 go_wp2_with fail
 go_ret;exact⟨rfl,rfl⟩
theorem Nt(n:Int)(hc:MF n=[])(hr:ME n=[])(w:World)(hs:pF w)(hm:lg w) :
  Calls Tryz.prog 111 #[.int .u64 n] w fun e w'=>∃s xa ca xb cb ok,e=.returned (.tuple #[.agg #[.string s,.slice xa 0 ca,.slice xb 0 cb],.bool ok])/\Below w.heap.size w w':=by
 by_cases h:1<=n/\n<=40
 ·obtain⟨k,rfl⟩:∃k:Nat,n=(k:Int)+1:=⟨(n-1).toNat,by omega⟩
  have hk:k<40:=by omega
  unfold MF at hc;unfold ME at hr;rw[aD h]at hc hr;have hkn:((k:Int)+1).toNat-1=k:=by omega
  rw[hkn]at hc hr;have e1:cC k=[]:=hc;have e2:cR k=[]:=hr;refine(UE k hk w hs hm).mono ?_;rintro e w' ⟨v,rfl,⟨a,b,rfl,hA,hB⟩,hb⟩;rw[e1]at hA;rw[e2]at hB;obtain⟨xa,ca,rfl,-⟩:=hA;obtain⟨xb,cb,rfl,-⟩:=hB;exact⟨_,_,_,_,_,_,rfl,hb⟩
 ·refine(XF n h w).mono ?_
  rintro e w' ⟨rfl,hb⟩;exact⟨_,_,_,_,_,_,rfl,hb⟩
theorem Nk(W:World)(x:Value):(W.alloc (.cells #[x] 37)).ownsRow 0 37 1 (.slice (some ⟨W.heap.size,0,none⟩) 1 1) 1 [x] :=
 ⟨rfl,.inr ⟨_,1,_,rfl,Nat.zero_le _,aR.new _ _ _,aj _,by unfold maxLen;decide,rfl,rfl⟩⟩
structure adb(w wx:World)(sb:Nat)(s:ByteArray)(xa xb:Option Addr)(ca cb:Nat):Prop where
 eO:Below w.heap.size w wx
 blk:aR wx sb #[.string s,.slice xa 0 ca,.slice xb 0 cb] 237
 ge:w.heap.size<=sb
theorem Nf(w:World)(g:Gh)(K:Km)(o:Ob)(h:cZ w g K)(hI:Inv g K)(ho:K.obj o.name=some o)(hk:o.kind=3)(hs:pF w)(hm:lg w){K':Km}(hres:K.CU o=some K') :
  Calls Tryz.prog 94 #[.pointer (some ⟨g.kb,0,none⟩),.pointer (some ⟨g.bl o.name,0,none⟩)] w fun e w'=>e=.returned (.tuple #[])/\∃g',eD w g K' w' g':=by
 unfold Km.CU at hres;split at hres
 ·rename_i hcr
  obtain⟨hc,hr⟩:=hcr
  cases hres;obtain⟨x,hT⟩:=h.gQ ho hk;have t0:=h.pU ho hk;have r0:w.cell? ⟨g.tl o.name,0,none⟩=some (.int .u64 (o.th.r 0)):=hT.reg (by omega)
  have n0:w.cell? ⟨g.bl o.name,2,none⟩=some (.int .u64 o.name):=by
   obtain⟨s,T,hO⟩:=h.at ho;exact hO.name
  have Xp:=ah (Nt (o.th.r 0) hc hr w hs hm);have H:=ah h;have HI:=ah hI;have HO:=ah ho;have HK:=ah hk;have HT:=ah hT;have ltl:=hT.blk.lt;have lbl:=bn w _ t0;obtain⟨tb,htb⟩:∃tb,g.tl o.name=tb:=⟨_,rfl⟩;obtain⟨bb,hbb⟩:∃bb,g.bl o.name=bb:=⟨_,rfl⟩;have vD:=ah htb;have wm:=ah hbb;rw[htb]at t0 r0 ltl;rw[hbb]at t0 n0 lbl;rw[hbb];clear h hI ho hk hs hm hT hc hr htb hbb;go_enter Tryz.func94,Tryz.ntmps94
  go_upto_region 1 with fail
  go_cut [5,6] (fun v5 v6 wx=>∃sb s xa xb ca cb,v5=.pointer (some ⟨sb,0,none⟩)/\Hid (adb w wx sb s xa xb ca cb))
  case first =>
   go_wp2_with fail
   refine Xp.out.mono ?_;rintro e w1 ⟨s,xa,ca,xb,cb,ok,rfl,hb1⟩;have HB1:=ah hb1;clear hb1 Xp;go_wp2_with fail
   go_meet;exact⟨_,s,xa,xb,ca,cb,rfl,ah ⟨aT HB1.out ((aC _ w1).alloc (aj _) _),aR.new _ _ _,HB1.out.size⟩⟩
  case rest =>
   obtain⟨sb,s,xa,xb,ca,cb,rfl,HP⟩:=hcut;clear Xp r0;obtain⟨w1,hw1⟩:∃w1,w1=wc:=⟨_,rfl⟩;subst hw1;have hM:eD w g K w1 g:=(eD.refl H.out HI.out).below HP.out.eO;have hT1:=HT.out.below HP.out.eO;have t1:w1.cell? ⟨bb,19,none⟩=some (.pointer (some ⟨tb,0,none⟩)):=(HP.out.eO.cell (p:=⟨bb,19,none⟩) lbl).trans t0;have n1:w1.cell? ⟨bb,2,none⟩=some (.int .u64 o.name):=(HP.out.eO.cell (p:=⟨bb,2,none⟩) lbl).trans n0;have hB1:=hT1.blk;rw[vD.out]at hB1;have c33:w1.cell? ⟨tb,33,none⟩=some x.bZ:=(hB1.cell 33).trans rfl;have f33:w1.frozen? ⟨tb,33,none⟩=false:=hB1.free 33;have HM:=ah hM;have HT1:=ah hT1;have HB1:=ah hB1;have l1:=HP.out.eO.size;have hlt:tb<w1.heap.size:=hB1.lt;clear t0 n0 hM hT1 hB1;go_upto_region 2 with fail
   go_cut [] (fun wx=>∃lb,Hid (eD w g (K.set (o.dL { o.th.cont with bZ:=[o.name] })) wx (g.own lb (o.name,12)))/\Hid (wx.cell? ⟨tb,33,none⟩=some (.slice (some ⟨lb,0,none⟩) 1 1)/\aR wx sb #[.string s,.slice xa 0 ca,.slice xb 0 cb] 237))
   case first =>
    go_wp2_with fail
    go_meet
    have hst:∀wx,wx=(w1.alloc (.cells #[.int .u64 o.name] 37)).setCell ⟨tb,33,none⟩ (.slice (some ⟨w1.heap.size,0,none⟩) 1 1)->∃lb,Hid (eD w g (K.set (o.dL { o.th.cont with bZ:=[o.name] })) wx (g.own lb (o.name,12)))/\Hid (wx.cell? ⟨tb,33,none⟩=some (.slice (some ⟨lb,0,none⟩) 1 1)/\aR wx sb #[.string s,.slice xa 0 ca,.slice xb 0 cb] 237):=by
     intro wx hwx
     have hBx:aR wx tb (jw (o.dL { o.th.cont with bZ:=[o.name] }).th { x with bZ:=.slice (some ⟨w1.heap.size,0,none⟩) 1 1 } (g.root o.name) (g.tabs o.name)) 52:=by
      rw[hwx];exact((HB1.out.alloc _).set 33 _).cells (uJ _ _ _ _ _ _)
     have hk1:Kept (·=g.tl o.name) w1 wx:=by
      rw[hwx,vD.out];exact((Kept.refl (·=tb) w1).alloc _).bC _ _ _ rfl
     have hsz:wx.heap.size=w1.heap.size+1:=by rw[hwx,World.size_setCell,au]
     have hrow:wx.ownsRow 0 37 1 (.slice (some ⟨w1.heap.size,0,none⟩) 1 1) 1 ([o.name].map (.int .u64)):=by
      rw[hwx];exact dA (Nk w1 (.int .u64 o.name)) ((Kept.refl (·=tb) _).bC _ _ _ rfl) (fun b hb q=>by cases hb;exact absurd (show w1.heap.size=tb from q) (by omega))
     have hnm:=eB.own (A:=g.A) (tg:=(o.name,12)) (l:=[o.name]) hrow rfl;refine⟨w1.heap.size,ah (HM.out.ML HO.out HK.out (abw HM.out.kin HO.out HK.out (by omega) (.inl (aj _)) (by omega) hk1) HT1.out (by rw[vD.out];exact hBx) hnm),ah ⟨(hBx.cell 33).trans rfl,?_⟩⟩
     ·rw[hwx]
      exact((HP.out.blk.alloc _).aI (a:=⟨tb,33,none⟩) (by show tb≠sb;have:=HP.out.ge;omega) _)
    exact hst _ (World.setCell_alloc_past _ _ _ _ hlt).symm
   case rest =>
    obtain⟨lb,Xr,HS2⟩:=hcut;clear t1 n1 c33 f33 HM HT1 HB1 l1 hlt;obtain⟨w2,hw2⟩:∃w2,w2=wc:=⟨_,rfl⟩;subst hw2;obtain⟨x2,DJ⟩:=Xr.out.kin.gQ (o:=o.dL { o.th.cont with bZ:=[o.name] }) (n:=o.name) (Km.dz K _) HK.out;have hB2:=DJ.blk
    have e33:x2.bZ=.slice (some ⟨lb,0,none⟩) 1 1:=by
     have h1:=hB2.cell 33;have h2:g.tl (o.dL { o.th.cont with bZ:=[o.name] }).name=tb:=vD.out;rw[show(g.own lb (o.name,12)).tl=g.tl from rfl,h2,HS2.out.1]at h1;exact(Option.some.inj (h1.trans rfl)).symm
    have c33:=HS2.out.1
    have hB2':aR w2 tb (jw (o.dL { o.th.cont with bZ:=[o.name] }).th x2 (g.root o.name) (g.tabs o.name)) 52:=by
     have h2:g.tl (o.dL { o.th.cont with bZ:=[o.name] }).name=tb:=vD.out;rw[show(g.own lb (o.name,12)).tl=g.tl from rfl,h2]at hB2;exact hB2
    have f33:=hB2'.free 33;have f32:=hB2'.free 32;have c32:w2.cell? ⟨tb,32,none⟩=some (.int .i64 o.th.cont.phase):=(hB2'.cell 32).trans rfl;have s1:w2.cell? ⟨sb,1,none⟩=some (.slice xa 0 ca):=(HS2.out.2.cell 1).trans rfl;have s2:w2.cell? ⟨sb,2,none⟩=some (.slice xb 0 cb):=(HS2.out.2.cell 2).trans rfl;have hst:tb≠sb:=by have:=HP.out.ge;omega
    have HT2:=ah DJ;have HB2:=ah hB2';have HE:=ah e33;clear DJ hB2 hB2' e33;have HSo:=ah (JI (some ⟨lb,0,none⟩) 1 w2);have HCo:=ah (Bv (some ⟨lb,0,none⟩) 1 w2);go_wp2_with fail
    go_loopg [8,9,43] 1 (fun gg _ _ v43 wq=>v43=.int .i64 0/\w2=wq)
    case atStart=>exact⟨rfl,rfl⟩
    case round =>
     obtain⟨rfl,rfl⟩:=hrel;go_wp2_with fail
     refine HSo.out.mono ?_;rintro e w3 ⟨rfl,rfl⟩;go_wp2_with fail
     refine HCo.out.mono ?_;rintro e w3 ⟨rfl,rfl⟩;clear HSo HCo;obtain⟨w4,hw4⟩:∃w4,w4=w3.setCell ⟨tb,33,none⟩ (.slice (some ⟨lb,0,none⟩) 1 1):=⟨_,rfl⟩
     have hB4:aR w4 tb (jw (o.dL { o.th.cont with bZ:=[o.name] }).th x2 (g.root o.name) (g.tabs o.name)) 52:=by
      rw[hw4,<-HE.out];refine(HB2.out.set 33 _).cells ?_;rw[uJ (l:=[o.name])];rfl
     have hk4:Kept (·=tb) w3 w4:=by rw[hw4];exact(Kept.refl (·=tb) w3).bC _ _ _ rfl
     have s24:w4.cell? ⟨sb,2,none⟩=some (.slice xb 0 cb):=by
      rw[hw4];exact(((HS2.out.2).aI (a:=⟨tb,33,none⟩) hst _).cell 2).trans rfl
     have c324:w4.cell? ⟨tb,32,none⟩=some (.int .i64 o.th.cont.phase):=(hB4.cell 32).trans rfl;have f324:=hB4.free 32;have yO:=ah hB4;have Ib:=ah hk4;have Xk:=ah hw4;clear hB4 hk4 hw4;go_upto_block 2 with fail
     rw[<-Xk.out];clear Xk s1 s2 c32 c33 f32 f33;go_wp2_with fail
     go_loopg [11,12,103] 1 (fun gg _ _ v103 wq=>v103=.int .i64 0/\w4=wq)
     case atStart=>exact⟨rfl,rfl⟩
     case round =>
      obtain⟨rfl,rfl⟩:=hrel;go_wp2_with fail
      refine bodyPost_end (results_none rfl _ _ _) rfl ?_;refine⟨rfl,g.own lb (o.name,12),?_⟩;have h2:(g.own lb (o.name,12)).tl (o.dL { o.th.cont with bZ:=[o.name] }).name=tb:=vD.out;have hF:=Xr.out.nums (o:=o.dL { o.th.cont with bZ:=[o.name] }) (t:={ (o.dL { o.th.cont with bZ:=[o.name] }).th with cont:={ (o.dL { o.th.cont with bZ:=[o.name] }).th.cont with phase:=2 } }) (Km.dz K _) HK.out HT2.out (w':=w4.setCell ⟨tb,32,none⟩ (.int .i64 2)) (by rw[h2];exact Ib.out.bC _ _ _ rfl) (by rw[h2];exact(yO.out.set 32 _).cells (zF _ _ _ _ _)) ⟨rfl,rfl,rfl,rfl,rfl,rfl,rfl⟩ HT2.out.rows.regs HT2.out.rows.pc;have e5:=Km.set_set K (o.dL { o.th.cont with bZ:=[o.name] }) (o.dL { o.th.cont with bZ:=[o.name],phase:=2 }) rfl;rw[<-e5];exact hF
 ·cases hres
def QL(w:World)(_:Gh):Prop:=pF w/\lg w
theorem eD.rO{w:World}{g:Gh}{K:Km}{o:Ob}(h:cZ w g K)(hI:Inv g K)(ho:K.obj o.name=some o)(hk:o.kind=3):eD w g (K.set (o.dL Go.Proofs.YtiadbhiadhgjkaaGreatDoor.rO)) (II w (g.tl o.name) 0) g :=
 (bS.cont (⟨h,hI,Ext.refl g w,Same.refl g⟩:bS w g K o w g) ho hk 0).ms
theorem Ke{cl:Km->Ob->Option vT}(hcl:Ic cl):Ai QL (fun K o=>K.FR cl o):=by
 intro w g K K' o what h hI OB hQ ho hk zU hres;obtain⟨hs,hm⟩:=hQ;obtain⟨lv,rv,sv,pv,hV⟩:=h.Qs ho hk;have t0:=hV.t;have c32:=hV.ct.p;unfold Km.FR at hres;simp only at hres;by_cases h1:o.th.cont.phase=1
 ·rw[aD h1]at hres
  cases hp:K.CU o with
  | none=>rw[hp]at hres;cases hres
  | some K1 =>
   rw[hp]at hres
   cases hres;have HP:=ah (Nf w g K o h hI ho hk hs hm hp);rw[h1]at c32;generalize g.bl o.name=bb at *;generalize g.tl o.name=tb at *;clear h hI OB hs hm ho hk zU hV h1 hp;go_enter Tryz.func69,Tryz.ntmps69
   go_wp2_with fail
   refine HP.out.mono ?_;rintro e w1 ⟨rfl,g1,hM⟩;have HM:=ah hM;clear hM HP;go_wp2_with fail
   go_ret;exact⟨rfl,g1,HM.out⟩
 rw[aA h1]at hres;by_cases h2:o.th.cont.phase=2
 ·rw[aD h2]at hres
  have HP:=ah (NH w g K o h hI ho hk hres);rw[h2]at c32;generalize g.bl o.name=bb at *;generalize g.tl o.name=tb at *;clear h hI OB hs hm ho hk zU hV h1 h2 hres;go_enter Tryz.func69,Tryz.ntmps69
  go_wp2_with fail
  refine HP.out.mono ?_;rintro e w1 ⟨rfl,g1,hM⟩;have HM:=ah hM;clear hM HP;go_wp2_with fail
  go_ret;exact⟨rfl,g1,HM.out⟩
 rw[aA h2]at hres;by_cases h3:o.th.cont.phase=3
 ·rw[aD h3]at hres
  have HP:=ah (Aw w g K o h hI ho hk hres);rw[h3]at c32;generalize g.bl o.name=bb at *;generalize g.tl o.name=tb at *;clear h hI OB hs hm ho hk zU hV h1 h2 h3 hres;go_enter Tryz.func69,Tryz.ntmps69
  go_wp2_with fail
  refine HP.out.mono ?_;rintro e w1 ⟨rfl,g1,hM⟩;have HM:=ah hM;clear hM HP;go_wp2_with fail
  go_ret;exact⟨rfl,g1,HM.out⟩
 rw[aA h3]at hres;by_cases h4:o.th.cont.phase=4
 ·rw[aD h4]at hres
  have HP:=ah (SB hcl w g K o h hI OB ho hk hres);rw[h4]at c32;generalize g.bl o.name=bb at *;generalize g.tl o.name=tb at *;clear h hI OB hs hm ho hk zU hV h1 h2 h3 h4 hres;go_enter Tryz.func69,Tryz.ntmps69
  go_wp2_with fail
  refine HP.out.mono ?_;rintro e w1 ⟨rfl,g1,hM⟩;have HM:=ah hM;clear hM HP;go_wp2_with fail
  go_ret;exact⟨rfl,g1,HM.out⟩
 rw[aA h4]at hres;by_cases h5:o.th.cont.phase=5
 ·rw[aD h5]at hres
  obtain⟨hw2,hP⟩:=Gb w g K o h hI ho hk hres;subst hw2;have HP:=ah hP;rw[h5]at c32;generalize g.bl o.name=bb at *;generalize g.tl o.name=tb at *;clear h hI OB hs hm ho hk zU hV h1 h2 h3 h4 h5 hres hP;go_enter Tryz.func69,Tryz.ntmps69
  go_wp2_with fail
  refine HP.out.mono ?_;rintro e w1 ⟨rfl,g1,hM⟩;have HM:=ah hM;clear hM HP;go_wp2_with fail
  go_ret;exact⟨rfl,g1,HM.out⟩
 rw[aA h5]at hres;by_cases h6:o.th.cont.phase=6
 ·rw[aD h6]at hres
  unfold Km.Gi at hres;split at hres
  ·rename_i hpk
   cases hres;have hpr:=hV.picks;rw[hpk]at hpr;obtain⟨pa,pc,rfl⟩:=xg hpr;have HM:=ah (eD.rO h hI ho hk);have c33:=hV.ct.l;have c34:=hV.ct.n;have c35:=hV.ct.r;have c36:=hV.ct.s;have c37:=hV.ct.t;have c38:=hV.ct.k;have hfz:=hV.ct.f;rw[h6]at c32;generalize g.bl o.name=bb at *;generalize g.tl o.name=tb at *;unfold II at HM;have HP:=ah (KI w (.pointer (some ⟨g.kb,0,none⟩)) tb pa pc c38);clear h hI OB hs hm ho hk zU hV h1 h2 h3 h4 h5 h6 hpk hpr;go_enter Tryz.func69,Tryz.ntmps69
   go_wp2_with fail
   refine HP.out.mono ?_;rintro e w1 ⟨rfl,rfl⟩;clear HP;go_wp2_with fail
   go_ret;exact⟨rfl,g,HM.out⟩
  ·cases hres
 ·rw[aA h6]at hres
  cases hres
end Go.Proofs.YtiadbhiadhgjkaaGreatDoor
namespace Go.Proofs.YtiadbhiadhgjkaaGreatDoor
open Go.RowKit
theorem je{o o':Ob}(h:pG o=true)(e:o'.maps=o.maps):pG o'=true:=by unfold pG at h ⊢;rw[e];exact h
theorem Gc(o:Ob)(n:Int):(mH o n).maps=o.maps:=by
 unfold mH;split<;>rfl
theorem Dr(o:Ob)(n:Int):(jK o n).maps=o.maps:=by
 unfold jK;split<;>rfl
theorem dx.FR{cl:Km->Ob->Option vT}(hcl:∀K o R,dx K->pG o=true->cl K o=some R->dx R.K)(K K':Km)(o:Ob)(what:Int)(h:dx K)(ho:pG o=true)(hm:K.FR cl o=some (K',what)):dx K':=by
 unfold Km.FR at hm;simp only at hm;split at hm
 ·unfold Km.CU at hm
  split at hm
  ·cases hm;exact h.set (je ho rfl)
  ·cases hm
 split at hm
 ·unfold Km.Ir at hm
  split at hm
  ·cases hm;exact h.set (je ho (Gc o o.name))
  ·cases hm
 split at hm
 ·unfold Km.AV at hm
  split at hm
  ·cases hm;exact h.set (je ho rfl)
  ·cases hm
 split at hm
 ·unfold Km.SC at hm
  split at hm
  ·cases hm
  ·simp only at hm
   have h1:dx ({ K.set (o.dL { o.th.cont with phase:=5 })with done:=false }:Km):=(h.set (o:=o.dL { o.th.cont with phase:=5 }) (je ho rfl)).obj rfl
   cases hc:cl { K.set (o.dL { o.th.cont with phase:=5 })with done:=false } (o.dL { o.th.cont with phase:=5 })with
   | none=>rw[hc]at hm;cases hm
   | some R =>
    have h2:=hcl _ _ R h1 (by exact je ho rfl) hc;rw[hc]at hm;simp only at hm
    cases h3:R.K.obj o.name with
    | none=>rw[h3]at hm;cases hm
    | some o2 =>
     rw[h3]at hm;simp only at hm;split at hm
     ·cases hm;exact h2.set (je (h2 _ _ h3) rfl)
     ·cases hm
 split at hm
 ·unfold Km.AY at hm
  simp only at hm;split at hm
  ·cases hm;exact h.set (je ho (Dr o o.name))
  ·cases hm
 split at hm
 ·unfold Km.Gi at hm
  split at hm
  ·cases hm;exact h.set (je ho rfl)
  ·cases hm
 ·cases hm
def QE(w:World)(g:Gh):Prop:=∃w0,pF w0/\lg w0/\Below w0.heap.size w0 w/\∀b,b<w0.heap.size->g.A b=none
theorem QE.ql{w:World}{g:Gh}(h:QE w g):QL w g:=by
 obtain⟨w0,h1,h2,h3,-⟩:=h;exact⟨h1.below h3,h2.below h3⟩
theorem QE.ext{w w':World}{g g':Gh}(h:QE w g)(k:Ext g g' w w'):QE w' g':=by
 obtain⟨w0,h1,h2,h3,h4⟩:=h;exact⟨w0,h1,h2,h3.trans (k.kept.below h3.size (fun b hb q=>q (h4 b hb))),fun b hb=>k.tag b (bA hb h3.size) (h4 b hb)⟩
end Go.Proofs.YtiadbhiadhgjkaaGreatDoor
