import Derived.Test.YtiadbhiadhgjkaaGreatDoorZzMg
import Derived.Test.YtiadbhiadhgjkaaGreatDoorZzMc
import Derived.Test.YtiadbhiadhgjkaaGreatDoorZzMw
set_option maxRecDepth 100000
set_option maxHeartbeats 4000000
namespace Go.Proofs.YtiadbhiadhgjkaaGreatDoor
open Go.RowKit
attribute [local irreducible] World.setCell World.alloc World.drew World.setRow Calls Code.wp
structure qI(w:World)(g:Gh)(o:Ob)(i mb:Nat):Prop where
 blk:aR w mb #[.pointer (some ⟨g.kb,0,none⟩),.pointer (some ⟨g.bl o.name,0,none⟩),.pointer (some ⟨g.cb,i*27,none⟩)] 231
 free:g.A mb=none
theorem qI.ext{w w':World}{g g':Gh}{o:Ob}{i mb:Nat}(h:qI w g o i mb)(e:Ext g g' w w')(hs:Same g g'):qI w' g' o i mb :=
 ⟨by rw[e.al.kb,e.al.cb,hs.bl];exact e.kept.blk h.blk (fun q=>q h.free),e.tag _ h.blk.lt h.free⟩
theorem qI.below{w w':World}{g:Gh}{o:Ob}{i mb:Nat}(h:qI w g o i mb)(k:Below w.heap.size w w'):qI w' g o i mb:=⟨h.blk.below k h.blk.lt,h.free⟩
theorem qI.cells{w:World}{g:Gh}{o:Ob}{i mb:Nat}(h:qI w g o i mb):w.cell? ⟨mb,0,none⟩=some (.pointer (some ⟨g.kb,0,none⟩))/\w.cell? ⟨mb,1,none⟩=some (.pointer (some ⟨g.bl o.name,0,none⟩))/\w.cell? ⟨mb,2,none⟩=some (.pointer (some ⟨g.cb,i*27,none⟩)) :=
 ⟨(h.blk.cell 0).trans rfl,(h.blk.cell 1).trans rfl,(h.blk.cell 2).trans rfl⟩
theorem bS.step{w0 w w':World}{g0 g g':Gh}{K:Km}{o:Ob}(h:bS w0 g0 K o w g)(h1:cZ w' g' K)(h2:Inv g' K)(h3:Ext g g' w w')(h4:Same g g'):bS w0 g0 K o w' g':=⟨h1,h2,h.ext.trans h3,h.same.trans h4⟩
theorem bS.below{w0 w w':World}{g0 g:Gh}{K:Km}{o:Ob}(h:bS w0 g0 K o w g)(k:Below w.heap.size w w'):bS w0 g0 K o w' g:=h.step (h.kin.below k) h.inv (Ext.below k) (Same.refl g)
theorem DR{g g':Gh}{K:Km}{o:Ob}{va:Int}{wr:Bool}(h:g'.fr=g.fr):fU g' K o va wr=fU g K o va wr:=by unfold fU;rw[h]
theorem iA.same{g g':Gh}{K:Km}{o:Ob}{p f:Int}{y:Bool}(h:iA g K o p f y)(e:g'.fr=g.fr):iA g' K o p f y:=by
 obtain⟨s,a,m,h1,h2,h3⟩:=h;exact⟨s,a,m,h1,by rw[e];exact h2,h3⟩
theorem JA{g:Gh}{K:Km}{o:Ob}{i:Nat}{va:Int}{wr:Bool}(hI:Inv g K)(hi:i<K.nc)(hfl:g.flush i=false)(hla:g.last i=o.name)(ho:K.obj o.name=some o)(h:(g.fC i).find (va/64) wr≠0):fU g K o va wr=(g.fC i).find (va/64) wr:=by
 obtain⟨k,hk,e1,e2,e3,e4⟩:=find_spec h;obtain⟨o',h1,-,h2⟩:=hI.fC i hi hfl k hk e2;rw[hla,ho]at h1
 cases h1;rw[e3,e1]at h2;exact vO hI.name h2 e4
theorem zX(w:World)(g:Gh)(K:Km)(o:Ob)(i mb:Nat)(va:Int)(wr:Bool)(h:cZ w g K)(hI:Inv g K)(hM:ny K)(ho:K.obj o.name=some o)(hk:o.kind=3)(hl:∀n s,K.obj n=some s->s.maps.length<=1000000)
  (hi:i<K.nc) (hfl:g.flush i=false) (hla:g.last i=o.name) (hm:qI w g o i mb) (h0:0<=va) (h1:va<=262143) :
  Calls Tryz.prog 317 #[.pointer (some ⟨mb,0,none⟩),.int .i64 va,.bool wr] w fun e w'=>e=.returned (.int .i64 (fU g K o va wr))/\∃g',bS w g K o w' g':=by
 have HE:=ah (show bS w g K o w g from⟨h,hI,Ext.refl g w,Same.refl g⟩);have HMp:=ah hM;have HO:=ah ho;have HL:=ah hl;have HMa:=ah hm;have Hi:=ah hi;have Hfl:=ah hfl;have Wp:=ah hla;have yK:=ah (And.intro h0 h1);obtain⟨p,hp⟩:∃p:Nat,va/64=(p:Int):=⟨(va/64).toNat,by omega⟩;have hp4:p<4096:=by omega
 have Hp:=ah hp;obtain⟨m0,m1,m2⟩:=hm.cells;obtain⟨cs,hB,hIn⟩:=h.pl hi;have Hfd:=ah (JF g.cb (i*27+11) (g.fC i) (p:Int) wr w (zn.of hIn hB))
 have Hpg:Hid (Calls Tryz.prog 277 #[.int .i64 va] w fun e w'=>e=.returned (.int .i64 (p:Int))/\w=w'):=by
  have:=CY va w h0 h1;rw[hp]at this;exact ah this
 clear h hI hM ho hl hm hi hfl hla h0 h1 hp hB hIn;go_enter Tryz.func317,Tryz.ntmps317
 go_wp2_with fail
 refine Hpg.out.mono ?_;rintro e w' ⟨rfl,rfl⟩;go_wp2_with fail
 refine Hfd.out.mono ?_;rintro e w1 ⟨rfl,hb1⟩;by_cases hf:(g.fC i).find (p:Int) wr=0
 ·rw[hf]
  have oo:=ah (HE.out.below hb1);have LP:=ah (HMa.out.below hb1);clear hf hb1 Hfd m0 m1 m2
  have iR:Hid (∀w',Below w1.heap.size w1 w'->(w'.cell? ⟨mb,0,none⟩=some (.pointer (some ⟨g.kb,0,none⟩))/\w'.cell? ⟨mb,1,none⟩=some (.pointer (some ⟨g.bl o.name,0,none⟩)))/\w'.cell? ⟨g.kb,1,none⟩=some (.pointer (some ⟨g.pb,0,none⟩))/\w'.cell? ⟨g.bl o.name,19,none⟩=some (.pointer (some ⟨g.tl o.name,0,none⟩))/\w'.cell? ⟨g.tl o.name,22,none⟩=some (.int .i64 (g.root o.name))):=ah (fun w' k=>by
   have e1:=(LP.out.below k).cells;have e2:=(oo.out.kin.below k);have e3:=e2.four HO.out hk w' (Kept.refl _ _);exact⟨⟨e1.1,e1.2.1⟩,e3.1.1,e2.pU HO.out hk,e3.2.1⟩)
  obtain⟨⟨m0,m1⟩,k1,b19,t22⟩:=iR.out w1 (aC _ _)
  obtain⟨WF,WY,HW,ZT⟩:∃(WF:Int) (WY:Bool),Hid (Calls Tryz.prog 319 #[.pointer (some ⟨g.pb,0,none⟩),.int .i64 (g.root o.name),.int .i64 p] w1.drew fun e w'=>e=.returned (.tuple #[.int .i64 WF,.bool (decide (WF≠0)&&WY),.bool (decide (WF≠0))])/\Below w1.heap.size w1 w')/\Hid (WF≠0->iA g K o p WF WY):=by
   rcases HE.out.inv.yS _ _ HO.out hk with e|⟨e1,e2,e3,e4⟩
   ·refine⟨0,false,?_,fun q=>absurd rfl q⟩
    rw[e.1];refine ah ((Ju g.pb g.db g.ob g.P 0 p w1.drew oo.out.kin.pool.drew (by simp[Pool.owner,Pool.there]) hp4).mono ?_);rintro e w' ⟨rfl,hb⟩;rw[cK]at hb;exact⟨rfl,(aC _ w1).drew.trans hb⟩
   ·refine⟨g.F o.name p,g.Y o.name p,?_,fun q=>e4 p hp4 q⟩
    refine ah ((Me g.pb g.db g.ob g.P (g.root o.name) o.name (g.N o.name) (g.F o.name) (g.Y o.name) p w1.drew oo.out.kin.pool.drew e1 hp4).mono ?_);rintro e w' ⟨rfl,hb⟩;rw[cK]at hb;exact⟨rfl,(aC _ w1).drew.trans hb⟩
  have HpF:Hid (WF≠0->1<=WF):=ah (fun q=>by
   obtain⟨s,a,may,z1,z2,-⟩:=ZT.out q;have:=(qR HE.out.inv HMp.out z1).1;omega)
  go_wp2_with fail
  go_region_held3 (fun w'=>(w'.cell? ⟨mb,0,none⟩=some (.pointer (some ⟨g.kb,0,none⟩))/\w'.cell? ⟨mb,1,none⟩=some (.pointer (some ⟨g.bl o.name,0,none⟩)))/\w'.cell? ⟨g.kb,1,none⟩=some (.pointer (some ⟨g.pb,0,none⟩))/\w'.cell? ⟨g.bl o.name,19,none⟩=some (.pointer (some ⟨g.tl o.name,0,none⟩))/\w'.cell? ⟨g.tl o.name,22,none⟩=some (.int .i64 (g.root o.name)))
   (first|go_keep|exact iR.out _ hb2)
   ((refine HW.out.mono ?_;rintro e w2 ⟨rfl,hb2⟩))
  all_goals
   have HE2:=ah (oo.out.below hb2);have Xr:=ah (LP.out.below hb2);clear m0 m1 k1 b19 t22 iR HW hb2 oo LP
   have Qe:Hid (WF≠0->Calls Tryz.prog 320 #[.pointer (some ⟨g.cb,i*27+11,none⟩),.int .i64 p,.int .i64 WF,.bool WY] w2 fun e w'=>e=.returned (.tuple #[])/\∃g',bS w g K o w' g'):=ah (fun q=>by
    refine(Du w2 g K HE2.out.kin HE2.out.inv i Hi.out o p WF WY (HpF.out q) Wp.out HO.out ⟨by omega,by omega⟩ (ZT.out q)).mono ?_;rintro e w' ⟨h1,g',z1,z2,z3,z4⟩;exact⟨h1,g',HE2.out.step z1 z2 z3 z4⟩)
   have WE:Hid (WF≠0->(WY=true\/wr=false)->fU g K o va wr=WF):=ah (fun q y=>vO HE.out.inv.name (by rw[Hp.out];exact ZT.out q) y);have m2:=Xr.out.cells.2.2;have HIL:=ah (HE2.out.kin.pl Hi.out)
   have HQ:Hid ((!decide (WF=0)&&(WY||!wr))=true->WF≠0/\(WY=true\/wr=false)):=ah (fun q=>by
    simp only[aM,Bool.not_eq_true',decide_eq_false_iff_not,Bool.or_eq_true]at q;exact q)
   go_upto_region 6 with fail
   go_cut [10,11,60] (fun a b t wx=>a=.bool (!decide (WF=0)&&WY)/\b=.bool (!decide (WF=0))/\t=.bool (!decide (WF=0)&&(WY||!wr))/\w2=wx)
   case first =>
    cases hz:decide (WF=0)<;>cases WY<;>cases wr
    all_goals
     go_wp2_with fail
     go_meet;exact⟨by rw[hz];rfl,by rw[hz];rfl,by rw[hz];rfl,rfl⟩
   case rest =>
    obtain⟨rfl,rfl,rfl,rfl⟩:=hcut;generalize (!decide (WF=0)&&(WY||!wr))=qq at HQ ⊢
    cases qq
    ·clear Qe WE ZT HpF HQ
     go_upto_region 9 with fail
     have SS:Hid (∀w',Below w2.heap.size w2 w'->w'.cell? ⟨mb,0,none⟩=some (.pointer (some ⟨g.kb,0,none⟩))/\w'.cell? ⟨mb,1,none⟩=some (.pointer (some ⟨g.bl o.name,0,none⟩))):=ah (fun w' k=>by
      have e1:=(Xr.out.below k).cells;exact⟨e1.1,e1.2.1⟩)
     obtain⟨m0,m1⟩:=SS.out w2 (aC _ _)
     have Wx:Hid (Calls Tryz.prog 252 #[.pointer (some ⟨g.kb,0,none⟩),.pointer (some ⟨g.bl o.name,0,none⟩),.int .i64 va] w2.drew fun e w'=>e=.returned (Ar g (K.bN o va))/\Below w2.heap.size w2 w'):=by
      refine ah ((Jt w2.drew g K o va HE2.out.kin.drew HE2.out.inv HMp.out HO.out hk HL.out yK.out.1 yK.out.2).mono ?_);rintro e w' ⟨h1,h2⟩;rw[cK]at h2;exact⟨h1,(aC _ w2).drew.trans h2⟩
     cases uF:K.bN o va with
     | none =>
      rw[uF]at Wx;have HF:Hid (fU g K o va wr=0):=ah (by unfold fU;rw[uF]);unfold Ar at Wx;clear uF
      go_region_held3 (fun w'=>w'.cell? ⟨mb,0,none⟩=some (.pointer (some ⟨g.kb,0,none⟩))/\w'.cell? ⟨mb,1,none⟩=some (.pointer (some ⟨g.bl o.name,0,none⟩)))
       (first|go_keep|exact SS.out _ hb3)
       ((refine Wx.out.mono ?_;rintro e w3 ⟨rfl,hb3⟩))
      all_goals
       go_wp2_with fail
       go_ret;exact⟨by rw[HF.out];rfl,g,HE2.out.below hb3⟩
     | some r =>
      obtain⟨s,a,may⟩:=r;rw[uF]at Wx;unfold Ar at Wx;have HF:Hid (fU g K o va wr=if(wr&&!may)=true then 0 else(g.fr s).getD (a/64).toNat 0):=ah (by unfold fU;rw[uF]);have ha0:=lK HMp.out uF;obtain⟨an,rfl⟩:∃an:Nat,a=(an:Int):=⟨a.toNat,by omega⟩;have e64:((an:Int)/64).toNat=an/64:=by omega
      rw[e64]at HF;obtain⟨f1,f2,f3⟩:=qR HE.out.inv HMp.out uF;rw[e64]at f1 f2 f3
      have PY:Hid (iA g K o p ((g.fr s).getD (an/64) 0) may):=ah (by
       have:=Dt (g:=g) HE.out.inv.name uF;rw[Hp.out,e64]at this;exact this)
      obtain⟨c,hc,hck,hcl,-⟩:=kC HE.out.inv.name uF;have hpn:=HE.out.kin.pool.hi;have Hc:=ah (And.intro hc hck);have hal:(an:Int)<=1000000:=by have:=(HE.out.inv.seg s c hc hck).p16;omega
      clear uF e64 hc hck hcl ha0
      go_region_held3 (fun w'=>w'.cell? ⟨mb,0,none⟩=some (.pointer (some ⟨g.kb,0,none⟩))/\w'.cell? ⟨mb,1,none⟩=some (.pointer (some ⟨g.bl o.name,0,none⟩)))
       (first|go_keep|exact SS.out _ hb3)
       ((refine Wx.out.mono ?_;rintro e w3 ⟨rfl,hb3⟩))
      all_goals
       have kr:=ah (HE2.out.below hb3);have uH:=ah (Xr.out.below hb3);clear m0 m1 SS Wx hb3;go_upto_region 10 with fail
       go_cut [94] (fun t wx=>t=.bool (wr&&!may)/\w3=wx)
       case first =>
        cases wr<;>cases may
        all_goals
         go_wp2_with fail
         go_meet;exact⟨rfl,rfl⟩
       case rest =>
        obtain⟨rfl,rfl⟩:=hcut;generalize (wr&&!may)=qq at HF ⊢
        cases qq
        ·have HF2:Hid (fU g K o va wr=(g.fr s).getD (an/64) 0):=ah (by rw[HF.out];exact aA (by simp))
         obtain⟨ss,sT,hseg,hsl,-⟩:=kr.out.kin.seg HE.out.inv Hc.out.1 Hc.out.2;obtain⟨fv,KH⟩:∃fv,(g.fr s).getD (an/64) 0=fv:=⟨_,rfl⟩;have hi3:((an/64:Nat):Int)=(an:Int)/64:=by omega
         have SK:=ah (KM _ _ _ _ _ _ (an/64) _ hseg f3);rw[KH]at SK HF2 PY f1 f2;rw[hi3]at SK;clear hseg hsl KH hi3 f3;go_wp2_with fail
         refine SK.out.mono ?_;rintro e w' ⟨rfl,rfl⟩
         have iR:Hid (∀w' g',bS w g K o w' g'->Ext g g' w3 w'->w'.cell? ⟨mb,0,none⟩=some (.pointer (some ⟨g.kb,0,none⟩))/\w'.cell? ⟨mb,1,none⟩=some (.pointer (some ⟨g.bl o.name,0,none⟩))):=ah (fun w' g' q q2=>by
          have e1:=(uH.out.ext q2 q.same).cells;rw[q.ext.al.kb,q.same.bl]at e1;exact⟨e1.1,e1.2.1⟩)
         obtain⟨m0,m1⟩:=iR.out w3 g kr.out (Ext.refl _ _)
         have Xh:Hid (Calls Tryz.prog 321 #[.pointer (some ⟨g.kb,0,none⟩),.pointer (some ⟨g.bl o.name,0,none⟩),.int .i64 p,.int .i64 fv,.bool may] w3.drew fun e w'=>e=.returned (.tuple #[])/\∃g',bS w g K o w' g'/\Ext g g' w3 w'):=by
          refine ah ((KT w3.drew g K o p fv may kr.out.kin.drew kr.out.inv HO.out hk hp4 ⟨f1,by omega⟩ PY.out).mono ?_);rintro e w' ⟨h1,g',z1,z2,z3,z4⟩;have hx:Ext g g' w3 w':=(Ext.below (aC _ w3).drew).trans z3;exact⟨h1,g',⟨z1,z2,kr.out.ext.trans hx,z4⟩,hx⟩
         have Hf1:=ah f1;clear f1 f2 hpn hal SK;go_wp2_with fail
         go_region_held3 (fun w'=>w'.cell? ⟨mb,0,none⟩=some (.pointer (some ⟨g.kb,0,none⟩))/\w'.cell? ⟨mb,1,none⟩=some (.pointer (some ⟨g.bl o.name,0,none⟩)))
          (first|go_keep|exact iR.out _ g5 EL hX5)
          ((refine Xh.out.mono ?_;rintro e w5 ⟨rfl,g5,EL,hX5⟩))
         all_goals
          have HE5:=ah EL
          have m2:w5.cell? ⟨mb,2,none⟩=some (.pointer (some ⟨g.cb,i*27,none⟩)):=by
           have e1:=(uH.out.ext hX5 EL.same).cells.2.2;rw[EL.ext.al.cb]at e1;exact e1
          have Qe:Hid (Calls Tryz.prog 320 #[.pointer (some ⟨g.cb,i*27+11,none⟩),.int .i64 p,.int .i64 fv,.bool may] w5 fun e w'=>e=.returned (.tuple #[])/\∃g',bS w g K o w' g'):=by
           have:=Du w5 g5 K EL.kin EL.inv i Hi.out o p fv may Hf1.out (by rw[EL.same.last];exact Wp.out) HO.out ⟨by omega,by omega⟩ (PY.out.same EL.same.fr);rw[EL.ext.al.cb]at this;refine ah (this.mono ?_);rintro e w' ⟨h1,g',z1,z2,z3,z4⟩;exact⟨h1,g',EL.step z1 z2 z3 z4⟩
          clear m0 m1 EL hX5 Xh iR;go_wp2_with fail
          refine Qe.out.mono ?_;rintro e w6 ⟨rfl,g6,hE6⟩;have HE6:=ah hE6;clear hE6;go_wp2_with fail
          go_ret;exact⟨by rw[HF2.out];rfl,g6,HE6.out⟩
        ·have HF2:Hid (fU g K o va wr=0):=ah (by rw[HF.out];exact aD rfl)
         go_wp2_with fail
         go_ret;exact⟨by rw[HF2.out];rfl,g,kr.out⟩
    ·obtain⟨hq1,hq2⟩:=HQ.out rfl
     have hd:decide (WF=0)=false:=aX hq1;rw[hd];have LC:=ah (Qe.out hq1);have HF3:=ah (WE.out hq1 hq2);clear hq1 hq2 Qe WE ZT HpF HQ;go_wp2_with fail
     refine LC.out.mono ?_;rintro e w3 ⟨rfl,g',hE⟩;have kr:=ah hE;clear hE;go_wp2_with fail
     go_ret;exact⟨by rw[HF3.out];rfl,g',kr.out⟩
 ·have HR:=ah (JA (wr:=wr) HE.out.inv Hi.out Hfl.out Wp.out HO.out (by rw[Hp.out];exact hf))
  have HR2:Hid (fU g K o va wr=(g.fC i).find (p:Int) wr):=ah (by rw[HR.out,Hp.out]);have RH:((g.fC i).find (p:Int) wr != 0)=true:=by simpa using hf
  have aii:((g.fC i).find (p:Int) wr==0)=false:=by simpa using hf
  have Hb1:=ah hb1;clear hf hb1;go_wp2_with fail
  go_ret;exact⟨by rw[HR2.out];rfl,g,HE.out.below Hb1.out⟩
end Go.Proofs.YtiadbhiadhgjkaaGreatDoor
