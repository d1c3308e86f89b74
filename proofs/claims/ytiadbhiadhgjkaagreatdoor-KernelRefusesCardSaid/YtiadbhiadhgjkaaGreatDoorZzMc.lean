import Derived.Test.YtiadbhiadhgjkaaGreatDoorZzLc
import Derived.Test.YtiadbhiadhgjkaaGreatDoorZzMap
import Derived.Test.YtiadbhiadhgjkaaGreatDoorZzSgR
import Derived.Test.YtiadbhiadhgjkaaGreatDoorZzPgD
import Derived.Deep.QuietTactic
import Derived.BigQuiet
import Derived.StillTailTactics
set_option maxRecDepth 100000
set_option maxHeartbeats 4000000
namespace Go.Proofs.YtiadbhiadhgjkaaGreatDoor
open Go.RowKit
attribute [local irreducible] World.setCell World.alloc World.drew World.setRow Calls Code.wp
attribute [local go_sem] Oper.semAt_some
structure ObV(w:World)(b:Nat)(o:Ob)(la ma:Option Addr)(lc mc:Nat):Prop where
 kind:w.cell? ⟨b,3,none⟩=some (.int .i64 o.kind)
 ld:w.cell? ⟨b,4,none⟩=some (.int .i64 (o.lab.d:Nat))
 lp:w.cell? ⟨b,5,none⟩=some (.slice la o.lab.ps.length lc)
 maps:w.cell? ⟨b,18,none⟩=some (.slice ma o.maps.length mc)
 lab:bU w (.agg #[.int .i64 (o.lab.d:Nat),.slice la o.lab.ps.length lc]) o.lab
 row:aJ w 125 (.slice ma o.maps.length mc) o.maps.length (o.maps.flatMap oH)
 ok:fV o.lab
theorem cZ.obV{w:World}{g:Gh}{K:Km}{o:Ob}{n:Int}(h:cZ w g K)(ho:K.obj n=some o):∃la ma lc mc,ObV w (g.bl n) o la ma lc mc:=by
 obtain⟨s,T,hO⟩:=h.at ho;have hn:=(h.objs _ _ ho).1;have hB:=hO.blk;have hR:=hO.rows;rw[hn]at hB hR;obtain⟨sq,sk,sf,sm,sl,sc,so,si,sr⟩:=s;have h1:bg w sl o.lab.ps:=hR.lab;have h2:aJ w 125 sm o.maps.length (o.maps.flatMap oH):=aJ.own hR.maps.row;obtain⟨la,lc,rfl,-,-⟩:=aJ.form h1;obtain⟨ma,mc,rfl,-,-⟩:=aJ.form h2;exact⟨la,ma,lc,mc,(hB.cell 3).trans rfl,(hB.cell 4).trans rfl,(hB.cell 5).trans rfl,(hB.cell 18).trans rfl,⟨_,rfl,h1⟩,h2,hR.ok.1⟩
theorem ObV.below{w w':World}{b:Nat}{o:Ob}{la ma:Option Addr}{lc mc:Nat}(h:ObV w b o la ma lc mc)(hb:b<w.heap.size)(k:Below w.heap.size w w'):ObV w' b o la ma lc mc :=
 ⟨(k.cell (p:=⟨b,3,none⟩) hb).trans h.kind,(k.cell (p:=⟨b,4,none⟩) hb).trans h.ld,(k.cell (p:=⟨b,5,none⟩) hb).trans h.lp,(k.cell (p:=⟨b,18,none⟩) hb).trans h.maps,h.lab.below k (aj _),aJ.below h.row k (aj _),h.ok⟩
theorem cZ.seg{w:World}{g:Gh}{K:Km}{o:Ob}{n:Int}(h:cZ w g K)(hI:Inv g K)(ho:K.obj n=some o)(hk:o.kind=2):∃s T,iZ w (g.bl n) 16 (jO o s (g.mt n) T) (g.bl n+1) s.fr (g.fr n)/\(g.fr n).length=o.pages/\o.pages<=16:=by
 obtain⟨s,T,hO⟩:=h.at ho;have hn:=(h.objs _ _ ho).1;have hs:=hI.seg n o ho hk;have hB:=hO.blk;have hR:=hO.rows;rw[hn]at hB hR;have hl:=hs.len;rw[hn]at hl;exact⟨s,T,⟨hB,rfl,hR.TL,by omega,by rw[hl];exact hs.p16⟩,hl,hs.p16⟩
def Ar(g:Gh):Option (Int×Int×Bool)->Value
 | none=>.tuple #[.pointer none,.int .i64 0,.bool false]
 | some (s,a,m)=>.tuple #[.pointer (some ⟨g.bl s,0,none⟩),.int .i64 a,.bool m]
theorem Js{K:Km}{o:Ob}{va:Int}(h:K.obj o.th.space=none):K.bN o va=none:=by unfold Km.bN;rw[h]
theorem zC{K:Km}{o s:Ob}{va:Int}(h:K.obj o.th.space=some s)(q:(decide (s.kind=4)&&gT o.lab s.lab)=false):K.bN o va=none:=by unfold Km.bN;rw[h];simp only;rw[aA (by rw[q];simp)]
theorem Md{K:Km}{o s:Ob}{va:Int}(h:K.obj o.th.space=some s)(q:s.kind=4)(q2:gT o.lab s.lab=true):K.bN o va=match ig s.maps (va/64)with
   | none=>none
   | some m=>match K.obj m.seg with
    | none=>none
    | some g=>if(decide (g.kind=2)&&(decide (m.from_+va/64-m.at_<(g.pages:Int))&&gT o.lab g.lab))=true then
      some (g.name,(m.from_+va/64-m.at_)*64+va%64,m.wr&&iw o.lab g.lab)else none:=by
 unfold Km.bN;rw[h];simp only;rw[aD (by rw[q2];simp[q])];rfl
theorem Jt(w:World)(g:Gh)(K:Km)(o:Ob)(va:Int)(h:cZ w g K)(hI:Inv g K)(hM:ny K)(ho:K.obj o.name=some o)(hk:o.kind=3)(hl:∀n s,K.obj n=some s->s.maps.length<=1000000)(h0:0<=va)(h1:va<=262143) :
  Calls Tryz.prog 252 #[.pointer (some ⟨g.kb,0,none⟩),.pointer (some ⟨g.bl o.name,0,none⟩),.int .i64 va] w fun e w'=>e=.returned (Ar g (K.bN o va))/\Below w.heap.size w w':=by
 have HK:=ah h;have HI:=ah hI;have HM:=ah hM;have HO:=ah ho;have HL:=ah hl;have k0:=h.iV.1;have t0:=h.pU ho hk;obtain⟨x,hT⟩:=h.gQ ho hk;have t1:w.cell? ⟨g.tl o.name,19,none⟩=some (.int .u64 o.th.space):=(hT.blk.cell 19).trans rfl;obtain⟨Tm,oma,Tk,omc,hV⟩:=h.obV ho;have HV:=ah hV;have hblt:=ah ((h.at ho).elim fun _ e=>e.elim fun _ e=>e.blk.lt)
 have HG:Hid (∀k,Calls Tryz.prog 15 #[.pointer (some ⟨g.tb,0,none⟩),.int .u64 o.th.space] (w.drewN k) fun e w'=>e=.returned (FL g K.obj o.th.space)/\w'=w.drewN k):=fun k =>
  (kK _ g _ _ (h.below (bI w k)).tab).mono fun e w' (q:e=_/\_=w')=>⟨q.1,q.2.symm⟩
 clear h hI hM ho hl hT hV;go_enter Tryz.func252,Tryz.ntmps252
 go_upto_region 1 with fail
 go_cut [9] (fun s wx=>s=FL g K.obj o.th.space/\Below w.heap.size w wx)
 case first =>
  go_quiet ((go_at_call 15;exact Calls.quiet_of_same (HG.out _)))
  go_wp2_with fail
  go_meet;exact⟨rfl,bI w _⟩
 case rest =>
  rename World=>w1
  obtain⟨rfl,hb1⟩:=hcut;have HB1:=ah hb1;have abW:=hblt.out;clear k0 t0 t1 hb1 HG;have k0:=(HK.out.below HB1.out).iV.1;have VY:=HV.out.below abW HB1.out;have o4:=VY.ld;have o5:=VY.lp;clear VY
  cases hS:K.obj o.th.space with
  | none =>
   rw[nL hS];have HR:=ah (Js (va:=va) hS);clear hS;go_wp2_with fail
   go_quiet (fail)
   go_wp2_with fail
   refine bodyPost_ret (v:=.tuple #[.pointer none,.int .i64 0,.bool false]) (by simp[results,Tryz.results252,go_sem]) rfl ⟨by rw[HR.out];rfl,aT HB1.out (bI _ _)⟩
  | some s =>
   rw[gK hS];obtain⟨la,ma,lc,mc,hv⟩:=(HK.out.below HB1.out).obV hS;have HVs:=ah hv;have hsl:Hid (g.bl o.th.space<w1.heap.size):=ah (((HK.out.below HB1.out).at hS).elim fun _ e=>e.elim fun _ e=>by have:=e.blk.lt;rw[((HK.out.below HB1.out).objs _ _ hS).1]at this;exact this);have s3:=hv.kind;have s4:=hv.ld;have s5:=hv.lp;have HS:=ah hS;clear hS hv;by_cases hk4:s.kind=4
   ·have e4:(s.kind==4)=true:=by simp[hk4]
    have e5:(s.kind != 4)=false:=by simp[hk4]
    have Zt:=ah hk4
    have EF:Hid (∀wz,wz=w1.drew->Calls Tryz.prog 116 #[.agg #[.int .i64 (o.lab.d:Nat),.slice Tm o.lab.ps.length Tk],.agg #[.int .i64 (s.lab.d:Nat),.slice la s.lab.ps.length lc]] wz fun e w'=>∃v,e=.returned v/\(v=.bool (gT o.lab s.lab)/\Below w1.heap.size w1 w')):=fun wz ez=>by
     rw[ez];refine(uN o.lab s.lab _ _ w1.drew HV.out.ok HVs.out.ok ((HV.out.lab.below HB1.out (aj _)).below ((aC _ w1).drew) (aj _)) (HVs.out.lab.below ((aC _ w1).drew) (aj _))).mono ?_;rintro e w' ⟨rfl,h2⟩;rw[cK]at h2;exact⟨_,rfl,rfl,(aC _ w1).drew.trans h2⟩
    clear hk4
    cases hq:gT o.lab s.lab with
    | false =>
     have HR:=ah (zC (va:=va) HS.out (by rw[hq];simp));rw[hq]at EF;clear hq;go_wp2_with fail
     go_still_tail 18,(by kernel_rfl)
     rw[drew_eq w1];go_wp2_with fail
     refine(EF.out _ rfl).mono ?_;rintro e w2 ⟨v,rfl,rfl,hb2⟩;go_wp2_with fail
     refine bodyPost_ret (v:=.tuple #[.pointer none,.int .i64 0,.bool false]) (by simp[results,Tryz.results252,go_sem]) rfl ⟨by rw[HR.out];rfl,aT HB1.out hb2⟩
    | true =>
     have LV:=ah (Md (va:=va) HS.out Zt.out hq);rw[hq]at EF;clear hq;go_wp2_with fail
     go_still_tail 18,(by kernel_rfl)
     rw[drew_eq w1];go_wp2_with fail
     refine(EF.out _ rfl).mono ?_;rintro e w2 ⟨v,rfl,rfl,hb2⟩;have HB2:=ah (aT HB1.out hb2);have TV:=ah (HVs.out.below hsl.out hb2);have s18:=TV.out.maps;clear k0 o4 o5 s3 s4 s5 e4 e5 hb2;go_wp2_with fail
     refine(CY va _ h0 h1).mono ?_;rintro e w' ⟨rfl,rfl⟩;have hp0:0<=va/64:=by omega
     have hp1:va/64<=4095:=by omega
     have HVa:=ah (And.intro h0 h1);obtain⟨pg,hpg⟩:∃pg,va/64=pg:=⟨_,rfl⟩;rw[hpg]at hp0 hp1 LV ⊢;clear hpg;go_wp2_with fail
     refine(OI s.maps pg _ w2 TV.out.row (HM.out _ _ HS.out) (HL.out _ _ HS.out)).mono ?_;rintro e w3 ⟨rfl,hb3⟩;have HB3:=ah (aT HB2.out hb3);clear hb3 s18
     cases hf:ig s.maps pg with
     | none =>
      rw[hf]at LV;have HR:Hid (K.bN o va=none):=ah LV.out;have KH:tZ s.maps pg=.tuple #[.agg #[.int .i64 0,.int .u64 0,.int .i64 0,.int .i64 0,.bool false],.bool false]:=by unfold tZ;rw[hf]
      rw[KH];clear hf KH;go_wp2_with fail
      refine bodyPost_ret (v:=.tuple #[.pointer none,.int .i64 0,.bool false]) (by simp[results,Tryz.results252,go_sem]) rfl ⟨by rw[HR.out];rfl,HB3.out.alloc HB3.out.size _⟩
     | some m =>
      rw[hf]at LV;have KH:tZ s.maps pg=.tuple #[.agg #[.int .i64 m.at_,.int .u64 m.seg,.int .i64 m.from_,.int .i64 m.n,.bool m.wr],.bool true]:=by unfold tZ;rw[hf]
      rw[KH];obtain⟨mem,ha1,ha2⟩:=ug hf;obtain⟨⟨f1,f2⟩,⟨f3,f4⟩,⟨f5,f6⟩,-⟩:=uX (HM.out _ _ HS.out m mem);clear hf KH mem;have QB:=ah (aR.new w3 #[.int .i64 m.at_,.int .u64 m.seg,.int .i64 m.from_,.int .i64 m.n,.bool m.wr] 125);have yO:=ah (HB3.out.alloc HB3.out.size (.cells #[.int .i64 m.at_,.int .u64 m.seg,.int .i64 m.from_,.int .i64 m.n,.bool m.wr] 125));go_upto_region 8 with fail
      generalize hg4:w3.alloc (.cells #[.int .i64 m.at_,.int .u64 m.seg,.int .i64 m.from_,.int .i64 m.n,.bool m.wr] 125)=w4 at *;generalize hgm:w3.heap.size=mb at *;clear hg4 hgm;have k0:=(HK.out.below yO.out).iV.1;have m1:w4.cell? ⟨mb,1,none⟩=some (.int .u64 m.seg):=(QB.out.cell 1).trans rfl
      have HG:Hid (∀k,Calls Tryz.prog 15 #[.pointer (some ⟨g.tb,0,none⟩),.int .u64 m.seg] (w4.drewN k) fun e w'=>e=.returned (FL g K.obj m.seg)/\w'=w4.drewN k):=fun k =>
       (kK _ g _ _ (HK.out.below (aT yO.out (bI w4 k))).tab).mono fun e w' (q:e=_/\_=w')=>⟨q.1,q.2.symm⟩
      go_cut [13] (fun s wx=>s=FL g K.obj m.seg/\Hid (Below w.heap.size w wx)/\Hid (aR wx mb #[.int .i64 m.at_,.int .u64 m.seg,.int .i64 m.from_,.int .i64 m.n,.bool m.wr] 125))
      case first =>
       go_quiet ((go_at_call 15;exact Calls.quiet_of_same (HG.out _)))
       go_wp2_with fail
       go_meet;exact⟨rfl,aT yO.out (bI w4 _),QB.out.below (bI w4 _) QB.out.lt⟩
      case rest =>
       clear k0 m1 HG QB yO;rename World=>w5
       obtain⟨rfl,pK,QB⟩:=hcut;have m0:w5.cell? ⟨mb,0,none⟩=some (.int .i64 m.at_):=(QB.out.cell 0).trans rfl;have m2:w5.cell? ⟨mb,2,none⟩=some (.int .i64 m.from_):=(QB.out.cell 2).trans rfl;have m4:w5.cell? ⟨mb,4,none⟩=some (.bool m.wr):=(QB.out.cell 4).trans rfl;go_upto_region 10 with fail
       obtain⟨n,hn⟩:∃n,m.from_+pg-m.at_=n:=⟨_,rfl⟩;have hn0:0<=n:=by omega
       have hn1:n<16:=by omega
       rw[hn]at LV ⊢;have Hn:=ah hn;clear hn f1 f2 f3 f4 f5 f6 ha1 ha2
       cases hc:K.obj m.seg with
       | none =>
        rw[nL hc];rw[hc]at LV;have HR:Hid (K.bN o va=none):=ah LV.out;clear hc;go_quiet (fail)
        go_wp2_with fail
        refine bodyPost_ret (v:=.tuple #[.pointer none,.int .i64 0,.bool false]) (by simp[results,Tryz.results252,go_sem]) rfl ⟨by rw[HR.out];rfl,aT pK.out (bI _ _)⟩
       | some c =>
        rw[gK hc];rw[hc]at LV;obtain⟨ca,cma,cc,cmc,Bc⟩:=(HK.out.below pK.out).obV hc;have c3:=Bc.kind;have c4:=Bc.ld;have c5:=Bc.lp;have ZF:=ah Bc;have LJ:=ah (HK.out.objs _ _ hc).1;have acr:Hid (g.bl m.seg<w5.heap.size):=ah (((HK.out.below pK.out).at hc).elim fun _ e=>e.elim fun _ e=>by have:=e.blk.lt;rw[((HK.out.below pK.out).objs _ _ hc).1]at this;exact this);by_cases hk2:c.kind=2
        ·have e4:(c.kind==2)=true:=by simp[hk2]
         have e5:(c.kind != 2)=false:=by simp[hk2]
         obtain⟨ss,sT,hseg,hsl1,hsl2⟩:=(HK.out.below pK.out).seg HI.out hc hk2
         have HPg:Hid (∀k,Calls Tryz.prog 57 #[.pointer (some ⟨g.bl m.seg,16,none⟩)] (w5.drewN k) fun e w'=>e=.returned (.int .i64 (c.pages:Nat))/\w'=w5.drewN k):=fun k =>
          (nK _ _ _ _ _ _ _ (hseg.below (bI w5 k))).mono fun e w' (q:e=_/\_=w')=>⟨by rw[q.1,hsl1],q.2.symm⟩
         have HPd:Hid (Calls Tryz.prog 57 #[.pointer (some ⟨g.bl m.seg,16,none⟩)] w5.drew fun e w'=>e=.returned (.int .i64 (c.pages:Nat))/\w5.drew=w') :=
          (nK _ _ _ _ _ _ _ (hseg.below ((aC _ w5).drew))).mono fun e w' (q:e=_/\_=w')=>⟨by rw[q.1,hsl1],q.2⟩
         have TU:=ah hk2;clear hseg hsl1 hc hk2 Bc;by_cases hlt:n<(c.pages:Int)
         ·have q1:decide ((c.pages:Int)<=n)=false:=aX (by omega)
          have Hlt:=ah hlt
          have EF:Hid (Calls Tryz.prog 116 #[.agg #[.int .i64 (o.lab.d:Nat),.slice Tm o.lab.ps.length Tk],.agg #[.int .i64 (c.lab.d:Nat),.slice ca c.lab.ps.length cc]] w5.drew fun e w'=>e=.returned (.bool (gT o.lab c.lab))/\Below w5.heap.size w5 w'):=by
           refine(uN o.lab c.lab _ _ w5.drew HV.out.ok ZF.out.ok ((HV.out.lab.below pK.out (aj _)).below ((aC _ w5).drew) (aj _)) (ZF.out.lab.below ((aC _ w5).drew) (aj _))).mono ?_;rintro e w' ⟨rfl,h2⟩;rw[cK]at h2;exact⟨rfl,(aC _ w5).drew.trans h2⟩
          have HV5:=ah (HV.out.below hblt.out pK.out);have o4:=HV5.out.ld;have o5:=HV5.out.lp;clear hlt
          have iR:Hid (∀w',Below w5.heap.size w5 w'->(w'.cell? ⟨g.bl o.name,4,none⟩=some (.int .i64 (o.lab.d:Nat))/\w'.cell? ⟨g.bl o.name,5,none⟩=some (.slice Tm o.lab.ps.length Tk))/\w'.cell? ⟨g.bl m.seg,3,none⟩=some (.int .i64 c.kind)/\w'.cell? ⟨g.bl m.seg,4,none⟩=some (.int .i64 (c.lab.d:Nat))/\w'.cell? ⟨g.bl m.seg,5,none⟩=some (.slice ca c.lab.ps.length cc)):=ah (fun w' k=>by
           have e1:=HV5.out.below (bA hblt.out pK.out.size) k;have e2:=ZF.out.below acr.out k;exact⟨⟨e1.ld,e1.lp⟩,e2.kind,e2.ld,e2.lp⟩)
          cases hq:gT o.lab c.lab with
          | false =>
           have HR:Hid (K.bN o va=none):=ah (by rw[LV.out];exact aA (by rw[hq];simp));rw[hq]at EF;clear hq
           go_region_held3 (fun w'=>(w'.cell? ⟨g.bl o.name,4,none⟩=some (.int .i64 (o.lab.d:Nat))/\w'.cell? ⟨g.bl o.name,5,none⟩=some (.slice Tm o.lab.ps.length Tk))/\w'.cell? ⟨g.bl m.seg,3,none⟩=some (.int .i64 c.kind)/\w'.cell? ⟨g.bl m.seg,4,none⟩=some (.int .i64 (c.lab.d:Nat))/\w'.cell? ⟨g.bl m.seg,5,none⟩=some (.slice ca c.lab.ps.length cc)) (first|go_keep|exact iR.out _ hb6)
            (first|(refine HPd.out.mono ?_;rintro e w' ⟨rfl,rfl⟩)|(refine EF.out.mono ?_;rintro e w6 ⟨rfl,hb6⟩))
           go_wp2_with fail
           refine bodyPost_ret (v:=.tuple #[.pointer none,.int .i64 0,.bool false]) (by simp[results,Tryz.results252,go_sem]) rfl ⟨by rw[HR.out];rfl,aT pK.out hb6⟩
          | true =>
           have HR:Hid (K.bN o va=some (m.seg,n*64+va%64,m.wr&&iw o.lab c.lab)):=ah (by
            rw[LV.out,<-LJ.out];exact aD (by rw[hq];simp[TU.out,Hlt.out]))
           rw[hq]at EF;clear hq
           go_region_held3 (fun w'=>(w'.cell? ⟨g.bl o.name,4,none⟩=some (.int .i64 (o.lab.d:Nat))/\w'.cell? ⟨g.bl o.name,5,none⟩=some (.slice Tm o.lab.ps.length Tk))/\w'.cell? ⟨g.bl m.seg,3,none⟩=some (.int .i64 c.kind)/\w'.cell? ⟨g.bl m.seg,4,none⟩=some (.int .i64 (c.lab.d:Nat))/\w'.cell? ⟨g.bl m.seg,5,none⟩=some (.slice ca c.lab.ps.length cc)) (first|go_keep|exact iR.out _ hb6)
            (first|(refine HPd.out.mono ?_;rintro e w' ⟨rfl,rfl⟩)|(refine EF.out.mono ?_;rintro e w6 ⟨rfl,hb6⟩))
           obtain⟨⟨p4,p5⟩,p3,r4,r5⟩:=iR.out _ hb6;have wB:=ah (aT pK.out hb6);have Tc:=QB.out.below hb6 QB.out.lt;have n4:w6.cell? ⟨mb,4,none⟩=some (.bool m.wr):=(Tc.cell 4).trans rfl
           have ZG:Hid (∀w',Below w6.heap.size w6 w'->(w'.cell? ⟨g.bl o.name,4,none⟩=some (.int .i64 (o.lab.d:Nat))/\w'.cell? ⟨g.bl o.name,5,none⟩=some (.slice Tm o.lab.ps.length Tk))/\w'.cell? ⟨g.bl m.seg,4,none⟩=some (.int .i64 (c.lab.d:Nat))/\w'.cell? ⟨g.bl m.seg,5,none⟩=some (.slice ca c.lab.ps.length cc)/\w'.cell? ⟨mb,4,none⟩=some (.bool m.wr)):=ah (fun w' k=>by
            obtain⟨e1,-,e2⟩:=iR.out w' (aT hb6 k);exact⟨e1,e2.1,e2.2,((Tc.below k Tc.lt).cell 4).trans rfl⟩)
           have Xp:Hid (∀k,Calls Tryz.prog 279 #[.int .i64 va] (w6.drewN k) fun e w'=>e=.returned (.int .i64 (va%64))/\w'=w6.drewN k):=ah (fun k =>
            (rZ va _ HVa.out.1 HVa.out.2).mono fun e w' (q:e=_/\_=w')=>⟨q.1,q.2.symm⟩)
           have HOd:Hid (Calls Tryz.prog 279 #[.int .i64 va] w6.drew fun e w'=>e=.returned (.int .i64 (va%64))/\w6.drew=w'):=ah (rZ va _ HVa.out.1 HVa.out.2)
           have HCh:Hid (Calls Tryz.prog 112 #[.agg #[.int .i64 (o.lab.d:Nat),.slice Tm o.lab.ps.length Tk],.agg #[.int .i64 (c.lab.d:Nat),.slice ca c.lab.ps.length cc]] w6.drew fun e w'=>e=.returned (.bool (iw o.lab c.lab))/\Below w6.heap.size w6 w'):=by
            refine(Ei o.lab c.lab _ _ w6.drew HV.out.ok ZF.out.ok ((HV.out.lab.below wB.out (aj _)).below ((aC _ w6).drew) (aj _)) ((ZF.out.lab.below hb6 (aj _)).below ((aC _ w6).drew) (aj _))).mono ?_;rintro e w' ⟨rfl,h2⟩;rw[cK]at h2;exact⟨rfl,(aC _ w6).drew.trans h2⟩
           obtain⟨Tn,Yg⟩:∃Tn,va%64=Tn:=⟨_,rfl⟩;have z0:0<=Tn:=by omega
           have z1:Tn<64:=by omega
           have y1:IntKind.i64.wrap (n*64)=n*64:=aV _ (by omega);have y2:IntKind.i64.wrap (n*64+Tn)=n*64+Tn:=aV _ (by omega);rw[Yg]at HR Xp HOd;clear Yg h0 h1 o4 o5 c3 c4 c5 m0 m2 m4 Tc hb6 p3
           cases hw:m.wr with
           | false =>
            rw[hw]at n4 HR;clear hw;go_wp2_with fail
            go_quiet ((go_at_call 279;exact Calls.quiet_of_same (Xp.out _)))
            go_wp2_with fail
            refine bodyPost_ret (v:=.tuple #[.pointer (some ⟨g.bl m.seg,0,none⟩),.int .i64 (n*64+Tn),.bool false]) (by simp[results,Tryz.results252,go_sem]) rfl ⟨by rw[HR.out];rfl,aT wB.out (bI _ _)⟩
           | true =>
            rw[hw]at n4 HR ZG;clear hw;generalize iw o.lab c.lab=ch at HR HCh;go_wp2_with fail
            go_region_held3 (fun w'=>(w'.cell? ⟨g.bl o.name,4,none⟩=some (.int .i64 (o.lab.d:Nat))/\w'.cell? ⟨g.bl o.name,5,none⟩=some (.slice Tm o.lab.ps.length Tk))/\w'.cell? ⟨g.bl m.seg,4,none⟩=some (.int .i64 (c.lab.d:Nat))/\w'.cell? ⟨g.bl m.seg,5,none⟩=some (.slice ca c.lab.ps.length cc)/\w'.cell? ⟨mb,4,none⟩=some (.bool true)) (first|go_keep|exact ZG.out _ hb7)
             (first|(refine HOd.out.mono ?_;rintro e w' ⟨rfl,rfl⟩)|(refine HCh.out.mono ?_;rintro e w7 ⟨rfl,hb7⟩))
            all_goals
             go_wp2_with fail
             refine bodyPost_ret (v:=.tuple #[.pointer (some ⟨g.bl m.seg,0,none⟩),.int .i64 (n*64+Tn),.bool ch]) (by simp[results,Tryz.results252,go_sem]) rfl ⟨by rw[HR.out];rfl,aT wB.out hb7⟩
         ·have q1:decide ((c.pages:Int)<=n)=true:=bK (by omega)
          have q2:(c.pages:Int)<=n:=by omega
          have HR:Hid (K.bN o va=none):=ah (by rw[LV.out];exact aA (by simp[hlt]));clear hlt;go_quiet ((go_at_call 57;exact Calls.quiet_of_same (HPg.out _)))
          go_wp2_with fail
          refine bodyPost_ret (v:=.tuple #[.pointer none,.int .i64 0,.bool false]) (by simp[results,Tryz.results252,go_sem]) rfl ⟨by rw[HR.out];rfl,aT pK.out (bI _ _)⟩
        ·have e4:(c.kind==2)=false:=by simp[hk2]
         have e5:(c.kind != 2)=true:=by simp[hk2]
         have HR:Hid (K.bN o va=none):=ah (by rw[LV.out];exact aA (by simp[hk2]));clear hk2 hc Bc;go_quiet (fail)
         go_wp2_with fail
         refine bodyPost_ret (v:=.tuple #[.pointer none,.int .i64 0,.bool false]) (by simp[results,Tryz.results252,go_sem]) rfl ⟨by rw[HR.out];rfl,aT pK.out (bI _ _)⟩
   ·have e4:(s.kind==4)=false:=by simp[hk4]
    have e5:(s.kind != 4)=true:=by simp[hk4]
    have HR:=ah (zC (va:=va) HS.out (by simp[hk4]));clear hk4;go_wp2_with fail
    go_quiet (fail)
    go_wp2_with fail
    refine bodyPost_ret (v:=.tuple #[.pointer none,.int .i64 0,.bool false]) (by simp[results,Tryz.results252,go_sem]) rfl ⟨by rw[HR.out];rfl,aT HB1.out (bI _ _)⟩
end Go.Proofs.YtiadbhiadhgjkaaGreatDoor
