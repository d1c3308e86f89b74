import Derived.Test.YtiadbhiadhgjkaaGreatDoorZzKp
import Derived.Deep.AppendLies
import Derived.Deep.LoopGhost
import Derived.Test.YtiadbhiadhgjkaaGreatDoorZzWoHm
set_option maxRecDepth 100000
set_option maxHeartbeats 4000000
namespace Go.Proofs.YtiadbhiadhgjkaaGreatDoor
open Go.RowKit
attribute [local irreducible] World.setCell World.alloc World.drew World.setRow Calls Code.wp
attribute [local go_sem] Oper.semAt_some
def jI(made:List Int)(m:gy):gy:={ m with seg:=made.getD m.seg.toNat 0 }
theorem NW:(Tryz.prog.info? 125).map (fun i=>(i.zero,i.size,i.bytes))=some (some (.agg #[.int .i64 0,.int .u64 0,.int .i64 0,.int .i64 0,.bool false]),5,40):=by kernel_rfl
def Ji(w0:World)(g0:Gh)(K:Km)(x:Ob)(made:List Int)(ms:List gy)(k:Nat)(w:World):Prop :=
 ∃g,cZ w g (K.set { x with maps:=x.maps++(ms.take k).map (jI made) })/\Ext g0 g w0 w/\(∀n,dO g0 g n)/\(g.P=g0.P/\g.fC=g0.fC/\g.flush=g0.flush/\g.last=g0.last/\g.N=g0.N/\g.F=g0.F/\g.Y=g0.Y/\g.lD=g0.lD)/\∀b n i,g.A b=some (n,i)->g0.A b=some (n,i)\/n=x.name
theorem Gq(w:World)(g:Gh)(K:Km)(h:cZ w g K)(x:Ob)(hx:K.obj x.name=some x)(hk:x.kind=4)(o:dR)(ls lc vd vm mv:Value)(made:List Int)(cores:Int)(hv:pI w o ls lc vd vm)(ho:o.kind=4)(hs:o.space=0)
  (hrd:∀wx,Kept (fun b=>g.A b≠none) w wx->iM wx vm o.maps/\PK wx mv made) (hms:∀m∈o.maps,0<=m.seg/\m.seg<made.length) (hml:x.maps.length+o.maps.length<=1000) (hmd:made.length<=1000000) :
  Calls Tryz.prog 65 #[.pointer (some ⟨g.kb,0,none⟩),.pointer (some ⟨g.bl x.name,0,none⟩),wP o ls lc vd vm,mv,.int .i64 cores] w fun e w' =>
   e=.returned (.tuple #[])/\Ji w g K x made o.maps o.maps.length w':=by
 obtain⟨la,lc1,rfl,-,-⟩:=aJ.form hv.lab;obtain⟨ca,cc1,rfl,-,-⟩:=aJ.form hv.gG;obtain⟨da,dc1,rfl,-,-⟩:=aJ.form hv.data;obtain⟨ma,mc1,rfl,ahV,ahU⟩:=aJ.form hv.maps;obtain⟨mr,mrc,rfl,hm1,hm2⟩:=aJ.form (hrd w (Kept.refl _ _)).2;have H:=ah h;have HX:=ah hx;have HR:=ah hrd;have HS:=ah hms
 have H0:Hid (Ji w g K x made o.maps 0 (w.alloc (.cells #[.int .i64 4,.int .i64 o.parent,.int .i64 (o.lab.d:Nat),.slice la o.lab.ps.length lc1,.int .i64 (o.gG.d:Nat),.slice ca o.gG.ps.length cc1,.int .i64 o.pages,.int .i64 o.names,.slice da o.data.length dc1,.slice ma o.maps.length mc1,.int .i64 0,.int .i64 o.pc] 120))):=by
  refine⟨g,?_,Ext.below ((aC _ w).alloc (aj _) _),fun n=>dO.refl g n,⟨rfl,rfl,rfl,rfl,rfl,rfl,rfl,rfl⟩,fun b n i e=>.inl e⟩;have e:({ x with maps:=x.maps++(o.maps.take 0).map (jI made) }:Ob)=x:=by simp
  rw[e]
  have e2:K.set x=K:=by
   unfold Km.set
   have:(fun n=>if n=x.name then some x else K.obj n)=K.obj:=by
    funext n
    by_cases q:n=x.name
    ·rw[aD q,q,hx]
    ·rw[aA q]
   rw[this]
  rw[e2];exact h.alloc _
 obtain⟨i0,hi0,hz0,hz1,hz2⟩:=info_parts NW;have yM:=ah hi0;have lJ:=ah hz0;have lI:=ah hz1;have kT:=ah hz2;have hx0:=(h.objs _ _ hx).2;clear hv h hx hrd hms hi0 hz0 hz1 hz2 hx0;unfold wP;rw[ho,hs];go_enter Tryz.func65,Tryz.ntmps65
 go_wp2_with fail
 go_loopw [12,28] (fun _ i wx=>∃k:Nat,k<=o.maps.length/\i=.int .i64 k/\Hid (Ji w g K x made o.maps k wx)) (fun _ i _=>o.maps.length-(intOf i).toNat)
 case atStart=>exact⟨0,Nat.zero_le _,rfl,H0⟩
 case round =>
  obtain⟨k,hkl,rfl,HI⟩:=hrel;by_cases hlt:k<o.maps.length
  ·obtain⟨g1,f1,f2,f3,f4,f5⟩:=HI.out
   obtain⟨x1,hx1⟩:∃x1:Ob,x1={ x with maps:=x.maps++(o.maps.take k).map (jI made) }:=⟨_,rfl⟩;have NZ:x1.name=x.name:=by rw[hx1]
   have XM:x1.kind=4:=by rw[hx1];exact hk
   have UK:x1.maps=x.maps++(o.maps.take k).map (jI made):=by rw[hx1]
   have XL:x1.maps.length=x.maps.length+k:=by rw[UK,aO,List.length_map,List.length_take];omega
   rw[<-hx1]at f1;obtain⟨r1,r2⟩:=HR.out _ f2.kept;obtain⟨vb,rfl,ahx,Bc⟩:=aJ.cells r1 (by omega);obtain⟨m,hm⟩:∃m,o.maps[k]? = some m:=⟨o.maps[k],by simp[hlt]⟩;have rH:=fun i (hi:i<5)=>gP oH 5 (fun _=>rfl) o.maps k m hm i hi
   have c0:wr.cell? ⟨vb,k*5,none⟩=some (.int .i64 m.at_):=Bc (k*5) _ (by have:=rH 0 (by omega);rw[Nat.add_zero]at this;rw[this];rfl);have c1:wr.cell? ⟨vb,k*5+1,none⟩=some (.int .u64 m.seg):=Bc _ _ (by rw[rH 1 (by omega)];rfl);have c2:wr.cell? ⟨vb,k*5+2,none⟩=some (.int .i64 m.from_):=Bc _ _ (by rw[rH 2 (by omega)];rfl);have c3:wr.cell? ⟨vb,k*5+3,none⟩=some (.int .i64 m.n):=Bc _ _ (by rw[rH 3 (by omega)];rfl);have c4:wr.cell? ⟨vb,k*5+4,none⟩=some (.bool m.wr):=Bc _ _ (by rw[rH 4 (by omega)];rfl);obtain⟨sg1,sg2⟩:=HS.out m (bG hm);obtain⟨sn,hsn⟩:∃sn:Nat,m.seg=(sn:Int):=⟨m.seg.toNat,by omega⟩;have UN:sn<made.length:=by omega
   obtain⟨mg,rfl,DC,hmc⟩:=aJ.cells r2 (by omega);have hms:wr.cell? ⟨mg,sn,none⟩=some (.int .u64 (made.getD sn 0)):=hmc sn _ (by rw[dF];simp[List.getD,UN]);have TG:jI made m={ m with seg:=made.getD sn 0 }:=by unfold jI;rw[hsn];rfl
   have Hmf:=ah TG;have Xc:=ah hm;obtain⟨gv,hgv⟩:∃gv,gv=made.getD sn 0:=⟨_,rfl⟩;rw[<-hgv]at hms;have Hgv:=ah hgv;rw[hsn]at c1;have q2:(sn:Int)<made.length:=by omega
   have ahZ:(k:Int)<o.maps.length:=by omega
   obtain⟨s,T,hO⟩:=f1.at (Km.dz K x1);obtain⟨sq,sk,sf,sm,sl,sc,so,si,sr⟩:=s;obtain⟨ka,kc,rfl,hk1,hk2⟩:=hO.rows.maps.form;have HO:=ah hO;have d18:wr.cell? ⟨g1.bl x.name,18,none⟩=some (.slice ka x1.maps.length kc):=by rw[<-NZ];exact(hO.blk.cell 18).trans rfl
   have f18:wr.frozen? ⟨g1.bl x.name,18,none⟩=false:=by rw[<-NZ];exact hO.blk.free 18
   have hblt:g1.bl x.name<wr.heap.size:=by rw[<-NZ];exact hO.blk.lt
   have hbl:g1.bl x.name=g.bl x.name:=(f3 x.name).bl;rw[hbl]at d18 f18 hblt;have F1:=ah f1;have F2:=ah f2;have F3:=ah f3;have F4:=ah f4;have F5:=ah f5;have Zg:=ah (And.intro NZ (And.intro XM (And.intro UK XL)));clear f1 f2 f3 f4 f5 hO Bc hmc rH hm TG hsn sg1 sg2 hgv r1 r2 NZ XM UK;have ahT:x1.maps.length<=1000:=by omega
   have BM:=ah hx1;clear XL hx1;go_wp2_with fail
   obtain⟨wb,hwb⟩:∃wb,wb=wr.alloc (.cells #[.int .i64 m.at_,.int .u64 gv,.int .i64 m.from_,.int .i64 m.n,.bool m.wr] 125):=⟨_,rfl⟩;rw[<-hwb];have hbb:Below wr.heap.size wr wb:=by rw[hwb];exact(aC _ _).alloc (aj _) _
   have wm:=ah hbb;have hBx:aR wb wr.heap.size #[.int .i64 m.at_,.int .u64 gv,.int .i64 m.from_,.int .i64 m.n,.bool m.wr] 125:=by rw[hwb];exact aR.new _ _ _
   have qX:=ah (HO.out.below hbb);have FB:=ah (F1.out.below hbb);have e18:wb.cell? ⟨g.bl x.name,18,none⟩=some (.slice ka x1.maps.length kc):=by rw[<-d18];exact hbb.cell (p:=⟨g.bl x.name,18,none⟩) hblt
   have k18:wb.frozen? ⟨g.bl x.name,18,none⟩=false:=by rw[<-f18];exact hbb.frozen (p:=⟨g.bl x.name,18,none⟩) hblt
   have aeV:g.bl x.name<wb.heap.size:=bA hblt hbb.size;have hrb:wr.heap.size<wb.heap.size:=hBx.lt;have b0:wb.cell? ⟨wr.heap.size,0,none⟩=some (.int .i64 m.at_):=(hBx.cell 0).trans rfl;have b1:wb.cell? ⟨wr.heap.size,1,none⟩=some (.int .u64 gv):=(hBx.cell 1).trans rfl;have b2:wb.cell? ⟨wr.heap.size,2,none⟩=some (.int .i64 m.from_):=(hBx.cell 2).trans rfl;have b3:wb.cell? ⟨wr.heap.size,3,none⟩=some (.int .i64 m.n):=(hBx.cell 3).trans rfl;have b4:wb.cell? ⟨wr.heap.size,4,none⟩=some (.bool m.wr):=(hBx.cell 4).trans rfl
   have GY:Hid (World.ownsRow (wb.alloc (.cells #[.int .i64 m.at_,.int .u64 gv,.int .i64 m.from_,.int .i64 m.n,.bool m.wr] 125)).drew 0 125 5 (.slice ka x1.maps.length kc) x1.maps.length (x1.maps.flatMap oH)):=by
    have:=dA (T:=fun _=>False) qX.out.rows.maps.row ((Kept.refl _ _).alloc (.cells #[.int .i64 m.at_,.int .u64 gv,.int .i64 m.from_,.int .i64 m.n,.bool m.wr] 125)).drew (fun _ _ q=>q);exact this
   have LX:Hid (∀u∈[Value.int .i64 m.at_,.int .u64 gv,.int .i64 m.from_,.int .i64 m.n,.bool m.wr],u.oneCell'=true):=fun u hu=>by
    simp at hu;rcases hu with rfl|rfl|rfl|rfl|rfl<;>rfl
   have Wu:Hid (∀w5,World.grownBy (wb.alloc (.cells #[.int .i64 m.at_,.int .u64 gv,.int .i64 m.from_,.int .i64 m.n,.bool m.wr] 125)).drew w5 (Value.slice ka x1.maps.length kc).ownBlock->∃cs,aR w5 (g.bl x.name) cs 68/\cs[18]? = some (.slice ka x1.maps.length kc)):=fun w5 hg=>by
    have h1:=(dG hg).blk ((qX.out.blk.alloc (.cells #[.int .i64 m.at_,.int .u64 gv,.int .i64 m.from_,.int .i64 m.n,.bool m.wr] 125)).drew) (fun e=>by
     have h1:=qX.out.rows.maps.tag _ e;have h2:=(FB.out.objs _ _ (Km.dz K x1)).2.tag;rw[h1]at h2;cases h2)
    rw[Zg.out.1,(F3.out x.name).bl]at h1;exact⟨_,h1,rfl⟩
   clear hwb hbb hBx d18 f18 hblt c0 c1 c2 c3 c4 hms
   go_region_law (first
    | (refine step_append_lies _ (by rfl) (.tmp 42) (.tmp 44) 61 (by rfl) 0 125 i0 _ 5 40 Tryz.underlying61 yM.out lJ.out lI.out kT.out rfl (by decide) (.slice ka x1.maps.length kc) x1.maps.length (x1.maps.flatMap oH) (by simp[Act.eval]) GY.out ⟨wb.heap.size,0,none⟩ 1 1 [.int .i64 m.at_,.int .u64 gv,.int .i64 m.from_,.int .i64 m.n,.bool m.wr] (by simp[Act.eval]) rfl (World.news_of_block (aR.new wb #[.int .i64 m.at_,.int .u64 gv,.int .i64 m.from_,.int .i64 m.n,.bool m.wr] 125).drew) LX.out (by omega) (by unfold maxLen;omega) (by omega) (by simp) _ rfl ?_;intro g5 cap w5 hown5 fI hg5 uU;obtain⟨cs5,ni,YM⟩:=Wu.out w5 fI;have j18:w5.cell? ⟨g.bl x.name,18,none⟩=some (.slice ka x1.maps.length kc):=by rw[ni.cell];exact YM
       have m18:w5.frozen? ⟨g.bl x.name,18,none⟩=false:=ni.free 18))
   all_goals
    clear j18 m18 ni YM
    have hg6:(Value.slice ka x1.maps.length kc).ownBlock=some g5\/wb.heap.size<=g5:=by
     rcases hg5 with e|e
     ·exact .inl e
     ·right;rw[e];simp
    obtain⟨p1,p2⟩:=FB.out.QT (o:=x1) (x:={ m with seg:=gv }) (Km.dz K x1) qX.out.blk qX.out.rows qX.out.th qX.out.no (((Kept.refl _ wb).alloc _).drew.trans (dG fI)) hown5 rfl hg6 uU;have hbx:g1.bl x1.name=g.bl x.name:=by rw[Zg.out.1];exact(F3.out x.name).bl
    rw[hbx]at p1 p2
    have HP:Hid (Ji w g K x made o.maps (k+1) (w5.setCell ⟨g.bl x.name,18,none⟩ (.slice (some ⟨g5,0,none⟩) (x1.maps.length+1) cap))):=by
     refine⟨_,?_,(F2.out.trans (Ext.below wm.out)).trans p2,fun n=>(F3.out n).trans (dO.own g1 g5 _ n),F4.out,fun b n i e=>?_⟩
     ·have e1:({ x1 with maps:=x1.maps++[{ m with seg:=gv }] }:Ob)={ x with maps:=x.maps++(o.maps.take (k+1)).map (jI made) }:=by
       rw[Zg.out.2.2.1,BM.out,List.take_add_one,Xc.out];simp only[Option.toList_some,List.map_append,bW,List.map_nil,List.append_assoc];rw[Hmf.out,<-Hgv.out]
      rw[e1]at p1;rw[Km.set_set K x1 _ (by rw[Zg.out.1])]at p1;exact p1
     ·rw[Gh.jm]at e
      split at e
      ·cases e;exact .inr Zg.out.1
      ·exact F5.out b n i e
    clear p1 p2 hown5 fI hg5 uU hg6;go_wp2_with fail
    go_roundw
    case rel=>exact⟨k+1,by omega,by go_num,HP⟩
    case measure=>simp[intOf];omega
  ·obtain rfl:k=o.maps.length:=by omega
   go_wp2_with fail
   go_end0
   exact⟨rfl,HI.out⟩
theorem mO.form{w:World}{v:Value}{os:List dR}(h:mO w v os):∃a c,v=.slice a os.length c/\os.length<=c/\c<=maxLen:=by
 obtain⟨ss,_,_,h3⟩:=h;exact aJ.form h3
theorem Ol(x y z:Int)(sv ov:Value)(os:List dR)(i:Nat)(o:dR)(w:World)(hO:mO w ov os)(hi:os[i]? = some o)(hp:yJ o.parent)(hn:os.length<=100000) :
  Calls Tryz.prog 80 #[.agg #[.int .i64 x,.int .i64 y,.int .i64 z,sv,ov],.int .i64 (i:Int)] w fun e w'=>∃(dv:Int) (ha:Option Addr) (hl hc:Nat),e=.returned (.tuple #[.agg #[.int .i64 dv,.slice ha hl hc],.bool (jP os i o).isSome])/\(∀h,jP os i o=some h->bU w' (.agg #[.int .i64 dv,.slice ha hl hc]) h)/\Below w.heap.size w w':=by
 obtain⟨a,c,rfl,hc1,hc2⟩:=hO.form;have hlt:=(aW.1 hi).1;obtain⟨p1,p2⟩:=hp;obtain⟨wa,BZ⟩:∃wa:World,wa=(w.alloc (.cells #[.int .i64 x,.int .i64 y,.int .i64 z,sv,.slice a os.length c] 81)).alloc (.cells #[.int .i64 0,.slice none 0 0] 43):=⟨_,rfl⟩;obtain⟨xb,hxb⟩:∃xb,xb=w.heap.size:=⟨_,rfl⟩;have HX:Hid (aR wa xb #[.int .i64 x,.int .i64 y,.int .i64 z,sv,.slice a os.length c] 81):=by rw[BZ,hxb];exact(aR.new _ _ _).alloc _
 have HL:Hid (aR wa (xb+1) #[.int .i64 0,.slice none 0 0] 43):=by
  rw[BZ,hxb];have:=aR.new (w.alloc (.cells #[.int .i64 x,.int .i64 y,.int .i64 z,sv,.slice a os.length c] 81)) #[.int .i64 0,.slice none 0 0] 43;rw[au]at this;exact this
 have HBa:Hid (Below w.heap.size w wa):=by rw[BZ];exact((aC _ w).alloc (aj _) _).alloc (by rw[au];omega) _
 have HOa:=ah (hO.below HBa.out (aj _));obtain⟨b,s,rfl,hb,hV,hcell⟩:=HOa.out.at hi;have q1:wa.cell? ⟨b,i*12+1,none⟩=some (.int .i64 o.parent):=by rw[hcell 1 (by omega)];rfl
 have hcx:=HX.out.cell;have Qx:=ah hxb;have hi':(i:Int)<os.length:=by omega
 have hB2:∀v1 v2 wq,Below wa.heap.size wa wq->aR wq (xb+1) #[.int .i64 0,.slice none 0 0] 43/\Below w.heap.size w ((wq.setCell ⟨xb+1,0,none⟩ v1).setCell ⟨xb+1,1,none⟩ v2)/\aR ((wq.setCell ⟨xb+1,0,none⟩ v1).setCell ⟨xb+1,1,none⟩ v2) (xb+1) #[v1,v2] 43:=fun v1 v2 wq hq=>by
  have h1:=aR.below HL.out hq HL.out.lt;exact⟨h1,((aT HBa.out hq).setCell (p:=⟨xb+1,0,none⟩) (by rw[Qx.out];exact Nat.le_succ _) _).setCell (p:=⟨xb+1,1,none⟩) (by rw[Qx.out];exact Nat.le_succ _) _,((h1.set 0 v1).set 1 v2).cells rfl⟩
 have HB2:=ah hB2;have Hi:=ah hi;clear hcell hV hO hi hB2;go_enter Tryz.func80,Tryz.ntmps80
 go_upto_region 1 with fail
 rw[<-BZ,<-hxb];clear BZ hxb;by_cases c0:o.parent=0
 ·have Hh:Hid (jP os i o=some ⟨2,[]⟩):=by show _=_;unfold jP;rw[aD c0]
  have c0b:(o.parent==0)=true:=by simpa using c0
  have SH:=ah (fun w=>oI 2 w);clear c0;go_wp2_with fail
  refine(SH.out _).mono ?_;rintro e w1 ⟨rfl,hb1⟩;obtain⟨g1,g2,g3⟩:=HB2.out (.int .i64 2) (.slice none 0 0) w1 hb1;have G2:=ah g2;have G3:=ah g3;have hf1:=g1.free;have acu:=g1.cell;clear hb1 g1 g2 g3;go_wp2_with fail
  refine bodyPost_ret (mE rfl _ _ ⟨xb+1,0,none⟩ _ rfl (mG _ _ _ rfl G3.out)) rfl ?_;refine⟨_,_,_,_,by rw[Hh.out];rfl,fun h e=>?_,G2.out⟩;rw[Hh.out]at e
  cases e;exact⟨_,rfl,aJ.nil _ _⟩
 ·have c0b:(o.parent==0)=false:=by simpa using c0
  obtain⟨g1,g2,g3⟩:=HB2.out (.int .i64 0) (.slice none 0 0) wa (aC _ _);have G2:=ah g2;have G3:=ah g3;have hf1:=g1.free;have acu:=g1.cell;clear g2 g3;by_cases c1:o.parent<0
  ·have Hh:Hid (jP os i o=none):=by show _=_;unfold jP;rw[aA c0,aD (.inl c1)]
   clear c0;go_wp2_with fail
   refine bodyPost_ret (mE rfl _ _ ⟨xb+1,0,none⟩ _ rfl (mG _ _ _ rfl G3.out)) rfl ?_;exact⟨_,_,_,_,by rw[Hh.out];rfl,(fun h e=>by rw[Hh.out]at e;cases e),G2.out⟩
  ·by_cases c2:(i:Int)<o.parent
   ·have Hh:Hid (jP os i o=none):=by show _=_;unfold jP;rw[aA c0,aD (.inr c2)]
    clear c0;go_wp2_with fail
    refine bodyPost_ret (mE rfl _ _ ⟨xb+1,0,none⟩ _ rfl (mG _ _ _ rfl G3.out)) rfl ?_;exact⟨_,_,_,_,by rw[Hh.out];rfl,(fun h e=>by rw[Hh.out]at e;cases e),G2.out⟩
   ·obtain⟨j,hj⟩:∃j:Nat,o.parent=(j:Int)+1:=⟨o.parent.toNat-1,by omega⟩
    have hjl:j<os.length:=by omega
    obtain⟨q,hq⟩:∃q,os[j]? = some q:=⟨_,aQ hjl⟩;obtain⟨b',s',e',-,hV',hcell'⟩:=HOa.out.at hq
    cases e';have r0:wa.cell? ⟨b,j*12,none⟩=some (.int .i64 q.kind):=by have:=hcell' 0 (by omega);rw[Nat.add_zero]at this;rw[this];rfl
    have r2:wa.cell? ⟨b,j*12+2,none⟩=some (.int .i64 (q.lab.d:Nat)):=by rw[hcell' 2 (by omega)];rfl
    have r3:wa.cell? ⟨b,j*12+3,none⟩=some s'.ls:=by rw[hcell' 3 (by omega)];rfl
    have hjw:IntKind.i64.wrap (o.parent-1)=(j:Int):=by rw[hj,aV _ (by omega)];omega
    have aic:(j:Int)<os.length:=by omega
    have hj0:(0:Int)<=j:=by omega
    have hHm:jP os i o=if q.kind=1 then some q.lab else none:=by
     unfold jP;rw[aA c0,aA (by omega),show o.parent.toNat-1=j by omega,hq]
    have HHm:=ah hHm;have HV:=ah hV';obtain⟨pa,pc,hps,-,-⟩:=aJ.form hV'.lab;rw[hps]at r3;have Hps:=ah hps;clear hcell' hV' hq hHm c0 hps;by_cases c3:q.kind=1
    ·have c3b:(q.kind != 1)=false:=by simp[c3]
     have Hh:Hid (jP os i o=some q.lab):=by show _=_;rw[HHm.out,aD c3]
     obtain⟨g1,g2,g3⟩:=HB2.out (.int .i64 (q.lab.d:Nat)) (.slice pa q.lab.ps.length pc) wa (aC _ _);have K2:=ah g2;have K3:=ah g3;clear g1 g2 g3 c3;go_wp2_with fail
     refine bodyPost_ret (mE rfl _ _ ⟨xb+1,0,none⟩ _ rfl (mG _ _ _ rfl K3.out)) rfl ?_;refine⟨_,_,_,_,by rw[Hh.out];rfl,(fun h e=>?_),K2.out⟩;rw[Hh.out]at e
     cases e;refine⟨_,rfl,?_⟩;have hv:=HV.out.lab;rw[Hps.out]at hv;refine aJ.kept hv (((Kept.refl (·=xb+1) wa).bC (xb+1) 0 _ rfl).bC (xb+1) 1 _ rfl) (fun b cs fz e hh=>?_);have:=HL.out;unfold aR at this;rw[e,this]at hh;simp at hh
    ·have c3b:(q.kind != 1)=true:=by simpa using c3
     have Hh:Hid (jP os i o=none):=by show _=_;rw[HHm.out,aA c3]
     clear c3;go_wp2_with fail
     refine bodyPost_ret (mE rfl _ _ ⟨xb+1,0,none⟩ _ rfl (mG _ _ _ rfl G3.out)) rfl ?_;exact⟨_,_,_,_,by rw[Hh.out];rfl,(fun h e=>by rw[Hh.out]at e;cases e),G2.out⟩
end Go.Proofs.YtiadbhiadhgjkaaGreatDoor
