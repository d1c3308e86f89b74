import Derived.Test.YtiadbhiadhgjkaaGreatDoorZzLc
import Derived.Deep.QuietTactic
import Derived.BigQuiet
import Derived.StillTailTactics
set_option maxRecDepth 100000
set_option maxHeartbeats 4000000
namespace Go.Proofs.YtiadbhiadhgjkaaGreatDoor
open Go.RowKit
structure bS(w0:World)(g0:Gh)(K:Km)(o:Ob)(w:World)(g:Gh):Prop where
 kin:cZ w g K
 inv:Inv g K
 ext:Ext g0 g w0 w
 same:Same g0 g
theorem Mv(t:Th)(x:Ts)(a b c:Int):(jw t x a b).setIfInBounds 22 (.int .i64 c)=jw t x c b:=by
 unfold jw;simp only[ay,aG,aH]
theorem wT(t:Th)(x:Ts)(a b c:Int):(jw t x a b).setIfInBounds 23 (.int .i64 c)=jw t x a c:=by
 unfold jw;simp only[ay,aG,aH]
section
variable {w0 w w1 w2:World}{g0 g:Gh}{K:Km}{o:Ob}
theorem bS.pool(h:bS w0 g0 K o w g)(k:Kept (PS g.pb g.db g.ob) w w1){P':Pool}(hP:bB w1 g.pb g.db g.ob P'):cZ w1 { g with P:=P' } K/\Ext g0 { g with P:=P' } w0 w1:=by
 obtain⟨k1,k2⟩:=h.kin.pooled k hP;exact⟨k1,h.ext.trans k2⟩
theorem bS.table(h:bS w0 g0 K o w g)(ho:K.obj o.name=some o)(hk:o.kind=3)(k:Kept (PS g.pb g.db g.ob) w w1){P':Pool}(hP:bB w1 g.pb g.db g.ob P'){x:Ts}(hx:rz w1 { g with P:=P' } o.name o.th x)
  {r t:Int} {N F:Nat->Int} {Y:Nat->Bool} (k2:Kept (·=g.tl o.name) w1 w2) (hB:aR w2 (g.tl o.name) (jw o.th x r t) 52) (hmv:dQ g.P P' o.name)
  (hT:Tab P' r o.name N F Y) (hc:t=(gu N 585:Nat)) (h8:t<=8) (hl:∀p,p<4096->F p≠0->iA g K o p (F p) (Y p)) (hleft:(P'.left:Int)+t=g.P.left+g.tabs o.name) :
  bS w0 g0 K o w2 (g.table o.name P' r t N F Y)/\vP (g.table o.name P' r t N F Y) K o:=by
 obtain⟨q1,q2⟩:=h.pool k hP;obtain⟨q3,q4⟩:=q1.rooted (N:=N) (F:=F) (Y:=Y) ho hk hx k2 hB;refine⟨⟨q3,h.inv.table ho hk hmv hT hc h8 hl hleft,q2.trans q4,h.same.trans ⟨rfl,rfl,rfl,rfl,rfl⟩⟩,?_,?_,?_,?_⟩
 ·show Tab P' (gX g.root _ r _) _ (gX g.N _ N _) (gX g.F _ F _) (gX g.Y _ Y _)
  rw[dI,dI,dI,dI];exact hT
 ·show gX g.tabs _ t _=(gu (gX g.N _ N _) 585:Nat)
  rw[dI,dI];exact hc
 ·show gX g.tabs _ t _<=8
  rw[dI];exact h8
 ·intro p hp
  show gX g.F _ F _ p≠0->iA _ _ _ _ (gX g.F _ F _ p) (gX g.Y _ Y _ p)
  rw[dI,dI];exact hl p hp
theorem bS.room(h:bS w0 g0 K o w g)(ho:K.obj o.name=some o)(hk:o.kind=3):8-g.tabs o.name<=(g.P.left:Int):=by
 have h1:=sN h.inv o.name ((h.inv.lD.2 o.name).2 ⟨o,ho,hk⟩);have h2:=h.inv.room;omega
theorem bS.begin(h:bS w0 g0 K o w g)(ho:K.obj o.name=some o)(hk:o.kind=3)(hr:g.root o.name=0/\g.tabs o.name=0)(k:Kept (PS g.pb g.db g.ob) w w1)(hP:bB w1 g.pb g.db g.ob (g.P.alloc o.name)) :
  ∃x g',aR w1 (g.tl o.name) (jw o.th x 0 0) 52/\bS w0 g0 K o ((w1.setCell ⟨g.tl o.name,22,none⟩ (.int .i64 (g.P.bJ o.name))).setCell ⟨g.tl o.name,23,none⟩ (.int .i64 1)) g'/\vP g' K o:=by
 have hroom:=h.room ho hk;have hpos:=(h.kin.objs _ _ ho).2.pos;obtain⟨r,e1,r1,r2,hT,hmv,hleft,-⟩:=Tab.begin g.P o.name (by omega) (by omega);obtain⟨q1,-⟩:=h.pool k hP;obtain⟨x,hx⟩:=q1.gQ ho hk
 have hB:aR w1 (g.tl o.name) (jw o.th x 0 0) 52:=by
  have:=hx.blk;have e2:({ g with P:=g.P.alloc o.name }:Gh).root o.name=0:=hr.1;have e3:({ g with P:=g.P.alloc o.name }:Gh).tabs o.name=0:=hr.2;rw[e2,e3]at this;exact this
 have hB2:=((hB.set 22 (.int .i64 r)).cells (Mv _ _ _ _ _)).set 23 (.int .i64 1);have hB3:=hB2.cells (wT _ _ _ _ _)
 obtain⟨z1,z2⟩:=h.table ho hk k hP hx (r:=r) (t:=1) (N:=vJ r) (F:=noF) (Y:=noY) (((Kept.refl (·=g.tl o.name) w1).bC _ _ _ rfl).bC _ _ _ rfl) hB3 hmv hT
  (by rw[qW (vJ r) (by show(if(0:Nat)=0 then r else 0)≠0;rw[aD rfl];omega) (fun j hj _=>aA (by omega)) 585 (by omega) (aj _)];rfl) (by omega)
  (fun p _ e=>absurd rfl e) (by rw[hr.2];omega)
 exact⟨x,_,hB,by rw[e1];exact z1,z2⟩
theorem bS.filled(h:bS w0 g0 K o w g)(ht:vP g K o)(ho:K.obj o.name=some o)(hk:o.kind=3){p:Nat}(hp:p<4096){f:Int}{b:Bool}(hl:iA g K o p f b)(hm:(gL (g.N o.name) p:Int)<=8-g.tabs o.name){P':Pool}{N':Nat->Int}
  (hF:BU w w1 g.pb g.db g.ob g.P (g.root o.name) o.name (g.N o.name) (g.F o.name) (g.Y o.name) p f b P' N') :
  ∃x,aR w1 (g.tl o.name) (jw o.th x (g.root o.name) (g.tabs o.name)) 52/\∃g',bS w0 g0 K o (w1.setCell ⟨g.tl o.name,23,none⟩ (.int .i64 (g.tabs o.name+gL (g.N o.name) p))) g':=by
 obtain⟨q1,-⟩:=h.pool hF.kept hF.pool;obtain⟨x,hx⟩:=q1.gQ ho hk;have hB:aR w1 (g.tl o.name) (jw o.th x (g.root o.name) (g.tabs o.name)) 52:=hx.blk;have hB3:=(hB.set 23 (.int .i64 (g.tabs o.name+gL (g.N o.name) p))).cells (wT _ _ _ _ _);have hcnt:=ht.tab.more p hp hF.new;have hleft:=hF.left;have hc0:=ht.cnt
 obtain⟨z1,-⟩:=h.table ho hk hF.kept hF.pool hx ((Kept.refl (·=g.tl o.name) w1).bC _ _ _ rfl) hB3 hF.mv hF.tab (by rw[hcnt];omega) (by omega) (fun q hq hne=>by
  by_cases e:q=p
  ·subst e
   rw[dZ];have:yV (g.Y o.name) q b q=b:=aD rfl
   rw[this];exact hl
  ·rw[bL _ _ _ _ e]at hne ⊢
   have:yV (g.Y o.name) p b q=g.Y o.name q:=aA e
   rw[this];exact ht.lead q hq hne) (by omega)
 exact⟨x,hB,_,z1⟩
theorem bS.dropped(h:bS w0 g0 K o w g)(ht:vP g K o)(ho:K.obj o.name=some o)(hk:o.kind=3){P1:Pool}(_:bB w1 g.pb g.db g.ob P1)(hk1:Kept (PS g.pb g.db g.ob) w w1)(zf:dQ g.P P1 o.name)(hl1:P1.left=g.P.left)
  {w2:World} {P2:Pool} (hG:wN w1 w2 g.pb g.db g.ob P1 (g.root o.name) o.name (g.N o.name) (g.Y o.name) P2) :
  ∃x,aR w2 (g.tl o.name) (jw o.th x (g.root o.name) (g.tabs o.name)) 52/\∃g',bS w0 g0 K o (w2.setCell ⟨g.tl o.name,23,none⟩ (.int .i64 1)) g'/\vP g' K o/\g'.tabs o.name=1/\(∀p,p<4096->gL (g'.N o.name) p=3)/\g'.root o.name=g.root o.name:=by
 obtain⟨N',F',hT,hN,hF⟩:=hG.tab;have hk2:=hk1.trans hG.kept;obtain⟨q1,-⟩:=h.pool hk2 hG.pool;obtain⟨x,hx⟩:=q1.gQ ho hk;have hB:aR w2 (g.tl o.name) (jw o.th x (g.root o.name) (g.tabs o.name)) 52:=hx.blk;have hB3:=(hB.set 23 (.int .i64 1)).cells (wT _ _ _ _ _);have hleft:=hG.left;have hc0:=ht.cnt;have hn0:N' 0≠0:=by rw[hT.root];exact hT.r0
 obtain⟨z1,z2⟩:=h.table ho hk hk2 hG.pool hx ((Kept.refl (·=g.tl o.name) w2).bC _ _ _ rfl) hB3 (zf.trans hG.mv) hT (by rw[qW N' hn0 hN 585 (by omega) (aj _)];rfl) (by omega) (fun q hq hne=>absurd (hF q hq) hne) (by omega);refine⟨x,hB,_,z1,z2,dI _ _ _,fun p hp=>?_,dI _ _ _⟩;show gL (gX g.N _ N' _) p=3
 rw[dI];unfold gL;rw[aD (hN _ (xE p 0) (jq p 1 hp))]
end
theorem cZ.apart{w:World}{g:Gh}{K:Km}{o:Ob}(h:cZ w g K)(ho:K.obj o.name=some o)(hk:o.kind=3){w':World}(k:Kept (fun b=>PS g.pb g.db g.ob b\/b=g.tl o.name) w w') :
  (w'.cell? ⟨g.kb,0,none⟩=some (.pointer (some ⟨g.tb,0,none⟩))/\w'.cell? ⟨g.kb,1,none⟩=some (.pointer (some ⟨g.pb,0,none⟩)))/\w'.cell? ⟨g.bl o.name,2,none⟩=some (.int .u64 o.name)/\w'.cell? ⟨g.bl o.name,19,none⟩=some (.pointer (some ⟨g.tl o.name,0,none⟩)):=by
 obtain⟨x,hT⟩:=h.gQ ho hk;obtain⟨s,T,hO⟩:=h.at ho;have hpos:=(h.objs _ _ ho).2.pos;have htag:=(h.objs _ _ ho).2.tag;obtain⟨cv,sv,dv,-,hB,-⟩:=h.gZ.ex
 have hne:∀b (n:Int) (i:Nat),g.A b=some (n,i)->(n,i)≠((0:Int),3)->(n,i)≠((0:Int),4)->(n,i)≠((0:Int),5)->(n,i)≠(o.name,10)->¬(PS g.pb g.db g.ob b\/b=g.tl o.name):=fun b n i e e3 e4 e5 e10 q=>by
  rcases q with(q|q|q)|q
  ·rw[q,h.tags.pb]at e;cases e;exact e3 rfl
  ·rw[q,h.tags.db]at e;cases e;exact e4 rfl
  ·rw[q,h.tags.ob]at e;cases e;exact e5 rfl
  ·rw[q,hT.tag]at e;cases e;exact e10 rfl
 have hb1:=k.blk hB (hne _ 0 0 h.tags.kb (by simp) (by simp) (by simp) (by intro e;have:=congrArg Prod.fst e;simp only at this;omega));have hb2:=k.blk hO.blk (hne _ o.name 0 htag (by simp) (by simp) (by simp) (by simp));have e19:=h.pU ho hk;rw[hO.blk.cell]at e19;exact⟨⟨(hb1.cell 0).trans rfl,(hb1.cell 1).trans rfl⟩,(hb2.cell 2).trans rfl,(hb2.cell 19).trans e19⟩
theorem cZ.four{w:World}{g:Gh}{K:Km}{o:Ob}(h:cZ w g K)(ho:K.obj o.name=some o)(hk:o.kind=3)(w':World)(k:Kept (PS g.pb g.db g.ob) w w') :
  (w'.cell? ⟨g.kb,1,none⟩=some (.pointer (some ⟨g.pb,0,none⟩))/\w'.cell? ⟨g.bl o.name,2,none⟩=some (.int .u64 o.name))/\w'.cell? ⟨g.tl o.name,22,none⟩=some (.int .i64 (g.root o.name))/\w'.cell? ⟨g.tl o.name,23,none⟩=some (.int .i64 (g.tabs o.name)):=by
 obtain⟨⟨-,e1⟩,e2,-⟩:=h.apart ho hk (k.mono (fun _ _ e=>.inl e));obtain⟨x,hT⟩:=h.gQ ho hk;have hpos:=(h.objs _ _ ho).2.pos
 have hb:=k.blk hT.blk (fun q=>by
  have e:=hT.tag;rcases q with q|q|q
  ·rw[q,h.tags.pb]at e;have:=congrArg (fun x=>x.map Prod.snd) e;simp at this
  ·rw[q,h.tags.db]at e;have:=congrArg (fun x=>x.map Prod.snd) e;simp at this
  ·rw[q,h.tags.ob]at e;have:=congrArg (fun x=>x.map Prod.snd) e;simp at this)
 exact⟨⟨e1,e2⟩,(hb.cell 22).trans rfl,(hb.cell 23).trans rfl⟩
theorem NC(N:Nat->Int)(p:Nat):gL N p<=3:=by unfold gL;(repeat' split)<;>omega
attribute [local irreducible] World.setCell World.alloc World.drew World.setRow Calls Code.wp
theorem KT(w:World)(g:Gh)(K:Km)(o:Ob)(p:Nat)(f:Int)(b:Bool)(h:cZ w g K)(hI:Inv g K)(ho:K.obj o.name=some o)(hk:o.kind=3)(hp:p<4096)(hf:1<=f/\f<=4294967295)(hl:iA g K o p f b) :
  Calls Tryz.prog 321 #[.pointer (some ⟨g.kb,0,none⟩),.pointer (some ⟨g.bl o.name,0,none⟩),.int .i64 p,.int .i64 f,.bool b] w fun e w'=>e=.returned (.tuple #[])/\∃g',cZ w' g' K/\Inv g' K/\Ext g g' w w'/\Same g g':=by
 have HE:=ah (show bS w g K o w g from⟨h,hI,Ext.refl g w,Same.refl g⟩);have HL:=ah hl;have HO:=ah ho;obtain⟨hf1,hf2⟩:=hf;have k1:=h.iV.2;have t0:=h.pU ho hk;obtain⟨x,hT⟩:=h.gQ ho hk;have t22:w.cell? ⟨g.tl o.name,22,none⟩=some (.int .i64 (g.root o.name)):=(hT.blk.cell 22).trans rfl;obtain⟨s,T,hOb⟩:=h.at ho;have b2:=hOb.name;have Wd:=ah (hI.yS _ _ ho hk);have Zi:=ah (HE.out.room ho hk);clear h hI ho hl hT hOb;go_enter Tryz.func321,Tryz.ntmps321
 go_upto_region 1 with fail
 go_upto_if 21 with fail
 go_cut [] (fun wx=>∃g1,Hid (bS w g K o wx g1)/\Hid (vP g1 K o))
 case first =>
  by_cases hr:g.root o.name=0
  ·have Hr:=ah (show g.root o.name=0/\g.tabs o.name=0 from⟨hr,by
    rcases Wd.out with e|⟨e,-⟩
    ·exact e.2
    ·exact absurd hr e.r0⟩)
   have hrb:(g.root o.name==0)=true:=by simp[hr]
   rw[hr]at t22;clear hr
   have iR:Hid (∀w',Kept (fun b=>PS g.pb g.db g.ob b\/b=g.tl o.name) w w'->w'.cell? ⟨g.kb,1,none⟩=some (.pointer (some ⟨g.pb,0,none⟩))/\w'.cell? ⟨g.bl o.name,2,none⟩=some (.int .u64 o.name)):=ah (fun w' k=>by
    obtain⟨e1,e2,-⟩:=HE.out.kin.apart HO.out hk k;exact⟨e1.2,e2⟩)
   have Hal:=ah (jk g.pb g.db g.ob g.P o.name w.drew HE.out.kin.pool.drew);go_wp2_with fail
   go_region_held3 (fun w'=>w'.cell? ⟨g.kb,1,none⟩=some (.pointer (some ⟨g.pb,0,none⟩))/\w'.cell? ⟨g.bl o.name,2,none⟩=some (.int .u64 o.name))
    (first|go_keep|exact iR.out _ hk1|exact iR.out _ (hk1.bC _ _ _ (.inr rfl))|exact iR.out _ ((hk1.bC _ _ _ (.inr rfl)).bC _ _ _ (.inr rfl)))
    ((refine Hal.out.mono ?_;rintro e w1 ⟨rfl,hP1,hK1⟩;obtain⟨x,g',hB,hE,hS⟩:=HE.out.begin HO.out hk Hr.out ((Kept.refl _ w).drew.trans hK1) hP1;have hk1:Kept (fun b=>PS g.pb g.db g.ob b\/b=g.tl o.name) w w1:=((Kept.refl _ w).drew.trans hK1).mono (fun _ _ e=>.inl e);have hfr:=hB.free;have hlt:=hB.lt;have c22:w1.cell? ⟨g.tl o.name,22,none⟩=some (.int .i64 0):=(hB.cell 22).trans rfl;have c23:w1.cell? ⟨g.tl o.name,23,none⟩=some (.int .i64 0):=(hB.cell 23).trans rfl))
   have HE2:=ah hE;have HS2:=ah hS;clear hP1 hK1 hB hE hS;go_wp2_with fail
   go_meet;exact⟨g',HE2,HS2⟩
  ·have hrb:(g.root o.name==0)=false:=by simpa using hr
   have HS2:Hid (vP g K o):=by
    rcases Wd.out with e|⟨e1,e2,e3,e4⟩
    ·exact absurd e.1 hr
    ·exact ah ⟨e1,e2,e3,e4⟩
   clear hr;go_wp2_with fail
   go_meet;exact⟨g,HE,HS2⟩
 case rest =>
  rename World=>w1
  obtain⟨g1,oo,QA⟩:=hcut;clear k1 t0 t22 b2 Wd Zi;have hbl:g1.bl=g.bl:=oo.out.same.bl;have htl:g1.tl=g.tl:=oo.out.same.tl;have hkb:g1.kb=g.kb:=oo.out.ext.al.kb;rw[<-hkb,<-hbl,<-htl]
  have vS:Hid (iA g1 K o p f b):=ah (by
   obtain⟨s,a,m,h1,h2,h3⟩:=HL.out;exact⟨s,a,m,h1,by rw[oo.out.same.fr];exact h2,h3⟩)
  clear hbl htl hkb;have iR:=ah (oo.out.kin.four HO.out hk);obtain⟨⟨k1,b2⟩,t22,t23⟩:=iR.out w1 (Kept.refl _ _);have hle:=QA.out.le;have hc0:=QA.out.cnt;have hroom:=oo.out.room HO.out hk;have hnt:=NC (g1.N o.name) p;obtain⟨tb,htb⟩:∃tb:Nat,g1.tabs o.name=tb:=⟨_,hc0⟩;have vD:=ah htb;clear hc0;rw[htb]at hle hroom t23 iR;have hw8:IntKind.i64.wrap (8-(tb:Int))=8-tb:=aV _ (by omega);by_cases hm:(gL (g1.N o.name) p:Int)<=8-tb
  ·have Hf:Hid (Calls Tryz.prog 322 #[.pointer (some ⟨g1.pb,0,none⟩),.int .i64 (g1.root o.name),.int .i64 p,.int .i64 f,.bool b,.int .u64 o.name,.int .i64 (8-(tb:Int))] w1.drew fun e w'=>e=.returned (.tuple #[.int .i64 (gL (g1.N o.name) p:Nat),.bool true])/\∃P' N',BU w1 w' g1.pb g1.db g1.ob g1.P (g1.root o.name) o.name (g1.N o.name) (g1.F o.name) (g1.Y o.name) p f b P' N'):=by
    refine(DT g1.pb g1.db g1.ob g1.P (g1.root o.name) o.name (g1.N o.name) (g1.F o.name) (g1.Y o.name) p f (8-(tb:Int)) b w1.drew oo.out.kin.pool.drew QA.out.tab hp hf1 hf2 hm (by omega)).mono ?_;rintro e w' ⟨h1,P',N',hF⟩;exact⟨h1,P',N',hF.pool,hF.tab,hF.mv,hF.left,hF.cnt,hF.old,hF.new,(Kept.refl _ w1).drew.trans hF.kept⟩
   have Hm:Hid ((gL (g1.N o.name) p:Int)<=8-g1.tabs o.name):=ah (by rw[vD.out];exact hm);have hsum:IntKind.i64.wrap ((tb:Int)+(gL (g1.N o.name) p:Nat))=(tb:Int)+(gL (g1.N o.name) p:Nat):=aV _ (by omega);clear hm hroom;go_wp2_with fail
   go_region_held3 (fun w'=>(w'.cell? ⟨g1.kb,1,none⟩=some (.pointer (some ⟨g1.pb,0,none⟩))/\w'.cell? ⟨g1.bl o.name,2,none⟩=some (.int .u64 o.name))/\w'.cell? ⟨g1.tl o.name,22,none⟩=some (.int .i64 (g1.root o.name))/\w'.cell? ⟨g1.tl o.name,23,none⟩=some (.int .i64 (tb:Int)))
    (first|go_keep|exact iR.out _ hF.kept)
    ((refine Hf.out.mono ?_;rintro e w2 ⟨rfl,P',N',hF⟩))
   all_goals
    obtain⟨x,hB,g',hE⟩:=oo.out.filled QA.out HO.out hk hp vS.out Hm.out hF;have hfr:=hB.free;have hlt:=hB.lt;have c23:w2.cell? ⟨g1.tl o.name,23,none⟩=some (.int .i64 (tb:Int)):=by rw[<-vD.out];exact(hB.cell 23).trans rfl
    have HE2:=ah hE;clear hB hE hF;go_wp2_with fail
    go_end0
    have hE:=HE2.out;rw[vD.out]at hE;exact⟨rfl,g',hE.kin,hE.inv,hE.ext,hE.same⟩
  ·have hcp:1<=gu (g1.N o.name) 585:=by
    have:=Eh (g1.N o.name) 0 585 (by omega) (by rw[QA.out.tab.root];exact QA.out.tab.r0);omega
   have hcn:=QA.out.cnt;rw[htb]at hcn
   have Hf:Hid (Calls Tryz.prog 322 #[.pointer (some ⟨g1.pb,0,none⟩),.int .i64 (g1.root o.name),.int .i64 p,.int .i64 f,.bool b,.int .u64 o.name,.int .i64 (8-(tb:Int))] w1.drew fun e w'=>e=.returned (.tuple #[.int .i64 0,.bool false])/\∃P1,bB w' g1.pb g1.db g1.ob P1/\Tab P1 (g1.root o.name) o.name (g1.N o.name) (g1.F o.name) (g1.Y o.name)/\dQ g1.P P1 o.name/\P1.left=g1.P.left/\Kept (PS g1.pb g1.db g1.ob) w1 w'):=by
    refine(OJ g1.pb g1.db g1.ob g1.P (g1.root o.name) o.name (g1.N o.name) (g1.F o.name) (g1.Y o.name) p f (8-(tb:Int)) b w1.drew oo.out.kin.pool.drew QA.out.tab hp hf1 (by omega) (by omega) (by omega)).mono ?_;rintro e w' ⟨h1,P1,q1,q2,q3,q4,-,q5⟩;exact⟨h1,P1,q1,q2,q3,q4,(Kept.refl _ w1).drew.trans q5⟩
   clear hm hroom;have LJ:=ah hcn;have Hcp:=ah hcp;clear hcn hcp;go_wp2_with fail
   go_region_held3 (fun w'=>(w'.cell? ⟨g1.kb,1,none⟩=some (.pointer (some ⟨g1.pb,0,none⟩))/\w'.cell? ⟨g1.bl o.name,2,none⟩=some (.int .u64 o.name))/\w'.cell? ⟨g1.tl o.name,22,none⟩=some (.int .i64 (g1.root o.name))/\w'.cell? ⟨g1.tl o.name,23,none⟩=some (.int .i64 (tb:Int)))
    (first|go_keep|exact iR.out _ hK2)
    ((refine Hf.out.mono ?_;rintro e w2 ⟨rfl,P1,hP1,hT1,zf,hl1,hK2⟩))
   all_goals
    have BM:=ah (And.intro hP1 (And.intro hT1 (And.intro zf (And.intro hl1 hK2))));obtain⟨⟨r1,s2⟩,y22,y23⟩:=iR.out w2 hK2;clear hP1 hT1 zf hl1 hK2 k1 b2 t22 t23;go_upto_region 5 with fail
    go_cut [] (fun wx=>∃g2,Hid (bS w g K o wx g2)/\Hid (vP g2 K o)/\Hid (g2.tabs o.name=1/\gL (g2.N o.name) p=3))
    case first =>
     have Hdr:Hid (∀wz,wz=w2.drew->Calls Tryz.prog 213 #[.pointer (some ⟨g1.pb,0,none⟩),.int .i64 (g1.root o.name)] wz fun e w'=>∃v,e=.returned v/\(v=.int .i64 ((tb:Int)-1)/\∃P2,wN w2 w' g1.pb g1.db g1.ob P1 (g1.root o.name) o.name (g1.N o.name) (g1.Y o.name) P2)):=fun wz ez=>by
      rw[ez];refine(OQ g1.pb g1.db g1.ob P1 (g1.root o.name) o.name (g1.N o.name) (g1.F o.name) (g1.Y o.name) w2.drew BM.out.1.drew BM.out.2.1).mono ?_;rintro e w' ⟨rfl,P2,hG⟩;have h1:=LJ.out;have h2:=Hcp.out;exact⟨_,rfl,by congr 1;omega,P2,hG.pool,hG.tab,hG.mv,hG.left,hG.cnt,(Kept.refl _ w2).drew.trans hG.kept⟩
     have hsub:IntKind.i64.wrap ((tb:Int)-((tb:Int)-1))=1:=by rw[show(tb:Int)-((tb:Int)-1)=1 by omega];decide
     go_region_law (refine cB (by rfl) (bP (vs:=#[.pointer (some ⟨g1.pb,0,none⟩),.int .i64 (g1.root o.name)]) (by simp[Act.eval]) (bE Tryz.func213 (by kernel_rfl) rfl)) (Hdr.out _ (by first|rfl|exact drew_eq w2)) ?_;rintro v w3 ⟨rfl,P2,hG⟩;obtain⟨x,hB,g',hE,hS,hq1,hq2,-⟩:=oo.out.dropped QA.out HO.out hk BM.out.1 BM.out.2.2.2.2 BM.out.2.2.1 BM.out.2.2.2.1 hG;have hfr:=hB.free;have hlt:=hB.lt;have v23:w3.cell? ⟨g1.tl o.name,23,none⟩=some (.int .i64 (tb:Int)):=(by rw[<-vD.out];exact(hB.cell 23).trans rfl))
     all_goals
      have HE2:=ah hE;have HS2:=ah hS;have HQ:=ah (And.intro hq1 (hq2 p hp));clear hB hE hS hq1 hq2 hG;go_wp2_with fail
      go_meet;exact⟨g',HE2,HS2,HQ⟩
    case rest =>
     rename World=>w4
     obtain⟨g2,kr,WA,HQ⟩:=hcut;clear r1 s2 y22 y23 Hf BM;have hbl:g2.bl=g1.bl:=kr.out.same.bl.trans oo.out.same.bl.symm;have htl:g2.tl=g1.tl:=kr.out.same.tl.trans oo.out.same.tl.symm;have hkb:g2.kb=g1.kb:=kr.out.ext.al.kb.trans oo.out.ext.al.kb.symm;rw[<-hkb,<-hbl,<-htl]
     have HL2:Hid (iA g2 K o p f b):=ah (by
      obtain⟨s,a,m,h1,h2,h3⟩:=HL.out;exact⟨s,a,m,h1,by rw[kr.out.same.fr];exact h2,h3⟩)
     clear hbl htl hkb iR oo QA vS vD LJ Hcp htb hw8 hle hnt;have iR:=ah (kr.out.kin.four HO.out hk);rw[HQ.out.1]at iR;obtain⟨⟨k1,b2⟩,t22,t23⟩:=iR.out w4 (Kept.refl _ _);have hroom:=kr.out.room HO.out hk;rw[HQ.out.1]at hroom;have hn3:=HQ.out.2;have hw8:IntKind.i64.wrap (8-1)=7:=by decide
     have Hf:Hid (Calls Tryz.prog 322 #[.pointer (some ⟨g2.pb,0,none⟩),.int .i64 (g2.root o.name),.int .i64 p,.int .i64 f,.bool b,.int .u64 o.name,.int .i64 7] w4.drew fun e w'=>e=.returned (.tuple #[.int .i64 3,.bool true])/\∃P' N',BU w4 w' g2.pb g2.db g2.ob g2.P (g2.root o.name) o.name (g2.N o.name) (g2.F o.name) (g2.Y o.name) p f b P' N'):=by
      refine(DT g2.pb g2.db g2.ob g2.P (g2.root o.name) o.name (g2.N o.name) (g2.F o.name) (g2.Y o.name) p f 7 b w4.drew kr.out.kin.pool.drew WA.out.tab hp hf1 hf2 (by rw[hn3];omega) (by rw[hn3];omega)).mono ?_;rintro e w' ⟨h1,P',N',hF⟩;exact⟨by rw[h1,hn3];rfl,P',N',hF.pool,hF.tab,hF.mv,hF.left,hF.cnt,hF.old,hF.new,(Kept.refl _ w4).drew.trans hF.kept⟩
     have Hm:Hid ((gL (g2.N o.name) p:Int)<=8-g2.tabs o.name):=ah (by rw[HQ.out.1,hn3];omega);have Hn3:=ah hn3;clear hroom hn3;go_wp2_with fail
     go_region_held3 (fun w'=>(w'.cell? ⟨g2.kb,1,none⟩=some (.pointer (some ⟨g2.pb,0,none⟩))/\w'.cell? ⟨g2.bl o.name,2,none⟩=some (.int .u64 o.name))/\w'.cell? ⟨g2.tl o.name,22,none⟩=some (.int .i64 (g2.root o.name))/\w'.cell? ⟨g2.tl o.name,23,none⟩=some (.int .i64 1))
      (first|go_keep|exact iR.out _ hF.kept)
      ((refine Hf.out.mono ?_;rintro e w5 ⟨rfl,P',N',hF⟩))
     all_goals
      obtain⟨x,hB,g',hE⟩:=kr.out.filled WA.out HO.out hk hp HL2.out Hm.out hF;have hfr:=hB.free;have hlt:=hB.lt;have v23:w5.cell? ⟨g2.tl o.name,23,none⟩=some (.int .i64 1):=by rw[<-HQ.out.1];exact(hB.cell 23).trans rfl
      have WG:=ah hE;clear hB hE hF;go_wp2_with fail
      go_end0
      have hE:=WG.out;rw[HQ.out.1,Hn3.out]at hE;exact⟨rfl,g',hE.kin,hE.inv,hE.ext,hE.same⟩
end Go.Proofs.YtiadbhiadhgjkaaGreatDoor
