import Derived.Test.YtiadbhiadhgjkaaGreatDoorZzMn
import Derived.Defers
set_option maxRecDepth 100000
set_option maxHeartbeats 4000000
namespace Go.Proofs.YtiadbhiadhgjkaaGreatDoor
open Go.RowKit
theorem bS.yS{w0 w w':World}{g0 g:Gh}{K:Km}{o:Ob}(h:bS w0 g0 K o w g)(ho:K.obj o.name=some o)(hk:o.kind=3){x':Ts}{t:Th}(k:Kept (·=g.tl o.name) w w')(hB:aR w' (g.tl o.name) (jw t x' (g.root o.name) (g.tabs o.name)) 52)
  (hR:kY w' g.A o.name t x') (hs:t.space=o.th.space):bS w0 g0 (K.set (o.eF t)) (o.eF t) w' g:=by
 obtain⟨x,hT⟩:=h.kin.gQ ho hk;obtain⟨k1,k2⟩:=h.kin.yS (g':=g) ho hk k (dS.of hT.blk (by decide)) (fun b q _=>⟨10,aj _,by rw[q];exact hT.tag⟩) (dK.refl g) (fun n _=>dO.refl g n) ⟨rfl,rfl,rfl,rfl⟩ ⟨rfl,rfl,rfl⟩ rfl (fun _ _ e=>e) (fun b hb=>h.kin.kS b (bD k.size hb)) hB hR;exact⟨k1,h.inv.Ct ho hk hs,h.ext.trans k2,h.same⟩
def II(w:World)(b:Nat)(p:Int):World:=((((((w.setCell ⟨b,32,none⟩ (.int .i64 p)).setCell ⟨b,33,none⟩ (.slice none 0 0)).setCell ⟨b,34,none⟩ (.int .i64 0)).setCell ⟨b,35,none⟩ (.slice none 0 0)).setCell ⟨b,36,none⟩ (.slice none 0 0)).setCell ⟨b,37,none⟩ (.int .i64 0)).setCell ⟨b,38,none⟩ (.slice none 0 0)
theorem MB(t:Th)(x:Ts)(a b p:Int):(((((((jw t x a b).setIfInBounds 32 (.int .i64 p)).setIfInBounds 33 (.slice none 0 0)).setIfInBounds 34 (.int .i64 0)).setIfInBounds 35 (.slice none 0 0)).setIfInBounds 36 (.slice none 0 0)).setIfInBounds 37 (.int .i64 0)).setIfInBounds 38 (.slice none 0 0)=jw { t with cont:={ rO with phase:=p } } { x with bZ:=.slice none 0 0,reads:=.slice none 0 0,seen:=.slice none 0 0,picks:=.slice none 0 0 } a b:=by
 unfold jw;simp only[ay,aG,aH];rfl
theorem bS.cont{w0 w:World}{g0 g:Gh}{K:Km}{o:Ob}(h:bS w0 g0 K o w g)(ho:K.obj o.name=some o)(hk:o.kind=3)(p:Int) :
  bS w0 g0 (K.set (o.eF { o.th with cont:={ rO with phase:=p } })) (o.eF { o.th with cont:={ rO with phase:=p } }) (II w (g.tl o.name) p) g:=by
 obtain⟨x,hT⟩:=h.kin.gQ ho hk;have k:Kept (·=g.tl o.name) w (II w (g.tl o.name) p):=(((((((Kept.refl (·=g.tl o.name) w).bC _ _ _ rfl).bC _ _ _ rfl).bC _ _ _ rfl).bC _ _ _ rfl).bC _ _ _ rfl).bC _ _ _ rfl).bC _ _ _ rfl;have hr:=hT.rows.kept k (dS.of hT.blk (by decide)) (A':=g.A) (fun c q _ i hi e=>by rw[q,hT.tag]at e;cases e;omega) (fun _ _ e=>e)
 refine h.yS ho hk (x':={ x with bZ:=.slice Option.none 0 0,reads:=.slice Option.none 0 0,seen:=.slice Option.none 0 0,picks:=.slice Option.none 0 0 }) k (((((((((hT.blk.set 32 _).set 33 _).set 34 _).set 35 _).set 36 _).set 37 _).set 38 _).cells (MB _ _ _ _ p)))
  ⟨hr.gG,hr.al,Own.nil _ _ _ _ _,Own.nil _ _ _ _ _,Own.nil _ _ _ _ _,Own.nil _ _ _ _ _,hr.regs,hr.pc,hr.VN⟩ rfl
theorem JC(t:Th)(x:Ts)(a b v:Int):(jw t x a b).setIfInBounds 20 (.int .i64 v)=jw { t with state:=v } x a b:=by
 unfold jw;simp only[ay,aG,aH]
theorem JD(t:Th)(x:Ts)(a b v:Int):(jw t x a b).setIfInBounds 25 (.int .i64 v)=jw { t with fault:=v } x a b:=by
 unfold jw;simp only[ay,aG,aH]
theorem bS.state{w0 w:World}{g0 g:Gh}{K:Km}{o:Ob}(h:bS w0 g0 K o w g)(ho:K.obj o.name=some o)(hk:o.kind=3)(v:Int) :
  bS w0 g0 (K.set (o.eF { o.th with state:=v })) (o.eF { o.th with state:=v }) (w.setCell ⟨g.tl o.name,20,Option.none⟩ (.int .i64 v)) g:=by
 obtain⟨x,hT⟩:=h.kin.gQ ho hk;exact h.nums ho hk hT ((Kept.refl (·=g.tl o.name) w).bC _ _ _ rfl) ((hT.blk.set 20 _).cells (JC _ _ _ _ _)) ⟨rfl,rfl,rfl,rfl,rfl,rfl,rfl⟩ hT.rows.regs hT.rows.pc
theorem bS.fault{w0 w:World}{g0 g:Gh}{K:Km}{o:Ob}(h:bS w0 g0 K o w g)(ho:K.obj o.name=some o)(hk:o.kind=3)(v:Int) :
  bS w0 g0 (K.set (o.eF { o.th with fault:=v })) (o.eF { o.th with fault:=v }) (w.setCell ⟨g.tl o.name,25,Option.none⟩ (.int .i64 v)) g:=by
 obtain⟨x,hT⟩:=h.kin.gQ ho hk;exact h.nums ho hk hT ((Kept.refl (·=g.tl o.name) w).bC _ _ _ rfl) ((hT.blk.set 25 _).cells (JD _ _ _ _ _)) ⟨rfl,rfl,rfl,rfl,rfl,rfl,rfl⟩ hT.rows.regs hT.rows.pc
attribute [local irreducible] World.setCell World.alloc World.drew World.setRow Calls Code.wp
theorem Mg{w0 w:World}{g0 g:Gh}{K:Km}{o:Ob}{i:Nat}(h:bS w0 g0 K o w g)(hM:ny K)(ho:K.obj o.name=some o)(hk:o.kind=3)(hl:∀n s,K.obj n=some s->s.maps.length<=1000000)(hi:i<K.nc)(hfl:g.flush i=false)(hla:g.last i=o.name)
  {K':Km} {what:Int} (hres:K.wR o=some (K',what)) :
  Calls Tryz.prog 71 #[.pointer (some ⟨g.kb,0,none⟩),.pointer (some ⟨g.bl o.name,0,none⟩),.pointer (some ⟨g.cb,i*27,none⟩)] w fun e w'=>e=.returned (.int .i64 what)/\∃g',bS w0 g0 K' o w' g':=by
 have t0:=h.kin.pU ho hk;obtain⟨mb,hmb⟩:∃mb,w.heap.size=mb:=⟨_,rfl⟩
 have hU:iI w0 g0 K o i mb (w.alloc (.cells #[.pointer (some ⟨g.kb,0,none⟩),.pointer (some ⟨g.bl o.name,0,none⟩),.pointer (some ⟨g.cb,i*27,none⟩)] 231)) g :=
  ⟨h.below ((aC _ w).alloc (aj _) _),hM,ho,hk,hl,hi,hfl,hla,⟨by rw[<-hmb];exact aR.new _ _ _,h.kin.kS _ (by omega)⟩⟩
 unfold Km.wR at hres
 cases hn:oJ K o with
 | none=>rw[hn]at hres;cases hres
 | some p =>
  obtain⟨t',en⟩:=p;rw[hn]at hres;simp only[Option.map_some,Option.some.injEq]at hres;have Ja:=ah (KY hU hn);have HR:=ah hres;have adj:=ah h.same.tl;have HK:=ah hk;clear h hM ho hk hl hi hfl hla hU hn hres;go_enter Tryz.func71,Tryz.ntmps71
  go_wp2_with fail
  refine Ja.out.mono ?_;rintro e w1 ⟨rfl,g1,hE1⟩;have oo:=ah hE1;have htl:g1.tl=g.tl:=hE1.same.tl.trans adj.out.symm;obtain⟨x1,hT1⟩:=hE1.kin.gQ (o:=o.eF t') (n:=o.name) (Km.dz K (o.eF t')) HK.out;have DJ:rz w1 g1 o.name t' x1:=hT1;have hc:∀j,w1.cell? ⟨g.tl o.name,j,none⟩=(jw t' x1 (g1.root o.name) (g1.tabs o.name))[j]?:=fun j=>by rw[<-htl];exact DJ.blk.cell j
  have hfr:=DJ.blk.free;have hlt:=DJ.blk.lt;rw[htl]at hfr hlt;have c20:w1.cell? ⟨g.tl o.name,20,none⟩=some (.int .i64 t'.state):=(hc 20).trans rfl;have c25:w1.cell? ⟨g.tl o.name,25,none⟩=some (.int .i64 t'.fault):=(hc 25).trans rfl;have c32:w1.cell? ⟨g.tl o.name,32,none⟩=some (.int .i64 t'.cont.phase):=(hc 32).trans rfl;have c33:w1.cell? ⟨g.tl o.name,33,none⟩=some (x1.bZ):=(hc 33).trans rfl;have c34:w1.cell? ⟨g.tl o.name,34,none⟩=some (.int .i64 t'.cont.next):=(hc 34).trans rfl;have c35:w1.cell? ⟨g.tl o.name,35,none⟩=some (x1.reads):=(hc 35).trans rfl;have c36:w1.cell? ⟨g.tl o.name,36,none⟩=some (x1.seen):=(hc 36).trans rfl;have c37:w1.cell? ⟨g.tl o.name,37,none⟩=some (.int .i64 t'.cont.tries):=(hc 37).trans rfl;have c38:w1.cell? ⟨g.tl o.name,38,none⟩=some (x1.picks):=(hc 38).trans rfl;have Xa:=ah htl;clear hE1 hT1 DJ hc htl Ja;have Wj:Hid (∀t2:Th,(K.set (o.eF t')).set ((o.eF t').eF t2)=K.set (o.eF t2)):=ah (fun t2=>Km.set_set K _ _ rfl);have PU:=ah (Km.dz K (o.eF t'));by_cases e0:en=0
  ·subst e0
   have HR2:=ah (show(K.set (o.eF t'),(1:Int))=(K',what)from by have:=HR.out;rw[aD rfl]at this;exact this);go_wp2_with fail
   go_ret;have e3:=HR2.out
   cases e3;refine⟨rfl,g1,?_⟩;exact oo.out.pW _
  by_cases e1:en=1
  ·subst e1
   have HR2:=ah (show(K.set (o.eF { t' with cont:={ rO with phase:=1 } }),(1:Int))=(K',what)from by have:=HR.out;rw[aA e0,aD rfl]at this;exact this);go_wp2_with fail
   go_ret;have e3:=HR2.out
   cases e3;refine⟨rfl,g1,?_⟩;have hF:=oo.out.cont PU.out HK.out 1;rw[Wj.out]at hF;have e4:g1.tl (o.eF t').name=g.tl o.name:=congrFun Xa.out o.name;rw[e4]at hF;exact hF.pW _
  by_cases e2:en=2
  ·subst e2
   have HR2:=ah (show(K.set (o.eF { t' with state:=0 }),(1:Int))=(K',what)from by have:=HR.out;rw[aA e0,aA e1,aD rfl]at this;exact this);go_wp2_with fail
   go_ret;have e3:=HR2.out
   cases e3;refine⟨rfl,g1,?_⟩;have hF:=oo.out.state PU.out HK.out 0;rw[Wj.out]at hF;have e4:g1.tl (o.eF t').name=g.tl o.name:=congrFun Xa.out o.name;rw[e4]at hF;exact hF.pW _
  ·have b0:(en==0)=false:=by simpa using e0
   have b1:(en==1)=false:=by simpa using e1
   have b2:(en==2)=false:=by simpa using e2
   have HR2:=ah (show(K.set (o.eF { t' with state:=0,fault:=en }),(5:Int))=(K',what)from by have:=HR.out;rw[aA e0,aA e1,aA e2]at this;exact this);go_wp2_with fail
   go_ret;have e3:=HR2.out
   cases e3;refine⟨rfl,g1,?_⟩;have hF:=oo.out.state PU.out HK.out 0;rw[Wj.out]at hF;have hG:=hF.fault (Km.dz K _) HK.out en;have e5:∀t2 t3:Th,(K.set (o.eF t3)).set ((o.eF t3).eF t2)=K.set (o.eF t2):=fun t2 t3=>Km.set_set K _ _ rfl
   have e4:g1.tl o.name=g.tl o.name:=congrFun Xa.out o.name;have hH:bS w0 g0 ((K.set (o.eF { t' with state:=0 })).set ((o.eF { t' with state:=0 }).eF { t' with state:=0,fault:=en })) o ((w1.setCell ⟨g1.tl o.name,20,none⟩ (.int .i64 0)).setCell ⟨g1.tl o.name,25,none⟩ (.int .i64 en)) g1:=hG.pW _;rw[e5 { t' with state:=0,fault:=en } { t' with state:=0 }]at hH;rw[e4]at hH;exact hH
end Go.Proofs.YtiadbhiadhgjkaaGreatDoor
namespace Go.Proofs.YtiadbhiadhgjkaaGreatDoor
open Go.RowKit
def fZ(on:Int)(o:Ob):Bool:=decide (o.kind=3)&&decide (o.th.on=on)
def Km.pq(K:Km):List Int->Option (List Ob)
 | []=>some []
 | n::r=>match K.obj n with
  | none=>none
  | some o=>(K.pq r).map (o::·)
def Km.jv(K:Km)(cont on:Int):Option (List Ob):=match K.obj cont with
 | none=>some []
 | some c=>if c.kind=1 then(if c.kids.length<=100000 then(K.pq c.kids).map (List.filter (fZ on))else none)else some []
def Km.pQ(K:Km)(i:Nat):Option (Option Ob) :=
 match K.jv (K.slots.getD (K.cores i).slot.toNat (0,0)).1 i with
 | none=>none
 | some []=>some none
 | some (x::l)=>some (x::l)[((K.cores i).turns (K.cores i).slot.toNat%((x::l).length:Int)).toNat]?
theorem tK{K:Km}:∀{l:List Int} {os:List Ob},K.pq l=some os->os.length=l.length/\∀(k:Nat) (n:Int),l[k]? = some n->∃o,os[k]? = some o/\K.obj n=some o
 | [],os,h=>by cases h;exact⟨rfl,fun k n e=>by simp at e⟩
 | n::r,os,h=>by
  unfold Km.pq at h
  cases e:K.obj n with
  | none=>rw[e]at h;cases h
  | some o =>
   rw[e]at h
   cases e2:K.pq r with
   | none=>rw[e2]at h;cases h
   | some q =>
    rw[e2]at h;simp only[Option.map_some,Option.some.injEq]at h;subst h;obtain⟨h1,h2⟩:=tK e2;refine⟨by simp[h1],fun k m hm=>?_⟩
    cases k with
    | zero=>simp only[aN,Option.some.injEq]at hm;subst hm;exact⟨o,rfl,e⟩
    | succ k=>exact h2 k m (by simpa using hm)
def Df(g:Gh)(l:List Ob):List Value:=l.map fun o=>.pointer (some ⟨g.bl o.name,0,none⟩)
theorem Ry:(Tryz.prog.info? 31).map (fun i=>(i.zero,i.size,i.bytes))=some (some (.pointer none),1,8):=by kernel_rfl
attribute [local irreducible] World.setCell World.alloc World.drew World.setRow Calls Code.wp
theorem Cm(w:World)(g:Gh)(K:Km)(cont on:Int)(l:List Ob)(h:cZ w g K)(hres:K.jv cont on=some l) :
  Calls Tryz.prog 91 #[.pointer (some ⟨g.tb,0,none⟩),.int .u64 cont,.int .i64 on] w fun e w'=>∃v,e=.returned v/\w'.ownsRow w.heap.size 31 1 v l.length (Df g l)/\Below w.heap.size w w':=by
 have HK:=ah h;have hlk:=h.tab.lookup cont;have tc:w.cell? ⟨g.tb,0,none⟩=some (.map (some g.mb)):=(h.tab.tab.cell 0).trans rfl;have HR:=ah hres;unfold Km.jv at hres
 cases hc:K.obj cont with
 | none =>
  rw[hc]at hres;rw[nL hc]at hlk
  cases hres;clear h hc HR;go_enter Tryz.func91,Tryz.ntmps91
  go_wp2_with fail
  go_ret;exact⟨_,rfl,cu _ _ _ _,aC _ _⟩
 | some c =>
  rw[hc]at hres;rw[gK hc]at hlk;simp only at hres;obtain⟨s,T,hO⟩:=h.at hc;have hn:=(h.objs _ _ hc).1;have hB:=hO.blk;have hR:=hO.rows.kids;rw[hn]at hB;have c3:w.cell? ⟨g.bl cont,3,none⟩=some (.int .i64 c.kind):=(hB.cell 3).trans rfl;by_cases hk:c.kind=1
  ·rw[aD hk]at hres
   by_cases hl5:c.kids.length<=100000
   ·rw[aD hl5]at hres
    have hkr:aJ w 37 s.kids c.kids.length (c.kids.map (.int .u64)):=aJ.own hR.row;obtain⟨sq,sk,sf,sm,sl,sc,so,si,sr⟩:=s;obtain⟨ka,kc,hks,hk1,hk2⟩:=aJ.form hkr;simp only at hks;subst hks;have c15:w.cell? ⟨g.bl cont,15,none⟩=some (.slice ka c.kids.length kc):=(hB.cell 15).trans rfl
    cases hos:K.pq c.kids with
    | none=>rw[hos]at hres;cases hres
    | some os =>
     rw[hos]at hres;simp only[Option.map_some,Option.some.injEq]at hres;have PL:=ah hres;obtain⟨hlen,hat⟩:=tK hos;have Hat:=ah hat;have Hlen:=ah hlen;have Hkr:=ah hkr;have kb1:(c.kind==1)=true:=by simp[hk]
     have kb2:(c.kind != 1)=false:=by simp[hk]
     obtain⟨i0,hi,hz0,hz1,hz2⟩:=info_parts Ry;have Hi:=ah hi;have lJ:=ah hz0;have lI:=ah hz1;have kT:=ah hz2;clear h hc HR hos hres hlen hat hkr hO hB hR hi hz0 hz1 hz2 hk1 hk2 hk hn;go_enter Tryz.func91,Tryz.ntmps91
     go_wp2_with fail
     go_loopg [8,10,11,32] c.kids.length (fun gg vo _ _ vi wx=>∃k:Nat,k+gg=c.kids.length/\vi=.int .i64 k/\Hid (wx.ownsRow w.heap.size 31 1 vo ((os.take k).filter (fZ on)).length (Df g ((os.take k).filter (fZ on))))/\Hid (Below w.heap.size w wx))
     case atStart=>exact⟨0,by omega,rfl,ah (cu _ _ _ _),ah (aC _ _)⟩
     case round =>
      obtain⟨k,hkg,rfl,HO,HB⟩:=hrel;by_cases hlt:k<c.kids.length
      ·have hlt':(k:Int)<c.kids.length:=by omega
       obtain⟨n,hq⟩:∃n,c.kids[k]? = some n:=⟨_,aQ hlt⟩;obtain⟨o,ho1,ho2⟩:=Hat.out k n hq;obtain⟨kb,hkb,acg,hcells⟩:=aJ.cells Hkr.out (by omega);subst hkb;have hce:w.cell? ⟨kb,k,none⟩=some (.int .u64 n):=hcells k (.int .u64 n) (by rw[dF,hq];rfl);have hcr:=(HB.out.cell (p:=⟨kb,k,none⟩) acg).trans hce;have Xu:=ah (HK.out.below HB.out);have hlk2:=Xu.out.tab.lookup n;rw[gK ho2]at hlk2;have tc2:wr.cell? ⟨g.tb,0,none⟩=some (.map (some g.mb)):=(Xu.out.tab.tab.cell 0).trans rfl;obtain⟨la,ma,lc,mc,hv⟩:=Xu.out.obV ho2;have o3:=hv.kind;have hsz:=HB.out.size;have hon:o.name=n:=(Xu.out.objs _ _ ho2).1
       have hnl:((os.take k).filter (fZ on)).length<=100000:=by
        have h1:=List.length_filter_le (fZ on) (os.take k);rw[List.length_take]at h1;omega
       have hnx:(os.take (k+1)).filter (fZ on)=(os.take k).filter (fZ on)++(if fZ on o then [o]else []):=by
        rw[List.take_add_one,ho1,List.filter_append];by_cases e:fZ on o=true<;>simp[e]
       have mQ:=ah hnx;have Hon:=ah hon;have qX:=ah ho2;clear hq ho1 ho2 hcells hce hnx hv hon;by_cases e3:o.kind=3
       ·have x19:=Xu.out.pU qX.out e3
        obtain⟨x,hT⟩:=Xu.out.gQ qX.out e3;have x21:wr.cell? ⟨g.tl n,21,none⟩=some (.int .i64 o.th.on):=by rw[<-Hon.out];exact(hT.blk.cell 21).trans rfl
        have q1:(o.kind==3)=true:=by simp[e3]
        clear hT;by_cases e4:o.th.on=on
        ·have hyes:fZ on o=true:=by unfold fZ;simp[e3,e4]
         have q2:(o.th.on==on)=true:=by simp[e4]
         have adw:Hid ((os.take (k+1)).filter (fZ on)=(os.take k).filter (fZ on)++[o]):=ah (by rw[mQ.out,aD hyes]);have yL:=ah (Io wr (.pointer (some ⟨g.bl n,0,none⟩)) 31);clear hyes e3 e4 mQ;go_wp2_with (at_builtin;refine wpList_append_own _ rfl _ _ 217 rfl w.heap.size 31 i0 (.pointer none) 1 8 Tryz.underlying217 Hi.out lJ.out lI.out kT.out rfl (by decide) _ _ _ rfl (HO.out.alloc _) ⟨wr.heap.size,0,none⟩ 1 1 [.pointer (some ⟨g.bl n,0,none⟩)] rfl rfl yL.out (fun u hu=>by simp at hu;subst hu;rfl) (by unfold maxLen;omega) (by omega) (by rw[au];omega) ?_;intro v' w6 hown6 dN _)
         have sK:Hid (w6.ownsRow w.heap.size 31 1 v' ((os.take (k+1)).filter (fZ on)).length (Df g ((os.take (k+1)).filter (fZ on)))):=ah (by
          rw[adw.out];unfold Df;rw[List.map_append,aO];have:=hown6;rw[<-Hon.out]at this;exact this)
         have wB:Hid (Below w.heap.size w w6):=ah ((HB.out.alloc hsz _).grown dN (by rw[au];omega) (fun k hk=>(HO.out.lt k hk).1));clear hown6 dN;go_wp2_with fail
         go_roundg (c.kids.length-(k+1))
         case measure=>omega
         case rel=>exact⟨k+1,by omega,by go_num,sK,wB⟩
        ·have hno:fZ on o=false:=by unfold fZ;simp[e4]
         have q2:(o.th.on==on)=false:=by simpa using e4
         have sK:Hid (wr.ownsRow w.heap.size 31 1 u8 ((os.take (k+1)).filter (fZ on)).length (Df g ((os.take (k+1)).filter (fZ on)))):=ah (by
          rw[mQ.out,hno];simpa using HO.out)
         clear hno e3 e4 mQ;go_wp2_with fail
         go_roundg (c.kids.length-(k+1))
         case measure=>omega
         case rel=>exact⟨k+1,by omega,by go_num,sK,HB⟩
       ·have hno:fZ on o=false:=by unfold fZ;simp[e3]
        have q1:(o.kind==3)=false:=by simpa using e3
        have sK:Hid (wr.ownsRow w.heap.size 31 1 u8 ((os.take (k+1)).filter (fZ on)).length (Df g ((os.take (k+1)).filter (fZ on)))):=ah (by
         rw[mQ.out,hno];simpa using HO.out)
        clear hno e3 mQ;go_wp2_with fail
        go_roundg (c.kids.length-(k+1))
        case measure=>omega
        case rel=>exact⟨k+1,by omega,by go_num,sK,HB⟩
      ·obtain rfl:k=c.kids.length:=by omega
       rw[List.take_of_length_le (by rw[Hlen.out];exact aj _),PL.out]at HO;go_wp2_with fail
       go_ret;exact⟨_,rfl,HO.out,HB.out⟩
   ·rw[aA hl5]at hres;cases hres
  ·rw[aA hk]at hres
   cases hres;have kb1:(c.kind==1)=false:=by simpa using hk
   have kb2:(c.kind != 1)=true:=by simpa using hk
   clear h hc HR hO hB hR hk hn;go_enter Tryz.func91,Tryz.ntmps91
   go_wp2_with fail
   go_ret;exact⟨_,rfl,cu _ _ _ _,aC _ _⟩
end Go.Proofs.YtiadbhiadhgjkaaGreatDoor
namespace Go.Proofs.YtiadbhiadhgjkaaGreatDoor
open Go.RowKit
structure ade(w:World)(g:Gh)(K:Km)(sb sc cc:Nat):Prop where
 tb:w.cell? ⟨g.kb,0,none⟩=some (.pointer (some ⟨g.tb,0,none⟩))
 pb:w.cell? ⟨g.kb,1,none⟩=some (.pointer (some ⟨g.pb,0,none⟩))
 cores:w.cell? ⟨g.kb,2,none⟩=some (.slice (some ⟨g.cb,0,none⟩) K.nc cc)
 slots:w.cell? ⟨g.kb,3,none⟩=some (.slice (some ⟨sb,0,none⟩) K.slots.length sc)
 own:Own w g.A (0,7) 127 2 (.slice (some ⟨sb,0,none⟩) K.slots.length sc) K.slots.length (K.slots.flatMap jS)
 slot:∀j,j<K.slots.length->w.cell? ⟨sb,j*2,none⟩=some (.int .u64 (K.slots.getD j (0,0)).1)
 cap:K.nc<=cc
 QI:sb<w.heap.size
theorem cZ.UJ{w:World}{g:Gh}{K:Km}(h:cZ w g K){i:Nat}(hi:i<K.nc):∃sb sc cc,ade w g K sb sc cc:=by
 obtain⟨cv,sv,dv,h1,hB,h2,-⟩:=h.gZ.ex;have hsl:=(h.cores.ok i hi).slot;obtain⟨sb,sc,e,hA,hc⟩:=h2.JK (by omega);rcases h1 with⟨e0,-⟩|⟨cc,e1,e2,-,-⟩
 ·omega
 ·subst e1;subst e
  exact⟨sb,sc,cc,(hB.cell 0).trans rfl,(hB.cell 1).trans rfl,(hB.cell 2).trans rfl,(hB.cell 3).trans rfl,h2,fun j hj=>(hc j hj).1,e2,uO h2.row rfl⟩
theorem Az{K:Km}{cont on:Int}{l:List Ob}(h:K.jv cont on=some l):l.length<=100000:=by
 unfold Km.jv at h
 cases hc:K.obj cont with
 | none=>rw[hc]at h;cases h;exact Nat.zero_le _
 | some c =>
  rw[hc]at h;simp only at h;by_cases hk:c.kind=1
  ·rw[aD hk]at h
   by_cases hl:c.kids.length<=100000
   ·rw[aD hl]at h
    cases hos:K.pq c.kids with
    | none=>rw[hos]at h;cases h
    | some os =>
     rw[hos]at h;simp only[Option.map_some,Option.some.injEq]at h;subst h;have:=(tK hos).1;have h2:=List.length_filter_le (fZ on) os;omega
   ·rw[aA hl]at h;cases h
  ·rw[aA hk]at h;cases h;exact Nat.zero_le _
def Ml(g:Gh):Option Ob->Value
 | none=>.pointer none
 | some o=>.pointer (some ⟨g.bl o.name,0,none⟩)
attribute [local irreducible] World.setCell World.alloc World.drew World.setRow Calls Code.wp
theorem Jq(w:World)(g:Gh)(K:Km)(i:Nat)(r:Option Ob)(h:cZ w g K)(hi:i<K.nc)(hres:K.pQ i=some r) :
  Calls Tryz.prog 67 #[.pointer (some ⟨g.kb,0,none⟩),.int .i64 i] w fun e w'=>e=.returned (Ml g r)/\Below w.heap.size w w':=by
 have HK:=ah h;have Hi:=ah hi;obtain⟨sb,sc,cc,hV⟩:=h.UJ hi;have hok:=h.cores.ok i hi;obtain⟨s,hs⟩:∃s:Nat,(K.cores i).slot=(s:Int):=⟨(K.cores i).slot.toNat,by have:=hok.slot;omega⟩;have hsn:s<K.slots.length:=by have:=hok.slot;omega
 have iR:Hid (∀w',Below w.heap.size w w'->w'.cell? ⟨g.kb,0,none⟩=some (.pointer (some ⟨g.tb,0,none⟩))/\w'.cell? ⟨g.kb,3,none⟩=some (.slice (some ⟨sb,0,none⟩) K.slots.length sc)/\w'.cell? ⟨sb,s*2,none⟩=some (.int .u64 (K.slots.getD s (0,0)).1)):=ah (fun w' k=>by
  have hkl:g.kb<w.heap.size:=h.gZ.ex.elim fun _ e=>e.elim fun _ e=>e.elim fun _ e=>e.2.1.lt
  exact⟨(k.cell (p:=⟨g.kb,0,none⟩) hkl).trans hV.tb,(k.cell (p:=⟨g.kb,3,none⟩) hkl).trans hV.slots,(k.cell (p:=⟨sb,s*2,none⟩) hV.QI).trans (hV.slot s hsn)⟩)
 obtain⟨k0,k3,z1⟩:=iR.out w (aC _ _);have k2:=hV.cores;have hin:(i:Int)<K.nc:=by omega
 have hsi:(s:Int)<K.slots.length:=by omega
 have Lv:Hid (Calls Tryz.prog 92 #[.pointer (some ⟨g.cb,i*27,none⟩)] w.drew fun e w'=>e=.returned (.int .i64 (s:Int))/\w.drew=w'):=ah (by
  have:=Ky w.drew g K h.drew i hi;rw[hs]at this;exact this)
 have Htn:Hid ((K.cores i).slot.toNat=s):=ah (by omega);unfold Km.pQ at hres;rw[Htn.out]at hres
 cases hl:K.jv (K.slots.getD s (0,0)).1 i with
 | none=>rw[hl]at hres;cases hres
 | some l =>
  rw[hl]at hres;have HR:=ah hres;have Hlen:=ah (Az hl)
  have Hth:Hid (Calls Tryz.prog 91 #[.pointer (some ⟨g.tb,0,none⟩),.int .u64 (K.slots.getD s (0,0)).1,.int .i64 i] w.drew fun e w'=>∃v,e=.returned v/\w'.ownsRow w.heap.size 31 1 v l.length (Df g l)/\Below w.heap.size w w'):=ah (by
   refine(Cm w.drew g K _ i l h.drew hl).mono ?_;rintro e w' ⟨v,h1,h2,h3⟩;rw[cK]at h2 h3;exact⟨v,h1,h2,(aC _ w).drew.trans h3⟩)
  clear h hi hV hok hs hsn hres hl;go_enter Tryz.func67,Tryz.ntmps67
  go_wp2_with fail
  go_region_held3 (fun w'=>w'.cell? ⟨g.kb,0,none⟩=some (.pointer (some ⟨g.tb,0,none⟩))/\w'.cell? ⟨g.kb,3,none⟩=some (.slice (some ⟨sb,0,none⟩) K.slots.length sc)/\w'.cell? ⟨sb,s*2,none⟩=some (.int .u64 (K.slots.getD s (0,0)).1))
   (first|go_keep|exact hS2)
   (first|(refine Lv.out.mono ?_;rintro e w' ⟨rfl,rfl⟩)|(refine Hth.out.mono ?_;rintro e w2 ⟨v,rfl,hown,hb2⟩;have hS2:=iR.out w2 hb2))
  all_goals
   have HB2:=ah hb2;have HO:=ah hown
   cases l with
   | nil =>
    have hr:r=none:=by have:=HR.out;cases this;rfl
    subst hr;obtain⟨a,c,rfl,-,-⟩:=aJ.form (aJ.own hown);clear hown hb2 hS2 k0 k2 k3 z1;go_wp2_with fail
    go_ret;exact⟨rfl,HB2.out⟩
   | cons x q =>
    have hr:r=(x::q)[((K.cores i).turns s%((x::q).length:Int)).toNat]?:=by have:=HR.out;simpa using this.symm
    obtain⟨vb,vc,cur,rfl,-⟩:=hown.2.resolve_left (by rintro⟨-,h0⟩;cases h0);obtain⟨n,hn⟩:∃n,(x::q).length=n:=⟨_,rfl⟩;have hn1:1<=n:=by rw[<-hn];simp
    have hnm:n<=100000:=by rw[<-hn];exact Hlen.out
    rw[hn]at hr hown;have b1:=Int.emod_nonneg ((K.cores i).turns s) (show(n:Int)≠0 by omega);have b2:=Int.emod_lt_of_pos ((K.cores i).turns s) (show 0<(n:Int)by omega);obtain⟨t,ht⟩:∃t:Nat,(K.cores i).turns s%(n:Int)=(t:Int):=⟨((K.cores i).turns s%(n:Int)).toNat,by omega⟩;rw[ht]at hr b1 b2;rw[Int.toNat_natCast]at hr;have htl:t<(x::q).length:=by omega
    rw[aQ htl]at hr;subst hr
    have hcell:w2.cell? ⟨vb,t,none⟩=some (.pointer (some ⟨g.bl ((x::q)[t]).name,0,none⟩)):=by
     have h1:=hown.cellAt t (by omega);rw[h1];unfold Df;rw[dF,aQ htl];rfl
    have Htu:Hid (Calls Tryz.prog 93 #[.pointer (some ⟨g.cb,i*27,none⟩),.int .i64 n] w2 fun e w'=>e=.returned (.int .i64 (t:Int))/\Below w2.heap.size w2 w'):=ah (by
     have:=Kw w2 g K (HK.out.below hb2) i Hi.out (n:Int) ⟨by omega,by omega⟩;rw[Htn.out,ht]at this;exact this)
    have hn0:((n:Int)==0)=false:=by simp;omega
    have hvl:vb<w2.heap.size:=uO hown rfl;rw[hn];have hcw:∀w3,Below w2.heap.size w2 w3->w3.cell? ⟨vb,t,none⟩=some (.pointer (some ⟨g.bl ((x::q)[t]).name,0,none⟩)):=fun w3 k=>(k.cell (p:=⟨vb,t,none⟩) hvl).trans hcell
    have Hcw:=ah hcw;have htn:(t:Int)<n:=b2;clear hown hb2 hS2 k0 k2 k3 z1 ht hcell hcw hn b1 b2;go_wp2_with fail
    refine Htu.out.mono ?_;rintro e w3 ⟨rfl,hb3⟩;have hcell:=Hcw.out w3 hb3;have HB3:=ah (aT HB2.out hb3);clear hb3;go_wp2_with fail
    go_ret;exact⟨rfl,HB3.out⟩
end Go.Proofs.YtiadbhiadhgjkaaGreatDoor
namespace Go.Proofs.YtiadbhiadhgjkaaGreatDoor
open Go.RowKit
structure eD(w0:World)(g0:Gh)(K:Km)(w:World)(g:Gh):Prop where
 kin:cZ w g K
 inv:Inv g K
 ext:Ext g0 g w0 w
theorem eD.step{w0 w w':World}{g0 g g':Gh}{K K':Km}(h:eD w0 g0 K w g)(h1:cZ w' g' K')(h2:Inv g' K')(h3:Ext g g' w w'):eD w0 g0 K' w' g':=⟨h1,h2,h.ext.trans h3⟩
theorem eD.below{w0 w w':World}{g0 g:Gh}{K:Km}(h:eD w0 g0 K w g)(k:Below w.heap.size w w'):eD w0 g0 K w' g:=h.step (h.kin.below k) h.inv (Ext.below k)
theorem eD.refl{w:World}{g:Gh}{K:Km}(h:cZ w g K)(hI:Inv g K):eD w g K w g:=⟨h,hI,Ext.refl g w⟩
theorem bS.ms{w0 w:World}{g0 g:Gh}{K:Km}{o:Ob}(h:bS w0 g0 K o w g):eD w0 g0 K w g:=⟨h.kin,h.inv,h.ext⟩
theorem eD.from{w0 w w':World}{g0 g g':Gh}{K K':Km}(h:eD w0 g0 K w g)(k:eD w g K' w' g'):eD w0 g0 K' w' g':=⟨k.kin,k.inv,h.ext.trans k.ext⟩
theorem cZ.yh{w:World}{g:Gh}{K:Km}(h:cZ w g K){i:Nat}(hi:i<K.nc)(p:Nat)(hp:p<27)(v:Value){c:mZ}{t:Pl}{fl:Bool}{la:Int}(hok:yR c K.slots.length)
  (he:coreC c t fl la=(coreC (K.cores i) (g.fC i) (g.flush i) (g.last i)).set p v):cZ (w.setCell ⟨g.cb,i*27+p,none⟩ v) (g.core i t fl la) (K.core i c)/\Ext g (g.core i t fl la) w (w.setCell ⟨g.cb,i*27+p,none⟩ v):=by
 obtain⟨htag,cs,hB,hin⟩:=h.cores.ex (by omega)
 have hI:In cs (i*27+p) [(coreC (K.cores i) (g.fC i) (g.flush i) (g.last i)).getD p v]:=(hin i hi).sub p _ (fun k hk=>by
  have:k=0:=by simpa using hk
  subst this;rw[Nat.add_zero];have:p<(coreC (K.cores i) (g.fC i) (g.flush i) (g.last i)).length:=by rw[qV];exact hp
  simp[List.getD,this])
 have hP:Piece w (w.setCell ⟨g.cb,i*27+p,none⟩ v) g.cb 162 (i*27+p) cs 1 [v]:=(show Piece w w g.cb _ (i*27+p) cs 1 _ from Piece.refl hB hI).set0 v (by omega);refine h.qU hi hB hin hP (by omega) hok (fun k hk=>?_);rw[he,List.getElem?_set];by_cases e:p=k
 ·subst e
  rw[aD rfl,aD (by rw[qV];exact hp),aD ⟨aj _,by omega⟩,Nat.sub_self];rfl
 ·rw[aA e,aA (by omega)]
section
variable {w0 w:World}{g0 g:Gh}{K:Km}{i:Nat}
theorem um(hI:Inv g K){c:mZ}{t:Pl}{fl:Bool}{la:Int}(h1:fl=false->∀k,k<4->t.f k≠0->∃o,K.obj la=some o/\(0<=t.p k/\t.p k<4096)/\iA g K o (t.p k) (t.f k) (t.w k))(h2:0<=t.n/\t.n<4):Inv (g.core i t fl la) (K.core i c):=by
 refine hI.cores (f:=fun j=>if j=i then c else K.cores j) (fC:=fun j=>if j=i then t else g.fC j) (flush:=fun j=>if j=i then fl else g.flush j) (last:=fun j=>if j=i then la else g.last j) (fun j hj hfl k hk hk2=>?_) (fun j hj=>?_)
 ·show ∃o,K.obj (if j=i then la else g.last j)=some o/\(0<=(if j=i then t else g.fC j).p k/\(if j=i then t else g.fC j).p k<4096)/\iA g K o ((if j=i then t else g.fC j).p k) ((if j=i then t else g.fC j).f k) ((if j=i then t else g.fC j).w k)
  replace hfl:(if j=i then fl else g.flush j)=false:=hfl;replace hk2:(if j=i then t else g.fC j).f k≠0:=hk2;by_cases e:j=i
  ·rw[aD e]at hfl hk2 ⊢
   rw[aD e];exact h1 hfl k hk hk2
  ·rw[aA e]at hfl hk2 ⊢
   rw[aA e];exact hI.fC j hj hfl k hk hk2
 ·show 0<=(if j=i then t else g.fC j).n/\(if j=i then t else g.fC j).n<4
  by_cases e:j=i
  ·rw[aD e];exact h2
  ·rw[aA e];exact hI.tn j hj
theorem Am{P:Nat->Prop}:∀k,k<4->Pl.zero.f k≠0->P k:=fun _ _ h=>absurd rfl h
theorem eD.picked(h:eD w0 g0 K w g)(hi:i<K.nc):eD w0 g0 (K.picked i) (w.setCell ⟨g.cb,i*27+26,none⟩ (.int .u64 (wu ((K.cores i).picks+1)))) g:=by
 have hok:=h.kin.cores.ok i hi;obtain⟨k1,k2⟩:=h.kin.yh hi 26 (by omega) (.int .u64 (wu ((K.cores i).picks+1))) (c:={ K.cores i with picks:=wu ((K.cores i).picks+1) }) (t:=g.fC i) (fl:=g.flush i) (la:=g.last i) ⟨hok.slot,hok.left,hok.ticks,hok.turns,Td _⟩ rfl;have hI:=um (i:=i) (c:={ K.cores i with picks:=wu ((K.cores i).picks+1) }) (t:=g.fC i) (fl:=g.flush i) (la:=g.last i) h.inv (fun hf k hk hk2=>h.inv.fC i hi hf k hk hk2) (h.inv.tn i hi);rw[Gh.ji]at k1 k2 hI;exact h.step k1 hI k2
theorem eD.flushed{w':World}(h:eD w0 g0 K w g)(k1:cZ w' (g.core i Pl.zero (g.flush i) (g.last i)) K)(k2:Ext g (g.core i Pl.zero (g.flush i) (g.last i)) w w'):eD w0 g0 K w' (g.core i Pl.zero (g.flush i) (g.last i)):=by
 have hI:=um (i:=i) (c:=K.cores i) (t:=Pl.zero) (fl:=g.flush i) (la:=g.last i) h.inv (fun _=>Am) ⟨by decide,by decide⟩;rw[Km.ji]at hI;exact h.step k1 hI k2
theorem eD.OH(h:eD w0 g0 K w g)(hi:i<K.nc)(hz:g.fC i=Pl.zero):eD w0 g0 K (w.setCell ⟨g.cb,i*27+24,none⟩ (.bool false)) (g.core i Pl.zero false (g.last i)):=by
 obtain⟨k1,k2⟩:=h.kin.yh hi 24 (by omega) (.bool false) (c:=K.cores i) (t:=Pl.zero) (fl:=false) (la:=g.last i) (h.kin.cores.ok i hi) (by rw[hz];rfl);have hI:=um (i:=i) (c:=K.cores i) (t:=Pl.zero) (fl:=false) (la:=g.last i) h.inv (fun _=>Am) ⟨by decide,by decide⟩;rw[Km.ji]at k1 hI;exact h.step k1 hI k2
theorem eD.Rt(h:eD w0 g0 K w g)(hi:i<K.nc)(hz:g.fC i=Pl.zero)(la:Int):eD w0 g0 K (w.setCell ⟨g.cb,i*27+25,none⟩ (.int .u64 la)) (g.core i Pl.zero (g.flush i) la):=by
 obtain⟨k1,k2⟩:=h.kin.yh hi 25 (by omega) (.int .u64 la) (c:=K.cores i) (t:=Pl.zero) (fl:=g.flush i) (la:=la) (h.kin.cores.ok i hi) (by rw[hz];rfl);have hI:=um (i:=i) (c:=K.cores i) (t:=Pl.zero) (fl:=g.flush i) (la:=la) h.inv (fun _=>Am) ⟨by decide,by decide⟩;rw[Km.ji]at k1 hI;exact h.step k1 hI k2
theorem cZ.Ed(h:cZ w g K)(hi:i<K.nc):(w.cell? ⟨g.cb,i*27+24,none⟩=some (.bool (g.flush i))/\w.cell? ⟨g.cb,i*27+25,none⟩=some (.int .u64 (g.last i))/\w.cell? ⟨g.cb,i*27+26,none⟩=some (.int .u64 (K.cores i).picks))/\(∀j,w.frozen? ⟨g.cb,j,none⟩=false)/\g.cb<w.heap.size:=by
 obtain⟨htag,cs,hB,hin⟩:=h.cores.ex (by omega);exact⟨⟨(hin i hi).cell hB 24 rfl,(hin i hi).cell hB 25 rfl,(hin i hi).cell hB 26 rfl⟩,hB.free,hB.lt⟩
theorem Gh.nW(g:Gh)(i:Nat)(t:Pl)(fl:Bool)(la:Int):(g.core i t fl la).fC i=t/\(g.core i t fl la).flush i=fl/\(g.core i t fl la).last i=la:=⟨aD rfl,aD rfl,aD rfl⟩
end
end Go.Proofs.YtiadbhiadhgjkaaGreatDoor
namespace Go.Proofs.YtiadbhiadhgjkaaGreatDoor
open Go.RowKit
attribute [local irreducible] World.setCell World.alloc World.drew World.setRow Calls Code.wp
theorem Sj(b o ty:Nat)(cs:Array Value)(slot:Nat)(t:Int)(u:FrameMode)(w:World)(hB:aR w b cs ty)(hs:slot<8)(h0:w.cell? ⟨b,o,none⟩=some (.int .i64 slot))(hI:In cs (o+3+slot) [.int .u64 t]) :
  CallsD Tryz.prog 68 #[.pointer (some ⟨b,o,none⟩)] u w fun e u' w'=>u'=u/\e=.returned (.tuple #[])/\Piece w w' b ty (o+3+slot) cs 1 [.int .u64 (IntKind.u64.wrap (t+1))]:=by
 have h1:w.cell? ⟨b,o+3+slot,none⟩=some (.int .u64 t):=hI.cell hB 0 rfl;have hf:w.frozen? ⟨b,o+3+slot,none⟩=false:=hB.free _;have k0:w.drew.cell? ⟨b,o,none⟩=some (.int .i64 slot):=dD h0;have k1:w.drew.cell? ⟨b,o+3+slot,none⟩=some (.int .u64 t):=dD h1;have kf:w.drew.frozen? ⟨b,o+3+slot,none⟩=false:=hB.drew.free _;have hs2:(slot:Int)<8:=by omega
 have HP:=ah (((show Piece w w b ty (o+3+slot) cs 1 [.int .u64 t]from Piece.refl hB hI).set0 (.int .u64 (IntKind.u64.wrap (t+1))) (by omega)).drew);clear hB hI;go_enter_d Tryz.func68,Tryz.ntmps68
 go_wp2_with fail
 go_region
 all_goals
  go_wp2_with fail
  go_end0
  exact⟨rfl,HP.out⟩
theorem Rw(u:FrameMode)(w:World)(g:Gh)(K:Km)(h:cZ w g K)(i:Nat)(hi:i<K.nc) :
  CallsD Tryz.prog 68 #[.pointer (some ⟨g.cb,i*27,none⟩)] u w fun e u' w'=>u'=u/\e=.returned (.tuple #[])/\cZ w' g (K.jC i)/\Ext g g w w':=by
 obtain⟨htag,cs,hB,hin⟩:=h.cores.ex (by omega);have hok:=h.cores.ok i hi;have hn8:=h.cores.ns;have hsl:=hok.slot;obtain⟨s,hs⟩:∃s:Nat,(K.cores i).slot=(s:Int):=⟨(K.cores i).slot.toNat,by omega⟩;have hs8:s<8:=by omega
 have hI0:w.cell? ⟨g.cb,i*27,none⟩=some (.int .i64 s):=by rw[<-hs];exact(hin i hi).cell hB 0 rfl
 have hI:In cs (i*27+3+s) [.int .u64 ((K.cores i).turns s)]:=by
  rw[Nat.add_assoc];refine(hin i hi).sub (3+s) _ (fun k hk=>?_);have:k=0:=by simpa using hk
  subst this;match s,hs8 with
  | 0,_=>rfl
  | 1,_=>rfl
  | 2,_=>rfl
  | 3,_=>rfl
  | 4,_=>rfl
  | 5,_=>rfl
  | 6,_=>rfl
  | 7,_=>rfl
 refine(Sj g.cb (i*27) _ cs s _ u w hB hs8 hI0 hI).mono ?_;rintro e u' w' ⟨rfl,rfl,hP⟩
 have ht:K.jC i=K.core i { K.cores i with turns:=upd (K.cores i).turns s (wu ((K.cores i).turns s+1)) }:=by
  show K.core i { K.cores i with turns:=upd (K.cores i).turns (K.cores i).slot.toNat (wu ((K.cores i).turns (K.cores i).slot.toNat+1)) }=_
  rw[hs,Int.toNat_natCast]
 rw[Nat.add_assoc]at hP
 obtain⟨k1,k2⟩:=h.qU hi hB hin (p:=3+s) hP (by omega) (c:={ K.cores i with turns:=upd (K.cores i).turns s (wu ((K.cores i).turns s+1)) }) (t:=g.fC i) (fl:=g.flush i) (la:=g.last i) ⟨hok.slot,hok.left,hok.ticks,fun j=>by
   show 0<=upd _ s _ j/\upd _ s _ j<=_
   by_cases e:j=s
   ·rw[e,lV];exact Td _
   ·rw[ou _ _ _ _ e];exact hok.turns j,hok.picks⟩ (fun k hk=>by
  by_cases e:k=3+s
  ·subst e
   rw[aD ⟨aj _,Nat.lt_succ_self _⟩,Nat.sub_self];match s,hs8 with
   | 0,_=>rfl
   | 1,_=>rfl
   | 2,_=>rfl
   | 3,_=>rfl
   | 4,_=>rfl
   | 5,_=>rfl
   | 6,_=>rfl
   | 7,_=>rfl
  ·rw[aA (by omega)]
   have hu:∀j,k=3+j->upd (K.cores i).turns s (wu ((K.cores i).turns s+1)) j=(K.cores i).turns j:=fun j ej=>ou _ _ _ _ (by omega)
   generalize hT:upd (K.cores i).turns s (wu ((K.cores i).turns s+1))=T at hu ⊢;rcases k with _|_|_|_|_|_|_|_|_|_|_|k
   ·rfl
   ·rfl
   ·rfl
   ·exact congrArg (fun x=>some (Value.int .u64 x)) (hu 0 rfl)
   ·exact congrArg (fun x=>some (Value.int .u64 x)) (hu 1 rfl)
   ·exact congrArg (fun x=>some (Value.int .u64 x)) (hu 2 rfl)
   ·exact congrArg (fun x=>some (Value.int .u64 x)) (hu 3 rfl)
   ·exact congrArg (fun x=>some (Value.int .u64 x)) (hu 4 rfl)
   ·exact congrArg (fun x=>some (Value.int .u64 x)) (hu 5 rfl)
   ·exact congrArg (fun x=>some (Value.int .u64 x)) (hu 6 rfl)
   ·exact congrArg (fun x=>some (Value.int .u64 x)) (hu 7 rfl)
   ·rfl)
 rw[Gh.ji]at k1 k2;rw[ht];exact⟨rfl,rfl,k1,k2⟩
structure Ev where
 (core thread what:Int)
def WX(e:Ev):Value:=.agg #[.int .i64 e.core,.int .u64 e.thread,.int .i64 e.what]
def YN(rE:Km->Ob->Option (Km×Int))(wt:Km->Ob->Nat->Option (Km×Int))(K:Km)(o:Ob)(i:Nat):Option (Km×Int) :=
 if 0<o.th.cont.phase then rE K o else if o.th.state=2 then wt K o i else if o.th.state=1 then K.wR o else some (K,0)
def Km.nJ(rE:Km->Ob->Option (Km×Int))(wt:Km->Ob->Nat->Option (Km×Int))(K:Km)(i:Nat):Option (Km×Ev) :=
 match (K.picked i).pQ i with
 | none=>none
 | some none=>some ((K.picked i).jC i,⟨i,0,0⟩)
 | some (some o)=>match YN rE wt (K.picked i) o i with
  | none=>none
  | some p=>if i<p.1.nc then some (p.1.jC i,⟨i,o.name,p.2⟩)else none
structure Qw(K:Km):Prop where
 maps:ny K
 lens:∀n s,K.obj n=some s->s.maps.length<=1000000
def Ai(Q:World->Gh->Prop)(rE:Km->Ob->Option (Km×Int)):Prop:=∀(w:World) (g:Gh) (K K':Km) (o:Ob) (what:Int),cZ w g K->Inv g K->Qw K->Q w g->K.obj o.name=some o->o.kind=3->0<o.th.cont.phase->rE K o=some (K',what) ->
 Calls Tryz.prog 69 #[.pointer (some ⟨g.kb,0,none⟩),.pointer (some ⟨g.bl o.name,0,none⟩)] w fun e w'=>e=.returned (.int .i64 what)/\∃g',eD w g K' w' g'
def VX(Q:World->Gh->Prop)(wt:Km->Ob->Nat->Option (Km×Int)):Prop:=∀(w:World) (g:Gh) (K K':Km) (o:Ob) (i:Nat) (what:Int),cZ w g K->Inv g K->Qw K->Q w g->K.obj o.name=some o->o.kind=3->i<K.nc->wt K o i=some (K',what) ->
 Calls Tryz.prog 70 #[.pointer (some ⟨g.kb,0,none⟩),.pointer (some ⟨g.bl o.name,0,none⟩),.pointer (some ⟨g.cb,i*27,none⟩)] w fun e w'=>e=.returned (.int .i64 what)/\∃g',eD w g K' w' g'
theorem eD.next{w0 w w':World}{g0 g:Gh}{K:Km}{i:Nat}(h:eD w0 g0 K w g)(hi:i<K.nc)(k1:cZ w' g (K.jC i))(k2:Ext g g w w'):eD w0 g0 (K.jC i) w' g:=by
 have hI:=um (i:=i) (c:={ K.cores i with turns:=upd (K.cores i).turns (K.cores i).slot.toNat (wu ((K.cores i).turns (K.cores i).slot.toNat+1)) }) (t:=g.fC i) (fl:=g.flush i) (la:=g.last i) h.inv (fun hf k hk hk2=>h.inv.fC i hi hf k hk hk2) (h.inv.tn i hi);rw[Gh.ji]at hI;exact h.step k1 hI k2
theorem Jr{w:World}{g:Gh}{K:Km}{i:Nat}{o:Ob}(h:cZ w g K)(hr:K.pQ i=some (some o)):K.obj o.name=some o/\o.kind=3:=by
 unfold Km.pQ at hr
 cases hl:K.jv (K.slots.getD (K.cores i).slot.toNat (0,0)).1 i with
 | none=>rw[hl]at hr;cases hr
 | some l =>
  rw[hl]at hr
  have hm:∀x∈l,K.obj x.name=some x/\x.kind=3:=fun x hx=>by
   unfold Km.jv at hl
   cases hc:K.obj (K.slots.getD (K.cores i).slot.toNat (0,0)).1 with
   | none=>rw[hc]at hl;cases hl;cases hx
   | some c =>
    rw[hc]at hl;simp only at hl;by_cases hk:c.kind=1
    ·rw[aD hk]at hl
     by_cases hl5:c.kids.length<=100000
     ·rw[aD hl5]at hl
      cases hos:K.pq c.kids with
      | none=>rw[hos]at hl;cases hl
      | some os =>
       rw[hos]at hl;simp only[Option.map_some,Option.some.injEq]at hl;subst hl;obtain⟨h1,h2⟩:=List.mem_filter.1 hx;obtain⟨k,hk2,e⟩:=List.mem_iff_getElem.1 h1;obtain⟨e1,e2⟩:=tK hos;obtain⟨n,hn⟩:∃n,c.kids[k]? = some n:=⟨_,aQ (by omega)⟩;obtain⟨o',q1,q2⟩:=e2 k n hn;rw[aQ hk2,e]at q1
       cases q1;have:=(h.objs _ _ q2).1;unfold fZ at h2;simp only[aM,aY]at h2;exact⟨by rw[this];exact q2,h2.1⟩
     ·rw[aA hl5]at hl;cases hl
    ·rw[aA hk]at hl;cases hl;cases hx
  cases l with
  | nil=>cases hr
  | cons x q =>
   simp only[Option.some.injEq]at hr;exact hm o (bG hr)
structure PI(w0:World)(g0:Gh)(K:Km)(i eb:Nat)(w:World)(g:Gh):Prop where
 ms:eD w0 g0 K w g
 flush:g.flush i=false
 blk:aR w eb #[.int .i64 0,.int .u64 0,.int .i64 0] 105
 free:g.A eb=none
theorem PI.below{w0 w w':World}{g0 g:Gh}{K:Km}{i eb:Nat}(h:PI w0 g0 K i eb w g)(k:Below w.heap.size w w'):PI w0 g0 K i eb w' g:=⟨h.ms.below k,h.flush,h.blk.below k h.blk.lt,h.free⟩
theorem cZ.cbV{w:World}{g:Gh}{K:Km}(h:cZ w g K){i:Nat}(hi:i<K.nc):∃cc,w.cell? ⟨g.kb,2,none⟩=some (.slice (some ⟨g.cb,0,none⟩) K.nc cc):=by
 obtain⟨sb,sc,cc,hV⟩:=h.UJ hi;exact⟨cc,hV.cores⟩
theorem eD.free{w0 w w':World}{g0 g:Gh}{K:Km}{eb ty:Nat}{cs:Array Value}(h:eD w0 g0 K w g)(k:Kept (·=eb) w w')(hB:aR w eb cs ty)(hA:g.A eb=none)(hn:w0.heap.size<=eb)(hty:ty≠111/\ty≠5):eD w0 g0 K w' g :=
 ⟨h.kin.kept k (dS.of hB hty) (fun b q _=>.inl (by rw[q];exact hA)),h.inv,⟨h.ext.al,h.ext.kept.then k (fun j hj e=>by omega),h.ext.tag,h.ext.bl⟩⟩
theorem CW{w w5:World}{g g5:Gh}{K5:Km}{i eb:Nat}{ev:Ev}(h:eD w g K5 w5 g5)(hi:i<K5.nc)(hB:aR w5 eb #[.int .i64 ev.core,.int .u64 ev.thread,.int .i64 ev.what] 105)(hA:g5.A eb=none)(hcb:g5.cb=g.cb)(tmps:Array Value)(ht:tmps.getD 4 undef=.pointer (some ⟨eb,0,none⟩)) :
  bodyPostD Tryz.prog Tryz.f44 (fun e w'=>e=.returned (WX ev)/\∃g',eD w g (K5.jC i) w' g') .ret ⟨tmps,[{ target:=Target.fn (Fn.func 68) #[],args:=#[.pointer (some ⟨g.cb,i*27,none⟩)] }]⟩ w5:=by
 show Leaves _ _ _ _ _ _ _
 refine leaves_cons (f:=68) (args:=#[.pointer (some ⟨g.cb,i*27,none⟩)]) (by simp) (by simp[go_sem]) ?_;have hd:=Rw .returning w5 g5 K5 h.kin i hi;rw[hcb]at hd;refine hd.mono ?_;rintro e u' w' ⟨rfl,rfl,q1,q2⟩;have hB2:=q2.kept.blk hB (fun q=>q hA);exact⟨_,results_cell_row rfl _ _ eb _ _ (0,0) _ ht hB2 Tryz.underlying105 rfl (by kernel_rfl),rfl,g5,h.next hi q1 q2⟩
theorem Ng{Q:World->Gh->Prop}(hQ:∀w w' g g',Q w g->Ext g g' w w'->Q w' g'){rE:Km->Ob->Option (Km×Int)}{wt:Km->Ob->Nat->Option (Km×Int)}(DF:Ai Q rE)(hwt:VX Q wt)
  (w:World) (g:Gh) (K K':Km) (i:Nat) (ev:Ev) (h:cZ w g K) (hI:Inv g K) (hO:Qw K) (hq:Q w g) (hi:i<K.nc) (hres:K.nJ rE wt i=some (K',ev)) :
  Calls Tryz.prog 44 #[.pointer (some ⟨g.kb,0,none⟩),.int .i64 i] w fun e w'=>e=.returned (WX ev)/\∃g',eD w g K' w' g':=by
 have HQ:=ah hQ;have adB:=ah DF;have Hwt:=ah hwt;have Ub:=ah hO;have Hq:=ah hq;have Hi:=ah hi;have HR:=ah hres;obtain⟨eb,Vo⟩:∃eb,w.heap.size=eb:=⟨_,rfl⟩;have h1:=h.alloc (.cells #[.int .i64 0,.int .u64 0,.int .i64 0] 105);have hms:eD w g K (w.alloc (.cells #[.int .i64 0,.int .u64 0,.int .i64 0] 105)) g:=(eD.refl h hI).below ((aC _ w).alloc (aj _) _);obtain⟨cc,k2⟩:=h1.cbV hi;obtain⟨⟨c24,c25,c26⟩,hfr,hlt⟩:=h1.Ed hi;have hp:=hms.picked hi
 have RI:g.cb≠eb:=by
  have:=(h.Ed hi).2.2;omega
 have hPk:g.A eb=none:=h.kS _ (by omega);have HP:Hid (eD w g (K.picked i) ((w.alloc (.cells #[.int .i64 0,.int .u64 0,.int .i64 0] 105)).setCell ⟨g.cb,i*27+26,none⟩ (.int .u64 (wu ((K.cores i).picks+1)))) g):=ah hp;have HPe:Hid (aR ((w.alloc (.cells #[.int .i64 0,.int .u64 0,.int .i64 0] 105)).setCell ⟨g.cb,i*27+26,none⟩ (.int .u64 (wu ((K.cores i).picks+1)))) eb #[.int .i64 0,.int .u64 0,.int .i64 0] 105):=ah ((by rw[<-Vo];exact aR.new _ _ _:aR (w.alloc (.cells #[.int .i64 0,.int .u64 0,.int .i64 0] 105)) eb _ _).aI RI _);have HPk:=ah hPk;have hin:(i:Int)<K.nc:=by omega
 clear h hI hO hq hi hres h1 hms hp hPk DF hwt hQ;go_enter_defers Tryz.func44,Tryz.ntmps44
 go_upto_region 3 with fail
 go_upto_if 24 with fail
 go_cut []from 8 to 31 (fun wx=>∃g1,Hid (PI w g (K.picked i) i eb wx g1))
 case first =>
  cases hfl:g.flush i with
  | false =>
   have HF:=ah hfl;rw[hfl]at c24;have hfw:((g.flush i)=true)=False:=by rw[hfl];simp
   clear hfl;go_wp2_with fail
   go_meet;exact⟨g,HP.out,HF.out,HPe.out,HPk.out⟩
  | true =>
   rw[hfl]at c24;have hfw:((g.flush i)=true)=True:=by rw[hfl];simp
   have Xw:=ah (xJ _ g (K.picked i) HP.out.kin i Hi.out);clear hfl;go_wp2_with fail
   refine Xw.out.mono ?_;rintro e w2 ⟨rfl,q1,q2⟩;have hm2:=HP.out.flushed q1 q2;have hB2:=q2.kept.blk HPe.out (fun q=>q HPk.out);have hA2:=q2.tag _ HPe.out.lt HPk.out;obtain⟨⟨c24',-,-⟩,hfr2,hlt2⟩:=hm2.kin.Ed Hi.out;have e1:(g.core i Pl.zero (g.flush i) (g.last i)).cb=g.cb:=rfl;rw[e1]at c24' hfr2 hlt2;have hm3:=hm2.OH Hi.out (Gh.nW g i Pl.zero (g.flush i) (g.last i)).1;have uH:=ah hm3;have hne:(⟨g.cb,i*27+24,none⟩:Addr).block≠eb:=RI;have HB3:=ah (hB2.aI (a:=⟨g.cb,i*27+24,none⟩) RI (.bool false));have Xy:=ah hA2;clear q1 q2 hm2 hB2 hA2 hm3 hne e1;go_wp2_with fail
   go_meet;exact⟨_,uH.out,(Gh.nW _ i Pl.zero false _).2.1,HB3.out,Xy.out⟩
 case rest =>
  rename World=>w3
  obtain⟨g3,HS⟩:=hcut;clear k2 c24 c25 c26 hfr hlt HP HPe HPk;have hkb:g3.kb=g.kb:=HS.out.ms.ext.al.kb;have hcb:g3.cb=g.cb:=HS.out.ms.ext.al.cb;have Je:=ah hkb;have Hcb:=ah hcb
  cases uF:(K.picked i).pQ i with
  | none=>have:=HR.out;unfold Km.nJ at this;rw[uF]at this;cases this
  | some r =>
   have Hwh:=ah uF;have Hw:=ah (Jq w3 g3 (K.picked i) i r HS.out.ms.kin Hi.out uF);rw[hkb]at Hw
   cases r with
   | none =>
    have HR2:Hid (((K.picked i).jC i,(⟨i,0,0⟩:Ev))=(K',ev)):=ah (by
     have:=HR.out;unfold Km.nJ at this;rw[uF]at this;simpa using this)
    clear uF hkb hcb;unfold Ml at Hw;go_wp2_with fail
    refine Hw.out.mono ?_;rintro e w4 ⟨rfl,hb4⟩;have Qc:=ah (HS.out.below hb4);have WT:=Qc.out.blk;have e0:w4.cell? ⟨eb,0,none⟩=some (.int .i64 0):=(WT.cell 0).trans rfl;have e1:w4.cell? ⟨eb,1,none⟩=some (.int .u64 0):=(WT.cell 1).trans rfl;have e2:w4.cell? ⟨eb,2,none⟩=some (.int .i64 0):=(WT.cell 2).trans rfl;have hfe:=WT.free;have hle:=WT.lt;clear hb4 WT;go_wp2_with fail
    have hX:=(((Qc.out.blk.set 0 (.int .i64 i)).set 1 (.int .u64 0)).set 2 (.int .i64 0)).cells (d:=#[.int .i64 i,.int .u64 0,.int .i64 0]) (by simp only[ay,aG,aH]);have hkp:=((((Kept.refl (·=eb) w4).bC eb 0 (.int .i64 i) rfl).bC eb 1 (.int .u64 0) rfl).bC eb 2 (.int .i64 0) rfl);have e3:=HR2.out
    cases e3;refine CW (ev:=⟨i,0,0⟩) (Qc.out.ms.free hkp Qc.out.blk Qc.out.free (by omega) (by decide)) Hi.out hX Qc.out.free Hcb.out _ rfl
   | some o =>
    obtain⟨ho,hk⟩:=Jr HS.out.ms.kin uF
    obtain⟨p,hdo,hpn,hev⟩:∃p,YN rE wt (K.picked i) o i=some p/\i<p.1.nc/\(p.1.jC i,(⟨i,o.name,p.2⟩:Ev))=(K',ev):=by
     have:=HR.out;unfold Km.nJ at this;rw[uF]at this;simp only at this
     cases hd:YN rE wt (K.picked i) o i with
     | none=>rw[hd]at this;cases this
     | some p =>
      rw[hd]at this;simp only at this;by_cases hp:i<p.1.nc
      ·rw[aD hp]at this
       exact⟨p,rfl,hp,by simpa using this⟩
      ·rw[aA hp]at this;cases this
    have Hdo:=ah hdo;have Hpn:=ah hpn;have Hev:=ah hev;have HO:=ah ho;clear uF hkb hcb hdo hpn hev ho;unfold Ml at Hw;go_wp2_with fail
    refine Hw.out.mono ?_;rintro e w4 ⟨rfl,hb4⟩;have Qc:=ah (HS.out.below hb4);obtain⟨⟨-,c25,-⟩,hfr,hlt⟩:=Qc.out.ms.kin.Ed Hi.out;obtain⟨s4,T4,hO4⟩:=Qc.out.ms.kin.at HO.out;have b2:=hO4.name;rw[Hcb.out]at c25 hfr hlt;clear hb4 hO4;go_upto_region 10 with fail
    go_quiet (fail)
    go_upto_if 50 with fail
    go_cut []from 42 to 61 (fun wx=>∃g5,Hid (PI w g (K.picked i) i eb wx g5)/\Hid (g5.last i=o.name)/\Hid (g5.bl o.name=g3.bl o.name))
    case first =>
     have Qz:=ah (Qc.out.below (bI w4 nq));by_cases hla:g3.last i=o.name
     ·have hlb:(g3.last i==o.name)=true:=by simp[hla]
      have hlc:(g3.last i != o.name)=false:=by simp[hla]
      have Wp:=ah hla;clear hla;go_wp2_with fail
      go_meet;exact⟨g3,Qz,Wp,rfl⟩
     ·have hlb:(g3.last i==o.name)=false:=by simpa using hla
      have hlc:(g3.last i != o.name)=true:=by simpa using hla
      have Xw:Hid (Calls Tryz.prog 42 #[.pointer (some ⟨g.cb,i*27+11,none⟩)] (w4.drewN nq) fun e w'=>e=.returned (.tuple #[])/\cZ w' (g3.core i Pl.zero (g3.flush i) (g3.last i)) (K.picked i)/\Ext g3 (g3.core i Pl.zero (g3.flush i) (g3.last i)) (w4.drewN nq) w'):=ah (by
       have:=xJ (w4.drewN nq) g3 (K.picked i) Qz.out.ms.kin i Hi.out;rw[Hcb.out]at this;exact this)
      clear hla;go_wp2_with fail
      refine Xw.out.mono ?_;rintro e w5 ⟨rfl,q1,q2⟩;have hm5:=Qz.out.ms.flushed q1 q2;have ni:=q2.kept.blk Qz.out.blk (fun q=>q Qz.out.free);have hA5:=q2.tag _ Qz.out.blk.lt Qz.out.free;obtain⟨⟨-,c25',-⟩,Yw,uU⟩:=hm5.kin.Ed Hi.out;have e1:(g3.core i Pl.zero (g3.flush i) (g3.last i)).cb=g.cb:=Hcb.out;rw[e1]at c25' Yw uU;obtain⟨s5,T5,TK⟩:=hm5.kin.at HO.out;have b2':w5.cell? ⟨g3.bl o.name,2,none⟩=some (.int .u64 o.name):=TK.name;have hm6:=hm5.Rt Hi.out (Gh.nW g3 i Pl.zero (g3.flush i) (g3.last i)).1 o.name;rw[e1]at hm6;have TI:g.cb≠eb:=RI;have BP:=ah hm6;have wB:=ah (ni.aI (a:=⟨g.cb,i*27+25,none⟩) TI (.int .u64 o.name));have HA6:=ah hA5;clear q1 q2 hm5 ni hA5 TK hm6 TI e1 b2 c25 hfr hlt;go_wp2_with fail
      go_meet;refine⟨_,ah ⟨BP.out,?_,wB.out,HA6.out⟩,?_,rfl⟩
      ·exact(Gh.nW _ i _ _ _).2.1.trans ((Gh.nW _ i _ _ _).2.1.trans Qz.out.flush)
      ·exact(Gh.nW _ i _ _ _).2.2
    case rest =>
     rename World=>w6
     obtain⟨g5,Wz,Wp,Hbl⟩:=hcut;clear c25 hfr hlt b2 Qc Hw;have xQ:g5.kb=g.kb:=Wz.out.ms.ext.al.kb;have DI:g5.cb=g.cb:=Wz.out.ms.ext.al.cb;have ajQ:=ah DI;rw[<-Hbl.out];obtain⟨xb,hxb⟩:∃xb,w6.heap.size=xb:=⟨_,rfl⟩;have lq:=ah (Wz.out.below ((aC _ w6).alloc (aj _) (.cells #[.int .i64 i,.int .u64 o.name,.int .i64 0] 105)));have Wv:Hid (aR (w6.alloc (.cells #[.int .i64 i,.int .u64 o.name,.int .i64 0] 105)) xb #[.int .i64 i,.int .u64 o.name,.int .i64 0] 105):=ah (by rw[<-hxb];exact aR.new _ _ _);have HAx:Hid (g5.A xb=none):=ah (Wz.out.ms.kin.kS _ (by omega));have hxe:xb≠eb:=by have:=Wz.out.blk.lt;omega
     have hwx:w.heap.size<=xb:=by have:=Wz.out.blk.lt;omega
     have Hxe:=ah hxe;have Hwx:=ah hwx;obtain⟨s6,T6,Iw⟩:=Wz.out.ms.kin.at HO.out;have b2:=Iw.name;have b19:=lq.out.ms.kin.pU HO.out hk;obtain⟨x7,KJ⟩:=lq.out.ms.kin.gQ HO.out hk;have t32:(w6.alloc (.cells #[.int .i64 i,.int .u64 o.name,.int .i64 0] 105)).cell? ⟨g5.tl o.name,32,none⟩=some (.int .i64 o.th.cont.phase):=(KJ.blk.cell 32).trans rfl;have t20:(w6.alloc (.cells #[.int .i64 i,.int .u64 o.name,.int .i64 0] 105)).cell? ⟨g5.tl o.name,20,none⟩=some (.int .i64 o.th.state):=(KJ.blk.cell 20).trans rfl;have HQ7:Hid (Q (w6.alloc (.cells #[.int .i64 i,.int .u64 o.name,.int .i64 0] 105)) g5):=ah (HQ.out _ _ _ _ Hq.out lq.out.ms.ext);clear Iw KJ hxe hwx;go_upto_block 0 with fail
     go_cut []from 68 to 109 (fun wx=>∃g8,Hid (eD w g p.1 wx g8)/\Hid (aR wx xb #[.int .i64 i,.int .u64 o.name,.int .i64 p.2] 105)/\Hid (aR wx eb #[.int .i64 0,.int .u64 0,.int .i64 0] 105)/\Hid (g8.A eb=none))
     case first =>
      have HFin:Hid (∀(w8:World) (g8:Gh) (K8:Km) (what:Int),eD (w6.alloc (.cells #[.int .i64 i,.int .u64 o.name,.int .i64 0] 105)) g5 K8 w8 g8->p=(K8,what) ->
        eD w g p.1 (w8.setCell ⟨xb,2,none⟩ (.int .i64 what)) g8/\aR (w8.setCell ⟨xb,2,none⟩ (.int .i64 what)) xb #[.int .i64 i,.int .u64 o.name,.int .i64 p.2] 105/\aR (w8.setCell ⟨xb,2,none⟩ (.int .i64 what)) eb #[.int .i64 0,.int .u64 0,.int .i64 0] 105/\g8.A eb=none /\
        w8.cell? ⟨xb,2,none⟩=some (.int .i64 0)/\w8.frozen? ⟨xb,2,none⟩=false):=ah (fun w8 g8 K8 what hm e=>by
       subst e;have hx8:=hm.ext.kept.blk Wv.out (fun q=>q HAx.out);have he8:=hm.ext.kept.blk lq.out.blk (fun q=>q lq.out.free);have hax:=hm.ext.tag _ Wv.out.lt HAx.out;refine⟨(lq.out.ms.from hm).free ((Kept.refl (·=xb) w8).bC _ _ _ rfl) hx8 hax Hwx.out (by decide),(hx8.set 2 _).cells (by simp only[ay,aG,aH]),he8.aI (a:=⟨xb,2,none⟩) Hxe.out _,hm.ext.tag _ lq.out.blk.lt lq.out.free,(hx8.cell 2).trans rfl,hx8.free 2⟩)
      have hdo:=Hdo.out;unfold YN at hdo;by_cases zU:0<o.th.cont.phase
      ·rw[aD zU]at hdo
       have Hc:Hid (Calls Tryz.prog 69 #[.pointer (some ⟨g.kb,0,none⟩),.pointer (some ⟨g5.bl o.name,0,none⟩)] (w6.alloc (.cells #[.int .i64 i,.int .u64 o.name,.int .i64 0] 105)) fun e w'=>e=.returned (.int .i64 p.2)/\∃g',eD (w6.alloc (.cells #[.int .i64 i,.int .u64 o.name,.int .i64 0] 105)) g5 p.1 w' g'):=ah (by
        have:=adB.out _ g5 (K.picked i) p.1 o p.2 lq.out.ms.kin lq.out.ms.inv ⟨Ub.out.maps,Ub.out.lens⟩ HQ7.out HO.out hk zU hdo;rw[xQ]at this;exact this)
       have abR:decide (0<o.th.cont.phase)=true:=bK zU;clear hdo xQ DI;go_wp2_with fail
       refine Hc.out.mono ?_;rintro e w8 ⟨rfl,g8,hm⟩;obtain⟨f1,f2,f3,f4,x2,xf⟩:=HFin.out w8 g8 p.1 p.2 hm rfl;have F1:=ah f1;have F2:=ah f2;have F3:=ah f3;have F4:=ah f4;clear hm f1 f2 f3 f4;go_wp2_with fail
       go_meet;exact⟨g8,F1,F2,F3,F4⟩
      rw[aA zU]at hdo;have abR:decide (0<o.th.cont.phase)=false:=aX zU;by_cases hs2:o.th.state=2
      ·rw[aD hs2]at hdo
       have Hc:Hid (Calls Tryz.prog 70 #[.pointer (some ⟨g.kb,0,none⟩),.pointer (some ⟨g5.bl o.name,0,none⟩),.pointer (some ⟨g.cb,i*27,none⟩)] (w6.alloc (.cells #[.int .i64 i,.int .u64 o.name,.int .i64 0] 105)) fun e w'=>e=.returned (.int .i64 p.2)/\∃g',eD (w6.alloc (.cells #[.int .i64 i,.int .u64 o.name,.int .i64 0] 105)) g5 p.1 w' g'):=ah (by
        have:=Hwt.out _ g5 (K.picked i) p.1 o i p.2 lq.out.ms.kin lq.out.ms.inv ⟨Ub.out.maps,Ub.out.lens⟩ HQ7.out HO.out hk Hi.out hdo;rw[xQ,DI]at this;exact this)
       have hs3:(o.th.state==2)=true:=by simp[hs2]
       clear hdo xQ DI zU hs2;go_wp2_with fail
       refine Hc.out.mono ?_;rintro e w8 ⟨rfl,g8,hm⟩;obtain⟨f1,f2,f3,f4,x2,xf⟩:=HFin.out w8 g8 p.1 p.2 hm rfl;have F1:=ah f1;have F2:=ah f2;have F3:=ah f3;have F4:=ah f4;clear hm f1 f2 f3 f4;go_wp2_with fail
       go_meet;exact⟨g8,F1,F2,F3,F4⟩
      rw[aA hs2]at hdo;have hs3:(o.th.state==2)=false:=by simpa using hs2
      by_cases hs1:o.th.state=1
      ·rw[aD hs1]at hdo
       have Hc:Hid (Calls Tryz.prog 71 #[.pointer (some ⟨g.kb,0,none⟩),.pointer (some ⟨g5.bl o.name,0,none⟩),.pointer (some ⟨g.cb,i*27,none⟩)] (w6.alloc (.cells #[.int .i64 i,.int .u64 o.name,.int .i64 0] 105)) fun e w'=>e=.returned (.int .i64 p.2)/\∃g',eD (w6.alloc (.cells #[.int .i64 i,.int .u64 o.name,.int .i64 0] 105)) g5 p.1 w' g'):=ah (by
        have:=Mg (w0:=w6.alloc (.cells #[.int .i64 i,.int .u64 o.name,.int .i64 0] 105)) (g0:=g5) (K:=K.picked i) (o:=o) (i:=i) ⟨lq.out.ms.kin,lq.out.ms.inv,Ext.refl _ _,Same.refl _⟩ Ub.out.maps HO.out hk Ub.out.lens Hi.out lq.out.flush Wp.out (K':=p.1) (what:=p.2) hdo;rw[xQ,DI]at this;exact this.mono fun e w' ⟨q1,g',q2⟩=>⟨q1,g',q2.ms⟩)
       have hs4:(o.th.state==1)=true:=by simp[hs1]
       clear hdo xQ DI zU hs2 hs1;go_wp2_with fail
       refine Hc.out.mono ?_;rintro e w8 ⟨rfl,g8,hm⟩;obtain⟨f1,f2,f3,f4,x2,xf⟩:=HFin.out w8 g8 p.1 p.2 hm rfl;have F1:=ah f1;have F2:=ah f2;have F3:=ah f3;have F4:=ah f4;clear hm f1 f2 f3 f4;go_wp2_with fail
       go_meet;exact⟨g8,F1,F2,F3,F4⟩
      rw[aA hs1]at hdo;have hs4:(o.th.state==1)=false:=by simpa using hs1
      simp only[Option.some.injEq]at hdo;subst hdo;clear xQ DI zU hs2 hs1;go_wp2_with fail
      go_meet;exact⟨g5,lq.out.ms,Wv,lq.out.blk,lq.out.free⟩
     case rest =>
      rename World=>w9
      obtain⟨g9,Jh,Qb,rA,HA9⟩:=hcut;clear b2 b19 t32 t20 lq Wv HAx;have x0:w9.cell? ⟨xb,0,none⟩=some (.int .i64 i):=(Qb.out.cell 0).trans rfl;have x1:w9.cell? ⟨xb,1,none⟩=some (.int .u64 o.name):=(Qb.out.cell 1).trans rfl;have x2:w9.cell? ⟨xb,2,none⟩=some (.int .i64 p.2):=(Qb.out.cell 2).trans rfl;have e0:w9.cell? ⟨eb,0,none⟩=some (.int .i64 0):=(rA.out.cell 0).trans rfl;have e1:w9.cell? ⟨eb,1,none⟩=some (.int .u64 0):=(rA.out.cell 1).trans rfl;have e2:w9.cell? ⟨eb,2,none⟩=some (.int .i64 0):=(rA.out.cell 2).trans rfl;have hfe:=rA.out.free;have hle:=rA.out.lt;have hxe:=Hxe.out;clear xQ DI;go_wp2_with fail
      have hX:=(((rA.out.set 0 (.int .i64 i)).set 1 (.int .u64 o.name)).set 2 (.int .i64 p.2)).cells (d:=#[.int .i64 i,.int .u64 o.name,.int .i64 p.2]) (by simp only[ay,aG,aH]);have hkp:=((((Kept.refl (·=eb) w9).bC eb 0 (.int .i64 i) rfl).bC eb 1 (.int .u64 o.name) rfl).bC eb 2 (.int .i64 p.2) rfl);have hev:=Hev.out
      cases hev;refine CW (ev:=⟨i,o.name,p.2⟩) (Jh.out.free hkp rA.out HA9.out (by omega) (by decide)) Hpn.out hX HA9.out ?_ _ rfl;exact Jh.out.ext.al.cb
end Go.Proofs.YtiadbhiadhgjkaaGreatDoor
