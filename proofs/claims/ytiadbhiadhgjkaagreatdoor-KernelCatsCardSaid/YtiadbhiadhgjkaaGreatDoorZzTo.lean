import Derived.Test.YtiadbhiadhgjkaaGreatDoorZzTr
import Derived.Test.YtiadbhiadhgjkaaGreatDoorZzTf
import Derived.Test.YtiadbhiadhgjkaaGreatDoorZzQe
import Derived.Test.YtiadbhiadhgjkaaGreatDoorZzNn
set_option maxRecDepth 100000
set_option maxHeartbeats 4000000
namespace Go.Proofs.YtiadbhiadhgjkaaGreatDoor
open Go.RowKit
attribute [local irreducible] World.setCell World.alloc World.drew World.setRow Calls Code.wp
def QL(w:World)(_:Gh):Prop:=pF w/\lg w
theorem eD.rO{w:World}{g:Gh}{K:Km}{o:Ob}(h:cZ w g K)(hI:Inv g K)(ho:K.obj o.name=some o)(hk:o.kind=3):eD w g (K.set (o.dL Go.Proofs.YtiadbhiadhgjkaaGreatDoor.rO)) (II w (g.tl o.name) 0) g :=
 (bS.cont (⟨h,hI,Ext.refl g w,Same.refl g⟩:bS w g K o w g) ho hk 0).ms
theorem Ke{cl:Km->Ob->Option vT}(hcl:Ic cl):Ai QL (fun K o=>K.FR cl o):=by
 intro w g K K' o what h hI OB hQ ho hk zU hres;obtain⟨hs,hm⟩:=hQ;obtain⟨lv,rv,sv,pv,hV⟩:=h.Qs ho hk;have t0:=hV.t;have c32:=hV.ct.p;unfold Km.FR at hres;simp only at hres;by_cases h1:o.th.cont.phase=1
 ·rw[aD h1]at hres
  cases hp:K.CU o with
  | none=>rw[hp]at hres;cases hres
  | some K1 =>
   rw[hp]at hres
   cases hres;have HP:=ah (Nf w g K o h hI ho hk hs hm hp);rw[h1]at c32;generalize g.bl o.name=bb at *;generalize g.tl o.name=tb at *;clear h hI OB hs hm ho hk zU hV h1 hp;go_enter Tryz.func69,Tryz.ntmps69
   go_wp2_with fail
   refine HP.out.mono ?_;rintro e w1 ⟨rfl,g1,hM⟩;have HM:=ah hM;clear hM HP;go_wp2_with fail
   go_ret;exact⟨rfl,g1,HM.out⟩
 rw[aA h1]at hres;by_cases h2:o.th.cont.phase=2
 ·rw[aD h2]at hres
  have HP:=ah (NH w g K o h hI ho hk hres);rw[h2]at c32;generalize g.bl o.name=bb at *;generalize g.tl o.name=tb at *;clear h hI OB hs hm ho hk zU hV h1 h2 hres;go_enter Tryz.func69,Tryz.ntmps69
  go_wp2_with fail
  refine HP.out.mono ?_;rintro e w1 ⟨rfl,g1,hM⟩;have HM:=ah hM;clear hM HP;go_wp2_with fail
  go_ret;exact⟨rfl,g1,HM.out⟩
 rw[aA h2]at hres;by_cases h3:o.th.cont.phase=3
 ·rw[aD h3]at hres
  have HP:=ah (Aw w g K o h hI ho hk hres);rw[h3]at c32;generalize g.bl o.name=bb at *;generalize g.tl o.name=tb at *;clear h hI OB hs hm ho hk zU hV h1 h2 h3 hres;go_enter Tryz.func69,Tryz.ntmps69
  go_wp2_with fail
  refine HP.out.mono ?_;rintro e w1 ⟨rfl,g1,hM⟩;have HM:=ah hM;clear hM HP;go_wp2_with fail
  go_ret;exact⟨rfl,g1,HM.out⟩
 rw[aA h3]at hres;by_cases h4:o.th.cont.phase=4
 ·rw[aD h4]at hres
  have HP:=ah (SB hcl w g K o h hI OB ho hk hres);rw[h4]at c32;generalize g.bl o.name=bb at *;generalize g.tl o.name=tb at *;clear h hI OB hs hm ho hk zU hV h1 h2 h3 h4 hres;go_enter Tryz.func69,Tryz.ntmps69
  go_wp2_with fail
  refine HP.out.mono ?_;rintro e w1 ⟨rfl,g1,hM⟩;have HM:=ah hM;clear hM HP;go_wp2_with fail
  go_ret;exact⟨rfl,g1,HM.out⟩
 rw[aA h4]at hres;by_cases h5:o.th.cont.phase=5
 ·rw[aD h5]at hres
  obtain⟨hw2,hP⟩:=Gb w g K o h hI ho hk hres;subst hw2;have HP:=ah hP;rw[h5]at c32;generalize g.bl o.name=bb at *;generalize g.tl o.name=tb at *;clear h hI OB hs hm ho hk zU hV h1 h2 h3 h4 h5 hres hP;go_enter Tryz.func69,Tryz.ntmps69
  go_wp2_with fail
  refine HP.out.mono ?_;rintro e w1 ⟨rfl,g1,hM⟩;have HM:=ah hM;clear hM HP;go_wp2_with fail
  go_ret;exact⟨rfl,g1,HM.out⟩
 rw[aA h5]at hres;by_cases h6:o.th.cont.phase=6
 ·rw[aD h6]at hres
  unfold Km.Gi at hres;split at hres
  ·rename_i hpk
   cases hres;have hpr:=hV.picks;rw[hpk]at hpr;obtain⟨pa,pc,rfl⟩:=xg hpr;have HM:=ah (eD.rO h hI ho hk);have c33:=hV.ct.l;have c34:=hV.ct.n;have c35:=hV.ct.r;have c36:=hV.ct.s;have c37:=hV.ct.t;have c38:=hV.ct.k;have hfz:=hV.ct.f;rw[h6]at c32;generalize g.bl o.name=bb at *;generalize g.tl o.name=tb at *;unfold II at HM;have HP:=ah (KI w (.pointer (some ⟨g.kb,0,none⟩)) tb pa pc c38);clear h hI OB hs hm ho hk zU hV h1 h2 h3 h4 h5 h6 hpk hpr;go_enter Tryz.func69,Tryz.ntmps69
   go_wp2_with fail
   refine HP.out.mono ?_;rintro e w1 ⟨rfl,rfl⟩;clear HP;go_wp2_with fail
   go_ret;exact⟨rfl,g,HM.out⟩
  ·cases hres
 ·rw[aA h6]at hres
  cases hres
end Go.Proofs.YtiadbhiadhgjkaaGreatDoor
namespace Go.Proofs.YtiadbhiadhgjkaaGreatDoor
open Go.RowKit
def tJ(l:dn):Bool:=decide (l.d<1000)&&l.ps.all fun p=>decide (p.1<4294967296)&&decide (p.2<4294967296)
def Gz(K:Km)(o:Ob):Bool :=
 let c:=o.eH
 let L:=o.lab.bO c 0
 let M:=o.th.clear.bO c 4
 decide (0<=o.th.made)&&(decide (o.th.made<255)&&(decide (0<o.name)&&(decide (o.name<4194304)&&(decide (o.lab.d≠0)&&(decide (o.lab.d<=4)&&(decide (o.lab.ps.length<=900)&&(decide (o.th.clear.ps.length<=900)&&(eP o.lab.d 0 o.lab.ps&&(eP o.th.clear.d 0 o.th.clear.ps &&
 (decide (lo c o.lab.ps=o.lab.ps.length)&&(decide (lo c o.th.clear.ps=o.th.clear.ps.length)&&((o.lab.ps.all fun p=>decide (p.1<c))&&(L.right&&(M.right&&(tJ L&&(tJ M&&(decide (L.rest.ps.length<=1000)&&(match K.obj o.home with
  | some x=>x.lab.leq L.rest
  | none=>false))))))))))))))))))
theorem rF{l:dn}(h:tJ l=true):l.d<1000/\∀p∈l.ps,p.1<4294967296/\p.2<4294967296:=by
 unfold tJ at h;simp only[aM,aY,List.all_eq_true]at h;exact h
theorem Em{K:Km}{o:Ob}(h:Gz K o=true):Ug K o:=by
 unfold Gz at h;simp only[aM,aY,List.all_eq_true]at h;obtain⟨h1,h2,h3,h4,h5,h6,h7,h8,h9,h10,h11,h12,h13,h14,h15,h16,h17,h18,h19⟩:=h;refine⟨⟨h1,h2⟩,⟨h3,h4⟩,⟨h5,h6⟩,⟨h7,h8⟩,⟨h9,h10⟩,⟨h11,h12⟩,h13,⟨h14,h15⟩,⟨rF h16,rF h17⟩,h18,?_⟩
 cases hx:K.obj o.home with
 | none=>rw[hx]at h19;cases h19
 | some x=>rw[hx]at h19;exact⟨x,rfl,h19⟩
def IL(K:Km)(o:Ob):Option vT:=if o.th.r 0=1/\Gz K o=true then some ⟨K.set o.Jv,0,(o.eH:Nat),0,false⟩else none
attribute [local irreducible] World.setCell World.alloc World.drew World.setRow Calls Code.wp
theorem Pm:Ic IL:=by
 intro w g K o R db h hI _ ho hk hR hD hdb;unfold IL at hR;split at hR
 ·rename_i hc
  cases hR;have Gj:=BA w g K o db h hI ho hk (Em hc.2) hD hdb;obtain⟨x,hT⟩:=h.gQ ho hk;have d2:w.cell? ⟨db,2,none⟩=some (.pointer (some ⟨g.tl o.name,0,none⟩)):=(hD.cell 2).trans rfl
  have t0:w.cell? ⟨g.tl o.name,0,none⟩=some (.int .u64 1):=by
   have:=hT.reg (j:=0) (by omega);rw[hc.1]at this;exact this
  have HP:=ah Gj
  have TY:Hid (Calls Tryz.prog 140 #[.pointer (some ⟨db,0,none⟩),.int .i64 1] w fun e w'=>e=.returned (.tuple #[.int .i64 0,.int .u64 (o.eH:Nat),.int .u64 0])/\eD w g (K.set o.Jv) w' g/\aR w' db #[.pointer (some ⟨g.kb,0,none⟩),.pointer (some ⟨g.bl o.name,0,none⟩),.pointer (some ⟨g.tl o.name,0,none⟩),.bool false] 247):=ah (by
   clear Gj h hI ho hk hc hD hdb hT;go_enter Tryz.func140,Tryz.ntmps140
   go_wp2_with fail
   refine HP.out.mono ?_;rintro e w1 ⟨rfl,hM,hB⟩;have HM:=ah hM;have HB:=ah hB;clear hM hB HP;go_wp2_with fail
   go_ret3
   exact⟨rfl,HM.out,HB.out⟩)
  clear Gj h hI ho hk hc hD hdb hT HP;go_enter Tryz.func123,Tryz.ntmps123
  go_wp2_with fail
  refine TY.out.mono ?_;rintro e w1 ⟨rfl,hM,hB⟩;have HM:=ah hM;have HB:=ah hB;clear hM hB TY;go_wp2_with fail
  go_ret3
  exact⟨rfl,g,HM.out,HB.out⟩
 ·cases hR
end Go.Proofs.YtiadbhiadhgjkaaGreatDoor
namespace Go.Proofs.YtiadbhiadhgjkaaGreatDoor
open Go.RowKit
def qD:Line:=⟨1,0,0,0,0,0,⟨0,0,0,0,0⟩⟩
def Pj(n:Nat):ko:=⟨List.replicate n qD++[jH],eX,0⟩
def yA:Km->Ob->Option (Km×Int):=fun K o=>K.FR IL o
def IK(n:Nat)(o:Ob):Bool:=decide (o.kind=3)&&decide (o.th.made=(n:Int))&&decide (o.th.r 1=1536+(n:Int))&&decide (o.lab.d=2)&&decide (o.lab.ps=(List.range n).map fun i=>(1537+i,0))&&decide (o.th.clear.d=4)&&decide (o.th.clear.ps=[])
def Pk(n:Nat):Option Km->Bool
 | none=>false
 | some K=>match K.obj 6 with
  | some o=>IK n o
  | none=>false
def El(n:Nat):Bool:=MR yA xC 600 (Pj n) (Pk n)
theorem YZ:El 1=true:=by kernel_rfl
theorem YX:El 2=true:=by kernel_rfl
theorem YW:El 3=true:=by kernel_rfl
theorem YV:El 4=true:=by kernel_rfl
theorem Ph:(List.range 5).all (fun n=>uw (Pj n))=true:=by kernel_rfl
structure aal(n:Nat)(o:Ob):Prop where
 kind:o.kind=3
 made:o.th.made=(n:Int)
 r1:o.th.r 1=1536+(n:Int)
 d:o.lab.d=2
 ps:o.lab.ps=(List.range n).map fun i=>(1537+i,0)
 cd:o.th.clear.d=4
 cps:o.th.clear.ps=[]
theorem Sl(n:Nat)(h:1<=n)(h4:n<=4):∃K0 K o,tu (dX [Pj n] 0)=some K0/\dx K0/\K0.nc=1/\rM yA xC 600 K0=some (some K)/\K.obj 6=some o/\aal n o:=by
 have hm:uw (Pj n)=true:=List.all_eq_true.1 Ph n (List.mem_range.2 (by omega))
 have hk:El n=true:=by
  obtain rfl|rfl|rfl|rfl:n=1\/n=2\/n=3\/n=4:=by omega
  ·exact YZ
  ·exact YX
  ·exact YW
  ·exact YV
 obtain⟨K0,r,hK,hd,hr⟩:=Fp hk;obtain⟨ha,hc⟩:=Lr hm hK
 cases r with
 | none=>cases hr
 | some K =>
  unfold Pk at hr;simp only at hr
  cases ho:K.obj 6 with
  | none=>rw[ho]at hr;cases hr
  | some o =>
   rw[ho]at hr;unfold IK at hr;simp only[aM,aY]at hr;obtain⟨⟨⟨⟨⟨⟨h1,h2⟩,h3⟩,h5⟩,h6⟩,h7⟩,h8⟩:=hr;exact⟨K0,K,o,hK,ha,hc,hd,ho,h1,h2,h3,h5,h6,h7,h8⟩
theorem je{o o':Ob}(h:pG o=true)(e:o'.maps=o.maps):pG o'=true:=by unfold pG at h ⊢;rw[e];exact h
theorem Gc(o:Ob)(n:Int):(mH o n).maps=o.maps:=by
 unfold mH;split<;>rfl
theorem Dr(o:Ob)(n:Int):(jK o n).maps=o.maps:=by
 unfold jK;split<;>rfl
theorem dx.FR{cl:Km->Ob->Option vT}(hcl:∀K o R,dx K->pG o=true->cl K o=some R->dx R.K)(K K':Km)(o:Ob)(what:Int)(h:dx K)(ho:pG o=true)(hm:K.FR cl o=some (K',what)):dx K':=by
 unfold Km.FR at hm;simp only at hm;split at hm
 ·unfold Km.CU at hm
  split at hm
  ·cases hm;exact h.set (je ho rfl)
  ·cases hm
 split at hm
 ·unfold Km.Ir at hm
  split at hm
  ·cases hm;exact h.set (je ho (Gc o o.name))
  ·cases hm
 split at hm
 ·unfold Km.AV at hm
  split at hm
  ·cases hm;exact h.set (je ho rfl)
  ·cases hm
 split at hm
 ·unfold Km.SC at hm
  split at hm
  ·cases hm
  ·simp only at hm
   have h1:dx ({ K.set (o.dL { o.th.cont with phase:=5 })with done:=false }:Km):=(h.set (o:=o.dL { o.th.cont with phase:=5 }) (je ho rfl)).obj rfl
   cases hc:cl { K.set (o.dL { o.th.cont with phase:=5 })with done:=false } (o.dL { o.th.cont with phase:=5 })with
   | none=>rw[hc]at hm;cases hm
   | some R =>
    have h2:=hcl _ _ R h1 (by exact je ho rfl) hc;rw[hc]at hm;simp only at hm
    cases h3:R.K.obj o.name with
    | none=>rw[h3]at hm;cases hm
    | some o2 =>
     rw[h3]at hm;simp only at hm;split at hm
     ·cases hm;exact h2.set (je (h2 _ _ h3) rfl)
     ·cases hm
 split at hm
 ·unfold Km.AY at hm
  simp only at hm;split at hm
  ·cases hm;exact h.set (je ho (Dr o o.name))
  ·cases hm
 split at hm
 ·unfold Km.Gi at hm
  split at hm
  ·cases hm;exact h.set (je ho rfl)
  ·cases hm
 ·cases hm
theorem Gy(K K':Km)(o:Ob)(what:Int)(h:dx K)(ho:pG o=true)(hm:yA K o=some (K',what)):dx K' :=
 dx.FR (fun K o R hK ho hR=>by
  unfold IL at hR;split at hR
  ·cases hR;exact hK.set (je ho rfl)
  ·cases hR) K K' o what h ho hm
def QE(w:World)(g:Gh):Prop:=∃w0,pF w0/\lg w0/\Below w0.heap.size w0 w/\∀b,b<w0.heap.size->g.A b=none
theorem QE.ql{w:World}{g:Gh}(h:QE w g):QL w g:=by
 obtain⟨w0,h1,h2,h3,-⟩:=h;exact⟨h1.below h3,h2.below h3⟩
theorem QE.ext{w w':World}{g g':Gh}(h:QE w g)(k:Ext g g' w w'):QE w' g':=by
 obtain⟨w0,h1,h2,h3,h4⟩:=h;exact⟨w0,h1,h2,h3.trans (k.kept.below h3.size (fun b hb q=>q (h4 b hb))),fun b hb=>k.tag b (bA hb h3.size) (h4 b hb)⟩
theorem Lf:Ai QE yA:=fun w g K K' o what h hI hO hQ=>Ke Pm w g K K' o what h hI hO hQ.ql
end Go.Proofs.YtiadbhiadhgjkaaGreatDoor
namespace Go.Proofs.YtiadbhiadhgjkaaGreatDoor
open Go.RowKit
attribute [local irreducible] World.setCell World.alloc World.drew World.setRow Calls Code.wp
theorem Za(l:dn)(c:Nat)(v:Value)(w:World)(h:bU w v l)(hn:l.ps.length<=1000)(hps:eP l.d 0 l.ps=true)(hc:tQ c l.ps=false) :
  Calls Tryz.prog 10 #[v,.int .u32 (c:Nat)] w fun e w'=>e=.returned (.int .i64 (l.d:Nat))/\Below w.heap.size w w':=by
 obtain⟨la,lc,rfl,hp⟩:=fT h;obtain⟨h0,hh0⟩:∃h0,w.heap.size=h0:=⟨_,rfl⟩;obtain⟨w1,hw1⟩:∃w1,w1=w.alloc (.cells #[.int .i64 (l.d:Nat),.slice la l.ps.length lc] 43):=⟨_,rfl⟩;have hB0:aR w1 h0 #[.int .i64 (l.d:Nat),.slice la l.ps.length lc] 43:=by rw[hw1,<-hh0];exact aR.new _ _ _
 have hb1:Below w.heap.size w w1:=by rw[hw1];exact(aC _ w).alloc (aj _) _
 have x0:w1.cell? ⟨h0,0,none⟩=some (.int .i64 (l.d:Nat)):=(hB0.cell 0).trans rfl;have x1:w1.cell? ⟨h0,1,none⟩=some (.slice la l.ps.length lc):=(hB0.cell 1).trans rfl;have HB0:=ah hB0;have Hb1:=ah hb1;have Hw:=ah hw1
 have HF:Hid (Calls Tryz.prog 19 #[.agg #[.int .i64 (l.d:Nat),.slice la l.ps.length lc],.int .u32 (c:Nat)] w1 fun e w'=>e=.returned (.tuple #[.int .i64 (lo c l.ps:Nat),.bool false])/\Below w1.heap.size w1 w'):=ah (by
  have:=qM l l.d c _ w1 hps hn ⟨_,rfl,aJ.below hp hb1 (aj _)⟩;rw[hc]at this;exact this)
 clear h hp hn hps hc hB0 hb1 hw1;go_enter Tryz.func10,Tryz.ntmps10
 go_upto_region 1 with fail
 rw[<-Hw.out];try rw[hh0]
 go_wp2_with fail
 refine HF.out.mono ?_;rintro e w2 ⟨rfl,hb2⟩;have y0:w2.cell? ⟨h0,0,none⟩=some (.int .i64 (l.d:Nat)):=((HB0.out.below hb2 HB0.out.lt).cell 0).trans rfl;have HB2:=ah (aT Hb1.out hb2);clear HF hb2 x0 x1;go_wp2_with fail
 go_ret;exact⟨rfl,HB2.out⟩
theorem VT(l:dn)(c y:Nat)(v:Value)(w:World)(h:bU w v l)(hn:l.ps.length<=1000)(hps:eP l.d 0 l.ps=true)(hc:tQ c l.ps=true)(hl:lo c l.ps<l.ps.length)(hy:l.ps[lo c l.ps]? = some (c,y)) :
  Calls Tryz.prog 10 #[v,.int .u32 (c:Nat)] w fun e w'=>e=.returned (.int .i64 (y:Nat))/\Below w.heap.size w w':=by
 obtain⟨la,lc,rfl,hp⟩:=fT h;obtain⟨h0,hh0⟩:∃h0,w.heap.size=h0:=⟨_,rfl⟩;obtain⟨w1,hw1⟩:∃w1,w1=w.alloc (.cells #[.int .i64 (l.d:Nat),.slice la l.ps.length lc] 43):=⟨_,rfl⟩;have hB0:aR w1 h0 #[.int .i64 (l.d:Nat),.slice la l.ps.length lc] 43:=by rw[hw1,<-hh0];exact aR.new _ _ _
 have hb1:Below w.heap.size w w1:=by rw[hw1];exact(aC _ w).alloc (aj _) _
 have x0:w1.cell? ⟨h0,0,none⟩=some (.int .i64 (l.d:Nat)):=(hB0.cell 0).trans rfl;have x1:w1.cell? ⟨h0,1,none⟩=some (.slice la l.ps.length lc):=(hB0.cell 1).trans rfl;have hp1:bg w1 (.slice la l.ps.length lc) l.ps:=aJ.below hp hb1 (aj _);obtain⟨pb,epb,hpb,hcells⟩:=aJ.cells hp1 (by omega)
 cases epb
 have hcell:w1.cell? ⟨pb,lo c l.ps*2+1,none⟩=some (.int .i64 (y:Nat)):=by
  refine hcells (lo c l.ps*2+1) _ ?_;rw[gP fG 2 (fun _=>rfl) l.ps (lo c l.ps) (c,y) hy 1 (by omega)];rfl
 have HB0:=ah hB0;have Hb1:=ah hb1;have Hw:=ah hw1;have qJ:=ah hcell
 have HF:Hid (Calls Tryz.prog 19 #[.agg #[.int .i64 (l.d:Nat),.slice (some ⟨pb,0,none⟩) l.ps.length lc],.int .u32 (c:Nat)] w1 fun e w'=>e=.returned (.tuple #[.int .i64 (lo c l.ps:Nat),.bool true])/\Below w1.heap.size w1 w'):=ah (by
  have:=qM l l.d c _ w1 hps hn ⟨_,rfl,hp1⟩;rw[hc]at this;exact this)
 obtain⟨q,hq⟩:∃q,lo c l.ps=q:=⟨_,rfl⟩;rw[hq]at HF qJ hl;have hlt:¬((l.ps.length:Int)<=(q:Int)):=by omega
 have hge:¬((q:Int)<0):=by omega
 clear h hp hp1 hn hps hc hB0 hb1 hw1 hy hcells hq hcell;go_enter Tryz.func10,Tryz.ntmps10
 go_upto_region 1 with fail
 rw[<-Hw.out];try rw[hh0]
 go_wp2_with fail
 refine HF.out.mono ?_;rintro e w2 ⟨rfl,hb2⟩;have y0:w2.cell? ⟨h0,0,none⟩=some (.int .i64 (l.d:Nat)):=((HB0.out.below hb2 HB0.out.lt).cell 0).trans rfl;have y1:w2.cell? ⟨h0,1,none⟩=some (.slice (some ⟨pb,0,none⟩) l.ps.length lc):=((HB0.out.below hb2 HB0.out.lt).cell 1).trans rfl;have y2:w2.cell? ⟨pb,q*2+1,none⟩=some (.int .i64 (y:Nat)):=(hb2.cell (p:=⟨pb,q*2+1,none⟩) hpb).trans qJ.out;have HB2:=ah (aT Hb1.out hb2);clear HF hb2 x0 x1;go_wp2_with fail
 go_ret;exact⟨rfl,HB2.out⟩
theorem Gv(b:Nat)(W:World):(Builtin.copy_ #[109,109] 3 #[.slice (some ⟨b,1,none⟩) 5 5,.slice none 0 0]).run Tryz.prog W=.ok (.int .i64 0) W :=
 run_copy_none (P:=Tryz.prog) W _ _ _ 21 _ _ 5 5 0 0 Tryz.underlying109 (by kernel_rfl) (by simp)
theorem Ll(w:World):Calls Tryz.prog 7 #[.int .i64 1,.slice none 0 0] w fun e w'=>e=.returned (.agg (fQ qD).toArray)/\Below w.heap.size w w':=by
 have HB:=ah (aC w.heap.size w);go_enter Tryz.func7,Tryz.ntmps7
 obtain⟨h0,hh0⟩:∃h0,w.heap.size=h0:=⟨_,rfl⟩;have hcp:=Gv (h0+1) ((w.alloc (.cells #[.int .i64 0,.int .i32 0,.int .i32 0,.int .i32 0,.int .i32 0,.int .i32 0,.int .i64 0,.int .i64 0,.int .i64 0,.int .i64 0,.int .i32 0] 28)).alloc (.cells #[.int .i64 1,.int .i32 0,.int .i32 0,.int .i32 0,.int .i32 0,.int .i32 0,.int .i64 0,.int .i64 0,.int .i64 0,.int .i64 0,.int .i32 0] 28));rw[<-hh0]at hcp;clear hh0;go_wp2_with fail
 have hX:=(aR.new w (fQ qD).toArray 28).alloc (.cells (fQ qD).toArray 28);refine bodyPost_ret (results_cell_row rfl _ _ w.heap.size _ _ (0,0) _ rfl hX Tryz.underlying28 rfl (by kernel_rfl)) rfl ⟨rfl,?_⟩;exact((aC _ w).alloc (aj _) _).alloc (by simp) _
end Go.Proofs.YtiadbhiadhgjkaaGreatDoor
namespace Go.Proofs.YtiadbhiadhgjkaaGreatDoor
open Go.RowKit
theorem Py(x:Int):bits .and .i64 x 3=x%4:=by
 have e1:(BitVec.ofInt 64 x).toNat=(x%18446744073709551616).toNat:=by rw[BitVec.toNat_ofInt];rfl
 have e2:(BitVec.ofInt 64 (3:Int)).toNat=3:=by rfl
 have key:bits .and .i64 x 3=IntKind.i64.wrap (((x%18446744073709551616).toNat%4:Nat):Int):=by
  show IntKind.i64.wrap _=_
  congr 1
  show(((BitVec.ofInt 64 x &&& BitVec.ofInt 64 (3:Int)).toNat:Nat):Int)=_
  rw[BitVec.toNat_and,e1,e2,show(3:Nat)=2^2-1 from rfl,Nat.and_two_pow_sub_one_eq_mod]
 rw[key,aV _ (by omega)];omega
theorem or1536(m:Nat)(h:m<512):bits .or .i64 1536 (m:Int)=1536+(m:Int):=by
 have h2:m<2^9:=by omega
 have e1:(1536:Int)=((2^9*3:Nat):Int):=by omega
 rw[e1];show IntKind.i64.wrap ((BitVec.ofInt 64 ((2^9*3:Nat):Int) ||| BitVec.ofInt 64 (m:Int)).toNat:Int)=_
 rw[BitVec.toNat_or,dw,dw,BitVec.toNat_ofNat,BitVec.toNat_ofNat,Nat.mod_eq_of_lt (by omega),Nat.mod_eq_of_lt (by omega),<-Nat.two_pow_add_eq_or_of_lt h2];rw[aV _ (by omega)];omega
theorem Ej:qD.ok:=⟨⟨by decide,by decide⟩,⟨⟨by decide,by decide⟩,⟨by decide,by decide⟩,⟨by decide,by decide⟩,⟨by decide,by decide⟩,⟨by decide,by decide⟩⟩,fun h=>absurd h (by decide)⟩
theorem KV(n:Nat)(h1:1<=n)(h4:n<=4):∃K o,K.obj 6=some o/\aal n o/\∀(W:World) (b lc:Nat),pF W->lg W->mY W (.slice (some ⟨b,0,none⟩) n lc) (List.replicate n qD) ->
  Calls Tryz.prog 8 #[.slice (some ⟨b,0,none⟩) n lc,.agg #[.int .i64 1,.slice none 0 0]] W fun e w'=>Below W.heap.size W w'/\Uf W (some K) e w':=by
 obtain⟨K0,K,o,e1,e2,e3,e4,e5,e6⟩:=Sl n h1 h4
 have hp:(⟨List.replicate n qD++[jH],⟨1,[]⟩,0⟩:PV).plain=Pj n:=by
  have:(⟨List.replicate n qD++[jH],⟨1,[]⟩,0⟩:PV).lab=eX:=by rw[PV.xI];split<;>rfl
  unfold PV.plain;rw[this];rfl
 refine⟨K,o,e5,e6,fun W b lc hs hm hl=>?_⟩
 have:=KW (QQ:=QE) (rE:=yA) b lc (List.replicate n qD) 1 (.slice none 0 0) [] K0 (some K) W (fun _ _ _ _ h k=>h.ext k) Lf Gy (fun lo kb K g w' hw=>⟨W,hs,hm,hw.eO,fun b hb=>hw.free b (bA hb hw.le0)⟩)
  (by rw[List.length_replicate];exact hl) (by rw[List.length_replicate];omega) (by rw[List.length_replicate];omega) (fun l hl=>by rw[(List.mem_replicate.1 hl).2];exact Ej) ⟨none,0,rfl,aj _,Nat.zero_le _,.inl rfl⟩ (fun n hn=>by cases hn) (by rw[hp];exact e1) e2 e3 e4
 rw[List.length_replicate]at this;exact this
theorem Sk(k i:Nat)(hk:k<=4)(hi:i<k):tQ (1537+i) ((List.range k).map fun i=>(1537+i,0))=true/\lo (1537+i) ((List.range k).map fun i=>(1537+i,0))=i/\eP 2 0 ((List.range k).map fun i=>(1537+i,0))=true:=by
 obtain rfl|rfl|rfl|rfl:k=1\/k=2\/k=3\/k=4:=by omega
 all_goals
  obtain rfl|rfl|rfl|rfl:i=0\/i=1\/i=2\/i=3:=by omega
  all_goals first|omega|decide
attribute [local irreducible] World.setCell World.alloc World.drew World.setRow Calls Code.wp
theorem Le(x:Int)(w:World)(hs:pF w)(hm:lg w):Calls Tryz.prog 3 #[.int .i64 x] w fun e w'=>e=.returned (.bool true)/\Below w.heap.size w w':=by
 obtain⟨m,hm4⟩:∃m:Nat,x%4=(m:Int):=⟨(x%4).toNat,by omega⟩;have hand:bits .and .i64 x 3=(m:Int):=by rw[Py,hm4]
 obtain⟨n,hn⟩:∃n:Nat,n=m+1:=⟨_,rfl⟩;have hwn:IntKind.i64.wrap ((m:Int)+1)=(n:Int):=by rw[hn,aV _ (by omega)];omega
 obtain⟨K,o,ho,hC,hD⟩:=KV n (by omega) (by omega);have hn4:n<=4:=by omega
 have hn1:1<=n:=by omega
 obtain⟨i0,hi,hz0,hz1,hz2⟩:=info_parts zT;have Hi:=ah hi;have lJ:=ah hz0;have lI:=ah hz1;have kT:=ah hz2;have HS:=ah (And.intro hs hm);have HO:=ah ho;have HC:=ah hC;have HD:=ah hD;have aac:=ah (KO w);clear hm4 hn ho hC hD hi hz0 hz1 hz2 hs hm;go_enter Tryz.func3,Tryz.ntmps3
 go_wp2_with fail
 refine aac.out.mono ?_;rintro e w1 ⟨rfl,hb1⟩;have HB1:=ah hb1;clear hb1 aac;go_wp2_with fail
 go_loopg [3,14] n (fun gg v3 v14 wx=>∃k:Nat,k+gg=n/\v14=.int .i64 k/\Hid (wx.ownsRow w.heap.size 28 11 v3 k ((List.replicate k qD).flatMap fQ))/\Hid (Below w.heap.size w wx))
 case atStart=>exact⟨0,by omega,rfl,ah (cu _ _ _ _),HB1⟩
 case round =>
  obtain⟨k,hk,rfl,HRo,WH⟩:=hrel;by_cases hlt:k<n
  ·have hlt':(k:Int)<n:=by omega
   have HCl:=ah (Ll wr);go_wp2_with fail
   refine HCl.out.mono ?_;rintro e w2 ⟨rfl,hb2⟩;have HB2:=ah (aT WH.out hb2);have HR2:Hid (w2.ownsRow w.heap.size 28 11 u3 k ((List.replicate k qD).flatMap fQ)):=ah (dA HRo.out (Kept.of_below hb2) (fun _ _ h=>h));clear HCl hb2;have hsz:=HB2.out.size
   have hnew:∀(j:Nat) (u:Value),(fQ qD)[j]? = some u->(w2.alloc (.cells (fQ qD).toArray 28)).cell? ((⟨w2.heap.size,0,none⟩:Addr).add j)=some u:=fun j u hu=>by
    rw[PD,(aR.new w2 _ _).cell];simpa using hu
   have EC:=ah hnew;clear hnew;go_wp2_with (at_builtin;refine wpList_append_own _ rfl _ _ 23 rfl w.heap.size 28 i0 _ 11 72 Tryz.underlying23 Hi.out lJ.out lI.out kT.out rfl (by decide) _ _ _ rfl (HR2.out.alloc _) ⟨w2.heap.size,0,none⟩ 1 1 (fQ qD) rfl rfl EC.out (fun u hu=>uR (ls:=[qD]) (by simpa using hu)) (by unfold maxLen;omega) (by omega) (by rw[au];omega) ?_;intro v' w6 hown6 dN _)
   have sK:Hid (w6.ownsRow w.heap.size 28 11 v' (k+1) ((List.replicate (k+1) qD).flatMap fQ)):=ah (by
    rw[List.replicate_succ',List.flatMap_append];simpa using hown6)
   have wB:Hid (Below w.heap.size w w6):=ah ((HB2.out.alloc hsz _).grown dN (by rw[au];omega) (fun b hb=>(HR2.out.lt b hb).1));clear hown6 dN EC;go_wp2_with fail
   go_roundg (n-(k+1))
   case measure=>omega
   case rel=>exact⟨k+1,by omega,by go_num,sK,wB⟩
  ·obtain rfl:k=n:=by omega
   obtain⟨⟨a3,c3,rfl⟩,-⟩:=qd HRo.out;have hrow:aJ wr 28 (.slice a3 k c3) k ((List.replicate k qD).flatMap fQ):=aJ.own HRo.out;obtain⟨b3,hb3,-⟩:=aJ.cells hrow (by omega);subst hb3;have HDn:=ah (HD.out wr b3 c3 (HS.out.1.below WH.out) (HS.out.2.below WH.out) (by unfold mY;rw[List.length_replicate];exact hrow));clear hrow HRo HD;go_wp2_with fail
   refine HDn.out.mono ?_;rintro e w3 ⟨hb3',kb,g,rfl,lo0,hW,hA,hnc⟩;have hp6:FL g K.obj 6=.pointer (some ⟨g.bl 6,0,none⟩):=gK HO.out;have hnm:o.name=6:=(hW.kin.objs 6 o HO.out).1;have ho6:K.obj o.name=some o:=by rw[hnm];exact HO.out
   obtain⟨xs,hT⟩:=hW.kin.gQ ho6 HC.out.kind;obtain⟨s,T,hOb⟩:=hW.kin.at ho6;have hlp:=hOb.rows.lab;have hcp:=hT.rows.gG;obtain⟨la,lc,VF,-,-⟩:=aJ.form hlp;obtain⟨ca,cc,VG,-,-⟩:=aJ.form hcp;rw[VF]at hlp;rw[VG]at hcp;have x19:=hW.kin.pU ho6 HC.out.kind
   have x24:w3.cell? ⟨g.tl o.name,24,none⟩=some (.int .i64 (k:Int)):=by
    have:w3.cell? ⟨g.tl o.name,24,none⟩=some (.int .i64 o.th.made):=(hT.blk.cell 24).trans rfl
    rw[HC.out.made]at this;exact this
   have x1:w3.cell? ⟨g.tl o.name,1,none⟩=some (.int .u64 (1536+(k:Int))):=by have:=hT.reg (j:=1) (by omega);rw[HC.out.r1]at this;exact this
   have x4:w3.cell? ⟨g.bl o.name,4,none⟩=some (.int .i64 (o.lab.d:Nat)):=(hOb.blk.cell 4).trans rfl
   have x5:w3.cell? ⟨g.bl o.name,5,none⟩=some (.slice la o.lab.ps.length lc):=by
    have:w3.cell? ⟨g.bl o.name,5,none⟩=some s.lp:=(hOb.blk.cell 5).trans rfl
    rw[VF]at this;exact this
   have x17:w3.cell? ⟨g.tl o.name,17,none⟩=some (.int .i64 (o.th.clear.d:Nat)):=(hT.blk.cell 17).trans rfl
   have x18:w3.cell? ⟨g.tl o.name,18,none⟩=some (.slice ca o.th.clear.ps.length cc):=by
    have:w3.cell? ⟨g.tl o.name,18,none⟩=some xs.cp:=(hT.blk.cell 18).trans rfl
    rw[VG]at this;exact this
   rw[hp6];rw[hnm]at x19 x24 x1 x4 x5 x17 x18;have hlen:o.lab.ps.length=k:=by rw[HC.out.ps,List.length_map,List.length_range]
   have hown:(jl o.lab.ps).length=k:=by
    unfold jl;rw[List.length_map,List.filter_eq_self.2 (fun p hp=>by rw[HC.out.ps]at hp;obtain⟨q,-,rfl⟩:=List.mem_map.1 hp;rfl),hlen]
   have HOw:Hid (Calls Tryz.prog 9 #[.agg #[.int .i64 (o.lab.d:Nat),.slice la o.lab.ps.length lc]] w3 fun e w'=>∃r c,e=.returned (.slice r k c)/\Below w3.heap.size w3 w'):=ah (by
    refine(CZ o.lab _ w3 ⟨_,rfl,hlp⟩ (by omega)).mono ?_;rintro e w' ⟨r,rfl,h1,h2⟩;rw[hown]at h1;obtain⟨⟨r1,c1,rfl⟩,-⟩:=qd h1;exact⟨r1,c1,rfl,h2⟩)
   have HL3:Hid (bU w3 (.agg #[.int .i64 (o.lab.d:Nat),.slice la o.lab.ps.length lc]) o.lab):=ah ⟨_,rfl,hlp⟩;have uH:Hid (bU w3 (.agg #[.int .i64 (o.th.clear.d:Nat),.slice ca o.th.clear.ps.length cc]) o.th.clear):=ah ⟨_,rfl,hcp⟩;have HB3:=ah (aT WH.out hb3');have hor:=or1536 k (by omega);have hcv:IntKind.u64.wrap (1536+(k:Int))=1536+(k:Int):=IntWalk.u64_in _ (by omega);have X19:=ah x19;have X4:=ah x4;have X5:=ah x5;have X17:=ah x17;have X18:=ah x18;have X1:=ah x1
   have HAy:Hid (∀(i:Nat) (W:World),i<k->Below w3.heap.size w3 W->Calls Tryz.prog 10 #[.agg #[.int .i64 (o.lab.d:Nat),.slice la o.lab.ps.length lc],.int .u32 (1536+((i:Int)+1))] W fun e w'=>e=.returned (.int .i64 0)/\Below W.heap.size W w'):=ah (fun i W hi hb=>by
    obtain⟨e1,e2,e3⟩:=Sk k i hn4 hi;have:=VT o.lab (1537+i) 0 _ W (HL3.out.below hb (aj _)) (by omega) (by rw[HC.out.d,HC.out.ps];exact e3) (by rw[HC.out.ps];exact e1) (by rw[HC.out.ps,e2,List.length_map,List.length_range];exact hi) (by rw[HC.out.ps,e2];simp[hi]);rw[show(1536+((i:Int)+1))=((1537+i:Nat):Int)by omega];exact this)
   have WJ:Hid (∀(i:Nat) (W:World),Below w3.heap.size w3 W->Calls Tryz.prog 10 #[.agg #[.int .i64 (o.th.clear.d:Nat),.slice ca o.th.clear.ps.length cc],.int .u32 (1536+((i:Int)+1))] W fun e w'=>e=.returned (.int .i64 4)/\Below W.heap.size W w'):=ah (fun i W hb=>by
    have:=Za o.th.clear (1537+i) _ W (uH.out.below hb (aj _)) (by rw[HC.out.cps];simp) (by rw[HC.out.cps];rfl) (by rw[HC.out.cps];rfl);rw[show(1536+((i:Int)+1))=((1537+i:Nat):Int)by omega];exact this.mono fun e w' q=>⟨by rw[q.1,HC.out.cd];rfl,q.2⟩)
   rw[hlen]at HOw HAy x5 X5;obtain⟨cn,hcn⟩:∃cn,o.th.clear.ps.length=cn:=⟨_,rfl⟩;rw[hcn]at WJ x18 X18;have Qy:=ah (bn w3 _ x19);obtain⟨bb,hbb⟩:∃bb,g.bl 6=bb:=⟨_,rfl⟩;obtain⟨tb,htb⟩:∃tb,g.tl 6=tb:=⟨_,rfl⟩;rw[hbb]at x19 x4 x5 X19 X4 X5 Qy;rw[htb]at x19 x24 x1 x17 x18 X19 X17 X18 X1;rw[hbb];clear hp6 hbb htb hW hA hnc hnm ho6 hT hOb hlp hcp VF VG hown hb3' HDn hlt HL3 uH hlen hcn HO;have X24:=ah x24;go_wp2_with fail
   refine HOw.out.mono ?_;rintro e w4 ⟨r4,c4,rfl,hb4⟩;have q19:=(hb4.cell (p:=⟨bb,19,none⟩) Qy.out).trans X19.out;have UZ:tb<w3.heap.size:=bn w3 _ X24.out;have q1:=(hb4.cell (p:=⟨tb,1,none⟩) UZ).trans X1.out;have yO:=ah hb4;have HLt:=ah UZ;clear x19 x24 x1 x4 x5 x17 x18 hb4 HOw;go_wp2_with fail
   have Qm:Hid (Below w3.heap.size w3 w4):=yO;clear q19 q1 hor hcv yO;go_loopg [6,7,66] k (fun gg _ _ v66 wx=>∃i:Nat,i+gg=k/\v66=.int .i64 i/\Hid (Below w3.heap.size w3 wx))
   case atStart=>exact⟨0,by omega,rfl,Qm⟩
   case round =>
    obtain⟨i,hik,rfl,HBi⟩:=hrel;by_cases hlt:i<k
    ·have hlt':(i:Int)<k:=by omega
     have hw1:IntKind.i64.wrap ((i:Int)+1)=(i:Int)+1:=aV _ (by omega)
     have hor:bits .or .i64 1536 ((i:Int)+1)=1536+((i:Int)+1):=by
      have:=or1536 (i+1) (by omega);simpa using this
     have hcv:IntKind.u32.wrap (1536+((i:Int)+1))=1536+((i:Int)+1):=IntWalk.u32_in _ (by omega);have q4:=(HBi.out.cell (p:=⟨bb,4,none⟩) Qy.out).trans X4.out;have q5:=(HBi.out.cell (p:=⟨bb,5,none⟩) Qy.out).trans X5.out;have HA1:=ah (HAy.out i wr hlt HBi.out);clear hlt;go_wp2_with fail
     refine HA1.out.mono ?_;rintro e w5 ⟨rfl,hb5⟩;have pK:=ah (aT HBi.out hb5);have q19:=(pK.out.cell (p:=⟨bb,19,none⟩) Qy.out).trans X19.out;have q17:=(pK.out.cell (p:=⟨tb,17,none⟩) HLt.out).trans X17.out;have q18:=(pK.out.cell (p:=⟨tb,18,none⟩) HLt.out).trans X18.out;have HA2:=ah (WJ.out i w5 pK.out);clear q4 q5 HA1 hb5;go_wp2_with fail
     refine HA2.out.mono ?_;rintro e w6 ⟨rfl,hb6⟩;have wB:=ah (aT pK.out hb6);clear q19 q17 q18 HA2 hb6;go_wp2_with fail
     go_roundg (k-(i+1))
     case measure=>omega
     case rel=>exact⟨i+1,by omega,by go_num,wB⟩
    ·obtain rfl:i=k:=by omega
     go_wp2_with fail
     go_ret;exact⟨rfl,aT HB3.out (HBi.out)⟩
end Go.Proofs.YtiadbhiadhgjkaaGreatDoor
