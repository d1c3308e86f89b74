import Derived.Test.YtiadbhiadhgjkaaGreatDoorZzMm
import Derived.Stop.Asserts
set_option maxRecDepth 100000
set_option maxHeartbeats 4000000
namespace Go.Proofs.YtiadbhiadhgjkaaGreatDoor
open Go.RowKit
theorem Sr{B:Nat->Int}(hB:∀j,j<8->0<=B j/\B j<=255)(k:Nat)(hk:k<8):oh B 8/256^(7-k)%256=B k:=by
 have h0:=hB 0 (by omega);have h1:=hB 1 (by omega);have h2:=hB 2 (by omega);have h3:=hB 3 (by omega);have h4:=hB 4 (by omega);have h5:=hB 5 (by omega);have h6:=hB 6 (by omega);have h7:=hB 7 (by omega)
 have e:oh B 8=((((((B 0*256+B 1)*256+B 2)*256+B 3)*256+B 4)*256+B 5)*256+B 6)*256+B 7:=by
  show(((((((0*256+B 0)*256+B 1)*256+B 2)*256+B 3)*256+B 4)*256+B 5)*256+B 6)*256+B 7=_
  omega
 rw[e];match k,hk with
 | 0,_=>show _/72057594037927936%256=_;omega
 | 1,_=>show _/281474976710656%256=_;omega
 | 2,_=>show _/1099511627776%256=_;omega
 | 3,_=>show _/4294967296%256=_;omega
 | 4,_=>show _/16777216%256=_;omega
 | 5,_=>show _/65536%256=_;omega
 | 6,_=>show _/256%256=_;omega
 | 7,_=>show _/1%256=_;omega
 | k+8,h=>exact absurd h (by omega)
theorem Sc{B C:Nat->Int}(h:∀j,j<8->B j=C j):nu B=nu C:=by
 unfold nu yY;rw[h 0 (by omega),h 1 (by omega),h 2 (by omega),h 3 (by omega),h 4 (by omega),h 5 (by omega),h 6 (by omega),h 7 (by omega)]
theorem Dl(mb:Nat)(xT:TypeId)(w:World):(Instr.typeAssert (.iface 229 (.pointer (some ⟨mb,0,none⟩))) xT 276 true).run Tryz.prog w=.ok (.tuple #[.iface 229 (.pointer (some ⟨mb,0,none⟩)),.bool true]) w :=
 run_typeAssert_hasB Tryz.underlying276 (by kernel_rfl) _ xT w
theorem NT{K:Km}{o:Ob}{x:Ins}(h1:x.op≠1)(h2:x.op≠43)(h3:x.op≠2)(h4:x.op≠18)(h5:x.op≠29)(h6:x.op≠30)(h7:x.op≠7)(h8:¬(19<=x.op/\x.op<=24)):eY K o x=none:=by
 unfold eY;simp only;rw[aA h1,aA h2,aA h3,aA h4,aA h5,aA h6,aA h7,aA h8]
theorem Ra{w0 w:World}{g0 g:Gh}{K:Km}{o:Ob}{i mb:Nat}(h:iI w0 g0 K o i mb w g)(x:Ins)(hx:x.right=true)(hm:-2147483648<=x.bf/\x.bf<=2147483647){r':Nat->Int}{nx en:Int}(hres:eY K o x=some (r',nx,en)) :
  Calls Tryz.prog 130 #[.pointer (some ⟨g.tl o.name,0,none⟩),x.v,mR mb] w fun e w'=>e=.returned (.tuple #[.int .u64 nx,.int .i64 en])/\∃g',bS w0 g0 (K.set (o.eF { o.th with r:=r' })) (o.eF { o.th with r:=r' }) w' g':=by
 obtain⟨op,a,b,c,bf⟩:=x;unfold Ins.right at hx;simp only[aM]at hx;obtain⟨-,ha,hb,hc⟩:=hx;have ha:=iJ ha;have hb:=iJ hb;have hc:=iJ hc;obtain⟨a,rfl⟩:∃n:Nat,a=(n:Int):=⟨a.toNat,by omega⟩;obtain⟨b,rfl⟩:∃n:Nat,b=(n:Int):=⟨b.toNat,by omega⟩;obtain⟨c,rfl⟩:∃n:Nat,c=(n:Int):=⟨c.toNat,by omega⟩;have ha:a<16:=by omega
 have hb:b<16:=by omega
 have hc:c<16:=by omega
 obtain⟨m0,m1⟩:=hm;simp only at m0 m1;show Calls _ _ #[_,.agg #[.int .i64 op,.int .i64 a,.int .i64 b,.int .i64 c,.int .i32 bf],_] _ _
 by_cases e1:op=1
 ·subst e1
  have e:eY K o ⟨1,a,b,c,bf⟩=some (o.th.r,wu (o.th.pc+8),(2:Int)):=rfl;rw[e]at hres;cases hres;exact(Nq h.st h.ob h.kind a b c bf (mR mb) ha hb).mono fun e w' ⟨q1,q2⟩=>⟨q1,g,q2.none h.ob⟩
 by_cases e2:op=43
 ·subst e2
  have e:eY K o ⟨43,a,b,c,bf⟩=some (o.th.r,wu (o.th.pc+8),(1:Int)):=rfl;rw[e]at hres;cases hres;exact(Np h.st h.ob h.kind a b c bf (mR mb) ha hb).mono fun e w' ⟨q1,q2⟩=>⟨q1,g,q2.none h.ob⟩
 by_cases e3:op=2
 ·subst e3
  have e:eY K o ⟨2,a,b,c,bf⟩=some (upd o.th.r a (wu bf),wu (o.th.pc+8),(0:Int)):=rfl;rw[e]at hres;cases hres;exact(Uy h.st h.ob h.kind a b c bf (mR mb) ha hb m0 m1).mono fun e w' ⟨q1,q2⟩=>⟨q1,g,q2⟩
 by_cases e4:op=18
 ·subst e4
  have e:eY K o ⟨18,a,b,c,bf⟩=some (upd o.th.r a (wu (o.th.r b+bf)),wu (o.th.pc+8),(0:Int)):=rfl;rw[e]at hres;cases hres;exact(Ns h.st h.ob h.kind a b c bf (mR mb) ha hb m0 m1).mono fun e w' ⟨q1,q2⟩=>⟨q1,g,q2⟩
 by_cases e5:op=29
 ·subst e5
  have e:eY K o ⟨29,a,b,c,bf⟩=some (upd o.th.r a (wu (o.th.pc+8)),wu (o.th.pc+8*bf),(0:Int)):=rfl;rw[e]at hres;cases hres;exact(QZ h.st h.ob h.kind a b c bf (mR mb) ha hb m0 m1).mono fun e w' ⟨q1,q2⟩=>⟨q1,g,q2⟩
 by_cases e6:op=30
 ·subst e6
  have e:eY K o ⟨30,a,b,c,bf⟩=some (o.th.r,o.th.r a,(0:Int)):=rfl;rw[e]at hres;cases hres;exact(UC h.st h.ob h.kind a b c bf (mR mb) ha hb).mono fun e w' ⟨q1,q2⟩=>⟨q1,g,q2.none h.ob⟩
 by_cases e7:op=7
 ·subst e7
  have e:eY K o ⟨7,a,b,c,bf⟩=(if o.th.r c=0 then some (o.th.r,wu (o.th.pc+8),(5:Int))else none):=rfl;rw[e]at hres;by_cases q:o.th.r c=0
  ·rw[aD q]at hres;cases hres
   exact(Nr h.st h.ob h.kind a b c bf (mR mb) ha hb hc q).mono fun e w' ⟨q1,q2⟩=>⟨q1,g,q2.none h.ob⟩
  ·rw[aA q]at hres;cases hres
 by_cases e8:19<=op/\op<=24
 ·rcases(show op=19\/op=20\/op=21\/op=22\/op=23\/op=24 by omega)with rfl|rfl|rfl|rfl|rfl|rfl
  ·exact Uz h a b c bf ha hb m0 m1 hres
  ·exact Ux h a b c bf ha hb m0 m1 hres
  ·exact UA h a b c bf ha hb m0 m1 hres
  ·exact Uv h a b c bf ha hb m0 m1 hres
  ·exact Uu h a b c bf ha hb m0 m1 hres
  ·exact Uw h a b c bf ha hb m0 m1 hres
 ·rw[NT e1 e2 e3 e4 e5 e6 e7 e8]at hres;cases hres
attribute [local irreducible] World.setCell World.alloc World.drew World.setRow Calls Code.wp
theorem Gx{w0 w:World}{g0 g:Gh}{K:Km}{o:Ob}{i mb:Nat}(h:iI w0 g0 K o i mb w g)(va:Int)(h0:0<=va)(h1:va<=262143)(h8:va%8=0) :
  Calls Tryz.prog 128 #[mR mb,.int .i64 va] w fun e w'=>e=.returned (kg (K.bytes o va) 8)/\∃g',bS w g K o w' g':=by
 have HF:=ah (KQ w g K o mb va (h.load va 8 h0 h1 (by omega) (by omega) (by omega)));have hta:=Dl mb 254;clear h h0 h1 h8
 cases hB:K.bytes o va
 all_goals
  rw[hB]at HF;unfold kg at HF ⊢;clear hB;go_enter Tryz.func128,Tryz.ntmps128
  go_wp2_with fail
  refine HF.out.mono ?_;rintro e w1 ⟨rfl,g1,hE⟩;have HE:=ah hE;clear hE;go_wp2_with fail
  go_ret2
  exact⟨rfl,g1,HE.out⟩
end Go.Proofs.YtiadbhiadhgjkaaGreatDoor
namespace Go.Proofs.YtiadbhiadhgjkaaGreatDoor
open Go.RowKit
theorem Ui(t:Th)(x:Ts)(a b v:Int):(jw t x a b).setIfInBounds 16 (.int .u64 v)=jw { t with pc:=v } x a b:=by
 unfold jw;simp only[ay,aG,aH]
theorem bS.pc{w0 w:World}{g0 g:Gh}{K:Km}{o:Ob}(h:bS w0 g0 K o w g)(ho:K.obj o.name=some o)(hk:o.kind=3){v:Int}(hv:0<=v/\v<=18446744073709551615) :
  bS w0 g0 (K.set (o.eF { o.th with pc:=v })) (o.eF { o.th with pc:=v }) (w.setCell ⟨g.tl o.name,16,Option.none⟩ (.int .u64 v)) g:=by
 obtain⟨x,hT⟩:=h.kin.gQ ho hk;exact h.nums ho hk hT ((Kept.refl (·=g.tl o.name) w).bC _ _ _ rfl) ((hT.blk.set 16 _).cells (Ui _ _ _ _ _)) ⟨rfl,rfl,rfl,rfl,rfl,rfl,rfl⟩ hT.rows.regs hv
theorem Kz{K:Km}{o:Ob}{x:Ins}{r':Nat->Int}{nx en:Int}(hr:∀j,0<=o.th.r j/\o.th.r j<=18446744073709551615)(h:eY K o x=some (r',nx,en)):(0<=nx/\nx<=18446744073709551615)/\(en=0\/en=1\/en=2\/en=3\/en=5\/en=6)/\((en=0\/en=1)\/r'=o.th.r):=by
 unfold eY at h;simp only at h;by_cases e1:x.op=1
 ·rw[aD e1]at h;cases h;exact⟨jL _,by omega,.inr rfl⟩
 rw[aA e1]at h;by_cases e2:x.op=43
 ·rw[aD e2]at h;cases h;exact⟨jL _,by omega,.inl (.inr rfl)⟩
 rw[aA e2]at h;by_cases e3:x.op=2
 ·rw[aD e3]at h;cases h;exact⟨jL _,by omega,.inl (.inl rfl)⟩
 rw[aA e3]at h;by_cases e4:x.op=18
 ·rw[aD e4]at h;cases h;exact⟨jL _,by omega,.inl (.inl rfl)⟩
 rw[aA e4]at h;by_cases e5:x.op=29
 ·rw[aD e5]at h;cases h;exact⟨jL _,by omega,.inl (.inl rfl)⟩
 rw[aA e5]at h;by_cases e6:x.op=30
 ·rw[aD e6]at h;cases h;exact⟨hr _,by omega,.inl (.inl rfl)⟩
 rw[aA e6]at h;by_cases e7:x.op=7
 ·rw[aD e7]at h
  by_cases q:o.th.r x.c.toNat=0
  ·rw[aD q]at h;cases h;exact⟨jL _,by omega,.inr rfl⟩
  ·rw[aA q]at h;cases h
 rw[aA e7]at h;by_cases e8:19<=x.op/\x.op<=24
 ·rw[aD e8]at h
  by_cases q:wu (o.th.r x.b.toNat+x.bf)>262144-(gN x.op:Int)\/wu (o.th.r x.b.toNat+x.bf)%(gN x.op:Int)≠0
  ·rw[aD q]at h;cases h;exact⟨jL _,by omega,.inr rfl⟩
  rw[aA q]at h;by_cases e9:22<=x.op
  ·rw[aD e9]at h
   split at h
   ·cases h
   ·cases h;exact⟨jL _,by omega,.inr rfl⟩
  ·rw[aA e9]at h
   split at h
   ·cases h;exact⟨jL _,by omega,.inl (.inl rfl)⟩
   ·cases h;exact⟨jL _,by omega,.inr rfl⟩
 ·rw[aA e8]at h;cases h
def OL(B:Nat->Int)(k:Nat):Nat->Value:=fun j=>.int .u8 (if j<k then B j else 0)
attribute [local irreducible] World.setCell World.alloc World.drew World.setRow Calls Code.wp row
theorem KY{w0 w:World}{g0 g:Gh}{K:Km}{o:Ob}{i mb:Nat}(h:iI w0 g0 K o i mb w g){t':Th}{en:Int}(hres:oJ K o=some (t',en)) :
  Calls Tryz.prog 104 #[.pointer (some ⟨g.tl o.name,0,none⟩),mR mb] w fun e w'=>e=.returned (.int .i64 en)/\∃g',bS w0 g0 (K.set (o.eF t')) (o.eF t') w' g':=by
 obtain⟨x,hT⟩:=h.st.kin.gQ h.ob h.kind;have pc:w.cell? ⟨g.tl o.name,16,none⟩=some (.int .u64 o.th.pc):=(hT.blk.cell 16).trans rfl;obtain⟨p0,p1⟩:=hT.rows.pc;have HU:=ah h;have HR:=ah hres;have Hrg:=ah hT.rows.regs;have Jb:Hid (K.set (o.eF o.th)=K):=ah (Km.set_self h.ob);have q0:o.th.pc.tmod 8=o.th.pc%8:=bQ p0;clear h hres hT;by_cases h1:262144<=o.th.pc
 ·have HR2:Hid (t'=o.th/\en=6):=ah (by
   have:=HR.out;unfold oJ at this;rw[aD (.inl h1)]at this
   cases this;exact⟨rfl,rfl⟩)
  have d1:decide (262144<=o.th.pc)=true:=bK h1;clear HR;go_enter Tryz.func104,Tryz.ntmps104
  go_wp2_with fail
  go_ret;obtain⟨e1,e2⟩:=HR2.out;subst e1;subst e2;exact⟨rfl,g,by rw[Jb.out];exact HU.out.st.pW _⟩
 by_cases h2:o.th.pc%8=0
 ·have d1:decide (262144<=o.th.pc)=false:=aX h1
  have d2:(o.th.pc%8==0)=true:=by simp[h2]
  have d3:(o.th.pc%8 != 0)=false:=by simp[h2]
  have Xg:=ah (Gx HU.out o.th.pc p0 (by omega) h2);have hcv:IntKind.i64.wrap o.th.pc=o.th.pc:=aV _ (by omega)
  have HR2:Hid ((match K.bytes o o.th.pc with
   | none=>some (o.th,(3:Int))
   | some B=>if(nu B).right then(eY K o (nu B)).map (tN o.th)else some (o.th,4))=some (t',en)):=ah (by
   have:=HR.out;unfold oJ at this;rw[aA (by omega)]at this;exact this)
  have hp8:o.th.pc%64+((8:Nat):Int)<=64:=by omega
  have Hp8:=ah hp8
  cases hB:K.bytes o o.th.pc with
  | none =>
   rw[hB]at Xg HR2;unfold kg at Xg;clear hB HR h1 h2 hp8;go_enter Tryz.func104,Tryz.ntmps104
   go_wp2_with fail
   refine Xg.out.mono ?_;rintro e w1 ⟨rfl,g1,hE⟩;have HE:=ah hE;clear hE;go_wp2_with fail
   go_ret;have e2:=HR2.out
   cases e2;exact⟨rfl,g1,by rw[Jb.out];exact(HU.out.st.from HE.out).pW _⟩
  | some B =>
   have HB:=ah hB;rw[hB]at Xg HR2;unfold kg at Xg;clear hB HR h1 h2 hp8;go_enter Tryz.func104,Tryz.ntmps104
   go_wp2_with fail
   refine Xg.out.mono ?_;rintro e w1 ⟨rfl,g1,hE⟩;have HE:=ah (HU.out.st.from hE);have HMe:=ah (HU.out.mem.ext hE.ext hE.same);have Xw:=ah (show g1.flush i=false/\g1.last i=o.name from⟨by rw[hE.same.flush];exact HU.out.flush,by rw[hE.same.last];exact HU.out.last⟩);have htl:g1.tl=g.tl:=hE.same.tl;clear hE;go_wp2_with fail
   have hBd:=uo HU.out.st.kin HU.out.st.inv HU.out.maps HB.out 8 Hp8.out;have QC:=ah hBd;obtain⟨b0,-⟩:=BH hBd 8 (aj _) (by omega)
   have hr0:aR (w1.alloc (.cells #[.int .u8 0,.int .u8 0,.int .u8 0,.int .u8 0,.int .u8 0,.int .u8 0,.int .u8 0,.int .u8 0] 256)) w1.heap.size (Go.Proofs.YtiadbhiadhgjkaaGreatDoor.row 8 (OL B 0)) 256:=(aR.new w1 _ _).cells (by
    refine sP rfl fun i hi=>?_
    match i,hi with
    | 0,_=>rfl
    | 1,_=>rfl
    | 2,_=>rfl
    | 3,_=>rfl
    | 4,_=>rfl
    | 5,_=>rfl
    | 6,_=>rfl
    | 7,_=>rfl
    | i+8,h=>exact absurd h (by omega))
   have ZI:=ah hr0;obtain⟨bb,hbb⟩:∃bb,w1.heap.size=bb:=⟨_,rfl⟩;have HB0:Hid (Below bb w1 (w1.alloc (.cells #[.int .u8 0,.int .u8 0,.int .u8 0,.int .u8 0,.int .u8 0,.int .u8 0,.int .u8 0,.int .u8 0] 256))):=ah (by rw[<-hbb];exact(aC _ w1).alloc (aj _) _);rw[hbb]at ZI ⊢;have wm:=ah hbb;clear hBd hr0 hbb;go_loopw [8,38] (fun _ i wx=>∃k:Nat,k<=8/\i=.int .i64 k/\aR wx bb (Go.Proofs.YtiadbhiadhgjkaaGreatDoor.row 8 (OL B k)) 256/\Below bb w1 wx) (fun _ i _=>8-(intOf i).toNat)
   case atStart=>exact⟨0,by omega,rfl,ZI.out,HB0.out⟩
   case round =>
    obtain⟨k,hk,rfl,hr,hb⟩:=hrel;have Hr:=ah hr;have Hb:=ah hb;by_cases hlt:k<8
    ·obtain⟨q,hq⟩:∃q:Nat,k+q=7:=⟨7-k,by omega⟩
     have hsub:(7:Int)-(k:Int)=(q:Int):=by omega
     have hq8:q<8:=by omega
     have Zy:Hid (oh B 8/2^(8*q)%256=B k):=ah (by
      have:=Sr QC.out k hlt;rw[show 7-k=q by omega]at this;rw[Int.pow_mul];exact this)
     have hfr:=hr.free;have hcl:wr.cell? ⟨bb,k,none⟩=some (OL B k k):=hr.rowAt k hlt;have hki:(k:Int)<8:=by omega
     have Hq:=ah hq;clear hr hb hq;go_wp2_with fail
     go_roundw
     case rel =>
      refine⟨k+1,by omega,by go_num,?_,Hb.out.setCell (p:=⟨bb,k,none⟩) (aj _) _⟩;rw[Zy.out];refine(Hr.out.set k _).cells ?_;rw[wF];refine jN fun j hj=>?_
      show(if j=k then _ else Value.int .u8 (if j<k then B j else 0))=Value.int .u8 (if j<k+1 then B j else 0)
      by_cases e:j=k
      ·subst e;rw[aD rfl,aD (by omega)]
      ·rw[aA e]
       by_cases e2:j<k
       ·rw[aD e2,aD (by omega)]
       ·rw[aA e2,aA (by omega)]
     case measure=>simp[intOf];omega
    ·obtain rfl:k=8:=by omega
     have Bh:=hr.lt;clear hr hb;go_wp2_with fail
     have hdec:=acW bb 0 8 (fun j=>if j<8 then B j else 0) wr (fun j=>by
      by_cases e:j<8
      ·simp only[aD e];exact QC.out j e
      ·simp only[aA e];omega) (fun j hj=>by rw[Nat.zero_add];exact Hr.out.rowAt j hj)
     rw[show nu (fun j=>if j<8 then B j else 0)=nu B from Sc (fun j hj=>aD hj)]at hdec;have GZ:=ah hdec;clear hdec
     cases hrt:(nu B).right with
     | false =>
      have hdv:(nu B).dec=KA:=by unfold Ins.dec;rw[hrt];rfl
      rw[hdv,hrt]at GZ;rw[hrt]at HR2;unfold KA at GZ;clear hdv hrt;refine GZ.out.mono ?_;rintro e w2 ⟨rfl,hb2⟩;have HF:=ah (((HE.out.below (Hb.out.mono (by rw[wm.out];exact aj _))).below hb2).below ((aC _ w2).alloc (aj _) (.cells #[.int .i64 0,.int .i64 0,.int .i64 0,.int .i64 0,.int .i32 0] 26)));clear hb2;go_wp2_with fail
      go_ret;have e2:=HR2.out;rw[aA (by simp)]at e2
      cases e2;exact⟨rfl,g1,by rw[Jb.out];exact HF.out.pW _⟩
     | true =>
      have hdv:(nu B).dec=(nu B).v:=by unfold Ins.dec;rw[hrt];rfl
      rw[hdv,hrt]at GZ;rw[hrt]at HR2;have HR3:Hid ((eY K o (nu B)).map (tN o.th)=some (t',en)):=ah (by have:=HR2.out;rw[aD rfl]at this;exact this);have Hrt:=ah hrt
      have Yr:-2147483648<=(nu B).bf/\(nu B).bf<=2147483647:=by
       have c4:=QC.out 4 (by omega);have c5:=QC.out 5 (by omega);have c6:=QC.out 6 (by omega);have c7:=QC.out 7 (by omega);exact Ul (yY B) (by unfold yY;omega) (by unfold yY;omega)
      have Zv:=ah Yr;unfold Ins.v at GZ;obtain⟨X,hX⟩:∃X,nu B=X:=⟨_,rfl⟩;rw[hX]at GZ HR3 Hrt Zv;clear hdv hrt hX HR2 Yr;refine GZ.out.mono ?_;rintro e w2 ⟨rfl,hb2⟩
      have hb3:Below w1.heap.size w1 (w2.alloc (.cells #[.int .i64 X.op,.int .i64 X.a,.int .i64 X.b,.int .i64 X.c,.int .i32 X.bf] 26)):=by
       have:=Hb.out;rw[<-wm.out]at this;exact(aT this hb2).alloc (bD this.size hb2.size) _
      have wo:=ah ((show iI w0 g0 K o i mb w1 g1 from⟨HE.out,HU.out.maps,HU.out.ob,HU.out.kind,HU.out.lens,HU.out.core,Xw.out.1,Xw.out.2,HMe.out⟩).below hb3)
      cases hone:eY K o X with
      | none=>have:=HR3.out;rw[hone]at this;cases this
      | some p =>
       obtain⟨r',nx,en'⟩:=p;have HR4:Hid (tN o.th (r',nx,en')=(t',en)):=ah (by have:=HR3.out;rw[hone]at this;simpa using this);have yL:=ah (Ra wo.out X Hrt.out Zv.out hone);rw[htl]at yL;obtain⟨n01,hen,hrr⟩:=Kz Hrg.out hone;unfold Ins.v at yL;have adz:=ah n01;clear hb2 hb3 hone HR3;go_wp2_with fail
       refine yL.out.mono ?_;rintro e w5 ⟨rfl,g5,EL⟩;have HE5:=ah EL;have Rz:g5.tl=g.tl:=EL.same.tl.trans HU.out.st.same.tl.symm;have adi:=ah Rz;obtain⟨x5,hT5⟩:=EL.kin.gQ (o:=o.eF { o.th with r:=r' }) (n:=o.name) (Km.dz K (o.eF { o.th with r:=r' })) HU.out.kind;have WQ:rz w5 g5 o.name { o.th with r:=r' } x5:=hT5;have pc5:w5.cell? ⟨g.tl o.name,16,none⟩=some (.int .u64 o.th.pc):=by rw[<-Rz];exact(WQ.blk.cell 16).trans rfl
       have hfr:=WQ.blk.free;have uU:=WQ.blk.lt;rw[Rz]at hfr uU
       have HF:Hid (∀v,0<=v/\v<=18446744073709551615->bS w0 g0 (K.set (o.eF { o.th with r:=r',pc:=v })) (o.eF { o.th with r:=r',pc:=v }) (w5.setCell ⟨g.tl o.name,16,none⟩ (.int .u64 v)) g5):=ah (fun v hv=>by
        have:=HE5.out.pc (Km.dz K (o.eF { o.th with r:=r' })) HU.out.kind hv;have e1:(K.set (o.eF { o.th with r:=r' })).set ((o.eF { o.th with r:=r' }).eF { (o.eF { o.th with r:=r' }).th with pc:=v })=K.set (o.eF { o.th with r:=r',pc:=v }):=Km.set_set K _ _ rfl;rw[e1]at this;rw[<-adi.out];exact this)
       clear EL hT5 WQ Rz;rcases hen with rfl|rfl|rfl|rfl|rfl|rfl
       all_goals
        go_wp2_with fail
        go_ret;have e2:=HR4.out;unfold tN at e2;simp only[Prod.mk.injEq]at e2;obtain⟨rfl,rfl⟩:=e2;exact⟨rfl,g5,by first|exact HF.out nx adz.out|exact HE5.out⟩
 ·have HR2:Hid (t'=o.th/\en=6):=ah (by
   have:=HR.out;unfold oJ at this;rw[aD (.inr h2)]at this
   cases this;exact⟨rfl,rfl⟩)
  have d1:decide (262144<=o.th.pc)=false:=aX h1;have d2:(o.th.pc%8==0)=false:=by simpa using h2
  have d3:(o.th.pc%8 != 0)=true:=by simpa using h2
  clear HR h2;go_enter Tryz.func104,Tryz.ntmps104
  go_wp2_with fail
  go_ret;obtain⟨e1,e2⟩:=HR2.out;subst e1;subst e2;exact⟨rfl,g,by rw[Jb.out];exact HU.out.st.pW _⟩
end Go.Proofs.YtiadbhiadhgjkaaGreatDoor
