import Derived.Test.YtiadbhiadhgjkaaGreatDoorZzNm
import Derived.Test.YtiadbhiadhgjkaaGreatDoorZzNh
import Derived.Test.YtiadbhiadhgjkaaGreatDoorZzLn
import Derived.KernelRfl
set_option maxRecDepth 100000
set_option maxHeartbeats 4000000
namespace Go.Proofs.YtiadbhiadhgjkaaGreatDoor
open Go.RowKit
attribute [local irreducible] World.setCell World.alloc World.drew World.setRow Calls Code.wp
theorem PV.NP(p:PV):RO p.lab:=by
 rw[PV.xI];by_cases h:p.good=true
 ·rw[aD h]
  unfold PV.good at h;rw[aM]at h;exact h
 ·rw[aA h]
  exact⟨by decide,by decide⟩
theorem fF{x:Int}(h:-1000000<=x/\x<=1000000):yJ x:=⟨by omega,by omega⟩
theorem nH{l:dn}(h:l.right=true):l.d<=1000/\l.ps.length<=1000/\∀q∈l.ps,q.1<4294967296/\q.2<=1000:=by
 obtain⟨⟨d1,d4⟩,hn,hp⟩:=dn.gJ h;exact⟨by omega,by omega,fun q hq=>by have:=hp q hq;omega⟩
theorem Jm(n:Int)(p:ko)(hn:0<=n/\n<=1000)(hr:p.lab.right=true):∀o∈kU n p,o.bd:=by
 intro o ho;have l0:vW.d<=1000/\vW.ps.length<=1000/\∀q∈vW.ps,q.1<4294967296/\q.2<=1000:=⟨by decide,by decide,fun q hq=>by cases hq⟩;have z:yJ 0:=⟨by decide,by decide⟩;simp[kU]at ho;rcases ho with rfl|rfl|rfl
 ·exact⟨fF ⟨by show(-1000000:Int)<=3;decide,by show(3:Int)<=1000000;decide⟩,fF ⟨by show(-1000000:Int)<=p.home%2;omega,by show p.home%2<=1000000;omega⟩,z,z,fF ⟨by show(-1000000:Int)<=n+2;omega,by show n+2<=1000000;omega⟩,z,(fun m hm=>by cases hm),nH hr,nH (by show jE.right=true;decide),⟨by show 0<=100000;omega,by show 0<=100000;omega⟩⟩
 ·refine⟨fF ⟨by show(-1000000:Int)<=4;decide,by show(4:Int)<=1000000;decide⟩,z,z,z,z,z,fun m hm=>?_,nH (by show eX.right=true;decide),l0,⟨by show 0<=100000;omega,by show 3<=100000;omega⟩⟩
  simp at hm;rcases hm with rfl|rfl|rfl
  ·exact⟨z,⟨by show 0<=n+3;omega,by show n+3<=18446744073709551615;omega⟩,z,fF ⟨by show(-1000000:Int)<=9;decide,by show(9:Int)<=1000000;decide⟩⟩
  ·exact⟨fF ⟨by show(-1000000:Int)<=32;decide,by show(32:Int)<=1000000;decide⟩,⟨by show(0:Int)<=2;decide,by show(2:Int)<=18446744073709551615;decide⟩,z,fF ⟨by show(-1000000:Int)<=2;decide,by show(2:Int)<=1000000;decide⟩⟩
  ·exact⟨fF ⟨by show(-1000000:Int)<=34;decide,by show(34:Int)<=1000000;decide⟩,⟨by show(0:Int)<=3;decide,by show(3:Int)<=18446744073709551615;decide⟩,z,fF ⟨by show(-1000000:Int)<=1;decide,by show(1:Int)<=1000000;decide⟩⟩
 ·have hl:=Lb p.lines
  exact⟨fF ⟨by show(-1000000:Int)<=2;decide,by show(2:Int)<=1000000;decide⟩,z,fF ⟨by show(-1000000:Int)<=9;decide,by show(9:Int)<=1000000;decide⟩,z,z,z,(fun m hm=>by cases hm),nH (by show eX.right=true;decide),l0,⟨by show((rP p.lines).take 576).length<=100000;omega,by show 0<=100000;omega⟩⟩
theorem zA:∀(l:List ko) (n:Int),(0<=n/\n+3*(l.length:Int)<=1000)->(∀p∈l,p.lab.right=true)->∀o∈dP n l,o.bd
 | [],_,_,_,o,ho=>by cases ho
 | p::r,n,hn,h,o,ho=>by
  rw[aZ]at hn;rcases List.mem_append.1 (show o∈kU n p++dP (n+3) r from ho)with ho|ho
  ·exact Jm n p (by omega) (h p (bq ..)) o ho
  ·exact zA r (n+3) (by omega) (fun q hq=>h q (List.mem_cons_of_mem _ hq)) o ho
theorem FY:iN.length=128:=by decide +kernel
theorem Jo:∀o∈dY,o.bd:=by
 intro o ho;have l0:vW.d<=1000/\vW.ps.length<=1000/\∀q∈vW.ps,q.1<4294967296/\q.2<=1000:=⟨by decide,by decide,fun q hq=>by cases hq⟩;have z:yJ 0:=⟨by decide,by decide⟩;have hs:∀x:Int,-1000000<=x/\x<=1000000->yJ x:=fun x=>fF
 have h1:=nH (show eX.right=true by decide);have h2:=nH (show tH.right=true by decide);simp[dY]at ho;rcases ho with rfl|rfl|rfl|rfl
 ·exact⟨hs 1 (by decide),z,hs 120 (by decide),hs 40 (by decide),z,z,(fun m hm=>by cases hm),h1,l0,⟨by show 0<=100000;omega,by show 0<=100000;omega⟩⟩
 ·exact⟨hs 2 (by decide),z,hs 2 (by decide),z,z,z,(fun m hm=>by cases hm),h1,l0,⟨by show iN.length<=100000;rw[FY];omega,by show 0<=100000;omega⟩⟩
 ·exact⟨hs 2 (by decide),z,hs 1 (by decide),z,z,z,(fun m hm=>by cases hm),h2,l0,⟨by show 3<=100000;omega,by show 0<=100000;omega⟩⟩
 ·exact⟨hs 6 (by decide),z,z,z,z,z,(fun m hm=>by cases hm),h2,l0,⟨by show 0<=100000;omega,by show 0<=100000;omega⟩⟩
theorem zB(l:List ko)(c:Int)(h:∀p∈l,p.lab.right=true):(dX l c).bd:=by
 have hl:(l.take 4).length<=4:=by rw[List.length_take];omega
 have hlen:(dX l c).objs.length=4+3*(l.take 4).length:=by rw[pO,aO,oq];rfl
 refine⟨⟨fF ⟨by show(-1000000:Int)<=c%2+1;omega,by show c%2+1<=1000000;omega⟩,fF ⟨by show(-1000000:Int)<=600;decide,by show(600:Int)<=1000000;decide⟩,fF ⟨by show(-1000000:Int)<=200;decide,by show(200:Int)<=1000000;decide⟩⟩,fun s hs=>?_,fun o ho=>?_,⟨by show 3<=100000;omega,by omega⟩⟩
 ·have hs':s∈[((0:Int),(2:Int)),(1,1),(0,1)]:=hs
  simp at hs';rcases hs' with rfl|rfl|rfl<;>exact⟨⟨by decide,by decide⟩,fF (by decide)⟩
 ·rw[pO]at ho
  rcases List.mem_append.1 ho with ho|ho
  ·exact Jo o ho
  ·exact zA _ 4 ⟨by omega,by omega⟩ (fun p hp=>h p (List.mem_of_mem_take hp)) o ho
theorem RV:VB=some (0,6,1):=by decide +kernel
theorem acV:(gF (km0 (dX [jG] 1)) [1] (dX [jG] 1).objs).map (fun p=>nR p.2 (dX [jG] 1).objs)=some true:=by decide +kernel
theorem KN:∃K K',tu (dX [jG] 1)=some K/\K.nJ Iq xC 0=some (K',⟨0,6,1⟩)/\K.nc=2/\Qw K:=by
 have h:=RV;unfold VB at h
 cases hK:tu (dX [jG] 1)with
 | none=>rw[hK]at h;cases h
 | some K =>
  rw[hK]at h;simp only[Option.bind_some]at h
  cases hp:K.nJ Iq xC 0 with
  | none=>rw[hp]at h;cases h
  | some r =>
   rw[hp]at h;obtain⟨K',a,b,c⟩:=r;simp only[Option.map_some,Option.some.injEq,Prod.mk.injEq]at h;obtain⟨rfl,rfl,rfl⟩:=h;refine⟨K,K',rfl,hp,?_,NA hK (fun K1 made hb=>?_)⟩
   ·obtain⟨-,K1,made,K2,-,-,-,rfl⟩:=nM hK
    rfl
   ·have:=acV
    rw[hb]at this;simpa using this
theorem Nw:Ai (fun _ _=>True) Iq:=fun _ _ _ _ _ _ _ _ _ _ _ _ _ h=>by cases h
theorem Rh:VX (fun _ _=>True) xC:=fun _ _ _ _ _ _ _ _ _ _ _ _ _ _ h=>by cases h
def pv0:PV:=⟨[],⟨0,[]⟩,0⟩
theorem Ur(w:World):lU (w.alloc (.cells #[.slice none 0 0,.int .i64 0,.slice none 0 0,.int .i64 0] 100)) (.slice (some ⟨w.heap.size,0,none⟩) 1 1) [pv0] (fun _=>(.slice none 0 0,.slice none 0 0)):=by
 have hB:=aR.new w #[.slice none 0 0,.int .i64 0,.slice none 0 0,.int .i64 0] 100;refine⟨fun j p hj=>?_,_,1,rfl,aj _,by unfold maxLen;decide,.inr ⟨_,0,rfl,hB.lt,fun j p hj i hi=>?_⟩⟩
 ·match j,hj with
  | 0,hj=>cases hj;exact⟨aJ.nil _ _,⟨none,0,rfl,aj _,Nat.zero_le _,.inl rfl⟩⟩
 ·match j,hj with
  | 0,hj =>
   cases hj;rw[show 0+0*4+i=i by omega];refine(hB.cell i).trans ?_;match i,hi with
   | 0,_=>rfl
   | 1,_=>rfl
   | 2,_=>rfl
   | 3,_=>rfl
theorem Uq:pv0.ok:=⟨Nat.zero_le _,fun l hl=>(by cases hl),fun n hn=>(by cases hn)⟩
theorem JR:[pv0].map PV.plain=[jG]:=by
 have:pv0.lab=eX:=by rw[PV.xI];split<;>rfl
 show [(⟨[],pv0.lab,0⟩:ko)]=_
 rw[this];rfl
theorem KO(w:World):Calls Tryz.prog 6 #[] w fun e w'=>e=.returned (.bool true)/\Below w.heap.size w w':=by
 have HW:Hid (Calls Tryz.prog 12 #[.slice (some ⟨w.heap.size,0,none⟩) 1 1,.int .i64 1] (w.alloc (.cells #[.slice none 0 0,.int .i64 0,.slice none 0 0,.int .i64 0] 100)) fun e w'=>∃u,e=.returned u/\rU w' u (dX [jG] 1)/\Below w.heap.size w w'):=ah (by
  refine(zy [pv0] _ _ 1 _ (Ur w) (fun p hp=>by simp at hp;subst hp;exact Uq) (by omega)).mono ?_;rintro e w' ⟨u,h1,h2,h3⟩;rw[JR]at h2;exact⟨u,h1,h2,aT ((aC _ w).alloc (aj _) _) h3⟩)
 obtain⟨K,K',hK,hres,hnc,hok⟩:=KN;have HKn:=ah hK;have aed:=ah hres;have Hnc:=ah hnc;have TR:=ah hok;clear hK hres hnc hok;go_enter Tryz.func6,Tryz.ntmps6
 go_wp2_with fail
 refine HW.out.mono ?_;rintro e w1 ⟨u,rfl,hC,hb1⟩;obtain⟨sv,ov,rfl,hS,hO⟩:=hC;obtain⟨sa,sc,rfl,-,-⟩:=aJ.form hS;obtain⟨oa,oc,rfl,-,-⟩:=hO.form
 have ZL:Hid (∀W,Below w1.heap.size w1 W->Calls Tryz.prog 17 #[.agg #[.int .i64 (dX [jG] 1).cores,.int .i64 (dX [jG] 1).frames,.int .i64 (dX [jG] 1).names,.slice sa (dX [jG] 1).slots.length sc,.slice oa (dX [jG] 1).objs.length oc]] W fun e w'=>∃kb,e=.returned (.tuple #[.pointer (some ⟨kb,0,none⟩),.int .i64 0])/\Below W.heap.size W w'/\∃g,cZ w' g K/\Inv g K/\g.kb=kb/\∀b,b<W.heap.size->g.A b=none):=ah (fun W hW=>by
  exact Dv W (dX [jG] 1) _ K ⟨_,_,rfl,aJ.below hS hW (aj _),hO.below hW (aj _)⟩ (zB _ _ (fun p hp=>by simp at hp;subst hp;decide)) HKn.out)
 have HB1:=ah hb1;clear hS hO hb1 HW;go_wp2_with fail
 refine(ZL.out _ ((aC _ w1).alloc (aj _) _)).mono ?_;rintro e w2 ⟨kb,rfl,hb2,g,hk,hi,hkb,hfree⟩
 have hb12:Below w.heap.size w w2:=by
  have h1:=(aC w1.heap.size w1).alloc (aj _) (.cells #[.int .i64 (dX [jG] 1).cores,.int .i64 (dX [jG] 1).frames,.int .i64 (dX [jG] 1).names,.slice sa (dX [jG] 1).slots.length sc,.slice oa (dX [jG] 1).objs.length oc] 81);exact aT (aT HB1.out h1) hb2
 have TW:Hid (Calls Tryz.prog 18 #[.pointer (some ⟨kb,0,none⟩),.agg #[.int .i64 0,.int .i64 0,.slice none 0 0]] w2 fun e w'=>e=.returned (.agg #[.int .i64 0,.int .u64 6,.int .i64 1])/\Below w.heap.size w w'):=ah (by
  rw[<-hkb];refine(zG (Q:=fun _ _=>True) (fun _ _ _ _ _ _=>trivial) Nw Rh w2 g K K' 0 0 ⟨0,6,1⟩ none 0 0 hk hi TR.out trivial (by rw[Hnc.out];omega) (by decide) (by decide) (by rw[Int.zero_emod];exact aed.out)).mono ?_;rintro e w' ⟨h1,g',h2⟩;refine⟨h1,hb12.trans (h2.ext.kept.below hb12.size (fun b hb q=>q (hfree b ?_)))⟩;have h3:=HB1.out.size;rw[au];omega)
 clear hb2 hk hi hkb hfree hb12 ZL;go_wp2_with fail
 refine TW.out.mono ?_;rintro e w3 ⟨rfl,hb3⟩;have HB3:=ah hb3;clear hb3 TW;go_wp2_with fail
 go_ret;exact⟨rfl,HB3.out.alloc HB3.out.size _⟩
structure rR(w0:World)(lo:Nat)(kb:Nat)(K:Km)(g:Gh)(w:World):Prop where
 eO:Below w0.heap.size w0 w
 le0:w0.heap.size<=lo
 kin:cZ w g K
 inv:Inv g K
 kb:g.kb=kb
 free:∀b,b<lo->g.A b=none
 le:lo<=w.heap.size
theorem rR.step{w0:World}{lo kb:Nat}{K K':Km}{g g':Gh}{w w':World}(h:rR w0 lo kb K g w)(m:eD w g K' w' g'):rR w0 lo kb K' g' w'/\Below lo w w' :=
 ⟨⟨h.eO.trans ((m.ext.kept.below h.le (fun b hb q=>q (h.free b hb))).mono h.le0),h.le0,m.kin,m.inv,m.ext.al.kb.trans h.kb,fun b hb=>m.ext.tag b (bA hb h.le) (h.free b hb),bD h.le m.ext.kept.size⟩,m.ext.kept.below h.le (fun b hb q=>q (h.free b hb))⟩
end Go.Proofs.YtiadbhiadhgjkaaGreatDoor
