import Derived.Test.YtiadbhiadhgjkaaGreatDoorZzMv
set_option maxRecDepth 100000
set_option maxHeartbeats 4000000
namespace Go.Proofs.YtiadbhiadhgjkaaGreatDoor
open Go.RowKit
attribute [local irreducible] World.setCell World.alloc World.drew World.setRow Calls Code.wp
structure Line where
 call:Int
 (a1 a2 a3 a4 a5:Int)
 ins:Ins
def fQ(l:Line):List Value:=[.int .i64 l.call,.int .i32 l.a1,.int .i32 l.a2,.int .i32 l.a3,.int .i32 l.a4,.int .i32 l.a5,.int .i64 l.ins.op,.int .i64 l.ins.a,.int .i64 l.ins.b,.int .i64 l.ins.c,.int .i32 l.ins.bf]
def za(r x:Int):Ins:=⟨2,r,0,0,x⟩
def rQ(l:Line):List Ins:=[za 1 l.a1,za 2 l.a2,za 3 l.a3,za 4 l.a4,za 5 l.a5]
def kN(l:Line):List Ins:=if l.call=0 then [l.ins]else [za 1 l.a1,za 2 l.a2,za 3 l.a3,za 4 l.a4,za 5 l.a5,za 0 l.call,⟨43,0,0,0,0⟩]
def pY(ls:List Line):List Ins:=(ls.take 8).flatMap kN
def mX(ls:List Line):List Int:=if(pY ls).length=0 then Ins.enc ⟨1,0,0,0,0⟩else(pY ls).flatMap Ins.enc++Ins.enc ⟨29,15,0,0,-((pY ls).length:Int)⟩
def Dz(x:Int):Prop:=-2147483648<=x/\x<=2147483647
structure Line.ok(l:Line):Prop where
 call:-2147483648<=l.call/\l.call<=2147483647
 args:Dz l.a1/\Dz l.a2/\Dz l.a3/\Dz l.a4/\Dz l.a5
 ins:l.call=0->l.ins.right=true/\Dz l.ins.bf
theorem RZ(x:Ins):x.enc.length=8:=rfl
theorem tX:∀l:List Ins,(l.flatMap Ins.enc).length=8*l.length
 | []=>rfl
 | x::l=>by rw[List.flatMap_cons,aO,tX l,RZ,aZ];omega
theorem Kt(l:Line):(kN l).length<=7:=by
 unfold kN;split<;>simp
theorem nk:∀l:List Line,(l.flatMap kN).length<=7*l.length
 | []=>aj _
 | x::l=>by rw[List.flatMap_cons,aO,aZ];have:=nk l;have:=Kt x;omega
theorem JU(ls:List Line)(k:Nat)(l:Line)(h:ls[k]? = some l):(ls.take (k+1)).flatMap kN=(ls.take k).flatMap kN++kN l:=by
 rw[List.take_add_one,h,List.flatMap_append];simp
def mY(w:World)(v:Value)(ls:List Line):Prop:=aJ w 28 v ls.length (ls.flatMap fQ)
theorem yI.below{w w':World}{bb nb:Nat}{m:List Int}{n:Int}(h:yI w bb nb m n)(k:Below w.heap.size w w'):yI w' bb nb m n:=by
 obtain⟨out,h1,h2⟩:=h.ex;exact⟨⟨out,h1.below k h1.lt,dA h2 (Kept.of_below k) (fun _ _ h=>h)⟩,h.n.below k h.n.lt,h.ne⟩
theorem qo(a b c d e:Int)(w:World):∀q:Nat,q<5->(Instr.index 24 (.agg #[.int .i32 a,.int .i32 b,.int .i32 c,.int .i32 d,.int .i32 e]) (.int .i64 q)).run Tryz.prog w=.ok (.int .i32 ([a,b,c,d,e].getD q 0)) w:=fun q h=>by
 obtain rfl|rfl|rfl|rfl|rfl:q=0\/q=1\/q=2\/q=3\/q=4:=by omega
 all_goals kernel_rfl
structure jY(w:World)(h0:Nat)(is:List Ins)(W:World):Prop where
 put:yI W (h0+1) (h0+1+1) (is.flatMap Ins.enc) is.length
 eO:Below h0 w W
theorem jY.below{w W W':World}{h0:Nat}{is:List Ins}(h:jY w h0 is W)(k:Below W.heap.size W W'):jY w h0 is W':=⟨h.put.below k,h.eO.trans (k.mono (by have:=h.put.n.lt;omega))⟩
theorem sQ(w W:World)(h0:Nat)(is:List Ins)(x:Ins)(h:jY w h0 is W)(hr:x.right=true)(hi:Dz x.bf)(hl:is.length<=100) :
  Calls Tryz.prog 53 #[.agg #[.int .i64 x.op,.int .i64 x.a,.int .i64 x.b,.int .i64 x.c,.int .i32 x.bf],.pointer (some ⟨h0+1,0,none⟩),.pointer (some ⟨h0+1+1,0,none⟩)] W fun e w' =>
   e=.returned (.tuple #[])/\jY w h0 (is++[x]) w'/\∀tb cs,aR W tb cs 28->tb≠h0+1->tb≠h0+1+1->aR w' tb cs 28:=by
 refine(QS W _ _ _ _ x.op x.a x.b x.c x.bf h.put hr hi (by rw[tX];omega) (by omega)).mono ?_;rintro e w' ⟨h1,h2,h3,h4⟩;refine⟨h1,⟨?_,h.eO.trans (h3.mono (by omega))⟩,fun tb cs hB n1 n2=>h4.blk hB ?_⟩
 ·rw[List.flatMap_append,aO]
  simpa using h2
 ·rintro(e|e|⟨cs',hB'⟩)
  ·exact n1 e
  ·exact n2 e
  ·have:=hB.symm.trans hB'
   simp at this
theorem RY(op a b c bf:Int)(w:World)(h:Ins.right ⟨op,a,b,c,bf⟩=true)(hi:-2147483648<=bf/\bf<=2147483647) :
  Calls Tryz.prog 54 #[.agg #[.int .i64 op,.int .i64 a,.int .i64 b,.int .i64 c,.int .i32 bf]] w fun e w'=>∃v,e=.returned v/\aJ w' 5 v (Ins.enc ⟨op,a,b,c,bf⟩).length (gU (Ins.enc ⟨op,a,b,c,bf⟩))/\Below w.heap.size w w':=by
 obtain⟨⟨o0,o1⟩,⟨a0,a1⟩,⟨b0,b1⟩,⟨c0,c1⟩⟩:=Ins.gJ h;clear h;simp only at o0 o1 a0 a1 b0 b1 c0 c1;obtain⟨i0,i1⟩:=hi;obtain⟨u,hu⟩:∃u:Int,Jy bf=u:=⟨_,rfl⟩;have hw:IntKind.u32.wrap bf=u:=by rw[<-hu];simp[IntKind.wrap_u32,Jy]
 have u0:0<=u:=by rw[<-hu];unfold Jy;omega
 have u1:u<=4294967295:=by rw[<-hu];unfold Jy;omega
 have Hu:=ah hu;clear hu;go_enter Tryz.func54,Tryz.ntmps54
 go_wp2_with fail
 go_ret;refine⟨_,rfl,?_,((aC _ _).alloc (aj _) _).alloc (by simp) _⟩;have hB:=aR.new (w.alloc (.cells #[.int .i64 op,.int .i64 a,.int .i64 b,.int .i64 c,.int .i32 bf] 26)) #[.int .u8 op,.int .u8 a,.int .u8 b,.int .u8 c,.int .u8 (u/16777216),.int .u8 (u/65536%256),.int .u8 (u/256%256),.int .u8 (u%256)] 5;rw[au]at hB;refine⟨_,8,rfl,aj _,by unfold maxLen;omega,.inr ⟨_,_,_,rfl,hB,fun j x hj=>?_⟩⟩;unfold Ins.enc gU at hj;simp only[Hu.out]at hj;have hl:=(aW.1 hj).1;have hl8:j<8:=hl;rw[<-hj];obtain rfl|rfl|rfl|rfl|rfl|rfl|rfl|rfl:j=0\/j=1\/j=2\/j=3\/j=4\/j=5\/j=6\/j=7:=by omega
 all_goals rfl
theorem xZ{x:Ins}(h:x.right=true):∀b∈x.enc,0<=b/\b<=255:=by
 obtain⟨⟨o0,o1⟩,⟨a0,a1⟩,⟨b0,b1⟩,⟨c0,c1⟩⟩:=Ins.gJ h;intro b hb;unfold Ins.enc Jy at hb;simp at hb;rcases hb with rfl|rfl|rfl|rfl|rfl|rfl|rfl|rfl<;>omega
theorem FX{l:Line}(h:l.ok):∀x∈kN l,x.right=true:=by
 intro x hx;unfold kN at hx;split at hx
 ·rename_i h0
  simp at hx;subst hx;exact(h.ins h0).1
 ·simp at hx
  rcases hx with rfl|rfl|rfl|rfl|rfl|rfl|rfl<;>rfl
theorem La{ls:List Line}(h:∀l∈ls,l.ok):∀b∈mX ls,0<=b/\b<=255:=by
 intro b hb;unfold mX at hb;split at hb
 ·exact xZ (x:=⟨1,0,0,0,0⟩) rfl b hb
 ·rcases List.mem_append.1 hb with hb|hb
  ·obtain⟨x,hx,hbx⟩:=List.mem_flatMap.1 hb
   obtain⟨l,hl,hxl⟩:=List.mem_flatMap.1 hx;exact xZ (FX (h l (List.mem_of_mem_take hl)) x hxl) b hbx
  ·exact xZ (x:=⟨29,15,0,0,_⟩) rfl b hb
theorem Pb(w:World)(ls:List Line)(lv v1 v2 v3:Value)(h:mY w lv ls)(hok:∀l∈ls,l.ok)(hn:ls.length<=100) :
  Calls Tryz.prog 28 #[.agg #[lv,v1,v2,v3]] w fun e w'=>∃v,e=.returned v/\aJ w' 5 v (mX ls).length (gU (mX ls))/\Below w.heap.size w w':=by
 obtain⟨la,lc,rfl,-,-⟩:=aJ.form h;have HL:=ah h;have Ub:=ah hok;obtain⟨h0,hh0⟩:∃h0,w.heap.size=h0:=⟨_,rfl⟩;have oU:=ah hh0;clear h hok;go_enter Tryz.func28,Tryz.ntmps28
 go_upto_block 0 with fail
 go_cut [] (fun wx=>Hid (jY w h0 (pY ls) wx))
 case first =>
  go_wp2_with fail
  go_loopg [14] ls.length (fun gg vi wx=>∃k:Nat,k+gg=ls.length/\k<=8/\vi=.int .i64 k/\Hid (jY w h0 ((ls.take k).flatMap kN) wx))
  case atStart =>
   refine⟨0,by omega,by omega,rfl,ah ?_⟩;have b1:Below h0 w (w.alloc (.cells #[.slice la ls.length lc,v1,v2,v3] 100)):=(aC h0 w).alloc (by rw[oU.out];exact aj _) _;have b2:=b1.alloc (by rw[au,oU.out];omega) (.cells #[.slice none 0 0] 63);have b3:=b2.alloc (by rw[au,au,oU.out];omega) (.cells #[.int .i64 0] 3);have hB:=(aR.new (w.alloc (.cells #[.slice la ls.length lc,v1,v2,v3] 100)) #[.slice none 0 0] 63).alloc (.cells #[.int .i64 0] 3);have hN:=aR.new ((w.alloc (.cells #[.slice la ls.length lc,v1,v2,v3] 100)).alloc (.cells #[.slice none 0 0] 63)) #[.int .i64 0] 3;rw[au,oU.out]at hB;rw[au,au,oU.out]at hN;exact⟨⟨⟨_,hB,cu _ _ _ _⟩,hN,by omega⟩,b3⟩
  case round =>
   obtain⟨k,hk,hk8,rfl,HP⟩:=hrel;by_cases hlt:k<ls.length
   ·have hlt':(k:Int)<ls.length:=by omega
    obtain⟨l,hl⟩:∃l,ls[k]? = some l:=⟨_,aQ hlt⟩;obtain⟨lb,hlb,abZ,hcells⟩:=aJ.cells HL.out (by omega);subst hlb
    have HX:Hid (∀j,j<11->wr.cell? ⟨lb,k*11+j,none⟩=some ((fQ l).getD j undef)):=ah (fun j hj=>by
     rw[HP.out.eO.cell (p:=⟨lb,k*11+j,none⟩) (by rw[<-oU.out];exact abZ)];refine hcells _ _ ?_;rw[gP fQ 11 (fun _=>rfl) ls k l hl j hj];exact(aQ (show j<(fQ l).length from hj)).trans (by rw[List.getD_eq_getElem?_getD,aQ (show j<(fQ l).length from hj)];rfl))
    have x0:=HX.out 0 (by omega);have x1:=HX.out 1 (by omega);have x2:=HX.out 2 (by omega);have x3:=HX.out 3 (by omega);have x4:=HX.out 4 (by omega);have x5:=HX.out 5 (by omega);have x6:=HX.out 6 (by omega);have x7:=HX.out 7 (by omega);have x8:=HX.out 8 (by omega);have x9:=HX.out 9 (by omega);have x10:=HX.out 10 (by omega);have Yn:=Ub.out l (bG hl);have PX:=ah Yn;have Hl:=ah hl;simp only[fQ,List.getD_eq_getElem?_getD,aN,aP,Option.getD_some,Nat.add_zero]at x0 x1 x2 x3 x4 x5 x6 x7 x8 x9 x10;clear hcells Yn hl;by_cases h8:k=8
    ·have h8':((k:Int)==8)=true:=by simp[h8]
     have Hk8:=ah h8;clear h8;go_wp2_with fail
     go_meet;have e:pY ls=(ls.take k).flatMap kN:=by rw[Hk8.out];rfl
     rw[e];exact ah (HP.out.below ((aC _ wr).alloc (aj _) _))
    ·have h8':((k:Int)==8)=false:=by simp;omega
     have Hk8:Hid (k+1<=8):=ah (by omega)
     have Zu:Hid (((ls.take k).flatMap kN).length<=56):=ah (by
      have:=nk (ls.take k);rw[List.length_take]at this;omega)
     have Wi:=ah (JU ls k l Hl.out);generalize (ls.take k).flatMap kN=is at HP Zu Wi;obtain⟨tb,htb⟩:∃tb,wr.heap.size=tb:=⟨_,rfl⟩;have HT:Hid (aR (wr.alloc (.cells (fQ l).toArray 28)) tb (fQ l).toArray 28):=ah (by rw[<-htb];exact aR.new _ _ _);have Zk:Hid (tb≠h0+1/\tb≠h0+1+1):=ah (by have:=HP.out.put.n.lt;omega);by_cases hc0:l.call=0
     ·have hc0':(l.call==0)=true:=by simp[hc0]
      have Hpt:=ah (fun W hW=>sQ w W h0 is l.ins hW (PX.out.ins hc0).1 (PX.out.ins hc0).2 (by have:=Zu.out;omega));have Hc0:=ah hc0;clear h8 hc0;go_wp2_with fail
      refine(Hpt.out _ (HP.out.below ((aC _ wr).alloc (aj _) _))).mono ?_;rintro e w5 ⟨rfl,hC,-⟩;have HC:=ah hC;clear hC;go_wp2_with fail
      go_roundg (ls.length-(k+1))
      case measure=>omega
      case rel =>
       refine⟨k+1,by omega,Hk8.out,by go_num,?_⟩;rw[Wi.out,kN,aD Hc0.out];exact HC
     ·have hc0':(l.call==0)=false:=by simpa using hc0
      have Hc0:=ah hc0;have Cb:Hid (jY w h0 is (wr.alloc (.cells (fQ l).toArray 28))):=ah (HP.out.below ((aC _ wr).alloc (aj _) _));clear h8 hc0;go_upto_block 2 with fail
      go_cut [] (fun wx=>Hid (jY w h0 (is++rQ l) wx)/\Hid (aR wx tb (fQ l).toArray 28))
      case first =>
       have Xc:Hid (∀q:Nat,q<5->∃x,(rQ l)[q]? = some x/\x.right=true/\Dz x.bf):=ah (fun q hq=>by
        obtain⟨e1,e2,e3,e4,e5⟩:=PX.out.args;obtain rfl|rfl|rfl|rfl|rfl:q=0\/q=1\/q=2\/q=3\/q=4:=by omega
        all_goals exact⟨_,rfl,rfl,by assumption⟩)
       have PN:Hid (∀(q:Nat) (x:Ins) (W:World),(rQ l)[q]? = some x->jY w h0 (is++(rQ l).take q) W->aR W tb (fQ l).toArray 28->Calls Tryz.prog 53 #[.agg #[.int .i64 x.op,.int .i64 x.a,.int .i64 x.b,.int .i64 x.c,.int .i32 x.bf],.pointer (some ⟨h0+1,0,none⟩),.pointer (some ⟨h0+1+1,0,none⟩)] W fun e w' =>
         e=.returned (.tuple #[])/\Hid (jY w h0 (is++(rQ l).take (q+1)) w')/\Hid (aR w' tb (fQ l).toArray 28)):=ah (fun q x W hx hC hB=>by
        have hq:q<5:=(aW.1 hx).1;obtain⟨x',hx',hr,hi⟩:=Xc.out q hq;obtain rfl:x=x':=by rw[hx]at hx';exact Option.some.inj hx'
        refine(sQ w W h0 _ x hC hr hi (by
         rw[aO,List.length_take];have:=Zu.out;omega)).mono ?_
        rintro e w' ⟨h1,h2,h3⟩;refine⟨h1,ah ?_,ah (h3 tb _ hB Zk.out.1 Zk.out.2)⟩;rw[List.take_add_one,hx,<-List.append_assoc];exact h2)
       clear x0 x1 x2 x3 x4 x5 x6 x7 x8 x9 x10;go_wp2_with fail
       go_loopg [30] 5 (fun gg vi wx=>∃q:Nat,q+gg=5/\vi=.int .i64 q/\Hid (jY w h0 (is++(rQ l).take q) wx)/\Hid (aR wx tb (fQ l).toArray 28))
       case atStart=>exact⟨0,rfl,rfl,ah (by rw[List.take_zero,List.append_nil];exact Cb.out),HT⟩
       case round =>
        obtain⟨q,hq,rfl,HC,HBt⟩:=hrel;by_cases h5:q=5
        ·subst h5
         go_wp2_with fail
         go_meet;exact⟨HC,HBt⟩
        ·obtain rfl|rfl|rfl|rfl|rfl:q=0\/q=1\/q=2\/q=3\/q=4:=by omega
         all_goals
          clear h5;have Hc:=ah (PN.out _ _ _ rfl HC.out HBt.out);have hi0:(Instr.index 24 (.agg #[.int .i32 l.a1,.int .i32 l.a2,.int .i32 l.a3,.int .i32 l.a4,.int .i32 l.a5]) (.int .i64 0)).run Tryz.prog wr=.ok (.int .i32 l.a1) wr:=qo l.a1 l.a2 l.a3 l.a4 l.a5 wr 0 (by omega);have hi1:(Instr.index 24 (.agg #[.int .i32 l.a1,.int .i32 l.a2,.int .i32 l.a3,.int .i32 l.a4,.int .i32 l.a5]) (.int .i64 1)).run Tryz.prog wr=.ok (.int .i32 l.a2) wr:=qo l.a1 l.a2 l.a3 l.a4 l.a5 wr 1 (by omega);have hi2:(Instr.index 24 (.agg #[.int .i32 l.a1,.int .i32 l.a2,.int .i32 l.a3,.int .i32 l.a4,.int .i32 l.a5]) (.int .i64 2)).run Tryz.prog wr=.ok (.int .i32 l.a3) wr:=qo l.a1 l.a2 l.a3 l.a4 l.a5 wr 2 (by omega);have hi3:(Instr.index 24 (.agg #[.int .i32 l.a1,.int .i32 l.a2,.int .i32 l.a3,.int .i32 l.a4,.int .i32 l.a5]) (.int .i64 3)).run Tryz.prog wr=.ok (.int .i32 l.a4) wr:=qo l.a1 l.a2 l.a3 l.a4 l.a5 wr 3 (by omega);have hi4:(Instr.index 24 (.agg #[.int .i32 l.a1,.int .i32 l.a2,.int .i32 l.a3,.int .i32 l.a4,.int .i32 l.a5]) (.int .i64 4)).run Tryz.prog wr=.ok (.int .i32 l.a5) wr:=qo l.a1 l.a2 l.a3 l.a4 l.a5 wr 4 (by omega);go_wp2_with fail
          refine Hc.out.mono ?_;rintro e w5 ⟨rfl,HC5,pK⟩;go_wp2_with fail
          go_roundg (gk-1)
          case measure=>omega
          case rel=>exact⟨_,by omega,by go_num,HC5,pK⟩
      case rest =>
       rename World=>w6
       obtain⟨HC6,wB⟩:=hcut;clear x0 x1 x2 x3 x4 x5 x6 x7 x8 x9 x10;have x0:w6.cell? ⟨tb,0,none⟩=some (.int .i64 l.call):=(wB.out.cell 0).trans rfl
       have hcw:IntKind.i32.wrap l.call=l.call:=by
        have:=PX.out.call;rw[IntKind.wrap_i32];omega
       have Hc1:=ah (sQ w w6 h0 _ (za 0 l.call) HC6.out rfl (by have:=PX.out.call;show -2147483648<=l.call/\l.call<=2147483647;omega) (by rw[aO];have:=Zu.out;show _+5<=100;omega))
       have Hc2:Hid (∀W,jY w h0 ((is++rQ l)++[za 0 l.call]) W->Calls Tryz.prog 53 #[.agg #[.int .i64 43,.int .i64 0,.int .i64 0,.int .i64 0,.int .i32 0],.pointer (some ⟨h0+1,0,none⟩),.pointer (some ⟨h0+1+1,0,none⟩)] W fun e w'=>e=.returned (.tuple #[])/\jY w h0 ((is++rQ l)++[za 0 l.call]++[⟨43,0,0,0,0⟩]) w'):=ah (fun W hW=>by
        refine(sQ w W h0 _ ⟨43,0,0,0,0⟩ hW rfl ⟨by decide,by decide⟩ (by rw[aO,aO];have:=Zu.out;show _+5+1<=100;omega)).mono ?_;rintro e w' ⟨h1,h2,-⟩;exact⟨h1,h2⟩)
       go_wp2_with fail
       refine Hc1.out.mono ?_;rintro e w7 ⟨rfl,hC7,-⟩;have HC7:=ah hC7;clear hC7;go_wp2_with fail
       refine(Hc2.out w7 HC7.out).mono ?_;rintro e w8 ⟨rfl,hC8⟩;have HC8:=ah hC8;clear hC8;go_wp2_with fail
       go_roundg (ls.length-(k+1))
       case measure=>omega
       case rel =>
        refine⟨k+1,by omega,Hk8.out,by go_num,?_⟩;rw[Wi.out,kN,aA Hc0.out];have e:(is++rQ l)++[za 0 l.call]++[⟨43,0,0,0,0⟩]=is++[za 1 l.a1,za 2 l.a2,za 3 l.a3,za 4 l.a4,za 5 l.a5,za 0 l.call,⟨43,0,0,0,0⟩]:=by simp[rQ]
        rw[<-e];exact HC8
   ·have hlt':¬((k:Int)<ls.length):=by omega
    go_wp2_with fail
    go_meet;have e:pY ls=(ls.take k).flatMap kN:=by unfold pY;rw[List.take_of_length_le (by omega),List.take_of_length_le (by omega)]
    rw[e];exact HP
 case rest =>
  rename World=>w3
  have HC:=hcut
  have hl:(pY ls).length<=56:=by
   have:=nk (ls.take 8);rw[List.length_take]at this;show((ls.take 8).flatMap kN).length<=56
   omega
  obtain⟨n,hn2⟩:∃n,(pY ls).length=n:=⟨_,rfl⟩;have c1:w3.cell? ⟨h0+1+1,0,none⟩=some (.int .i64 n):=by rw[<-hn2];exact(HC.out.put.n.cell 0).trans rfl
  have HN:=ah hn2;rw[hn2]at hl;clear hn2;by_cases WV:n=0
  ·have hz:((n:Int)==0)=true:=by simp[WV]
   have Hz:=ah WV;have Xh:=ah (RY 1 0 0 0 0 w3 rfl ⟨by decide,by decide⟩);clear WV;go_wp2_with fail
   refine Xh.out.mono ?_;rintro e w4 ⟨v,rfl,hs,hb⟩;have Hs:=ah hs;have Hb:=ah hb;clear hs hb;go_wp2_with fail
   go_ret;refine⟨_,rfl,?_,?_⟩
   ·unfold mX;rw[aD (by rw[HN.out,Hz.out])];exact Hs.out
   ·rw[oU.out];exact(HC.out.below Hb.out).eO
  ·have hz:((n:Int)==0)=false:=by simp[WV]
   have Hz:=ah WV;have hng:IntKind.i64.wrap (-(n:Int))=-(n:Int):=aV _ (by omega);have hn3:IntKind.i32.wrap (-(n:Int))=-(n:Int):=by rw[IntKind.wrap_i32];omega
   have Hpt:=ah (sQ w w3 h0 _ ⟨29,15,0,0,-(n:Int)⟩ HC.out rfl (by show -2147483648<=-(n:Int)/\-(n:Int)<=2147483647;omega) (by rw[HN.out];omega));clear WV;go_wp2_with fail
   refine Hpt.out.mono ?_;rintro e w4 ⟨rfl,WS,-⟩;obtain⟨out,hB4,TA⟩:=WS.put.ex;have c2:w4.cell? ⟨h0+1,0,none⟩=some out:=(hB4.cell 0).trans rfl;have HC4:=ah WS;have BN:=ah TA;clear WS hB4 TA;go_wp2_with fail
   go_ret;refine⟨_,rfl,?_,by rw[oU.out];exact HC4.out.eO⟩
   have e:mX ls=(pY ls++[(⟨29,15,0,0,-(n:Int)⟩:Ins)]).flatMap Ins.enc:=by
    unfold mX;rw[aA (by rw[HN.out];exact Hz.out),List.flatMap_append,HN.out];simp
   rw[e];exact aJ.own BN.out
end Go.Proofs.YtiadbhiadhgjkaaGreatDoor
