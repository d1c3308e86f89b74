import Derived.Test.YtiadbhiadhgjkaaGreatDoorZzQa
set_option maxRecDepth 100000
set_option maxHeartbeats 4000000
namespace Go.Proofs.YtiadbhiadhgjkaaGreatDoor
open Go.RowKit
attribute [local irreducible] World.setCell World.alloc World.drew World.setRow Calls Code.wp
theorem block_lt{W:World}{b ty:Nat}{cs:Array Value}(h:aR W b cs ty):b<W.heap.size:=h.lt
theorem uq(w:World)(o:Obj)(cs:Array Value)(ty:TypeId):aR ((w.alloc o).alloc (.cells cs ty)) (w.heap.size+1) cs ty:=by
 have:=aR.new (w.alloc o) cs ty;rw[au]at this;exact this
theorem zm(w:World)(o o':Obj):Below w.heap.size w ((w.alloc o).alloc o').drew:=(((aC w.heap.size w).alloc (aj _) o).alloc (by rw[au];omega) o').drew
theorem ba1(w:World)(o:Obj):Below w.heap.size w (w.alloc o):=(aC w.heap.size w).alloc (aj _) o
theorem ba2(w:World)(o o':Obj):Below w.heap.size w ((w.alloc o).alloc o'):=((aC w.heap.size w).alloc (aj _) o).alloc (by rw[au];omega) o'
theorem wQ(c level:Nat)(v:Value)(w:World)(h:bU w v eX)(hl:level≠2) :
  Calls Tryz.prog 23 #[v,.int .u32 (c:Nat),.int .i64 (level:Nat)] w fun e w'=>∃u,e=.returned u/\bU w' u ⟨2,[(c,level)]⟩/\Below w.heap.size w w' :=
 Ce eX c level v w h (by decide) rfl hl rfl
theorem FZ(w:World):Calls Tryz.prog 16 #[] w fun e w'=>∃v,e=.returned v/\dV w' v iN/\Below w.heap.size w w':=by
 have SH:Hid (∀(d:Nat) w,Calls Tryz.prog 22 #[.int .i64 (d:Int)] w fun e w'=>e=.returned (.agg #[.int .i64 (d:Int),.slice none 0 0])/\Below w.heap.size w w'):=ah oI;go_enter Tryz.func16,Tryz.ntmps16
 go_wp2_with fail
 refine(SH.out 2 _).mono ?_;rintro e w1 ⟨rfl,hb1⟩;go_wp2_with fail
 refine(SH.out 4 _).mono ?_;rintro e w2 ⟨rfl,hb2⟩;have HB2:Hid (Below w.heap.size w w2):=aT hb1 hb2;clear hb1 hb2;obtain⟨b1,hb1⟩:∃b1,w2.heap.size=b1:=⟨_,rfl⟩;obtain⟨w3,hw3⟩:∃w3,w3=(w2.alloc (.cells #[.int .i64 2,.slice none 0 0] 43)).alloc (.cells #[.int .i64 4,.slice none 0 0] 43):=⟨_,rfl⟩;have hL1:aR w3 b1 #[.int .i64 2,.slice none 0 0] 43:=by rw[hw3,<-hb1];exact(aR.new _ _ _).alloc _
 have hL2:aR w3 (b1+1) #[.int .i64 4,.slice none 0 0] 43:=by
  rw[hw3,<-hb1];have:=aR.new (w2.alloc (.cells #[.int .i64 2,.slice none 0 0] 43)) #[.int .i64 4,.slice none 0 0] 43;rw[au]at this;exact this
 have hB3:Below w.heap.size w w3:=by rw[hw3];exact(HB2.out.alloc HB2.out.size _).alloc (by rw[au];have:=HB2.out.size;omega) _
 have vS:=ah hL1;have HL2:=ah hL2;have HB3:=ah hB3;clear hL1 hL2 hB3;go_upto_region 2 with fail
 rw[<-hw3];have hle:w.heap.size<=b1:=by rw[<-hb1];exact HB2.out.size
 clear hw3 hb1 HB2
 have WZ:Hid (∀W,Calls Tryz.prog 23 #[.agg #[.int .i64 2,.slice none 0 0],.int .u32 1,.int .i64 4] W fun e w'=>∃v,e=.returned v/\(∃a k,v=.agg #[.int .i64 2,.slice a 1 k]/\Hid (bg w' (.slice a 1 k) [(1,4)])/\Below W.heap.size W w')):=ah (fun W=>by
  refine(wQ 1 4 _ W ⟨_,rfl,aJ.nil _ _⟩ (by decide)).mono ?_;rintro e w' ⟨u,h1,h2,h3⟩;obtain⟨a,k,rfl,h5⟩:=fT h2;exact⟨_,h1,a,k,rfl,ah h5,h3⟩)
 have Hw0:Hid (∀W,Calls Tryz.prog 23 #[.agg #[.int .i64 2,.slice none 0 0],.int .u32 1,.int .i64 0] W fun e w'=>∃v,e=.returned v/\(∃a k,v=.agg #[.int .i64 2,.slice a 1 k]/\Hid (bg w' (.slice a 1 k) [(1,0)])/\Below W.heap.size W w')):=ah (fun W=>by
  refine(wQ 1 0 _ W ⟨_,rfl,aJ.nil _ _⟩ (by decide)).mono ?_;rintro e w' ⟨u,h1,h2,h3⟩;obtain⟨a,k,rfl,h5⟩:=fT h2;exact⟨_,h1,a,k,rfl,ah h5,h3⟩)
 have k1:w3.cell? ⟨b1,0,none⟩=some (.int .i64 2):=(vS.out.cell 0).trans rfl;have k2:w3.cell? ⟨b1,1,none⟩=some (.slice none 0 0):=(vS.out.cell 1).trans rfl;go_cut [3,4] (fun v3 v4 wx=>∃b3 b4 s4 s5,v3=.pointer (some ⟨b3,0,none⟩)/\v4=.pointer (some ⟨b4,0,none⟩)/\Hid (Four w w.heap.size b1 b3 b4 s4 s5 wx))
 case first =>
  have f0a:w3.drew.cell? ⟨b1,0,none⟩=some (.int .i64 2):=((vS.out.drew).cell 0).trans rfl;have f0b:w3.drew.cell? ⟨b1,1,none⟩=some (.slice none 0 0):=((vS.out.drew).cell 1).trans rfl;have f1a:(w3.alloc (.cells #[.int .i64 0,.slice none 0 0] 43)).drew.cell? ⟨b1,0,none⟩=some (.int .i64 2):=(((vS.out.alloc _).drew).cell 0).trans rfl;have f1b:(w3.alloc (.cells #[.int .i64 0,.slice none 0 0] 43)).drew.cell? ⟨b1,1,none⟩=some (.slice none 0 0):=(((vS.out.alloc _).drew).cell 1).trans rfl;have f2a:((w3.alloc (.cells #[.int .i64 0,.slice none 0 0] 43)).alloc (.cells #[.int .i64 0,.slice none 0 0] 43)).drew.cell? ⟨b1,0,none⟩=some (.int .i64 2):=((((vS.out.alloc _).alloc _).drew).cell 0).trans rfl;have f2b:((w3.alloc (.cells #[.int .i64 0,.slice none 0 0] 43)).alloc (.cells #[.int .i64 0,.slice none 0 0] 43)).drew.cell? ⟨b1,1,none⟩=some (.slice none 0 0):=((((vS.out.alloc _).alloc _).drew).cell 1).trans rfl
  go_region_law (first
   | (refine cB (by rfl) (bP (vs:=#[.agg #[.int .i64 2,.slice none 0 0],.int .u32 1,.int .i64 4]) (by simp[Act.eval]) (bE Tryz.func23 (by kernel_rfl) rfl)) (WZ.out _) ?_;rintro v w4 ⟨a4,k4,rfl,hp4,hbw⟩;have hB4:aR w4 b1 #[.int .i64 2,.slice none 0 0] 43:=aR.below (by first|exact vS.out.drew|exact(vS.out.alloc _).drew|exact((vS.out.alloc _).alloc _).drew) hbw (block_lt (by first|exact vS.out.drew|exact(vS.out.alloc _).drew|exact((vS.out.alloc _).alloc _).drew));have Vq:Below w3.heap.size w3 w4:=(by first|exact((aC _ w3).drew).trans (hbw.mono (by rw[cK];exact aj _))|exact(jW w3 _).trans (hbw.mono (by rw[cK,au];omega))|exact(zm w3 _ _).trans (hbw.mono (by rw[cK,au,au];omega)));have WS:aR w4 (b1+1) #[.int .i64 4,.slice none 0 0] 43:=HL2.out.below Vq HL2.out.lt;have g0a:w4.cell? ⟨b1,0,none⟩=some (.int .i64 2):=((hB4).cell 0).trans rfl;have g0b:w4.cell? ⟨b1,1,none⟩=some (.slice none 0 0):=((hB4).cell 1).trans rfl;have g1a:(w4.alloc (.cells #[.int .i64 0,.slice none 0 0] 43)).cell? ⟨b1,0,none⟩=some (.int .i64 2):=((hB4.alloc _).cell 0).trans rfl;have g1b:(w4.alloc (.cells #[.int .i64 0,.slice none 0 0] 43)).cell? ⟨b1,1,none⟩=some (.slice none 0 0):=((hB4.alloc _).cell 1).trans rfl;have g2a:((w4.alloc (.cells #[.int .i64 0,.slice none 0 0] 43)).alloc (.cells #[.int .i64 0,.slice none 0 0] 43)).cell? ⟨b1,0,none⟩=some (.int .i64 2):=(((hB4.alloc _).alloc _).cell 0).trans rfl;have g2b:((w4.alloc (.cells #[.int .i64 0,.slice none 0 0] 43)).alloc (.cells #[.int .i64 0,.slice none 0 0] 43)).cell? ⟨b1,1,none⟩=some (.slice none 0 0):=(((hB4.alloc _).alloc _).cell 1).trans rfl;(try have t3:aR w4 w3.heap.size #[.int .i64 0,.slice none 0 0] 43:=aR.below (by first|exact(aR.new w3 _ _).drew|exact((aR.new w3 _ _).alloc _).drew) hbw (block_lt (by first|exact(aR.new w3 _ _).drew|exact((aR.new w3 _ _).alloc _).drew)));(try have t3a:w4.cell? ⟨w3.heap.size,0,none⟩=some (.int .i64 0):=(t3.cell 0).trans rfl);(try have t3b:w4.cell? ⟨w3.heap.size,1,none⟩=some (.slice none 0 0):=(t3.cell 1).trans rfl);(try have t3c:=t3.free);(try have t3d:w3.heap.size<w4.heap.size:=t3.lt);(try have t4:aR w4 (w3.heap.size+1) #[.int .i64 0,.slice none 0 0] 43:=aR.below (by first|exact(uq w3 _ _ _).drew) hbw (block_lt (by first|exact(uq w3 _ _ _).drew)));(try have t4a:w4.cell? ⟨(w3.heap.size+1),0,none⟩=some (.int .i64 0):=(t4.cell 0).trans rfl);(try have t4b:w4.cell? ⟨(w3.heap.size+1),1,none⟩=some (.slice none 0 0):=(t4.cell 1).trans rfl);(try have t4c:=t4.free);(try have t4d:(w3.heap.size+1)<w4.heap.size:=t4.lt))
   | (refine cB (by rfl) (bP (vs:=#[.agg #[.int .i64 2,.slice none 0 0],.int .u32 1,.int .i64 0]) (by simp[Act.eval]) (bE Tryz.func23 (by kernel_rfl) rfl)) (Hw0.out _) ?_;rintro v w5 ⟨a5,k5,rfl,hp5,hbw⟩;have OA:Below w4.heap.size w4 w5:=(by first|exact hbw|exact(ba1 w4 _).trans (hbw.mono (by rw[au];omega))|exact(ba2 w4 _ _).trans (hbw.mono (by rw[au,au];omega)));have LQ:vB w w.heap.size b1 (.slice a4 1 k4) (.slice a5 1 k5) w5:=⟨hB4.below OA hB4.lt,WS.below OA WS.lt,aJ.below hp4.out OA (aj _),hp5.out,aT (aT HB3.out Vq) OA,hle⟩;(try have t5:aR w5 w3.heap.size #[.int .i64 0,.slice none 0 0] 43:=aR.below (by first|exact t3|exact t3.alloc _|exact(t3.alloc _).alloc _) hbw (block_lt (by first|exact t3|exact t3.alloc _|exact(t3.alloc _).alloc _)));(try have t5a:w5.cell? ⟨w3.heap.size,0,none⟩=some (.int .i64 0):=(t5.cell 0).trans rfl);(try have t5b:w5.cell? ⟨w3.heap.size,1,none⟩=some (.slice none 0 0):=(t5.cell 1).trans rfl);(try have t5c:=t5.free);(try have t5d:w3.heap.size<w5.heap.size:=t5.lt);(try have t6:aR w5 (w3.heap.size+1) #[.int .i64 0,.slice none 0 0] 43:=aR.below (by first|exact t4|exact t4.alloc _|exact(t4.alloc _).alloc _) hbw (block_lt (by first|exact t4|exact t4.alloc _|exact(t4.alloc _).alloc _)));(try have t6a:w5.cell? ⟨(w3.heap.size+1),0,none⟩=some (.int .i64 0):=(t6.cell 0).trans rfl);(try have t6b:w5.cell? ⟨(w3.heap.size+1),1,none⟩=some (.slice none 0 0):=(t6.cell 1).trans rfl);(try have t6c:=t6.free);(try have t6d:(w3.heap.size+1)<w5.heap.size:=t6.lt);(try have t7:aR w5 w4.heap.size #[.int .i64 0,.slice none 0 0] 43:=aR.below (by first|exact aR.new w4 _ _|exact(aR.new w4 _ _).alloc _) hbw (block_lt (by first|exact aR.new w4 _ _|exact(aR.new w4 _ _).alloc _)));(try have t7a:w5.cell? ⟨w4.heap.size,0,none⟩=some (.int .i64 0):=(t7.cell 0).trans rfl);(try have t7b:w5.cell? ⟨w4.heap.size,1,none⟩=some (.slice none 0 0):=(t7.cell 1).trans rfl);(try have t7c:=t7.free);(try have t7d:w4.heap.size<w5.heap.size:=t7.lt);(try have t8:aR w5 (w4.heap.size+1) #[.int .i64 0,.slice none 0 0] 43:=aR.below (by first|exact uq w4 _ _ _) hbw (block_lt (by first|exact uq w4 _ _ _)));(try have t8a:w5.cell? ⟨(w4.heap.size+1),0,none⟩=some (.int .i64 0):=(t8.cell 0).trans rfl);(try have t8b:w5.cell? ⟨(w4.heap.size+1),1,none⟩=some (.slice none 0 0):=(t8.cell 1).trans rfl);(try have t8c:=t8.free);(try have t8d:(w4.heap.size+1)<w5.heap.size:=t8.lt)))
  all_goals
   have hlt3:=HL2.out.lt;have XO:=Vq.size;have hsz5:=OA.size;clear f0a f0b f1a f1b f2a f2b SH WZ Hw0 k1 k2;go_wp2_with fail
   go_meet;first
   | exact⟨_,_,_,_,rfl,rfl,ah (RU LQ)⟩
   | exact⟨_,_,_,_,rfl,rfl,ah (RQ LQ)⟩
   | exact⟨_,_,_,_,rfl,rfl,ah (Iz LQ t5 (by omega))⟩
   | exact⟨_,_,_,_,rfl,rfl,ah (Iy LQ t5 (by omega))⟩
   | exact⟨_,_,_,_,rfl,rfl,ah (Iz LQ t7 (by omega))⟩
   | exact⟨_,_,_,_,rfl,rfl,ah (Iy LQ t7 (by omega))⟩
   | exact⟨_,_,_,_,rfl,rfl,ah (uW LQ t5 t6 (by omega) (by omega) (by omega))⟩
   | exact⟨_,_,_,_,rfl,rfl,ah (uW LQ t6 t5 (by omega) (by omega) (by omega))⟩
   | exact⟨_,_,_,_,rfl,rfl,ah (uW LQ t5 t7 (by omega) (by omega) (by omega))⟩
   | exact⟨_,_,_,_,rfl,rfl,ah (uW LQ t7 t5 (by omega) (by omega) (by omega))⟩
   | exact⟨_,_,_,_,rfl,rfl,ah (uW LQ t7 t8 (by omega) (by omega) (by omega))⟩
   | exact⟨_,_,_,_,rfl,rfl,ah (uW LQ t8 t7 (by omega) (by omega) (by omega))⟩
 case rest =>
  rename World=>wx
  obtain⟨b3,b4,s4,s5,rfl,rfl,HF⟩:=hcut;clear SH vS HL2 HB3 k1 k2 WZ Hw0;obtain⟨a4,c4,e4,-,-⟩:=aJ.form HF.out.vV.p4;obtain⟨a5,c5,e5,-,-⟩:=aJ.form HF.out.vV.p5;have e4':s4=.slice a4 1 c4:=e4;have e5':s5=.slice a5 1 c5:=e5;clear e4 e5;subst e4' e5';have x0:wx.cell? ⟨b1,0,none⟩=some (.int .i64 2):=(HF.out.vV.one.cell 0).trans rfl;have x1:wx.cell? ⟨b1,1,none⟩=some (.slice none 0 0):=(HF.out.vV.one.cell 1).trans rfl;have x2:wx.cell? ⟨b1+1,0,none⟩=some (.int .i64 4):=(HF.out.vV.three.cell 0).trans rfl;have x3:wx.cell? ⟨b1+1,1,none⟩=some (.slice none 0 0):=(HF.out.vV.three.cell 1).trans rfl;have x4:wx.cell? ⟨b3,0,none⟩=some (.int .i64 2):=(HF.out.up.cell 0).trans rfl;have x5:wx.cell? ⟨b3,1,none⟩=some (.slice a4 1 c4):=(HF.out.up.cell 1).trans rfl;have x6:wx.cell? ⟨b4,0,none⟩=some (.int .i64 2):=(HF.out.own.cell 0).trans rfl;have x7:wx.cell? ⟨b4,1,none⟩=some (.slice a5 1 c5):=(HF.out.own.cell 1).trans rfl;have l1:b1<wx.heap.size:=HF.out.vV.one.lt;have l2:b1+1<wx.heap.size:=HF.out.vV.three.lt;have l3:b3<wx.heap.size:=HF.out.up.lt;have l4:b4<wx.heap.size:=HF.out.own.lt;have Xc:=Cx wx;obtain⟨z,hz⟩:∃z,z=((List.replicate 128 (0:UInt8)).map fA).toArray:=⟨_,rfl⟩;rw[<-hz]at Xc;obtain⟨W,hW⟩:∃W,W=jy wx z (.slice a4 1 c4) (.slice a5 1 c5):=⟨_,rfl⟩
  obtain⟨bb,hbb⟩:∃bb,wx.heap.size=bb:=⟨_,rfl⟩
  have HS:Hid (∃rb,rb=wx.heap.size+1+1+1+1+1+1+1+1/\zo w w.heap.size bb rb 0 0 W):=by
   obtain⟨q1,q2,q3⟩:=Fq wx z (.slice a4 1 c4) (.slice a5 1 c5) HF.out.vV.p4 HF.out.vV.p5;rw[<-hW]at q1 q2 q3;refine ah ⟨_,rfl,?_,?_,aT HF.out.vV.eO q3,by rw[<-hbb];exact HF.out.vV.eO.size⟩
   ·rw[(uZ 0 (by omega)).1,OZ.2,<-hz,<-hbb];exact q1
   ·rw[<-hbb];exact q2
  have wm:=ah hbb;clear hz hbb;unfold jy at hW;have np2:b1<wx.heap.size+1+1:=by omega
  have np3:b1<wx.heap.size+1+1+1:=by omega
  have np4:b1<wx.heap.size+1+1+1+1:=by omega
  have np5:b1<wx.heap.size+1+1+1+1+1:=by omega
  have np6:b1<wx.heap.size+1+1+1+1+1+1:=by omega
  have np7:b1<wx.heap.size+1+1+1+1+1+1+1:=by omega
  have np8:b1<wx.heap.size+1+1+1+1+1+1+1+1:=by omega
  have nq2:b1+1<wx.heap.size+1+1:=by omega
  have nq3:b1+1<wx.heap.size+1+1+1:=by omega
  have nq4:b1+1<wx.heap.size+1+1+1+1:=by omega
  have nq5:b1+1<wx.heap.size+1+1+1+1+1:=by omega
  have nq6:b1+1<wx.heap.size+1+1+1+1+1+1:=by omega
  have nq7:b1+1<wx.heap.size+1+1+1+1+1+1+1:=by omega
  have nq8:b1+1<wx.heap.size+1+1+1+1+1+1+1+1:=by omega
  have nr2:b3<wx.heap.size+1+1:=by omega
  have nr3:b3<wx.heap.size+1+1+1:=by omega
  have nr4:b3<wx.heap.size+1+1+1+1:=by omega
  have nr5:b3<wx.heap.size+1+1+1+1+1:=by omega
  have nr6:b3<wx.heap.size+1+1+1+1+1+1:=by omega
  have nr7:b3<wx.heap.size+1+1+1+1+1+1+1:=by omega
  have nr8:b3<wx.heap.size+1+1+1+1+1+1+1+1:=by omega
  have ns2:b4<wx.heap.size+1+1:=by omega
  have ns3:b4<wx.heap.size+1+1+1:=by omega
  have ns4:b4<wx.heap.size+1+1+1+1:=by omega
  have ns5:b4<wx.heap.size+1+1+1+1+1:=by omega
  have ns6:b4<wx.heap.size+1+1+1+1+1+1:=by omega
  have ns7:b4<wx.heap.size+1+1+1+1+1+1+1:=by omega
  have ns8:b4<wx.heap.size+1+1+1+1+1+1+1+1:=by omega
  go_upto_block 0 with fail
  rw[<-hW];clear hW Xc x0 x1 x2 x3 x4 x5 x6 x7 l1 l2 l3 l4 np2 np3 np4 np5 np6 np7 np8 nq2 nq3 nq4 nq5 nq6 nq7 nq8 nr2 nr3 nr4 nr5 nr6 nr7 nr8 ns2 ns3 ns4 ns5 ns6 ns7 ns8;obtain⟨rb,hrb,hst⟩:=HS.out;rw[<-hrb,wm.out];have TW:=ah hst;clear HS hst hrb wm HF;go_wp2_with fail
  go_loopg [6,7,8,10,37] 7 (fun gg _ _ _ _ v37 wq=>∃k:Nat,k+gg=7/\v37=.int .i64 k/\Hid (zo w w.heap.size bb rb k 0 wq))
  case atStart=>exact⟨0,by omega,rfl,TW⟩
  case round =>
   obtain⟨k,hk,rfl,HK⟩:=hrel;by_cases hlt:k<7
   ·have hlt':(k:Int)<7:=by omega
    obtain⟨r,hr⟩:∃r,nE[k]? = some r:=⟨_,aQ hlt⟩;have hrd:nE.getD k []=r:=by rw[List.getD_eq_getElem?_getD,hr];rfl
    obtain⟨b,hb1,hb2,hb3,hb4⟩:=HK.out.rows.at_ k r hr;have hw16:IntKind.i64.wrap (16*(k:Int))=((16*k:Nat):Int):=by rw[aV _ (by omega)];omega
    obtain⟨hE0,hE1,hE2⟩:=uZ k hlt
    have hr2:r.length<=2:=by
     have:∀(k:Nat) (r:List dn),nE[k]? = some r->r.length<=2:=by
      intro k r h;have:=bG h;simp[nE]at this;rcases this with rfl|rfl|rfl|rfl|rfl|rfl|rfl<;>simp
     exact this k r hr
    have Hr:=ah hr;have Hrd:=ah hrd;have Hlt:=ah hlt;have HE2:=ah hE2;have HK0:Hid (zo w w.heap.size bb rb k 0 wr/\lM k 0=16*k):=ah ⟨HK.out,hE1⟩;have HRc:Hid (wr.cell? ⟨rb,k,none⟩=some (.slice (some ⟨b,0,none⟩) r.length r.length)):=ah hb2;have hrn:(r.length:Int)<=2:=by omega
    clear hb1 hb3 hb4 hr hrd hlt hE0 hE1 hE2 HK;go_wp2_with fail
    go_loopg [8,10,46] r.length (fun gg v8 _ v46 wq=>∃j p:Nat,j+gg=r.length/\v46=.int .i64 j/\v8=.int .i64 p/\Hid (p=lM k j/\zo w w.heap.size bb rb k j wq)/\Hid (wq.cell? ⟨rb,k,none⟩=some (.slice (some ⟨b,0,none⟩) r.length r.length)))
    case atStart=>exact⟨0,16*k,by omega,rfl,rfl,ah ⟨HK0.out.2.symm,HK0.out.1⟩,HRc⟩
    case round =>
     obtain⟨j,p,hj,rfl,rfl,HJ,HRj⟩:=hrel;by_cases hlj:j<r.length
     ·have abX:(j:Int)<r.length:=by omega
      obtain⟨l,hl⟩:∃l,r[j]? = some l:=⟨_,aQ hlj⟩;obtain⟨b',hb1,hb2',hb3,hb4'⟩:=HJ.out.2.rows.at_ k r Hr.out
      obtain rfl:b'=b:=by
       have:=HRj.out.symm.trans hb2';simp at this;exact this.symm
      obtain⟨s,c0,c1,hps⟩:=hb4' j l hl;obtain⟨la,lc,rfl,-,-⟩:=aJ.form hps;have hld:(nE.getD k []).getD j eX=l:=by rw[Hrd.out,List.getD_eq_getElem?_getD,hl];rfl
      have hst:=KZ k Hlt.out j (by rw[Hrd.out];exact hlj);rw[hld,<-HJ.out.1]at hst;obtain⟨e1,e2,e3,e4,e5,e6,e7⟩:=hst;have HE:Hid (kX k (j+1)=putAt (kX k j) p (nP l)/\lM k (j+1)=p+(nP l).length):=ah ⟨e1,e2⟩;rw[e2]at e3;obtain⟨LB,hLB⟩:∃LB,wr.heap.size=LB:=⟨_,rfl⟩;obtain⟨w3,hw3⟩:∃w3,w3=wr.alloc (.cells #[.int .i64 (l.d:Nat),.slice la l.ps.length lc] 43):=⟨_,rfl⟩;have hb3':Below wr.heap.size wr w3:=by rw[hw3];exact(aC _ wr).alloc (aj _) _
      have hL3:aR w3 LB #[.int .i64 (l.d:Nat),.slice la l.ps.length lc] 43:=by rw[hw3,<-hLB];exact aR.new _ _ _
      have Qf:Hid (bg w3 (.slice la l.ps.length lc) l.ps):=ah (aJ.below hps hb3' (aj _));have WA:Hid (zo w w.heap.size bb rb k j w3):=ah (HJ.out.2.below hb3');have HR3:Hid (w3.cell? ⟨rb,k,none⟩=some (.slice (some ⟨b',0,none⟩) r.length r.length)):=ah ((hb3'.cell (p:=⟨rb,k,none⟩) HJ.out.2.rows.lt.2).trans HRj.out);have y0:w3.drew.cell? ⟨LB,0,none⟩=some (.int .i64 (l.d:Nat)):=(hL3.drew.cell 0).trans rfl;have y1:w3.drew.cell? ⟨LB,1,none⟩=some (.slice la l.ps.length lc):=(hL3.drew.cell 1).trans rfl
      have HCa:Hid (Calls Tryz.prog 31 #[.slice none 0 0,.agg #[.int .i64 (l.d:Nat),.slice la l.ps.length lc]] w3.drew fun e w'=>∃v,e=.returned v/\(∃A c,v=.slice A (nP l).length c/\dV w' (.slice A (nP l).length c) (nP l)/\Below w3.heap.size w3 w')):=ah (by
       refine(FC 0 [] (.slice none 0 0) (.agg #[.int .i64 (l.d:Nat),.slice la l.ps.length lc]) l w3.drew (cu _ _ _ _) (by simp) ⟨_,rfl,aJ.below Qf.out ((aC _ w3).drew) (aj _)⟩ e7).mono ?_;rintro e w' ⟨v,h1,h2,h3⟩;rw[List.nil_append]at h2;have h4:dV w' v (nP l):=aJ.own h2;obtain⟨A,c,rfl,-,-⟩:=aJ.form h4;rw[cK]at h3;exact⟨_,h1,A,c,rfl,h4,(aC _ w3).drew.trans h3⟩)
      have hsl:=Fb bb p e4;have hpl:IntKind.i64.wrap ((p:Int)+((nP l).length:Nat))=((p+(nP l).length:Nat):Int):=by rw[aV _ (by omega)];omega
      clear hb1 hb2' hb3 hb4' hps hl hld e1 e2 HRj;go_upto_region 11 with fail
      rw[<-hw3];clear hw3 hLB c0 c1 hb3' hL3
      go_region_law (first
       | (refine cB (by rfl) (bP (vs:=#[.slice none 0 0,.agg #[.int .i64 (l.d:Nat),.slice la l.ps.length lc]]) (by simp[Act.eval]) (bE Tryz.func31 (by kernel_rfl) rfl)) (HCa.out) ?_;rintro v w4 ⟨A4,c4',rfl,hd4,hb4⟩;have TJ:=WA.out.below hb4;have hR4:=(hb4.cell (p:=⟨rb,k,none⟩) WA.out.rows.lt.2).trans HR3.out)
       | (refine wW (by rfl) (.tmp 53) (.tmp 55) (by rfl) bb p (128-p) (128-p) (kX k j) (nP l) _ TJ.bytes (by simp[Act.eval]) (by simp[Act.eval]) hd4 e5 (by omega) (by omega) ?_;intro w5 hk5 ni))
      all_goals
       have HN:Hid (zo w w.heap.size bb rb k (j+1) w5):=ah ⟨by rw[HE.out.1];exact ni,TJ.rows.kept TJ.bytes hk5,((Kept.of_below (S:=fun _=>False) TJ.eO).then hk5 (fun i hi e=>by have:=TJ.le;have e':i=bb:=e;omega)).below (aj _) (fun _ _ f=>f),TJ.le⟩;have Qd:Hid (w5.cell? ⟨rb,k,none⟩=some (.slice (some ⟨b',0,none⟩) r.length r.length)):=ah ((World.cell?_of_block (a:=⟨rb,k,none⟩) (hk5.block rb TJ.rows.lt.2 (fun e=>by have:=TJ.rows.lt.1;have e':rb=bb:=e;omega))).trans hR4);go_wp2_with fail
       go_roundg (r.length-(j+1))
       case measure=>omega
       case rel=>exact⟨j+1,p+(nP l).length,by omega,by go_num,by go_num,ah ⟨HE.out.2.symm,HN.out⟩,Qd⟩
     ·have abX:¬(j:Int)<r.length:=by omega
      have HN:Hid (zo w w.heap.size bb rb (k+1) 0 wr):=ah (by
       obtain rfl:j=r.length:=by omega
       have h1:=HJ.out.2;have h2:=HE2.out;rw[Hrd.out]at h2
       have h3:((kX (k+1) 0).map fA).toArray=((kX k r.length).map fA).toArray:=by
        by_cases hk6:k+1<7
        ·rw[(uZ (k+1) hk6).1,<-h2]
        ·obtain rfl:k=6:=by omega
         rw[h2];rfl
       exact⟨by rw[h3];exact h1.bytes,h1.rows,h1.eO,h1.le⟩)
      go_wp2_with fail
      go_roundg (7-(k+1))
      case measure=>omega
      case rel=>exact⟨k+1,by omega,by go_num,HN⟩
   ·obtain rfl:k=7:=by omega
    have HF:Hid (aR wr bb (iN.map fA).toArray 5):=ah (by
     have:=HK.out.bytes;have e:kX 7 0=iN:=by decide +kernel
     rw[e]at this;exact this)
    go_wp2_with fail
    go_ret;have hl:iN.length=128:=by decide +kernel
    refine⟨.slice (some ⟨bb,0,none⟩) 128 128,rfl,?_,HK.out.eO⟩;exact⟨some ⟨bb,0,none⟩,128,by rw[hl],by rw[hl];exact aj _,by unfold maxLen;omega,.inr ⟨bb,_,_,rfl,HF.out,fun j u hj=>by simpa using hj⟩⟩
end Go.Proofs.YtiadbhiadhgjkaaGreatDoor
