import Derived.Test.YtiadbhiadhgjkaaGreatDoorZzNh
set_option maxRecDepth 100000
set_option maxHeartbeats 8000000
namespace Go.Proofs.YtiadbhiadhgjkaaGreatDoor
open Go.RowKit
attribute [local irreducible] World.setCell World.alloc World.drew World.setRow Calls Code.wp
theorem zy(l:List PV)(v:Value)(Q:Nat->Value×Value)(c:Int)(w:World)(h:lU w v l Q)(hok:∀p∈l,p.ok)(hc:0<=c/\c<=1) :
  Calls Tryz.prog 12 #[v,.int .i64 c] w fun e w'=>∃u,e=.returned u/\rU w' u (dX (l.map PV.plain) c)/\Below w.heap.size w w':=by
 obtain⟨la,lc,rfl,hc1,hc2⟩:=(show ∃a c,v=.slice a l.length c/\l.length<=c/\c<=maxLen by obtain⟨-,a,c,e,h1,h2,-⟩:=h;exact⟨a,c,e,h1,h2⟩);unfold maxLen at hc2;have HL:=ah (fun w' (k:Below w.heap.size w w')=>h.below k (aj _));have TR:=ah hok;obtain⟨x,hx⟩:∃x,c+1=x:=⟨_,rfl⟩
 have hx1:bits .and .i64 c 1=c:=by
  rw[show(1:Int)=1 from rfl];obtain rfl|rfl:c=0\/c=1:=by omega
  all_goals rfl
 have hx2:IntKind.i64.wrap (c+1)=x:=by rw[aV _ (by omega),hx]
 have HX:=ah hx;have SH:Hid (∀(d:Nat) w,Calls Tryz.prog 22 #[.int .i64 (d:Int)] w fun e w'=>e=.returned (.agg #[.int .i64 (d:Int),.slice none 0 0])/\Below w.heap.size w w'):=ah oI;clear h hok hx;go_enter Tryz.func12,Tryz.ntmps12
 go_wp2_with fail
 refine(SH.out 2 _).mono ?_;rintro e w1 ⟨rfl,hb1⟩;obtain⟨rb,hrb⟩:∃rb,w.heap.size=rb:=⟨_,rfl⟩
 have HM0:Hid (aR w1 rb #[.int .i64 0,.int .i64 0,.int .i64 0,.slice none 0 0,.slice none 0 0] 81/\aR w1 (rb+1+1) #[.int .i64 x,.int .i64 600,.int .i64 200,.slice (some ⟨rb+1,0,none⟩) 3 3,.slice none 0 0] 81/\jJ w1 (.slice (some ⟨rb+1,0,none⟩) 3 3) [(0,2),(1,1),(0,1)]/\Below w.heap.size w w1):=ah (by
  have q1:=((aR.new w #[.int .i64 0,.int .i64 0,.int .i64 0,.slice none 0 0,.slice none 0 0] 81).alloc (.cells #[.int .u64 0,.int .i64 2,.int .u64 1,.int .i64 1,.int .u64 0,.int .i64 1] 127)).alloc (.cells #[.int .i64 x,.int .i64 600,.int .i64 200,.slice (some ⟨w.heap.size+1,0,none⟩) 3 3,.slice none 0 0] 81);have q2:=aR.new ((w.alloc (.cells #[.int .i64 0,.int .i64 0,.int .i64 0,.slice none 0 0,.slice none 0 0] 81)).alloc (.cells #[.int .u64 0,.int .i64 2,.int .u64 1,.int .i64 1,.int .u64 0,.int .i64 1] 127)) #[.int .i64 x,.int .i64 600,.int .i64 200,.slice (some ⟨w.heap.size+1,0,none⟩) 3 3,.slice none 0 0] 81;have q3:=JJ (w.alloc (.cells #[.int .i64 0,.int .i64 0,.int .i64 0,.slice none 0 0,.slice none 0 0] 81));have q4:=aJ.below q3 ((aC _ _).alloc (aj _) (.cells #[.int .i64 x,.int .i64 600,.int .i64 200,.slice (some ⟨w.heap.size+1,0,none⟩) 3 3,.slice none 0 0] 81)) (aj _);rw[au,au]at q2;rw[au]at q4;rw[<-hrb];refine⟨q1.below hb1 q1.lt,q2.below hb1 q2.lt,aJ.below q4 hb1 (aj _),?_⟩;exact aT (((aC _ w).alloc (aj _) _).alloc (by rw[au];omega) _ |>.alloc (by rw[au,au];omega) _) hb1)
 have Hrb:=ah hrb;clear hb1 hrb;go_wp2_with fail
 try rw[Hrb.out]
 obtain⟨b1,hb1⟩:∃b1,w1.heap.size=b1:=⟨_,rfl⟩;have HB1:Hid (aR (w1.alloc (.cells #[.int .i64 2,.slice none 0 0] 43)) b1 #[.int .i64 2,.slice none 0 0] 43):=ah (by rw[<-hb1];exact aR.new _ _ _);have Hb1:=ah hb1;have WZ:=ah (wQ 1 4 _ (w1.alloc (.cells #[.int .i64 2,.slice none 0 0] 43)) ⟨_,rfl,aJ.nil _ _⟩ (by decide));clear hb1;refine WZ.out.mono ?_;rintro e w2 ⟨u,rfl,hu2,hb2⟩;obtain⟨a2,k2,rfl,hp2⟩:=fT hu2;have HB2:=ah hb2;have LC:=ah hp2;clear hu2 hb2 hp2 WZ;obtain⟨b2,hb2⟩:∃b2,w2.heap.size=b2:=⟨_,rfl⟩;obtain⟨w3,hw3⟩:∃w3,w3=w2.alloc (.cells #[.int .i64 2,.slice a2 1 k2] 43):=⟨_,rfl⟩
 have HS:Hid (BK w rb b1 b2 x a2 k2 w3):=ah (by
  obtain⟨q1,q2,q3,q4⟩:=HM0.out;have hA:Below w1.heap.size w1 (w1.alloc (.cells #[.int .i64 2,.slice none 0 0] 43)):=(aC _ w1).alloc (aj _) _;have hB:Below w1.heap.size w1 w2:=aT hA HB2.out;have hC:Below w2.heap.size w2 w3:=by rw[hw3];exact(aC _ w2).alloc (aj _) _
  have hD:=aT hB hC;refine⟨q1.below hD q1.lt,q2.below hD q2.lt,aJ.below q3 hD (aj _),(HB1.out.below HB2.out HB1.out.lt).below hC (HB1.out.below HB2.out HB1.out.lt).lt,?_,aJ.below LC.out hC (aj _),aT q4 hD,⟨by rw[Hrb.out];exact aj _,by rw[<-Hb1.out];exact q4.size⟩⟩;rw[hw3,<-hb2];exact aR.new _ _ _)
 have Hb2:=ah hb2;clear hb2;go_upto_region 4 with fail
 rw[<-hw3];try rw[Hb1.out]
 try rw[Hb2.out]
 clear hw3 HM0 HB1 Hb1 HB2 LC Hb2;obtain⟨vl0,abE⟩:∃n,iN.length=n:=⟨_,rfl⟩
 have Qy:Hid (∀W,Calls Tryz.prog 16 #[] W fun e w'=>∃v,e=.returned v/\(∃A n k,v=.slice A n k/\Hid (dV w' (.slice A n k) iN)/\Below W.heap.size W w')):=ah (fun W=>by
  refine(FZ W).mono ?_;rintro e w' ⟨v,h1,h2,h3⟩;obtain⟨A,k,rfl,-,-⟩:=aJ.form h2;exact⟨_,h1,A,_,k,rfl,ah h2,h3⟩)
 clear abE vl0;go_cut [] (fun wx=>∃oa oc,Hid (qG w (rb+1+1) b1 x (.slice (some ⟨rb+1,0,none⟩) 3 3) (.slice oa 4 oc) dY wx/\aR wx rb #[.int .i64 0,.int .i64 0,.int .i64 0,.slice none 0 0,.slice none 0 0] 81))
 case first =>
  have HZ:Hid (BK w rb b1 b2 x a2 k2 (w3.alloc (.cells #[.int .u8 1,.int .u8 2,.int .u8 3] 5)).drew):=ah (HS.out.below ((aC _ w3).alloc (aj _) _).drew);have HD:Hid (BK w rb b1 b2 x a2 k2 w3.drew):=ah (HS.out.below ((aC _ w3).drew));have iR:Hid (∀W,aR W b1 #[.int .i64 2,.slice none 0 0] 43->aR W b2 #[.int .i64 2,.slice a2 1 k2] 43->W.cell? ⟨b1,0,none⟩=some (.int .i64 2)/\W.cell? ⟨b1,1,none⟩=some (.slice none 0 0)/\W.cell? ⟨b2,0,none⟩=some (.int .i64 2)/\W.cell? ⟨b2,1,none⟩=some (.slice a2 1 k2)):=ah (fun W h1 h2=>⟨(h1.cell 0).trans rfl,(h1.cell 1).trans rfl,(h2.cell 0).trans rfl,(h2.cell 1).trans rfl⟩);have HZb:Hid (dV (w3.alloc (.cells #[.int .u8 1,.int .u8 2,.int .u8 3] 5)).drew (.slice (some ⟨w3.heap.size,0,none⟩) 3 3) [1,2,3]):=ah (aJ.below (Ae w3 [1,2,3] (by unfold maxLen;decide)) ((aC _ _).drew) (aj _));have hd0:=iR.out _ HD.out.one HD.out.up;obtain⟨d1,d2,d3,d4⟩:=hd0;first
  | go_region_held3 (fun w'=>w'.cell? ⟨b1,0,none⟩=some (.int .i64 2)/\w'.cell? ⟨b1,1,none⟩=some (.slice none 0 0)/\w'.cell? ⟨b2,0,none⟩=some (.int .i64 2)/\w'.cell? ⟨b2,1,none⟩=some (.slice a2 1 k2))
    (first|exact iR.out _ HD.out.one HD.out.up|exact iR.out _ HZ.out.one HZ.out.up|exact iR.out _ Gl.one Gl.up|exact iR.out _ (Gl.one.alloc _) (Gl.up.alloc _)|exact iR.out _ ((Gl.one.alloc _).alloc _) ((Gl.up.alloc _).alloc _)|exact iR.out _ hfa.1.one hfa.2.2|exact iR.out _ RH.1.one RH.2.2)
    ((first
     | (refine(Qy.out _).mono ?_;rintro e wa ⟨v,rfl,A4,n4,k4,rfl,hda,hba⟩;have Gl:=HD.out.below hba;have f3:=Gl.cfg.free 4;have f4:wa.cell? ⟨rb+1+1,4,none⟩=some (.slice none 0 0):=(Gl.cfg.cell 4).trans rfl;have l3:=Gl.cfg.lt;have l4:rb+1+1<wa.heap.size+1:=Nat.lt_succ_of_lt l3;have l5:rb+1+1<wa.heap.size+1+1:=Nat.lt_succ_of_lt l4;have RH:=Ap Gl hda.out;unfold kM at RH)
     | (refine(Qy.out _).mono ?_;rintro e wa ⟨v,rfl,A4,n4,k4,rfl,hda,hba⟩;have Gl:=HZ.out.below hba;have f3:=Gl.cfg.free 4;have f4:wa.cell? ⟨rb+1+1,4,none⟩=some (.slice none 0 0):=(Gl.cfg.cell 4).trans rfl;have l3:=Gl.cfg.lt;have l4:rb+1+1<wa.heap.size+1:=Nat.lt_succ_of_lt l3;have l5:rb+1+1<wa.heap.size+1+1:=Nat.lt_succ_of_lt l4;have hfa:=sM Gl hda.out (aJ.below HZb.out hba (aj _));unfold kM at hfa)
     | fail))
  | fail
  all_goals
   go_wp2_with fail
   go_meet;first
   | exact⟨_,_,ah ⟨hfa.1,hfa.2.1⟩⟩
   | exact⟨_,_,ah ⟨RH.1,RH.2.1⟩⟩
 case rest =>
  rename World=>w5
  obtain⟨oa,oc,HW⟩:=hcut;clear HS Qy;go_upto_block 0 with fail
  go_cut [8,9,10,11,12] (fun _ _ _ _ _ wx=>∃ov,Hid (qG w (rb+1+1) b1 x (.slice (some ⟨rb+1,0,none⟩) 3 3) ov (dY++dP 4 ((l.take 4).map PV.plain)) wx/\aR wx rb #[.int .i64 0,.int .i64 0,.int .i64 0,.slice none 0 0,.slice none 0 0] 81))
  case first =>
   go_wp2_with fail
   go_loopg [8,9,10,11,12,38] l.length (fun gg _ _ _ _ _ v38 wq=>∃(k:Nat) (ov:Value),k+gg=l.length/\k<=4/\v38=.int .i64 k/\Hid (qG w (rb+1+1) b1 x (.slice (some ⟨rb+1,0,none⟩) 3 3) ov (dY++dP 4 ((l.take k).map PV.plain)) wq/\aR wq rb #[.int .i64 0,.int .i64 0,.int .i64 0,.slice none 0 0,.slice none 0 0] 81))
   case atStart=>exact⟨0,_,by omega,by omega,rfl,HW⟩
   case round =>
    obtain⟨k,ov,hk,hk4,rfl,HK⟩:=hrel;by_cases hlt:k<l.length
    ·have hlt':(k:Int)<l.length:=by omega
     obtain⟨p,hp⟩:∃p,l[k]? = some p:=⟨_,aQ hlt⟩;obtain⟨b,o,rfl,hblt,hV,hc⟩:=(HL.out wr HK.out.1.eO).at hp;have hpk:=TR.out p (bG hp);obtain⟨fa,fc,hf1,-,-⟩:=aJ.form hV.lines;obtain⟨ga,gc,hf2,-,-⟩:=hV.seed.form;have q0:wr.cell? ⟨b,o+k*4,none⟩=some (.slice fa p.lines.length fc):=by have:=hc 0 (by omega);rw[Nat.add_zero]at this;rw[this,<-hf1];rfl
     have q1:wr.cell? ⟨b,o+k*4+1,none⟩=some (.int .i64 p.seed.d):=by rw[hc 1 (by omega)];rfl
     have q2:wr.cell? ⟨b,o+k*4+2,none⟩=some (.slice ga p.seed.ls.length gc):=by rw[hc 2 (by omega),<-hf2];rfl
     have q3:wr.cell? ⟨b,o+k*4+3,none⟩=some (.int .i64 p.home):=by rw[hc 3 (by omega)];rfl
     by_cases h4:k=4
     ·have h4':((k:Int)==4)=true:=by simp[h4]
      have HE:Hid (qG w (rb+1+1) b1 x (.slice (some ⟨rb+1,0,none⟩) 3 3) ov (dY++dP 4 ((l.take 4).map PV.plain)) wr/\aR wr rb #[.int .i64 0,.int .i64 0,.int .i64 0,.slice none 0 0,.slice none 0 0] 81):=by rw[h4]at HK;exact HK
      clear hc hV hf1 hf2 h4 hp hpk;go_wp2_with fail
      go_meet;have hA:Below wr.heap.size wr (wr.alloc (.cells #[.slice fa p.lines.length fc,.int .i64 p.seed.d,.slice ga p.seed.ls.length gc,.int .i64 p.home] 100)):=(aC _ wr).alloc (aj _) _;exact⟨_,ah ⟨HE.out.1.below hA,HE.out.2.below hA HE.out.2.lt⟩⟩
     ·have h4':((k:Int)==4)=false:=by simp;omega
      obtain⟨tb,htb⟩:∃tb,wr.heap.size=tb:=⟨_,rfl⟩;obtain⟨w6,hw6⟩:∃w6,w6=wr.alloc (.cells #[.slice fa p.lines.length fc,.int .i64 p.seed.d,.slice ga p.seed.ls.length gc,.int .i64 p.home] 100):=⟨_,rfl⟩
      have HI:Hid (Er w rb b1 x (.slice (some ⟨rb+1,0,none⟩) 3 3) ov (dY++dP 4 ((l.take k).map PV.plain)) tb p (.slice fa p.lines.length fc) (.slice ga p.seed.ls.length gc) w6):=ah (by
       have hA:Below wr.heap.size wr w6:=by rw[hw6];exact(aC _ wr).alloc (aj _) _
       refine⟨HK.out.1.below hA,HK.out.2.below hA HK.out.2.lt,by rw[hw6,<-htb];exact aR.new _ _ _,?_⟩;rw[<-hf1];exact aJ.below hV.lines hA (aj _))
      have HGs:Hid (yP w6 (.slice ga p.seed.ls.length gc) p.seed.ls.length (p.seed.ls.map (Value.int .i64))/\w.heap.size<=w6.heap.size/\b1<w6.heap.size):=ah (by
       have hA:Below wr.heap.size wr w6:=by rw[hw6];exact(aC _ wr).alloc (aj _) _
       refine⟨?_,(aT HK.out.1.eO hA).size,bA HK.out.1.one.lt hA.size⟩;rw[<-hf2];exact hV.seed.below hA (aj _))
      have Hp:=ah hp;have Hpk:=ah hpk;have Zt:Hid (k<=3):=ah (by omega);have hpl:(p.lines.length:Int)<=100:=by have:=hpk.len;omega
      have HSd:Hid (Calls Tryz.prog 24 #[.agg #[.int .i64 p.seed.d,.slice ga p.seed.ls.length gc]] w6 fun e w'=>∃a c,e=.returned (.agg #[.int .i64 (p.seed.lab.d:Nat),.slice a p.seed.lab.ps.length c])/\bg w' (.slice a p.seed.lab.ps.length c) p.seed.lab.ps/\Below w6.heap.size w6 w'):=ah (Ko p.seed _ w6 HGs.out.1 hpk.lv);have vD:=ah htb;clear hc hV hf1 hf2 h4 hp hpk hblt HK;go_wp2_with fail
      try rw[<-hw6]
      try rw[vD.out]
      clear hw6 vD;refine HSd.out.mono ?_;rintro e w7 ⟨ta,tc,rfl,hp7,hb7⟩;obtain⟨tl,htl⟩:∃tl,w7.heap.size=tl:=⟨_,rfl⟩;obtain⟨w8,hw8⟩:∃w8,w8=w7.alloc (.cells #[.int .i64 2,.slice ta p.seed.lab.ps.length tc] 43):=⟨_,rfl⟩
      have H8:Hid (Er w rb b1 x (.slice (some ⟨rb+1,0,none⟩) 3 3) ov (dY++dP 4 ((l.take k).map PV.plain)) tb p (.slice fa p.lines.length fc) (.slice ga p.seed.ls.length gc) w8/\GV w8 tl p.t ta tc):=ah (by
       have hA:Below w7.heap.size w7 w8:=by rw[hw8];exact(aC _ w7).alloc (aj _) _
       refine⟨(HI.out.below hb7).below hA,⟨?_,aJ.below hp7 hA (aj _)⟩⟩;rw[hw8,<-htl];exact aR.new _ _ _)
      have Xa:=ah htl;have Zm:Hid (tl≠b1/\w.heap.size<=tl):=ah (by have:=HGs.out.2;have:=hb7.size;omega);clear hp7 hb7 HSd HI htl HGs;go_upto_region 11 with fail
      rw[<-hw8];try rw[Xa.out]
      clear hw8 Xa;go_cut [58] (fun v58 wx=>v58=.bool (!p.good)/\Hid (Er w rb b1 x (.slice (some ⟨rb+1,0,none⟩) 3 3) ov (dY++dP 4 ((l.take k).map PV.plain)) tb p (.slice fa p.lines.length fc) (.slice ga p.seed.ls.length gc) wx/\GV wx tl p.t ta tc))
      case first =>
       obtain⟨IT,hIT⟩:∃IT:World->Prop,IT=fun W=>(Er w rb b1 x (.slice (some ⟨rb+1,0,none⟩) 3 3) ov (dY++dP 4 ((l.take k).map PV.plain)) tb p (.slice fa p.lines.length fc) (.slice ga p.seed.ls.length gc) W/\GV W tl p.t ta tc):=⟨_,rfl⟩
       have EG:Hid (∀W,IT W->(Er w rb b1 x (.slice (some ⟨rb+1,0,none⟩) 3 3) ov (dY++dP 4 ((l.take k).map PV.plain)) tb p (.slice fa p.lines.length fc) (.slice ga p.seed.ls.length gc) W/\GV W tl p.t ta tc)):=ah (fun W h=>by rw[hIT]at h;exact h);have LU:Hid (∀W W',Below W.heap.size W W'->IT W->IT W'):=ah (fun W W' q h=>by rw[hIT]at h ⊢;exact⟨h.1.below q,h.2.below q⟩);have HD:Hid (IT w8.drew):=ah (LU.out _ _ ((aC _ w8).drew) (by rw[hIT];exact H8.out))
       have iR:Hid (∀W,IT W->W.cell? ⟨tl,0,none⟩=some (.int .i64 2)/\W.cell? ⟨tl,1,none⟩=some (.slice ta p.seed.lab.ps.length tc)/\W.cell? ⟨b1,0,none⟩=some (.int .i64 2)/\W.cell? ⟨b1,1,none⟩=some (.slice none 0 0)):=ah (fun W h=>by
        obtain⟨h1,h2⟩:=EG.out W h;exact⟨(h2.blk.cell 0).trans rfl,(h2.blk.cell 1).trans rfl,(h1.mem.one.cell 0).trans rfl,(h1.mem.one.cell 1).trans rfl⟩)
       have HRi:Hid (∀W,IT W->Calls Tryz.prog 25 #[.agg #[.int .i64 2,.slice ta p.seed.lab.ps.length tc]] W fun e w'=>∃v,e=.returned v/\(v=.bool p.t.right/\IT w')):=ah (fun W h=>(p.QG _ W (EG.out W h).2.Tt).mono (fun e w' q=>⟨_,q.1,rfl,LU.out _ _ q.2 h⟩));clear hIT;obtain⟨d1,d2,d3,d4⟩:=iR.out _ HD.out
       cases hr:p.t.right with
       | false =>
        have Qd:Hid (Calls Tryz.prog 25 #[.agg #[.int .i64 2,.slice ta p.seed.lab.ps.length tc]] w8.drew fun e w'=>∃v,e=.returned v/\(v=.bool false/\IT w')):=ah (by have:=HRi.out _ HD.out;rw[hr]at this;exact this);have HG:Hid (p.good=false):=ah (by unfold PV.good;rw[hr];rfl);clear hr HRi;first
        | go_region_law (refine iU (by rfl) (bP (vs:=#[.agg #[.int .i64 2,.slice ta p.seed.lab.ps.length tc]]) (by simp[Act.eval]) (bE Tryz.func25 (by kernel_rfl) rfl)) Qd.out ?_;rintro v wa ⟨rfl,hIa⟩)
        | fail
        all_goals
         go_wp2_with fail
         go_meet;exact⟨by rw[HG.out];rfl,ah (EG.out _ hIa)⟩
       | true =>
        have hok:fV p.t:=iE hr;have hrl:p.t.rest.ps.length<=1000:=CB hr;have HRy:Hid (Calls Tryz.prog 25 #[.agg #[.int .i64 2,.slice ta p.seed.lab.ps.length tc]] w8.drew fun e w'=>∃v,e=.returned v/\(v=.bool true/\IT w')):=ah (by have:=HRi.out _ HD.out;rw[hr]at this;exact this);have HRe:Hid (∀W,IT W->Calls Tryz.prog 27 #[.agg #[.int .i64 2,.slice ta p.seed.lab.ps.length tc]] W fun e w'=>∃v,e=.returned v/\(bU w' v p.t.rest/\IT w')):=ah (fun W h=>(oD p.t _ W hok (EG.out W h).2.Tt).mono (fun e w' ⟨v,q1,q2,q3⟩=>⟨v,q1,q2,LU.out _ _ q3 h⟩));have HLe:Hid (∀W v,bU W v p.t.rest->IT W->Calls Tryz.prog 26 #[.agg #[.int .i64 2,.slice none 0 0],v] W fun e w'=>∃u,e=.returned u/\(u=.bool p.good/\IT w')):=ah (fun W v hv h=>(qN eX p.t.rest _ v W ⟨_,rfl,aJ.nil _ _⟩ hv ⟨by show 0<=1000;omega,hrl⟩).mono (fun e w' ⟨q1,q2⟩=>⟨_,q1,by unfold PV.good;rw[hr];rfl,LU.out _ _ q2 h⟩));clear hr HRi hok hrl;first
        | go_region_law (first
         | (refine iU (by rfl) (bP (vs:=#[.agg #[.int .i64 2,.slice ta p.seed.lab.ps.length tc]]) (by simp[Act.eval]) (bE Tryz.func25 (by kernel_rfl) rfl)) HRy.out ?_;rintro v wa ⟨rfl,hIa⟩;obtain⟨a1,a2,a3,a4⟩:=iR.out _ hIa)
         | (refine iU (by rfl) (bP (vs:=#[.agg #[.int .i64 2,.slice ta p.seed.lab.ps.length tc]]) (by simp[Act.eval]) (bE Tryz.func27 (by kernel_rfl) rfl)) (HRe.out _ hIa) ?_;rintro vr wb ⟨hvr,hIb⟩;obtain⟨b1',b2',b3',b4'⟩:=iR.out _ hIb)
         | (refine iU (by rfl) (bP (vs:=#[.agg #[.int .i64 2,.slice none 0 0],vr]) (by simp[Act.eval]) (bE Tryz.func26 (by kernel_rfl) rfl)) (HLe.out _ _ hvr hIb) ?_;rintro v wd ⟨rfl,hIc⟩))
        | fail
        all_goals
         go_wp2_with fail
         go_meet;exact⟨rfl,ah (EG.out _ hIc)⟩
      case rest =>
      rename World=>w9
      obtain⟨rfl,H9⟩:=hcut;clear H8;go_upto_if 58 with fail
      go_cut [] (fun wx=>∃(sa:Option Addr) (sc:Nat),Hid (Er w rb b1 x (.slice (some ⟨rb+1,0,none⟩) 3 3) ov (dY++dP 4 ((l.take k).map PV.plain)) tb p (.slice fa p.lines.length fc) (.slice ga p.seed.ls.length gc) wx/\GV wx tl p.lab sa sc))
      case first =>
       cases hg:p.good with
       | true =>
        have HE:Hid (p.lab=p.t):=ah (by rw[PV.xI,aD hg]);rw[Bool.not_true];clear hg;go_wp2_with fail
        go_meet;exact⟨ta,tc,by rw[HE.out];exact H9⟩
       | false =>
        have HE:Hid (p.lab=eX):=ah (by rw[PV.xI,aA (by rw[hg];decide)]);rw[Bool.not_false];have c0:=(H9.out.1.mem.one.cell 0).trans rfl;have c1:=(H9.out.1.mem.one.cell 1).trans rfl;have t0:w9.cell? ⟨tl,0,none⟩=some (.int .i64 2):=(H9.out.2.blk.cell 0).trans rfl;have t1:w9.cell? ⟨tl,1,none⟩=some (.slice ta p.seed.lab.ps.length tc):=(H9.out.2.blk.cell 1).trans rfl;have tf:=H9.out.2.blk.free;clear hg;go_wp2_with fail
        go_meet;refine⟨none,0,ah ?_⟩;have hk:Kept (·=tl) w9 ((w9.setCell ⟨tl,0,none⟩ (.int .i64 2)).setCell ⟨tl,1,none⟩ (.slice none 0 0)):=((Kept.refl (·=tl) w9).bC tl 0 _ rfl).bC tl 1 _ rfl;refine⟨H9.out.1.other H9.out.2.blk hk Zm.out.1 Zm.out.2,?_⟩;rw[HE.out];exact⟨((H9.out.2.blk.set 0 (.int .i64 2)).set 1 (.slice none 0 0)).cells (by simp only[ay,aG,aH];rfl),aJ.nil _ _⟩
      case rest =>
      rename World=>w10
      obtain⟨sa,sc,Ue⟩:=hcut;clear H9;have HCo:=ah (fun W hW=>Pb W p.lines (.slice fa p.lines.length fc) (.int .i64 p.seed.d) (.slice ga p.seed.ls.length gc) (.int .i64 p.home) hW Hpk.out.lines Hpk.out.len);have z0:w10.cell? ⟨tb,0,none⟩=some (.slice fa p.lines.length fc):=(Ue.out.1.prog.cell 0).trans rfl;have z1:w10.cell? ⟨tb,1,none⟩=some (.int .i64 p.seed.d):=(Ue.out.1.prog.cell 1).trans rfl;have z2:w10.cell? ⟨tb,2,none⟩=some (.slice ga p.seed.ls.length gc):=(Ue.out.1.prog.cell 2).trans rfl;have z3:w10.cell? ⟨tb,3,none⟩=some (.int .i64 p.home):=(Ue.out.1.prog.cell 3).trans rfl;go_wp2_with fail
      refine(HCo.out w10 Ue.out.1.lines).mono ?_;rintro e w11 ⟨vc,rfl,Bc,hb11⟩;clear z0 z1 z2 z3 HCo;obtain⟨cl,hcl⟩:∃cl,(mX p.lines).length=cl:=⟨_,rfl⟩;have Hcl:=ah hcl;rw[hcl]at Bc;obtain⟨ca,cc,rfl,ain,YB⟩:=aJ.form Bc;have H11:Hid (Er w rb b1 x (.slice (some ⟨rb+1,0,none⟩) 3 3) ov (dY++dP 4 ((l.take k).map PV.plain)) tb p (.slice fa p.lines.length fc) (.slice ga p.seed.ls.length gc) w11/\GV w11 tl p.lab sa sc):=ah ⟨Ue.out.1.below hb11,Ue.out.2.below hb11⟩;obtain⟨m,hm⟩:∃m,m=min cl 576:=⟨_,rfl⟩;have hcl0:0<cl:=by rw[<-hcl];exact Lc _
      obtain⟨cg,hcg,-,-⟩:=aJ.cells Bc hcl0;subst hcg;have Hdt:Hid (dV w11 (.slice (some ⟨cg,0,none⟩) m cc) ((rP p.lines).take 576)):=ah (Ef Bc Hpk.out.lines hcl hm);have hmin:(if(576:Int)<(cl:Int)then(576:Int)else(cl:Int))=(m:Int):=by rw[hm];split<;>omega
      have hslt:=MG cg cl cc m (by omega);obtain⟨sl,hsl⟩:=H11.out.1.mem.split
      have hN:(dY++dP 4 ((l.take k).map PV.plain)).length=4+3*k:=by
       rw[aO,oq,List.length_map,List.length_take];show 4+_=_
       omega
      obtain⟨oa3,oc3,hov,abT,ahR⟩:=aJ.form (aJ.own hsl.row);rw[hN]at hov abT;subst hov;have HSl:=ah hsl;have HN:=ah hN;have z4:w11.cell? ⟨rb+1+1,4,none⟩=some (.slice oa3 (4+3*k) oc3):=(H11.out.1.mem.cfg.cell 4).trans rfl;clear Bc hcl hb11 hsl hN Ue hm hcl0;generalize hNk:4+3*k=N at *;have HNk:=ah hNk;have aiw:(N:Int)<=16:=by have:=Zt.out;omega
      have hw2:IntKind.i64.wrap ((N:Int)+2)=(N:Int)+2:=aV _ (by omega);have hw3:IntKind.i64.wrap ((N:Int)+3)=(N:Int)+3:=aV _ (by omega);have hw4:IntKind.u64.wrap ((N:Int)+3)=(N:Int)+3:=IntWalk.u64_in _ (by omega);have hhm:bits .and .i64 p.home 1=p.home%2:=and1 _;clear hNk;go_upto_region 15 with fail
      obtain⟨IT,hIT⟩:∃IT:World->Prop,IT=fun W=>(Er w rb b1 x (.slice (some ⟨rb+1,0,none⟩) 3 3) (.slice oa3 N oc3) (dY++dP 4 ((l.take k).map PV.plain)) tb p (.slice fa p.lines.length fc) (.slice ga p.seed.ls.length gc) W/\GV W tl p.lab sa sc):=⟨_,rfl⟩
      have EG:Hid (∀W,IT W->(Er w rb b1 x (.slice (some ⟨rb+1,0,none⟩) 3 3) (.slice oa3 N oc3) (dY++dP 4 ((l.take k).map PV.plain)) tb p (.slice fa p.lines.length fc) (.slice ga p.seed.ls.length gc) W/\GV W tl p.lab sa sc)):=ah (fun W h=>by rw[hIT]at h;exact h);have LU:Hid (∀W W',Below W.heap.size W W'->IT W->IT W'):=ah (fun W W' q h=>by rw[hIT]at h ⊢;exact⟨h.1.below q,h.2.below q⟩);have HD0:Hid (IT w11):=ah (by rw[hIT];exact H11.out);have HD:Hid (IT w11.drew):=ah (LU.out _ _ ((aC _ w11).drew) HD0.out)
      have iR:Hid (∀W,IT W->W.cell? ⟨rb+1+1,4,none⟩=some (.slice oa3 N oc3)/\W.cell? ⟨tl,0,none⟩=some (.int .i64 (p.lab.d:Nat))/\W.cell? ⟨tl,1,none⟩=some (.slice sa p.lab.ps.length sc)/\W.cell? ⟨tb,3,none⟩=some (.int .i64 p.home)/\W.cell? ⟨b1,0,none⟩=some (.int .i64 2)/\W.cell? ⟨b1,1,none⟩=some (.slice none 0 0)):=ah (fun W h=>by
       obtain⟨h1,h2⟩:=EG.out W h;exact⟨(h1.mem.cfg.cell 4).trans rfl,(h2.blk.cell 0).trans rfl,(h2.blk.cell 1).trans rfl,(h1.prog.cell 3).trans rfl,(h1.mem.one.cell 0).trans rfl,(h1.mem.one.cell 1).trans rfl⟩)
      clear hIT;obtain⟨i0,hi0,hz0,hz1,hz2⟩:=info_parts KC;have yM:=ah hi0;have lJ:=ah hz0;have lI:=ah hz1;have kT:=ah hz2;have ZK:Hid (∀W,Calls Tryz.prog 22 #[.int .i64 4] W fun e w'=>∃v,e=.returned v/\(v=.agg #[.int .i64 4,.slice none 0 0]/\Below W.heap.size W w')):=ah (fun W=>(SH.out 4 W).mono (fun e w' q=>⟨_,q.1,rfl,q.2⟩));clear hi0 hz0 hz1 hz2;refine EM (fun W=>W.cell? ⟨rb+1+1,4,none⟩=some (.slice oa3 N oc3)/\W.cell? ⟨tl,0,none⟩=some (.int .i64 (p.lab.d:Nat))/\W.cell? ⟨tl,1,none⟩=some (.slice sa p.lab.ps.length sc)/\W.cell? ⟨tb,3,none⟩=some (.int .i64 p.home)/\W.cell? ⟨b1,0,none⟩=some (.int .i64 2)/\W.cell? ⟨b1,1,none⟩=some (.slice none 0 0)) 29 (by kernel_rfl) ?_;have hS:(fun W=>W.cell? ⟨rb+1+1,4,none⟩=some (.slice oa3 N oc3)/\W.cell? ⟨tl,0,none⟩=some (.int .i64 (p.lab.d:Nat))/\W.cell? ⟨tl,1,none⟩=some (.slice sa p.lab.ps.length sc)/\W.cell? ⟨tb,3,none⟩=some (.int .i64 p.home)/\W.cell? ⟨b1,0,none⟩=some (.int .i64 2)/\W.cell? ⟨b1,1,none⟩=some (.slice none 0 0)) w11.drew:=iR.out _ HD.out;refine bM (i:=0) (oi:=?o0) (v:=?v0) ?a0 (by kernel_rfl) (by kernel_rfl) (by kernel_rfl) (by kernel_rfl) (by decide) (by kernel_rfl) ?q0 (Or.inl ⟨?w0,?y0⟩) hS ?r0
      case a0=>(simp only[aS,aN];rfl)
      case w0=>rfl
      case y0=>(intro W hSw;(try dsimp only at hSw);go_simp;try with_reducible rfl)
      case q0=>exact fun _ _ _ h=>h
      try simp only[Act.put]
      try simp only[ay]
      try simp only[aH]
      try simp only[aG]
      refine bM (i:=1) (oi:=?o1) (v:=?v1) ?a1 (by kernel_rfl) (by kernel_rfl) (by kernel_rfl) (by kernel_rfl) (by decide) (by kernel_rfl) ?q1 (Or.inl ⟨?w1,?y1⟩) hS ?r1
      case a1=>(simp only[aS,aP,aN];rfl)
      case w1=>rfl
      case y1=>(intro W hSw;(try dsimp only at hSw);go_simp;try with_reducible rfl)
      case q1=>exact fun _ _ _ h=>h
      try simp only[Act.put]
      try simp only[ay]
      try simp only[aH]
      try simp only[aG]
      refine bM (i:=2) (oi:=?o2) (v:=?v2) ?a2 (by kernel_rfl) (by kernel_rfl) (by kernel_rfl) (by kernel_rfl) (by decide) (by kernel_rfl) ?q2 (Or.inl ⟨?w2,?y2⟩) hS ?r2
      case a2=>(simp only[aS,aP,aN];rfl)
      case w2=>rfl
      case y2=>(intro W hSw;(try dsimp only at hSw);go_simp;try with_reducible rfl)
      case q2=>exact fun _ _ _ h=>h
      try simp only[Act.put]
      try simp only[ay]
      try simp only[aH]
      try simp only[aG]
      refine bM (i:=4) (oi:=?o4) (v:=?v4) ?a4 (by kernel_rfl) (by kernel_rfl) (by kernel_rfl) (by kernel_rfl) (by decide) (by kernel_rfl) ?q4 (Or.inl ⟨?w4,?y4⟩) hS ?r4
      case a4=>(simp only[aS,aP,aN];rfl)
      case w4=>rfl
      case y4=>(intro W hSw;(try dsimp only at hSw);go_simp;try with_reducible rfl)
      case q4=>exact fun _ _ _ h=>h
      try simp only[Act.put]
      try simp only[ay]
      try simp only[aH]
      try simp only[aG]
      refine bM (i:=5) (oi:=?o5) (v:=?v5) ?a5 (by kernel_rfl) (by kernel_rfl) (by kernel_rfl) (by kernel_rfl) (by decide) (by kernel_rfl) ?q5 (Or.inl ⟨?w5,?y5⟩) hS ?r5
      case a5=>(simp only[aS,aP,aN];rfl)
      case w5=>rfl
      case y5=>(intro W hSw;(try dsimp only at hSw);go_simp;try with_reducible rfl)
      case q5=>exact fun _ _ _ h=>h
      try simp only[Act.put]
      try simp only[ay]
      try simp only[aH]
      try simp only[aG]
      refine bM (i:=6) (oi:=?o6) (v:=?v6) ?a6 (by kernel_rfl) (by kernel_rfl) (by kernel_rfl) (by kernel_rfl) (by decide) (by kernel_rfl) ?q6 (Or.inl ⟨?w6,?y6⟩) hS ?r6
      case a6=>(simp only[aS,aP,aN];rfl)
      case w6=>rfl
      case y6=>(intro W hSw;(try dsimp only at hSw);go_simp;try with_reducible rfl)
      case q6=>exact fun _ _ _ h=>h
      try simp only[Act.put]
      try simp only[ay]
      try simp only[aH]
      try simp only[aG]
      refine bM (i:=7) (oi:=?o7) (v:=?v7) ?a7 (by kernel_rfl) (by kernel_rfl) (by kernel_rfl) (by kernel_rfl) (by decide) (by kernel_rfl) ?q7 (Or.inl ⟨?w7,?y7⟩) hS ?r7
      case a7=>(simp only[aS,aP,aN];rfl)
      case w7=>rfl
      case y7=>(intro W hSw;(try dsimp only at hSw);go_simp;try with_reducible rfl)
      case q7=>exact fun _ _ _ h=>h
      try simp only[Act.put]
      try simp only[ay]
      try simp only[aH]
      try simp only[aG]
      refine bM (i:=8) (oi:=?o8) (v:=?v8) ?a8 (by kernel_rfl) (by kernel_rfl) (by kernel_rfl) (by kernel_rfl) (by decide) (by kernel_rfl) ?q8 (Or.inl ⟨?w8,?y8⟩) hS ?r8
      case a8=>(simp only[aS,aP,aN];rfl)
      case w8=>rfl
      case y8=>(intro W hSw;(try dsimp only at hSw);go_simp;try with_reducible rfl)
      case q8=>exact fun _ _ _ h=>h
      try simp only[Act.put]
      try simp only[ay]
      try simp only[aH]
      try simp only[aG]
      refine bM (i:=10) (oi:=?o10) (v:=?v10) ?a10 (by kernel_rfl) (by kernel_rfl) (by kernel_rfl) (by kernel_rfl) (by decide) (by kernel_rfl) ?q10 (Or.inl ⟨?w10,?y10⟩) hS ?r10
      case a10=>(simp only[aS,aP,aN];rfl)
      case w10=>rfl
      case y10=>(intro W hSw;(try dsimp only at hSw);go_simp;try with_reducible rfl)
      case q10=>exact fun _ _ _ h=>h
      try simp only[Act.put]
      try simp only[ay]
      try simp only[aH]
      try simp only[aG]
      refine bM (i:=11) (oi:=?o11) (v:=?v11) ?a11 (by kernel_rfl) (by kernel_rfl) (by kernel_rfl) (by kernel_rfl) (by decide) (by kernel_rfl) ?q11 (Or.inl ⟨?w11,?y11⟩) hS ?r11
      case a11=>(simp only[aS,aP,aN];rfl)
      case w11=>rfl
      case y11=>(intro W hSw;(try dsimp only at hSw);go_simp;try with_reducible rfl)
      case q11=>exact fun _ _ _ h=>h
      try simp only[Act.put]
      try simp only[ay]
      try simp only[aH]
      try simp only[aG]
      refine bM (i:=12) (oi:=?o12) (v:=?v12) ?a12 (by kernel_rfl) (by kernel_rfl) (by kernel_rfl) (by kernel_rfl) (by decide) (by kernel_rfl) ?q12 (Or.inl ⟨?w12,?y12⟩) hS ?r12
      case a12=>(simp only[aS,aP,aN];rfl)
      case w12=>rfl
      case y12=>(intro W hSw;(try dsimp only at hSw);go_simp;try with_reducible rfl)
      case q12=>exact fun _ _ _ h=>h
      try simp only[Act.put]
      try simp only[ay]
      try simp only[aH]
      try simp only[aG]
      refine bM (i:=13) (oi:=?o13) (v:=?v13) ?a13 (by kernel_rfl) (by kernel_rfl) (by kernel_rfl) (by kernel_rfl) (by decide) (by kernel_rfl) ?q13 (Or.inl ⟨?w13,?y13⟩) hS ?r13
      case a13=>(simp only[aS,aP,aN];rfl)
      case w13=>rfl
      case y13=>(intro W hSw;(try dsimp only at hSw);go_simp;try with_reducible rfl)
      case q13=>exact fun _ _ _ h=>h
      try simp only[Act.put]
      try simp only[ay]
      try simp only[aH]
      try simp only[aG]
      refine bM (i:=14) (oi:=?o14) (v:=?v14) ?a14 (by kernel_rfl) (by kernel_rfl) (by kernel_rfl) (by kernel_rfl) (by decide) (by kernel_rfl) ?q14 (Or.inl ⟨?w14,?y14⟩) hS ?r14
      case a14=>(simp only[aS,aP,aN];rfl)
      case w14=>rfl
      case y14=>(intro W hSw;(try dsimp only at hSw);go_simp;try with_reducible rfl)
      case q14=>exact fun _ _ _ h=>h
      try simp only[Act.put]
      try simp only[ay]
      try simp only[aH]
      try simp only[aG]
      refine bM (i:=15) (oi:=?o15) (v:=?v15) ?a15 (by kernel_rfl) (by kernel_rfl) (by kernel_rfl) (by kernel_rfl) (by decide) (by kernel_rfl) ?q15 (Or.inl ⟨?w15,?y15⟩) hS ?r15
      case a15=>(simp only[aS,aP,aN];rfl)
      case w15=>rfl
      case y15=>(intro W hSw;(try dsimp only at hSw);go_simp;try with_reducible rfl)
      case q15=>exact fun _ _ _ h=>h
      try simp only[Act.put]
      try simp only[ay]
      try simp only[aH]
      try simp only[aG]
      refine bM (i:=16) (oi:=?o16) (v:=?v16) ?a16 (by kernel_rfl) (by kernel_rfl) (by kernel_rfl) (by kernel_rfl) (by decide) (by kernel_rfl) ?q16 (Or.inl ⟨?w16,?y16⟩) hS ?r16
      case a16=>(simp only[aS,aP,aN];rfl)
      case w16=>rfl
      case y16=>(intro W hSw;(try dsimp only at hSw);go_simp;try with_reducible rfl)
      case q16=>exact fun _ _ _ h=>h
      try simp only[Act.put]
      try simp only[ay]
      try simp only[aH]
      try simp only[aG]
      refine bM (i:=19) (oi:=?o19) (v:=?v19) ?a19 (by kernel_rfl) (by kernel_rfl) (by kernel_rfl) (by kernel_rfl) (by decide) (by kernel_rfl) ?q19 (Or.inl ⟨?w19,?y19⟩) hS ?r19
      case a19=>(simp only[aS,aP,aN];rfl)
      case w19=>rfl
      case y19=>(intro W hSw;(try dsimp only at hSw);go_simp;try with_reducible rfl)
      case q19=>exact fun _ _ _ h=>h
      try simp only[Act.put]
      try simp only[ay]
      try simp only[aH]
      try simp only[aG]
      refine bM (i:=20) (oi:=?o20) (v:=?v20) ?a20 (by kernel_rfl) (by kernel_rfl) (by kernel_rfl) (by kernel_rfl) (by decide) (by kernel_rfl) ?q20 (Or.inl ⟨?w20,?y20⟩) hS ?r20
      case a20=>(simp only[aS,aP,aN];rfl)
      case w20=>rfl
      case y20=>(intro W hSw;(try dsimp only at hSw);go_simp;try with_reducible rfl)
      case q20=>exact fun _ _ _ h=>h
      try simp only[Act.put]
      try simp only[ay]
      try simp only[aH]
      try simp only[aG]
      refine bM (i:=21) (oi:=?o21) (v:=?v21) ?a21 (by kernel_rfl) (by kernel_rfl) (by kernel_rfl) (by kernel_rfl) (by decide) (by kernel_rfl) ?q21 (Or.inl ⟨?w21,?y21⟩) hS ?r21
      case a21=>(simp only[aS,aP,aN];rfl)
      case w21=>rfl
      case y21=>(intro W hSw;(try dsimp only at hSw);go_simp;try with_reducible rfl)
      case q21=>exact fun _ _ _ h=>h
      try simp only[Act.put]
      try simp only[ay]
      try simp only[aH]
      try simp only[aG]
      refine bM (i:=22) (oi:=?o22) (v:=?v22) ?a22 (by kernel_rfl) (by kernel_rfl) (by kernel_rfl) (by kernel_rfl) (by decide) (by kernel_rfl) ?q22 (Or.inl ⟨?w22,?y22⟩) hS ?r22
      case a22=>(simp only[aS,aP,aN];rfl)
      case w22=>rfl
      case y22=>(intro W hSw;(try dsimp only at hSw);go_simp;try with_reducible rfl)
      case q22=>exact fun _ _ _ h=>h
      try simp only[Act.put]
      try simp only[ay]
      try simp only[aH]
      try simp only[aG]
      refine bM (i:=23) (oi:=?o23) (v:=?v23) ?a23 (by kernel_rfl) (by kernel_rfl) (by kernel_rfl) (by kernel_rfl) (by decide) (by kernel_rfl) ?q23 (Or.inl ⟨?w23,?y23⟩) hS ?r23
      case a23=>(simp only[aS,aP,aN];rfl)
      case w23=>rfl
      case y23=>(intro W hSw;(try dsimp only at hSw);go_simp;try with_reducible rfl)
      case q23=>exact fun _ _ _ h=>h
      try simp only[Act.put]
      try simp only[ay]
      try simp only[aH]
      try simp only[aG]
      refine bM (i:=24) (oi:=?o24) (v:=?v24) ?a24 (by kernel_rfl) (by kernel_rfl) (by kernel_rfl) (by kernel_rfl) (by decide) (by kernel_rfl) ?q24 (Or.inl ⟨?w24,?y24⟩) hS ?r24
      case a24=>(simp only[aS,aP,aN];rfl)
      case w24=>rfl
      case y24=>(intro W hSw;(try dsimp only at hSw);go_simp;try with_reducible rfl)
      case q24=>exact fun _ _ _ h=>h
      try simp only[Act.put]
      try simp only[ay]
      try simp only[aH]
      try simp only[aG]
      refine bM (i:=25) (oi:=?o25) (v:=?v25) ?a25 (by kernel_rfl) (by kernel_rfl) (by kernel_rfl) (by kernel_rfl) (by decide) (by kernel_rfl) ?q25 (Or.inl ⟨?w25,?y25⟩) hS ?r25
      case a25=>(simp only[aS,aP,aN];rfl)
      case w25=>rfl
      case y25=>(intro W hSw;(try dsimp only at hSw);go_simp;try with_reducible rfl)
      case q25=>exact fun _ _ _ h=>h
      try simp only[Act.put]
      try simp only[ay]
      try simp only[aH]
      try simp only[aG]
      refine gD (rs:=[3,17]) (by kernel_rfl) (by simp) ?_;refine gB.cons (o:=?O3) ?A3 (fun K hK=>?s3) ?m3
      case A3=>(simp only[aS,aP,aN];rfl)
      case s3 =>
       refine cB (by rfl) (bP (vs:=#[.int .i64 4]) (by simp[Act.eval]) (bE Tryz.func22 (by kernel_rfl) rfl)) (ZK.out _) ?_;rintro v wa ⟨rfl,hba⟩;have hJa:IT wa:=LU.out _ _ hba HD.out;refine hK.out _ _ (fun _=>iR.out _ hJa) ?_;clear hK;try simp only[Act.put]
       try simp only[ay]
       try simp only[aH]
       try simp only[aG]
       refine bM (i:=9) (oi:=?o9x) (v:=?v9x) ?a9x (by kernel_rfl) (by kernel_rfl) (by kernel_rfl) (by kernel_rfl) (by decide) (by kernel_rfl) ?q9x (Or.inl ⟨?w9x,?y9x⟩) (iR.out _ hJa) ?r9x
       case a9x=>(simp only[aS,aP,aN];rfl)
       case w9x=>rfl
       case y9x=>(intro W hSw;(try dsimp only at hSw);go_simp;try with_reducible rfl)
       case q9x=>exact fun _ _ _ h=>h
       try simp only[Act.put]
       try simp only[ay]
       try simp only[aH]
       try simp only[aG]
       refine gD (rs:=[17]) (by kernel_rfl) (by simp) ?_;refine gB.cons (o:=?ajA) ?akU (fun K hK=>?ahe) gB.nil
       case akU=>(simp only[aS,aP,aN];rfl)
       case ahe =>
        go_simp
        have Vx:Below wa.heap.size wa (wa.alloc (.cells #[.int .i64 0,.int .u64 ((N:Int)+3),.int .i64 0,.int .i64 9,.bool false,.int .i64 32,.int .u64 2,.int .i64 0,.int .i64 2,.bool true,.int .i64 34,.int .u64 3,.int .i64 0,.int .i64 1,.bool true] 125)):=(aC _ _).alloc (aj _) _;have hJ:IT (wa.alloc (.cells #[.int .i64 0,.int .u64 ((N:Int)+3),.int .i64 0,.int .i64 9,.bool false,.int .i64 32,.int .u64 2,.int .i64 0,.int .i64 2,.bool true,.int .i64 34,.int .u64 3,.int .i64 0,.int .i64 1,.bool true] 125)):=LU.out _ _ Vx hJa;have hO:=(HSl.out.below (aT ((aC _ w11).drew) hba)).below Vx;have hM:iM (wa.alloc (.cells #[.int .i64 0,.int .u64 ((N:Int)+3),.int .i64 0,.int .i64 9,.bool false,.int .i64 32,.int .u64 2,.int .i64 0,.int .i64 2,.bool true,.int .i64 34,.int .u64 3,.int .i64 0,.int .i64 1,.bool true] 125)) (.slice (some ⟨wa.heap.size,0,none⟩) 3 3) [⟨0,(N:Int)+3,0,9,false⟩,⟨32,2,0,2,true⟩,⟨34,3,0,1,true⟩]:=Dn wa N;have hD:=aJ.below (aJ.below Hdt.out (aT ((aC _ w11).drew) hba) (aj _)) Vx (aj _);refine hK.out _ _ (fun _=>iR.out _ hJ) ?_;clear hK;try simp only[Act.put]
        try simp only[ay]
        try simp only[aH]
        try simp only[aG]
        refine bM (i:=18) (oi:=?aiu) (v:=?ahq) ?aiQ (by kernel_rfl) (by kernel_rfl) (by kernel_rfl) (by kernel_rfl) (by decide) (by kernel_rfl) ?ahj (Or.inl ⟨?agW,?agS⟩) (iR.out _ hJ) ?aij
        case aiQ=>(simp only[aS,aP,aN];rfl)
        case agW=>rfl
        case agS=>(intro W hSw;(try dsimp only at hSw);go_simp;try with_reducible rfl)
        case ahj=>exact fun _ _ _ h=>h
        try simp only[Act.put]
        try simp only[ay]
        try simp only[aH]
        try simp only[aG]
        have hA:Below (wa.alloc (.cells #[.int .i64 0,.int .u64 ((N:Int)+3),.int .i64 0,.int .i64 9,.bool false,.int .i64 32,.int .u64 2,.int .i64 0,.int .i64 2,.bool true,.int .i64 34,.int .u64 3,.int .i64 0,.int .i64 1,.bool true] 125)).heap.size (wa.alloc (.cells #[.int .i64 0,.int .u64 ((N:Int)+3),.int .i64 0,.int .i64 9,.bool false,.int .i64 32,.int .u64 2,.int .i64 0,.int .i64 2,.bool true,.int .i64 34,.int .u64 3,.int .i64 0,.int .i64 1,.bool true] 125)) ((wa.alloc (.cells #[.int .i64 0,.int .u64 ((N:Int)+3),.int .i64 0,.int .i64 9,.bool false,.int .i64 32,.int .u64 2,.int .i64 0,.int .i64 2,.bool true,.int .i64 34,.int .u64 3,.int .i64 0,.int .i64 1,.bool true] 125)).alloc (.cells (qg N p.home p.lab (.slice sa p.lab.ps.length sc) (.slice (some ⟨wa.heap.size,0,none⟩) 3 3) (.slice (some ⟨cg,0,none⟩) m cc)) 120)):=(aC _ _).alloc (aj _) _;have hJ2:IT ((wa.alloc (.cells #[.int .i64 0,.int .u64 ((N:Int)+3),.int .i64 0,.int .i64 9,.bool false,.int .i64 32,.int .u64 2,.int .i64 0,.int .i64 2,.bool true,.int .i64 34,.int .u64 3,.int .i64 0,.int .i64 1,.bool true] 125)).alloc (.cells (qg N p.home p.lab (.slice sa p.lab.ps.length sc) (.slice (some ⟨wa.heap.size,0,none⟩) 3 3) (.slice (some ⟨cg,0,none⟩) m cc)) 120)):=LU.out _ _ hA hJ;have hO2:=hO.below hA;have hM2:=aJ.below hM hA (aj _)
        have hD2:=aJ.below hD hA (aj _);have hR2:=hO2.row;rw[HN.out]at hR2;refine gD (rs:=[26]) (by kernel_rfl) (by simp) ?_;refine gB.cons (o:=?ajx) ?akS (fun K hK=>?ahc) gB.nil
        case akS=>(simp only[aS,aP,aN];rfl)
        case ahc =>
         go_simp
         refine hK.out _ _ (fun _=>iR.out _ hJ2) ?_;clear hK;try simp only[Act.put]
         try simp only[ay]
         try simp only[aH]
         try simp only[aG]
         refine gD (rs:=[27]) (by kernel_rfl) (by simp) ?_;refine gB.cons (o:=?ajv) ?akQ (fun K hK=>?aha) gB.nil
         case akQ=>(simp only[aS,aP,aN];rfl)
         case aha =>
          refine step_append_lies _ (by rfl) (.tmp 66) (.tmp 91) 79 (by rfl) w.heap.size 120 i0 _ 12 160 Tryz.underlying79 yM.out lJ.out lI.out kT.out rfl (by decide) (.slice oa3 N oc3) N (jU (dY++dP 4 ((l.take k).map PV.plain)) sl) (by simp[Act.eval]) hR2 ⟨(wa.alloc (.cells #[.int .i64 0,.int .u64 ((N:Int)+3),.int .i64 0,.int .i64 9,.bool false,.int .i64 32,.int .u64 2,.int .i64 0,.int .i64 2,.bool true,.int .i64 34,.int .u64 3,.int .i64 0,.int .i64 1,.bool true] 125)).heap.size,0,none⟩ 3 3 (qg N p.home p.lab (.slice sa p.lab.ps.length sc) (.slice (some ⟨wa.heap.size,0,none⟩) 3 3) (.slice (some ⟨cg,0,none⟩) m cc)).toList (by simp[Act.eval]) rfl (World.news_of_block (aR.new (wa.alloc (.cells #[.int .i64 0,.int .u64 ((N:Int)+3),.int .i64 0,.int .i64 9,.bool false,.int .i64 32,.int .u64 2,.int .i64 0,.int .i64 2,.bool true,.int .i64 34,.int .u64 3,.int .i64 0,.int .i64 1,.bool true] 125)) (qg N p.home p.lab (.slice sa p.lab.ps.length sc) (.slice (some ⟨wa.heap.size,0,none⟩) 3 3) (.slice (some ⟨cg,0,none⟩) m cc)) 120)) (by simp[qg,Value.oneCell']) (by omega) (by unfold maxLen;omega) (by omega) ((EG.out _ hJ2).1.mem.eO.size) _ rfl ?_;intro g5 cap w12 hown5 fI hg5 uU;obtain⟨Gm,f12,l12⟩:=vI (EG.out _ hJ2).1 (EG.out _ hJ2).2 hO2 fI
          have hF:=vF Hp.out HNk.out (EG.out _ hJ2).1 (EG.out _ hJ2).2 hO2 hM2 hD2 hown5 fI;have HF:=ah hF;clear hF hown5;refine hK.out _ _ (fun _=>Gm) ?_;clear hK;try simp only[Act.put]
          try simp only[ay]
          try simp only[aH]
          try simp only[aG]
          refine bM (i:=28) (oi:=?ais) (v:=?aho) ?aiO (by kernel_rfl) (by kernel_rfl) (by kernel_rfl) (by kernel_rfl) (by decide) (by kernel_rfl) ?ahh (Or.inl ⟨?agU,?agQ⟩) Gm ?ahL
          case aiO=>(simp only[aS,aP,aN];rfl)
          case agU=>rfl
          case agQ=>(intro W hSw;(try dsimp only at hSw);go_simp;try with_reducible rfl)
          case ahh=>exact fun _ _ _ h=>h
          try simp only[Act.put]
          try simp only[ay]
          try simp only[aH]
          try simp only[aG]
          obtain⟨g12,-⟩:=Gm;refine gD (rs:=[29]) (by kernel_rfl) (by simp) ?_;refine gB.cons (o:=?ajt) ?akO (fun K hK=>?agY) gB.nil
          case akO=>(simp only[aS,aP,aN];rfl)
          case agY =>
           go_simp
           refine hK.out _ _ (fun h=>by simp at h) ?_;clear hK;try simp only[Act.put]
           try simp only[ay]
           try simp only[aH]
           try simp only[aG]
           refine vE (by kernel_rfl) ?_ _;go_wp2_with fail
           go_roundg (l.length-(k+1))
           case measure=>omega
           case rel=>exact⟨k+1,_,by omega,by have:=Zt.out;omega,by go_num,HF⟩
      case m3 =>
      refine gB.cons (o:=?ajy) ?akT (fun K hK=>?ahd) gB.nil
      case akT=>(simp only[aS,aP,aN];rfl)
      case ahd =>
       go_simp
       have Vx:Below w11.heap.size w11 (w11.alloc (.cells #[.int .i64 0,.int .u64 ((N:Int)+3),.int .i64 0,.int .i64 9,.bool false,.int .i64 32,.int .u64 2,.int .i64 0,.int .i64 2,.bool true,.int .i64 34,.int .u64 3,.int .i64 0,.int .i64 1,.bool true] 125)).drew:=((aC _ _).alloc (aj _) _).drew;have hJm:IT (w11.alloc (.cells #[.int .i64 0,.int .u64 ((N:Int)+3),.int .i64 0,.int .i64 9,.bool false,.int .i64 32,.int .u64 2,.int .i64 0,.int .i64 2,.bool true,.int .i64 34,.int .u64 3,.int .i64 0,.int .i64 1,.bool true] 125)).drew:=LU.out _ _ Vx HD0.out;refine hK.out _ _ (fun _=>iR.out _ hJm) ?_;clear hK;try simp only[Act.put]
       try simp only[ay]
       try simp only[aH]
       try simp only[aG]
       refine bM (i:=18) (oi:=?ait) (v:=?ahp) ?aiP (by kernel_rfl) (by kernel_rfl) (by kernel_rfl) (by kernel_rfl) (by decide) (by kernel_rfl) ?ahi (Or.inl ⟨?agV,?agR⟩) (iR.out _ hJm) ?aif
       case aiP=>(simp only[aS,aP,aN];rfl)
       case agV=>rfl
       case agR=>(intro W hSw;(try dsimp only at hSw);go_simp;try with_reducible rfl)
       case ahi=>exact fun _ _ _ h=>h
       try simp only[Act.put]
       try simp only[ay]
       try simp only[aH]
       try simp only[aG]
       refine gD (rs:=[3]) (by kernel_rfl) (by simp) ?_;refine gB.cons (o:=?O3z) ?A3z (fun K hK=>?s3z) gB.nil
       case A3z=>(simp only[aS,aP,aN];rfl)
       case s3z =>
        refine cB (by rfl) (bP (vs:=#[.int .i64 4]) (by simp[Act.eval]) (bE Tryz.func22 (by kernel_rfl) rfl)) (ZK.out _) ?_;rintro v wa ⟨rfl,hba⟩;have hJ:IT wa:=LU.out _ _ hba hJm;have hO:=HSl.out.below (aT Vx hba);have hM:iM wa (.slice (some ⟨w11.heap.size,0,none⟩) 3 3) [⟨0,(N:Int)+3,0,9,false⟩,⟨32,2,0,2,true⟩,⟨34,3,0,1,true⟩]:=aJ.below (aJ.below (Dn w11 N) ((aC _ _).drew) (aj _)) hba (aj _);have hD:=aJ.below Hdt.out (aT Vx hba) (aj _);refine hK.out _ _ (fun _=>iR.out _ hJ) ?_;clear hK;try simp only[Act.put]
        try simp only[ay]
        try simp only[aH]
        try simp only[aG]
        refine bM (i:=9) (oi:=?o9z) (v:=?v9z) ?a9z (by kernel_rfl) (by kernel_rfl) (by kernel_rfl) (by kernel_rfl) (by decide) (by kernel_rfl) ?q9z (Or.inl ⟨?w9z,?y9z⟩) (iR.out _ hJ) ?r9z
        case a9z=>(simp only[aS,aP,aN];rfl)
        case w9z=>rfl
        case y9z=>(intro W hSw;(try dsimp only at hSw);go_simp;try with_reducible rfl)
        case q9z=>exact fun _ _ _ h=>h
        try simp only[Act.put]
        try simp only[ay]
        try simp only[aH]
        try simp only[aG]
        have hA:Below wa.heap.size wa (wa.alloc (.cells (qg N p.home p.lab (.slice sa p.lab.ps.length sc) (.slice (some ⟨w11.heap.size,0,none⟩) 3 3) (.slice (some ⟨cg,0,none⟩) m cc)) 120)):=(aC _ _).alloc (aj _) _;have hJ2:IT (wa.alloc (.cells (qg N p.home p.lab (.slice sa p.lab.ps.length sc) (.slice (some ⟨w11.heap.size,0,none⟩) 3 3) (.slice (some ⟨cg,0,none⟩) m cc)) 120)):=LU.out _ _ hA hJ;have hO2:=hO.below hA;have hM2:=aJ.below hM hA (aj _);have hD2:=aJ.below hD hA (aj _);have hR2:=hO2.row;rw[HN.out]at hR2;refine gD (rs:=[26]) (by kernel_rfl) (by simp) ?_;refine gB.cons (o:=?ajw) ?akR (fun K hK=>?ahb) gB.nil
        case akR=>(simp only[aS,aP,aN];rfl)
        case ahb =>
         go_simp
         refine hK.out _ _ (fun _=>iR.out _ hJ2) ?_;clear hK;try simp only[Act.put]
         try simp only[ay]
         try simp only[aH]
         try simp only[aG]
         refine gD (rs:=[27]) (by kernel_rfl) (by simp) ?_;refine gB.cons (o:=?aju) ?akP (fun K hK=>?agZ) gB.nil
         case akP=>(simp only[aS,aP,aN];rfl)
         case agZ =>
          refine step_append_lies _ (by rfl) (.tmp 66) (.tmp 91) 79 (by rfl) w.heap.size 120 i0 _ 12 160 Tryz.underlying79 yM.out lJ.out lI.out kT.out rfl (by decide) (.slice oa3 N oc3) N (jU (dY++dP 4 ((l.take k).map PV.plain)) sl) (by simp[Act.eval]) hR2 ⟨wa.heap.size,0,none⟩ 3 3 (qg N p.home p.lab (.slice sa p.lab.ps.length sc) (.slice (some ⟨w11.heap.size,0,none⟩) 3 3) (.slice (some ⟨cg,0,none⟩) m cc)).toList (by simp[Act.eval]) rfl (World.news_of_block (aR.new wa (qg N p.home p.lab (.slice sa p.lab.ps.length sc) (.slice (some ⟨w11.heap.size,0,none⟩) 3 3) (.slice (some ⟨cg,0,none⟩) m cc)) 120)) (by simp[qg,Value.oneCell']) (by omega) (by unfold maxLen;omega) (by omega) ((EG.out _ hJ2).1.mem.eO.size) _ rfl ?_;intro g5 cap w12 hown5 fI hg5 uU;obtain⟨Gm,f12,l12⟩:=vI (EG.out _ hJ2).1 (EG.out _ hJ2).2 hO2 fI;have hF:=vF Hp.out HNk.out (EG.out _ hJ2).1 (EG.out _ hJ2).2 hO2 hM2 hD2 hown5 fI;have HF:=ah hF;clear hF hown5;refine hK.out _ _ (fun _=>Gm) ?_;clear hK;try simp only[Act.put]
          try simp only[ay]
          try simp only[aH]
          try simp only[aG]
          refine bM (i:=28) (oi:=?air) (v:=?ahn) ?aiN (by kernel_rfl) (by kernel_rfl) (by kernel_rfl) (by kernel_rfl) (by decide) (by kernel_rfl) ?ahg (Or.inl ⟨?agT,?agP⟩) Gm ?ahK
          case aiN=>(simp only[aS,aP,aN];rfl)
          case agT=>rfl
          case agP=>(intro W hSw;(try dsimp only at hSw);go_simp;try with_reducible rfl)
          case ahg=>exact fun _ _ _ h=>h
          try simp only[Act.put]
          try simp only[ay]
          try simp only[aH]
          try simp only[aG]
          obtain⟨g12,-⟩:=Gm;refine gD (rs:=[29]) (by kernel_rfl) (by simp) ?_;refine gB.cons (o:=?ajs) ?akN (fun K hK=>?agX) gB.nil
          case akN=>(simp only[aS,aP,aN];rfl)
          case agX =>
           go_simp
           refine hK.out _ _ (fun h=>by simp at h) ?_;clear hK;try simp only[Act.put]
           try simp only[ay]
           try simp only[aH]
           try simp only[aG]
           refine vE (by kernel_rfl) ?_ _;go_wp2_with fail
           go_roundg (l.length-(k+1))
           case measure=>omega
           case rel=>exact⟨k+1,_,by omega,by have:=Zt.out;omega,by go_num,HF⟩
    ·have hlt':¬(k:Int)<l.length:=by omega
     have HE:Hid (qG w (rb+1+1) b1 x (.slice (some ⟨rb+1,0,none⟩) 3 3) ov (dY++dP 4 ((l.take 4).map PV.plain)) wr/\aR wr rb #[.int .i64 0,.int .i64 0,.int .i64 0,.slice none 0 0,.slice none 0 0] 81):=by
      have:l.take 4=l.take k:=by rw[List.take_of_length_le (by omega),List.take_of_length_le (by omega)]
      rw[this];exact HK
     go_wp2_with fail
     go_meet;exact⟨_,HE⟩
  case rest =>
   rename World=>w13
   obtain⟨ov,HE⟩:=hcut;obtain⟨sl,hsl⟩:=HE.out.1.split;obtain⟨oa9,oc9,hov,-,-⟩:=aJ.form (aJ.own hsl.row);subst hov;have pJ:Hid (mO w13 (.slice oa9 (dY++dP 4 ((l.take 4).map PV.plain)).length oc9) (dY++dP 4 ((l.take 4).map PV.plain))):=ah ⟨sl,hsl.len,hsl.vals,aJ.own hsl.row⟩;generalize hn9:(dY++dP 4 ((l.take 4).map PV.plain)).length=n9 at *;have c0:w13.cell? ⟨rb+1+1,0,none⟩=some (.int .i64 x):=(HE.out.1.cfg.cell 0).trans rfl;have c1:w13.cell? ⟨rb+1+1,1,none⟩=some (.int .i64 600):=(HE.out.1.cfg.cell 1).trans rfl;have c2:w13.cell? ⟨rb+1+1,2,none⟩=some (.int .i64 200):=(HE.out.1.cfg.cell 2).trans rfl;have c3:w13.cell? ⟨rb+1+1,3,none⟩=some (.slice (some ⟨rb+1,0,none⟩) 3 3):=(HE.out.1.cfg.cell 3).trans rfl;have c4:w13.cell? ⟨rb+1+1,4,none⟩=some (.slice oa9 n9 oc9):=(HE.out.1.cfg.cell 4).trans rfl;have r0:=HE.out.2.cell;have rf:=HE.out.2.free;have rl:=HE.out.2.lt;clear hn9 hsl;go_wp2_with fail
   have hk:Kept (·=rb) w13 (((((w13.setCell ⟨rb,0,none⟩ (.int .i64 x)).setCell ⟨rb,1,none⟩ (.int .i64 600)).setCell ⟨rb,2,none⟩ (.int .i64 200)).setCell ⟨rb,3,none⟩ (.slice (some ⟨rb+1,0,none⟩) 3 3)).setCell ⟨rb,4,none⟩ (.slice oa9 n9 oc9)):=(((((Kept.refl (·=rb) w13).bC rb 0 _ rfl).bC rb 1 _ rfl).bC rb 2 _ rfl).bC rb 3 _ rfl).bC rb 4 _ rfl
   have hX:aR (((((w13.setCell ⟨rb,0,none⟩ (.int .i64 x)).setCell ⟨rb,1,none⟩ (.int .i64 600)).setCell ⟨rb,2,none⟩ (.int .i64 200)).setCell ⟨rb,3,none⟩ (.slice (some ⟨rb+1,0,none⟩) 3 3)).setCell ⟨rb,4,none⟩ (.slice oa9 n9 oc9)) rb #[.int .i64 x,.int .i64 600,.int .i64 200,.slice (some ⟨rb+1,0,none⟩) 3 3,.slice oa9 n9 oc9] 81 :=
    (((((HE.out.2.set 0 _).set 1 _).set 2 _).set 3 _).set 4 _).cells (by simp only[ay,aG,aH])
   have hT:=Ag HE.out.2;have hS:=iK HE.out.1.slots hk hT (by decide);refine bodyPost_ret (v:=.agg #[.int .i64 x,.int .i64 600,.int .i64 200,.slice (some ⟨rb+1,0,none⟩) 3 3,.slice oa9 n9 oc9]) (results_cell_row rfl _ _ rb _ _ (0,0) _ rfl hX Tryz.underlying81 rfl (by kernel_rfl)) rfl ⟨.agg #[.int .i64 x,.int .i64 600,.int .i64 200,.slice (some ⟨rb+1,0,none⟩) 3 3,.slice oa9 n9 oc9],rfl,⟨.slice (some ⟨rb+1,0,none⟩) 3 3,.slice oa9 n9 oc9,?_,hS,?_⟩,?_⟩
   ·have e:c%2+1=x:=by have:=HX.out;omega
    show _=Value.agg #[.int .i64 (c%2+1),.int .i64 600,.int .i64 200,_,_]
    rw[e]
   ·obtain⟨ss,h1,h2,h3⟩:=pJ.out
    have e:(dX (l.map PV.plain) c).objs=dY++dP 4 ((l.take 4).map PV.plain):=by rw[pO,List.map_take]
    rw[e];exact⟨ss,h1,fun j o s hj hs=>sW (h2 j o s hj hs) hk hT ⟨by decide,by decide,by decide⟩,iK h3 hk hT (by decide)⟩
   ·have hg:=HE.out.1.ge.1
    exact((Kept.of_below (S:=fun _=>False) HE.out.1.eO).then hk (fun i hi e=>by have e':i=rb:=e;have:=Hrb.out;omega)).below (aj _) (fun _ _ f=>f)
end Go.Proofs.YtiadbhiadhgjkaaGreatDoor
