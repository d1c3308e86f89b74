import Derived.Test.YtiadbhiadhgjkaaGreatDoorZzTe
set_option maxRecDepth 100000
set_option maxHeartbeats 4000000
namespace Go.Proofs.YtiadbhiadhgjkaaGreatDoor
open Go.RowKit
section
variable {w0 w w':World}{g0 g:Gh}{K:Km}{o:Ob}
theorem eD.Xz(h:eD w0 g0 K w g)(ho:K.obj o.name=some o)(hk:o.kind=3){x':Ts}{t:Th}(k:Kept (·=g.tl o.name) w w')(hB:aR w' (g.tl o.name) (jw t x' (g.root o.name) (g.tabs o.name)) 52)
  (hR:kY w' g.A o.name t x') (hs:t.space=o.th.space):eD w0 g0 (K.set (o.eF t)) w' g:=by
 obtain⟨x,hT⟩:=h.kin.gQ ho hk;obtain⟨k1,k2⟩:=h.kin.yS (g':=g) ho hk k (dS.of hT.blk (by decide)) (fun b q _=>⟨10,aj _,by rw[q];exact hT.tag⟩) (dK.refl g) (fun n _=>dO.refl g n) ⟨rfl,rfl,rfl,rfl⟩ ⟨rfl,rfl,rfl⟩ rfl (fun _ _ e=>e) (fun b hb=>h.kin.kS b (bD k.size hb)) hB hR;exact h.step k1 (h.inv.Ct ho hk hs) k2
theorem rz.Cy{n:Int}{t:Th}{x:Ts}(h:rz w g n t x)(k:Kept (·=g.tl n) w w'):kY w' g.A n t x :=
 h.rows.kept k (dS.of h.blk (by decide)) (A':=g.A) (fun c q _ i hi e=>by rw[q,h.tag]at e;cases e;omega) (fun _ _ e=>e)
theorem eD.QN(h:eD w0 g0 K w g)(ho:K.obj o.name=some o)(hk:o.kind=3):eD w0 g0 (K.set (o.dL { o.th.cont with seen:=[] })) (w.setCell ⟨g.tl o.name,36,none⟩ (.slice none 0 0)) g:=by
 obtain⟨x,hT⟩:=h.kin.gQ ho hk;have k:Kept (·=g.tl o.name) w (w.setCell ⟨g.tl o.name,36,none⟩ (.slice none 0 0)):=(Kept.refl (·=g.tl o.name) w).bC _ _ _ rfl;have hr:=hT.Cy k;exact h.Xz ho hk (x':={ x with seen:=.slice none 0 0 }) k ((hT.blk.set 36 _).cells (Mt _ _ _ _ _ _)) ⟨hr.gG,hr.al,hr.bZ,hr.reads,Own.nil _ _ _ _ _,hr.picks,hr.regs,hr.pc,hr.VN⟩ rfl
theorem eD.OY(h:eD w0 g0 K w g)(ho:K.obj o.name=some o)(hk:o.kind=3){b c:Nat}(hv:w.cell? ⟨g.tl o.name,33,none⟩=some (.slice (some ⟨b,0,none⟩) 1 c)){n:Int}(hl:o.th.cont.bZ=[n]) :
  eD w0 g0 (K.set (o.dL { o.th.cont with bZ:=[] })) (w.setCell ⟨g.tl o.name,33,none⟩ (.slice (some ⟨b,0,none⟩) 0 c)) g:=by
 obtain⟨x,hT⟩:=h.kin.gQ ho hk;have k:Kept (·=g.tl o.name) w (w.setCell ⟨g.tl o.name,33,none⟩ (.slice (some ⟨b,0,none⟩) 0 c)):=(Kept.refl (·=g.tl o.name) w).bC _ _ _ rfl;have hr:=hT.Cy k
 have ex:x.bZ=.slice (some ⟨b,0,none⟩) 1 c:=by
  have h1:=hT.blk.cell 33;rw[hv]at h1;exact(Option.some.inj (h1.trans rfl)).symm
 have hlk:=hr.bZ;rw[ex,hl]at hlk
 have hN:eB (w.setCell ⟨g.tl o.name,33,none⟩ (.slice (some ⟨b,0,none⟩) 0 c)) g.A (o.name,12) (.slice (some ⟨b,0,none⟩) 0 c) []:=by
  refine⟨⟨rfl,.inr ?_⟩,fun d hd=>hlk.tag d hd⟩;rcases hlk.row.2 with⟨e,-⟩|⟨g1,cap,cur,e,h1,h2,h3,h4,h5,h6⟩
  ·cases e
  ·cases e
   exact⟨b,c,cur,rfl,h1,h2,Nat.zero_le _,h4,h5,rfl⟩
 exact h.Xz ho hk (x':={ x with bZ:=.slice (some ⟨b,0,none⟩) 0 c }) k ((hT.blk.set 33 _).cells (uJ _ _ _ _ _ _)) ⟨hr.gG,hr.al,hN,hr.reads,hr.seen,hr.picks,hr.regs,hr.pc,hr.VN⟩ rfl
end
attribute [local irreducible] World.setCell World.alloc World.drew World.setRow Calls Code.wp
theorem Aw(w:World)(g:Gh)(K:Km)(o:Ob)(h:cZ w g K)(hI:Inv g K)(ho:K.obj o.name=some o)(hk:o.kind=3){K':Km}{what:Int}(hres:K.AV o=some (K',what)) :
  Calls Tryz.prog 96 #[.pointer (some ⟨g.kb,0,none⟩),.pointer (some ⟨g.bl o.name,0,none⟩)] w fun e w'=>e=.returned (.int .i64 what)/\∃g',eD w g K' w' g':=by
 unfold Km.AV at hres;split at hres
 ·rename_i hr
  cases hres;obtain⟨lv,rv,sv,pv,hV⟩:=h.Qs ho hk;have hrd:=hV.reads;rw[hr]at hrd;obtain⟨ra,rc,rfl⟩:=xg hrd;have LP:=ah ((eD.refl h hI).QN ho hk);have HK:=ah hk;obtain⟨tb,htb⟩:∃tb,g.tl o.name=tb:=⟨_,rfl⟩;have vD:=ah htb;rw[htb]at hV LP;have t0:=hV.t;have c36:=hV.ct.s;have f36:=hV.ct.f 36;have c35:=hV.ct.r;have c32:=hV.ct.p;have f32:=hV.ct.f 32;clear h hI ho hk hV hrd htb;go_enter Tryz.func96,Tryz.ntmps96
  go_wp2_with fail
  go_loopg [7,8,9,24] 1 (fun gg _ _ _ v24 wq=>v24=.int .i64 0/\wq=w.setCell ⟨tb,36,none⟩ (.slice none 0 0))
  case atStart=>exact⟨rfl,rfl⟩
  case round =>
   obtain⟨rfl,rfl⟩:=hrel;go_wp2_with fail
   go_ret;refine⟨rfl,g,?_⟩;have hF:=LP.out.phase (o:=o.dL { o.th.cont with seen:=[] }) (Km.dz K _) HK.out 4;have e1:g.tl (o.dL { o.th.cont with seen:=[] }).name=tb:=vD.out;have e2:(K.set (o.dL { o.th.cont with seen:=[] })).set ((o.dL { o.th.cont with seen:=[] }).dL { (o.dL { o.th.cont with seen:=[] }).th.cont with phase:=4 })=K.set (o.dL { o.th.cont with seen:=[],phase:=4 }):=Km.set_set K _ _ rfl;rw[e1,e2]at hF;exact hF
 ·cases hres
theorem Gb(w:World)(g:Gh)(K:Km)(o:Ob)(h:cZ w g K)(hI:Inv g K)(ho:K.obj o.name=some o)(hk:o.kind=3){K':Km}{what:Int}(hres:K.AY o=some (K',what)) :
  what=2/\Calls Tryz.prog 98 #[.pointer (some ⟨g.kb,0,none⟩),.pointer (some ⟨g.bl o.name,0,none⟩)] w fun e w'=>e=.returned (.tuple #[])/\∃g',eD w g K' w' g':=by
 unfold Km.AY at hres;simp only at hres;split at hres
 ·rename_i hcr
  obtain⟨hl,hq⟩:=hcr
  cases hres;refine⟨rfl,?_⟩;obtain⟨lv,rv,sv,pv,hV⟩:=h.Qs ho hk;have hlk:=hV.bZ;rw[hl]at hlk;obtain⟨lb,lc,rfl,hlc,hl0⟩:=nG hlk;have k0:=h.iV.1;have t0:=hV.t;have n0:=hV.nm;have c33:=hV.ct.l
  have BR:Hid (Calls Tryz.prog 15 #[.pointer (some ⟨g.tb,0,none⟩),.int .u64 o.name] w.drew fun e w'=>∃v,e=.returned v/\(v=.pointer (some ⟨g.bl o.name,0,none⟩)/\w.drew=w')):=ah (by
   have:=kK w.drew g K.obj o.name h.drew.tab;rw[gK ho]at this;exact this.mono (fun e w' q=>⟨_,q.1,rfl,q.2⟩))
  have H:=ah h;have HI:=ah hI;have HO:=ah ho;have HK:=ah hk
  have HJ:Hid (∀w1,Below w.heap.size w w1->Calls Tryz.prog 125 #[.pointer (some ⟨g.bl o.name,0,none⟩),.int .u64 o.name] w1 fun e w'=>∃v,e=.returned v/\(v=.tuple #[]/\∃g',eD w g (K.set (jK o o.name)) w' g')):=ah (fun w1 hb=>by
   refine(Kv w1 g K o o.name (H.out.below hb) HI.out HO.out (by omega)).mono ?_;rintro e w' ⟨rfl,g',h2⟩;exact⟨_,rfl,rfl,g',h2.kin,h2.inv,(Ext.below hb).trans h2.ext⟩)
  have HL:=ah hl;obtain⟨tb,htb⟩:∃tb,g.tl o.name=tb:=⟨_,rfl⟩;obtain⟨bb,hbb⟩:∃bb,g.bl o.name=bb:=⟨_,rfl⟩;have vD:=ah htb;have wm:=ah hbb;rw[htb,hbb]at t0;rw[htb]at c33;rw[hbb]at n0 BR HJ;rw[hbb];have d0:=dD k0;have d33:=dD c33;have dl0:=dD hl0;clear h hI ho hk hV hlk hl hq htb hbb;go_enter Tryz.func98,Tryz.ntmps98
  go_upto_region 3 with fail
  go_cut [6] (fun v6 wx=>v6=.pointer (some ⟨bb,0,none⟩)/\Hid (Below w.heap.size w wx))
  case first =>
   have hw0:IntKind.i64.wrap 0=0:=rfl;first
   | go_region_held3 (fun W=>W.cell? ⟨g.kb,0,none⟩=some (.pointer (some ⟨g.tb,0,none⟩))/\W.cell? ⟨tb,33,none⟩=some (.slice (some ⟨lb,0,none⟩) 1 lc)/\W.cell? ⟨lb,0,none⟩=some (.int .u64 o.name)) (exact⟨d0,d33,dl0⟩)
     (first|(refine BR.out.mono ?_;rintro e w3 ⟨v,rfl,rfl,rfl⟩))
   | fail
   all_goals
    go_wp2_with fail
    go_meet;exact⟨rfl,ah ((aC _ w).drew)⟩
  case rest =>
   obtain⟨rfl,HBc⟩:=hcut;obtain⟨w1,hw1⟩:∃w1,w1=wc:=⟨_,rfl⟩;subst hw1;have n1:w1.drew.cell? ⟨bb,2,none⟩=some (.int .u64 o.name):=dD ((HBc.out.cell (p:=⟨bb,2,none⟩) (bn w ⟨bb,2,none⟩ n0)).trans n0);have ZV:=ah (HJ.out w1.drew HBc.out.drew);clear BR d0 d33 dl0 c33 hl0 k0 HJ;go_upto_region 5 with fail
   go_cut [] (fun wx=>∃g1,Hid (eD w g (K.set (jK o o.name)) wx g1))
   case first =>
    go_region_law (first
     | (refine cB (by rfl) (bP (vs:=#[.pointer (some ⟨bb,0,none⟩),.int .u64 o.name]) (by first|(simp[Act.eval];done)|simp[Act.eval,Act.put]) (bE Tryz.func125 (by kernel_rfl) rfl)) ZV.out ?_;rintro v w3 ⟨rfl,g1,hM⟩))
    all_goals
     have HM:=ah hM;clear hM;go_wp2_with fail
     go_meet;exact⟨g1,HM⟩
   case rest =>
    obtain⟨g1,HM⟩:=hcut;clear ZV n1 t0 n0;obtain⟨w2,hw2⟩:∃w2,w2=wc:=⟨_,rfl⟩;subst hw2;obtain⟨o1,ho1⟩:∃o1,o1=jK o o.name:=⟨_,rfl⟩;have hM:=HM.out;rw[<-ho1]at hM;have hn1:o1.name=o.name:=by rw[ho1];unfold jK;split<;>rfl
    have hk1:o1.kind=3:=by rw[ho1];unfold jK;split<;>exact HK.out
    have ht1:o1.th=o.th:=by rw[ho1];unfold jK;split<;>rfl
    obtain⟨s1,s2⟩:=hM.same H.out HO.out;have ru:(K.set o1).obj o1.name=some o1:=Km.dz K o1;obtain⟨lv2,rv2,sv2,pv2,hV2⟩:=hM.kin.Qs ru hk1;rw[hn1,s1,s2,wm.out,vD.out]at hV2;have hlk2:=hV2.bZ;have hl1:o1.th.cont.bZ=[o.name]:=by rw[ht1];exact HL.out
    rw[hl1]at hlk2;obtain⟨lb2,lc2,rfl,abY,hl2⟩:=nG hlk2;have c33:=hV2.ct.l;have f33:=hV2.ct.f 33;have c32:=hV2.ct.p;have f32:=hV2.ct.f 32;have hs2:g1.tl o1.name=tb:=by rw[hn1,s2,vD.out]
    have HC:=ah (hM.OY ru hk1 (b:=lb2) (c:=lc2) (by rw[hs2];exact c33) hl1);have PU:=ah ru;have Xd:=ah hk1;have Ht1:=ah ht1;have Ho1:=ah ho1;have Hs2:=ah hs2;rw[hs2]at HC;clear hM hn1 hk1 ht1 s1 s2 ru hV2 hlk2 hl1 ho1 HM hs2 hl2;go_wp2_with fail
    refine bodyPost_end (results_none rfl _ _ _) rfl ?_;refine⟨rfl,g1,?_⟩;have hF:=HC.out.phase (o:=o1.dL { o1.th.cont with bZ:=[] }) (Km.dz _ _) Xd.out 6;have e1:g1.tl (o1.dL { o1.th.cont with bZ:=[] }).name=tb:=Hs2.out
    have e2:((K.set o1).set (o1.dL { o1.th.cont with bZ:=[] })).set ((o1.dL { o1.th.cont with bZ:=[] }).dL { (o1.dL { o1.th.cont with bZ:=[] }).th.cont with phase:=6 })=K.set (o1.dL { o1.th.cont with bZ:=[],phase:=6 }):=by
     rw[Km.set_set K o1 (o1.dL { o1.th.cont with bZ:=[] }) rfl];exact Km.set_set K _ _ rfl
    rw[e1,e2]at hF
    have e3:(jK o o.name).dL { o.th.cont with bZ:=[],phase:=6 }=o1.dL { o1.th.cont with bZ:=[],phase:=6 }:=by
     rw[Ht1.out,Ho1.out]
    rw[e3];exact hF
 ·cases hres
theorem OG(b:Nat)(w:World):(Instr.fieldAt 68 (.pointer (some ⟨b,0,none⟩)) 13).run Tryz.prog w=.ok (.pointer (some ⟨b,19,none⟩)) w:=by go_simp;try rfl
theorem Dq{w:World}{q:Addr}{x:Addr}(h:w.cell? q=some (.pointer (some x))):(Instr.loadAt 62 (.pointer (some q))).run Tryz.prog w=.ok (.pointer (some x)) w:=by go_simp;try rfl
theorem Vy(b:Nat)(w:World):(Instr.fieldAt 52 (.pointer (some ⟨b,0,none⟩)) 0).run Tryz.prog w=.ok (.pointer (some ⟨b,0,none⟩)) w:=by go_simp;try rfl
theorem VD(b:Nat)(w:World):(Instr.fieldAt 40 (.pointer (some ⟨b,0,none⟩)) 0).run Tryz.prog w=.ok (.pointer (some ⟨b,0,none⟩)) w:=by go_simp;try rfl
theorem abC(b:Nat)(w:World):(Instr.indexAt 38 (.pointer (some ⟨b,0,none⟩)) (.int .i64 0)).run Tryz.prog w=.ok (.pointer (some ⟨b,0,none⟩)) w:=by go_simp;try rfl
theorem abB(b:Nat)(w:World):(Instr.indexAt 38 (.pointer (some ⟨b,0,none⟩)) (.int .i64 1)).run Tryz.prog w=.ok (.pointer (some ⟨b,1,none⟩)) w:=by go_simp;try rfl
theorem abA(b:Nat)(w:World):(Instr.indexAt 38 (.pointer (some ⟨b,0,none⟩)) (.int .i64 2)).run Tryz.prog w=.ok (.pointer (some ⟨b,2,none⟩)) w:=by go_simp;try rfl
theorem EZ{w:World}{q:Addr}{x:Int}(h0:(w.cell? q).isSome=true)(hf:w.frozen? q=false):(Instr.storeAt 37 (.pointer (some q)) (.int .u64 x)).run Tryz.prog w=.ok () (w.setCell q (.int .u64 x)):=by
 obtain⟨v0,h⟩:=Option.isSome_iff_exists.1 h0;clear h0;go_simp;try rfl
theorem OX(e:Int)(he:0<=e/\e<=100)(w:World):(convert 75 37 (.int .i64 e)).run Tryz.prog w=.ok (.int .u64 e) w:=by
 have h1:IntKind.u64.wrap e=e:=by simp[IntKind.wrap,IntKind.bits,IntKind.signed];omega
 go_simp
 try rfl
theorem GK{wx:World}{bb tb:Nat}{v0:Value}(hne:bb≠tb)(k:Nat)(v:Value)(h:wx.cell? ⟨bb,19,none⟩=some v0):(wx.setCell ⟨tb,k,none⟩ v).cell? ⟨bb,19,none⟩=some v0 :=
 (World.cell?_setCell_other wx _ _ _ (by intro e;cases e;exact hne rfl)).trans h
theorem GN{wx:World}{tb:Nat}(k:Nat)(v:Value)(h:∀j,j<16->(wx.cell? ⟨tb,j,none⟩).isSome=true):∀j,j<16->((wx.setCell ⟨tb,k,none⟩ v).cell? ⟨tb,j,none⟩).isSome=true:=fun j hj=>by
 by_cases e:k=j
 ·subst e
  rw[World.cell?_setCell_same' _ _ _ (h k hj)];rfl
 ·rw[World.cell?_setCell_other wx _ _ _ (by intro q;cases q;exact e rfl)]
  exact h j hj
theorem GL{wx:World}{tb:Nat}(k:Nat)(v:Value)(h:∀j,wx.frozen? ⟨tb,j,none⟩=false):∀j,(wx.setCell ⟨tb,k,none⟩ v).frozen? ⟨tb,j,none⟩=false:=fun j=>by
 rw[World.frozen?_setCell];exact h j
structure aeI(w:World)(bb tb:Nat)(e X Y:Int)(b20 b25 b30:Option Bool)(wx:World):Prop where
 t:wx.cell? ⟨bb,19,none⟩=some (.pointer (some ⟨tb,0,none⟩))
 c:∀j,j<16->(wx.cell? ⟨tb,j,none⟩).isSome=true
 f:∀j,wx.frozen? ⟨tb,j,none⟩=false
 a:b20≠some true->wx=w.drew
 b:b20=some true->b25≠some true->wx=w.drew.setCell ⟨tb,0,none⟩ (.int .u64 e)
 d:b25=some true->b30≠some true->wx=(w.drew.setCell ⟨tb,0,none⟩ (.int .u64 e)).setCell ⟨tb,1,none⟩ (.int .u64 X)
 z:b30=some true->wx=((w.drew.setCell ⟨tb,0,none⟩ (.int .u64 e)).setCell ⟨tb,1,none⟩ (.int .u64 X)).setCell ⟨tb,2,none⟩ (.int .u64 Y)
theorem GQ(w:World)(g:Gh)(K:Km)(o:Ob)(e x y:Int)(h:cZ w g K)(hI:Inv g K)(ho:K.obj o.name=some o)(hk:o.kind=3)(he:0<=e/\e<=100)(hx:0<=x/\x<=18446744073709551615)(hy:0<=y/\y<=18446744073709551615) :
  Calls Tryz.prog 103 #[.pointer (some ⟨g.kb,0,none⟩),.pointer (some ⟨g.bl o.name,0,none⟩),.int .i64 e,.int .u64 x,.int .u64 y] w fun e' w'=>e'=.returned (.tuple #[])/\eD w g (K.set (o.eF (o.th.ans e x y))) w' g:=by
 obtain⟨X,hX⟩:∃X,X=if e=0 then x else 0:=⟨_,rfl⟩
 obtain⟨Y,hY⟩:∃Y,Y=if e=0 then y else 0:=⟨_,rfl⟩
 have hX2:0<=X/\X<=18446744073709551615:=by rw[hX];split<;>omega
 have hY2:0<=Y/\Y<=18446744073709551615:=by rw[hY];split<;>omega
 have hF:eD w g (K.set (o.eF (o.th.ans e x y))) (((w.drew.setCell ⟨g.tl o.name,0,none⟩ (.int .u64 e)).setCell ⟨g.tl o.name,1,none⟩ (.int .u64 X)).setCell ⟨g.tl o.name,2,none⟩ (.int .u64 Y)) g:=by
  have h0:=(eD.refl h hI).below ((aC _ w).drew);have h1:=h0.reg ho hk (j:=0) (by omega) (v:=e) (by omega);have h2:=h1.reg (o:=o.eF { o.th with r:=upd o.th.r 0 e }) (Km.dz K _) hk (j:=1) (by omega) (v:=X) hX2;have h3:=h2.reg (o:=o.eF { o.th with r:=upd (upd o.th.r 0 e) 1 X }) (Km.dz _ _) hk (j:=2) (by omega) (v:=Y) hY2
  have e1:((K.set (o.eF { o.th with r:=upd o.th.r 0 e })).set (o.eF { o.th with r:=upd (upd o.th.r 0 e) 1 X })).set (o.eF { o.th with r:=upd (upd (upd o.th.r 0 e) 1 X) 2 Y })=K.set (o.eF (o.th.ans e x y)):=by
   refine(congrArg (fun Z:Km=>Z.set (o.eF { o.th with r:=upd (upd (upd o.th.r 0 e) 1 X) 2 Y })) (Km.set_set K (o.eF { o.th with r:=upd o.th.r 0 e }) (o.eF { o.th with r:=upd (upd o.th.r 0 e) 1 X }) rfl)).trans ((Km.set_set K (o.eF { o.th with r:=upd (upd o.th.r 0 e) 1 X }) (o.eF { o.th with r:=upd (upd (upd o.th.r 0 e) 1 X) 2 Y }) rfl).trans ?_);rw[hX,hY];rfl
  rw[<-e1];exact h3
 obtain⟨lv,rv,sv,pv,hV⟩:=h.Qs ho hk;obtain⟨xs,hT⟩:=h.gQ ho hk;have hc:∀j,j<16->(w.cell? ⟨g.tl o.name,j,none⟩).isSome=true:=fun j hj=>by rw[hT.reg hj];rfl
 have t0:=hV.t;have hne:=hV.ne;have hfz:=hV.ct.f;have HF:=ah hF;have HX:=ah hX;have HY:=ah hY;obtain⟨tb,htb⟩:∃tb,g.tl o.name=tb:=⟨_,rfl⟩;obtain⟨bb,hbb⟩:∃bb,g.bl o.name=bb:=⟨_,rfl⟩;rw[htb]at HF hc t0 hne hfz;rw[hbb]at t0 hne;rw[hbb];clear hF h hI ho hk hx hy hX hY hX2 hY2 hV hT htb hbb;go_enter Tryz.func103,Tryz.ntmps103
 go_upto_if 11 with fail
 go_cut [3,4] (fun v3 v4 wx=>v3=.int .u64 X/\v4=.int .u64 Y/\w=wx)
 case first =>
  by_cases h0:e=0
  ·have hb:(e==0)=true:=by simp[h0]
   have BM:=ah (HX.out.trans (aD h0));have ZA:=ah (HY.out.trans (aD h0));clear h0 he;go_wp2_with fail
   go_meet;exact⟨by rw[BM.out],by rw[ZA.out],rfl⟩
  ·have hb:(e==0)=false:=by simp[h0]
   have BM:=ah (HX.out.trans (aA h0));have ZA:=ah (HY.out.trans (aA h0));clear h0 he;go_wp2_with fail
   go_meet;exact⟨by rw[BM.out],by rw[ZA.out],rfl⟩
 case rest =>
  obtain⟨rfl,rfl,hw⟩:=hcut;subst hw;go_upto_region 2 with fail
  refine dW (by kernel_rfl) (by kernel_rfl) (by kernel_rfl)
   (fun k_ v=>match k_ with|0=>v=(.pointer (some ⟨bb,0,none⟩))|1=>v=.pointer (some ⟨bb,0,none⟩)|2=>v=.pointer (some ⟨bb,19,none⟩)|3=>v=.pointer (some ⟨tb,0,none⟩)|4=>v=(.pointer (some ⟨bb,0,none⟩))|5=>v=.pointer (some ⟨bb,0,none⟩)|6=>v=.pointer (some ⟨bb,19,none⟩)|7=>v=.pointer (some ⟨tb,0,none⟩)|8=>v=(.pointer (some ⟨bb,0,none⟩))|9=>v=.pointer (some ⟨bb,0,none⟩)|10=>v=.pointer (some ⟨bb,19,none⟩)|11=>v=.pointer (some ⟨tb,0,none⟩)|12=>v=(.int .i64 e)|13=>v=.int .u64 e|14=>v=(.int .u64 X)|15=>v=(.int .u64 Y)|16=>v=.pointer (some ⟨tb,0,none⟩)|17=>v=.pointer (some ⟨tb,0,none⟩)|18=>v=.pointer (some ⟨tb,0,none⟩)|19=>v=.pointer (some ⟨tb,0,none⟩)|21=>v=.pointer (some ⟨tb,0,none⟩)|22=>v=.pointer (some ⟨tb,0,none⟩)|23=>v=.pointer (some ⟨tb,0,none⟩)|24=>v=.pointer (some ⟨tb,1,none⟩)|26=>v=.pointer (some ⟨tb,0,none⟩)|27=>v=.pointer (some ⟨tb,0,none⟩)|28=>v=.pointer (some ⟨tb,0,none⟩)|29=>v=.pointer (some ⟨tb,2,none⟩)|_=>True)
   (fun l a wx=>aeI w bb tb e X Y l[20]? l[25]? l[30]? wx) ?_ ?_ ?_
  ·exact⟨dD t0,fun j hj=>(show(w.drew.cell? ⟨tb,j,none⟩).isSome=true by obtain⟨v0,h0⟩:=Option.isSome_iff_exists.1 (hc j hj);rw[dD h0];rfl),fun j=>qA (hfz j),fun _=>rfl,fun h=>by simp at h,fun h=>by simp at h,fun h=>by simp at h⟩
  ·intro hu i_ l a wx hi hl lF hd hcl hR hW
   have hi27:i_=0\/i_=1\/i_=2\/i_=3\/i_=4\/i_=5\/i_=6\/i_=7\/i_=8\/i_=9\/i_=10\/i_=11\/i_=12\/i_=13\/i_=14\/i_=15\/i_=16\/i_=17\/i_=18\/i_=19\/i_=20\/i_=21\/i_=22\/i_=23\/i_=24\/i_=25\/i_=26\/i_=27\/i_=28\/i_=29\/i_=30:=by have:i_<31:=hi;omega
   rcases hi27 with rfl|rfl|rfl|rfl|rfl|rfl|rfl|rfl|rfl|rfl|rfl|rfl|rfl|rfl|rfl|rfl|rfl|rfl|rfl|rfl|rfl|rfl|rfl|rfl|rfl|rfl|rfl|rfl|rfl|rfl|rfl
   ·
    refine aK rfl (d:=12) rfl (aF rfl _) (dJ (hR.was 1 rfl)) ⟨hR.put hu (by rw[hl];decide) (d:=12) rfl (ak rfl) rfl,?_⟩;simpa only[aI,aL,bF,aB,Nat.reduceEqDiff]using hW
   ·
    refine aK rfl (d:=13) rfl (aF rfl _) (dh (hR.slot 0 12 (hd 0 rfl) rfl) rfl) ⟨hR.put hu (by rw[hl];decide) (d:=13) rfl (ak rfl) rfl,?_⟩;simpa only[aI,aL,bF,aB,Nat.reduceEqDiff]using hW
   ·
    refine aK rfl (d:=14) rfl (aF rfl _) (bH (hR.slot 1 13 (hd 1 rfl) rfl) (OG _ _)) ⟨hR.put hu (by rw[hl];decide) (d:=14) rfl (ak rfl) rfl,?_⟩;simpa only[aI,aL,bF,aB,Nat.reduceEqDiff]using hW
   ·
    refine aK rfl (d:=15) rfl (aF rfl _) (eu (hR.slot 2 14 (hd 2 rfl) rfl) (Dq hW.t)) ⟨hR.put hu (by rw[hl];decide) (d:=15) rfl (ak rfl) rfl,?_⟩;simpa only[aI,aL,bF,aB,Nat.reduceEqDiff]using hW
   ·
    refine aK rfl (d:=16) rfl (aF rfl _) (dJ (hR.was 1 rfl)) ⟨hR.put hu (by rw[hl];decide) (d:=16) rfl (ak rfl) rfl,?_⟩;simpa only[aI,aL,bF,aB,Nat.reduceEqDiff]using hW
   ·
    refine aK rfl (d:=17) rfl (aF rfl _) (dh (hR.slot 4 16 (hd 4 rfl) rfl) rfl) ⟨hR.put hu (by rw[hl];decide) (d:=17) rfl (ak rfl) rfl,?_⟩;simpa only[aI,aL,bF,aB,Nat.reduceEqDiff]using hW
   ·
    refine aK rfl (d:=18) rfl (aF rfl _) (bH (hR.slot 5 17 (hd 5 rfl) rfl) (OG _ _)) ⟨hR.put hu (by rw[hl];decide) (d:=18) rfl (ak rfl) rfl,?_⟩;simpa only[aI,aL,bF,aB,Nat.reduceEqDiff]using hW
   ·
    refine aK rfl (d:=19) rfl (aF rfl _) (eu (hR.slot 6 18 (hd 6 rfl) rfl) (Dq hW.t)) ⟨hR.put hu (by rw[hl];decide) (d:=19) rfl (ak rfl) rfl,?_⟩;simpa only[aI,aL,bF,aB,Nat.reduceEqDiff]using hW
   ·
    refine aK rfl (d:=20) rfl (aF rfl _) (dJ (hR.was 1 rfl)) ⟨hR.put hu (by rw[hl];decide) (d:=20) rfl (ak rfl) rfl,?_⟩;simpa only[aI,aL,bF,aB,Nat.reduceEqDiff]using hW
   ·
    refine aK rfl (d:=21) rfl (aF rfl _) (dh (hR.slot 8 20 (hd 8 rfl) rfl) rfl) ⟨hR.put hu (by rw[hl];decide) (d:=21) rfl (ak rfl) rfl,?_⟩;simpa only[aI,aL,bF,aB,Nat.reduceEqDiff]using hW
   ·
    refine aK rfl (d:=22) rfl (aF rfl _) (bH (hR.slot 9 21 (hd 9 rfl) rfl) (OG _ _)) ⟨hR.put hu (by rw[hl];decide) (d:=22) rfl (ak rfl) rfl,?_⟩;simpa only[aI,aL,bF,aB,Nat.reduceEqDiff]using hW
   ·
    refine aK rfl (d:=23) rfl (aF rfl _) (eu (hR.slot 10 22 (hd 10 rfl) rfl) (Dq hW.t)) ⟨hR.put hu (by rw[hl];decide) (d:=23) rfl (ak rfl) rfl,?_⟩;simpa only[aI,aL,bF,aB,Nat.reduceEqDiff]using hW
   ·
    refine aK rfl (d:=24) rfl (aF rfl _) (dJ (hR.was 2 rfl)) ⟨hR.put hu (by rw[hl];decide) (d:=24) rfl (ak rfl) rfl,?_⟩;simpa only[aI,aL,bF,aB,Nat.reduceEqDiff]using hW
   ·
    refine aK rfl (d:=25) rfl (aF rfl _) (sw (hR.slot 12 24 (hd 12 rfl) rfl) (OX e he _)) ⟨hR.put hu (by rw[hl];decide) (d:=25) rfl (ak rfl) rfl,?_⟩;simpa only[aI,aL,bF,aB,Nat.reduceEqDiff]using hW
   ·
    refine aK rfl (d:=26) rfl (aF rfl _) (dJ (hR.was 3 rfl)) ⟨hR.put hu (by rw[hl];decide) (d:=26) rfl (ak rfl) rfl,?_⟩;simpa only[aI,aL,bF,aB,Nat.reduceEqDiff]using hW
   ·
    refine aK rfl (d:=27) rfl (aF rfl _) (dJ (hR.was 4 rfl)) ⟨hR.put hu (by rw[hl];decide) (d:=27) rfl (ak rfl) rfl,?_⟩;simpa only[aI,aL,bF,aB,Nat.reduceEqDiff]using hW
   ·
    refine aK rfl (d:=28) rfl (aF rfl _) (dh (hR.slot 3 15 (hd 3 rfl) rfl) rfl) ⟨hR.put hu (by rw[hl];decide) (d:=28) rfl (ak rfl) rfl,?_⟩;simpa only[aI,aL,bF,aB,Nat.reduceEqDiff]using hW
   ·
    refine aK rfl (d:=29) rfl (aF rfl _) (bH (hR.slot 16 28 (hd 16 rfl) rfl) (Vy _ _)) ⟨hR.put hu (by rw[hl];decide) (d:=29) rfl (ak rfl) rfl,?_⟩;simpa only[aI,aL,bF,aB,Nat.reduceEqDiff]using hW
   ·
    refine aK rfl (d:=30) rfl (aF rfl _) (bH (hR.slot 17 29 (hd 17 rfl) rfl) (VD _ _)) ⟨hR.put hu (by rw[hl];decide) (d:=30) rfl (ak rfl) rfl,?_⟩;simpa only[aI,aL,bF,aB,Nat.reduceEqDiff]using hW
   ·
    refine aK rfl (d:=31) rfl (aF rfl _) (jh (hR.slot 18 30 (hd 18 rfl) rfl) rfl (abC _ _)) ⟨hR.put hu (by rw[hl];decide) (d:=31) rfl (ak rfl) rfl,?_⟩;simpa only[aI,aL,bF,aB,Nat.reduceEqDiff]using hW
   ·
    have hno:¬(l[20]? = some true):=by rw[lF];simp
    have TB:¬(l[25]? = some true):=fun h=>hno (hcl.of 20 rfl h)
    have Ot:¬(l[30]? = some true):=fun h=>TB (hcl.of 25 rfl h)
    have hw:=hW.a hno;refine jc rfl rfl (aF rfl _) (kP (hR.slot 19 31 (hd 19 rfl) rfl) (hR.slot 13 25 (hd 13 rfl) rfl) (EZ (hW.c 0 (by omega)) (hW.f 0))) ⟨hR.done rfl,?_⟩;simp only[aI,bF,aB,Nat.reduceEqDiff,set_self (show 20<l.size by rw[hl];decide)];exact⟨GK hne _ _ hW.t,GN _ _ hW.c,GL _ _ hW.f,fun h=>absurd rfl h,fun _ _=>by rw[hw],fun h=>absurd h TB,fun h=>absurd h Ot⟩
   ·
    refine aK rfl (d:=32) rfl (aF rfl _) (dh (hR.slot 7 19 (hd 7 rfl) rfl) rfl) ⟨hR.put hu (by rw[hl];decide) (d:=32) rfl (ak rfl) rfl,?_⟩;simpa only[aI,aL,bF,aB,Nat.reduceEqDiff]using hW
   ·
    refine aK rfl (d:=33) rfl (aF rfl _) (bH (hR.slot 21 32 (hd 21 rfl) rfl) (Vy _ _)) ⟨hR.put hu (by rw[hl];decide) (d:=33) rfl (ak rfl) rfl,?_⟩;simpa only[aI,aL,bF,aB,Nat.reduceEqDiff]using hW
   ·
    refine aK rfl (d:=34) rfl (aF rfl _) (bH (hR.slot 22 33 (hd 22 rfl) rfl) (VD _ _)) ⟨hR.put hu (by rw[hl];decide) (d:=34) rfl (ak rfl) rfl,?_⟩;simpa only[aI,aL,bF,aB,Nat.reduceEqDiff]using hW
   ·
    refine aK rfl (d:=35) rfl (aF rfl _) (jh (hR.slot 23 34 (hd 23 rfl) rfl) rfl (abB _ _)) ⟨hR.put hu (by rw[hl];decide) (d:=35) rfl (ak rfl) rfl,?_⟩;simpa only[aI,aL,bF,aB,Nat.reduceEqDiff]using hW
   ·
    have hno:¬(l[25]? = some true):=by rw[lF];simp
    have Ot:¬(l[30]? = some true):=fun h=>hno (hcl.of 25 rfl h)
    have h20:=hd 20 rfl;have hw:=hW.b h20 hno;refine jc rfl rfl (aF rfl _) (kP (hR.slot 24 35 (hd 24 rfl) rfl) (hR.slot 14 26 (hd 14 rfl) rfl) (EZ (hW.c 1 (by omega)) (hW.f 1))) ⟨hR.done rfl,?_⟩;simp only[aI,bF,aB,Nat.reduceEqDiff,set_self (show 25<l.size by rw[hl];decide)];exact⟨GK hne _ _ hW.t,GN _ _ hW.c,GL _ _ hW.f,fun h=>absurd h20 h,fun _ h=>absurd rfl h,fun _ _=>by rw[hw],fun h=>absurd h Ot⟩
   ·
    refine aK rfl (d:=36) rfl (aF rfl _) (dh (hR.slot 11 23 (hd 11 rfl) rfl) rfl) ⟨hR.put hu (by rw[hl];decide) (d:=36) rfl (ak rfl) rfl,?_⟩;simpa only[aI,aL,bF,aB,Nat.reduceEqDiff]using hW
   ·
    refine aK rfl (d:=37) rfl (aF rfl _) (bH (hR.slot 26 36 (hd 26 rfl) rfl) (Vy _ _)) ⟨hR.put hu (by rw[hl];decide) (d:=37) rfl (ak rfl) rfl,?_⟩;simpa only[aI,aL,bF,aB,Nat.reduceEqDiff]using hW
   ·
    refine aK rfl (d:=38) rfl (aF rfl _) (bH (hR.slot 27 37 (hd 27 rfl) rfl) (VD _ _)) ⟨hR.put hu (by rw[hl];decide) (d:=38) rfl (ak rfl) rfl,?_⟩;simpa only[aI,aL,bF,aB,Nat.reduceEqDiff]using hW
   ·
    refine aK rfl (d:=39) rfl (aF rfl _) (jh (hR.slot 28 38 (hd 28 rfl) rfl) rfl (abA _ _)) ⟨hR.put hu (by rw[hl];decide) (d:=39) rfl (ak rfl) rfl,?_⟩;simpa only[aI,aL,bF,aB,Nat.reduceEqDiff]using hW
   ·
    have hno:¬(l[30]? = some true):=by rw[lF];simp
    have h25:=hd 25 rfl;have h20:=hcl.of 20 rfl h25;have hw:=hW.d h25 hno;refine jc rfl rfl (aF rfl _) (kP (hR.slot 29 39 (hd 29 rfl) rfl) (hR.slot 15 27 (hd 15 rfl) rfl) (EZ (hW.c 2 (by omega)) (hW.f 2))) ⟨hR.done rfl,?_⟩;simp only[aI,bF,aB,Nat.reduceEqDiff,set_self (show 30<l.size by rw[hl];decide)];exact⟨GK hne _ _ hW.t,GN _ _ hW.c,GL _ _ hW.f,fun h=>absurd h20 h,fun _ h=>absurd h25 h,fun _ h=>absurd rfl h,fun _=>by rw[hw]⟩
  ·intro l a wx hl hR hW
   rw[hR.fold [12,13,14,15,16,17,18,19,20,21,22,23,24,25,26,27,28,29,30,31,32,33,34,35,36,37,38,39] (by kernel_rfl)];simp only[List.foldl];have HW:=ah hW;have Qi:=ah hl;clear hR hW hl;generalize a.tmps.getD 12 undef=u12;generalize a.tmps.getD 13 undef=u13;generalize a.tmps.getD 14 undef=u14;generalize a.tmps.getD 15 undef=u15;generalize a.tmps.getD 16 undef=u16;generalize a.tmps.getD 17 undef=u17;generalize a.tmps.getD 18 undef=u18;generalize a.tmps.getD 19 undef=u19;generalize a.tmps.getD 20 undef=u20;generalize a.tmps.getD 21 undef=u21;generalize a.tmps.getD 22 undef=u22;generalize a.tmps.getD 23 undef=u23;generalize a.tmps.getD 24 undef=u24;generalize a.tmps.getD 25 undef=u25;generalize a.tmps.getD 26 undef=u26;generalize a.tmps.getD 27 undef=u27;generalize a.tmps.getD 28 undef=u28;generalize a.tmps.getD 29 undef=u29;generalize a.tmps.getD 30 undef=u30;generalize a.tmps.getD 31 undef=u31;generalize a.tmps.getD 32 undef=u32;generalize a.tmps.getD 33 undef=u33;generalize a.tmps.getD 34 undef=u34;generalize a.tmps.getD 35 undef=u35;generalize a.tmps.getD 36 undef=u36;generalize a.tmps.getD 37 undef=u37;generalize a.tmps.getD 38 undef=u38;generalize a.tmps.getD 39 undef=u39;simp only[ay,aG,aH];go_step
   refine bodyPost_end (results_none rfl _ _ _) rfl ?_;refine⟨rfl,?_⟩;rw[HW.out.z (Qi.out 30 (ak rfl))];exact HF.out
theorem Gw(n:Int)(b c:Nat)(w:World)(_h1:1<=c)(h:w.cell? ⟨b,0,none⟩=some (.int .u64 n)) :
  Calls Tryz.prog 191 #[.slice (some ⟨b,0,none⟩) 1 c] w fun e w'=>∃b' c',e=.returned (.slice (some ⟨b',0,none⟩) 1 c')/\(w'.cell? ⟨b',0,none⟩=some (.int .u64 n)/\1<=c')/\Below w.heap.size w w':=by
 obtain⟨i0,hi,hz0,hz1,hz2⟩:=info_parts qm;have Hi:=ah hi;have lJ:=ah hz0;have lI:=ah hz1;have kT:=ah hz2;have hq:(binOp .eql 46 (.slice (some ⟨b,0,none⟩) 1 c) (.slice none 0 0)).run Tryz.prog w=.ok (.bool false) w:=by kernel_rfl
 have HO:Hid ((w.alloc (.cells #[] 37)).ownsRow w.heap.size 37 1 (.slice (some ⟨w.heap.size,0,none⟩) 0 0) 0 []):=ah (World.ownsRow_lit w #[] 0 (aj _) (Nat.zero_le _) rfl)
 have EC:Hid (∀j u,([Value.int .u64 n]:List Value)[j]? = some u->(w.alloc (.cells #[] 37)).cell? ((⟨b,0,none⟩:Addr).add j)=some u):=ah (fun j u hu=>by
  have hj:=(aW.1 hu).1;have hj0:j=0:=by simp at hj;exact hj
  subst hj0;rw[Addr.add_lit,Nat.zero_add,((aC w.heap.size w).alloc (aj _) _).cell (p:=⟨b,0,none⟩) (bn w ⟨b,0,none⟩ h),h];exact hu)
 have yL:Hid (∀u∈([Value.int .u64 n]:List Value),u.oneCell'=true):=ah (fun u hu=>by simp at hu;subst hu;rfl);clear h hi hz0 hz1 hz2;go_enter Tryz.func191,Tryz.ntmps191
 go_wp2_with (at_builtin;refine wpList_append_own _ rfl _ _ 46 rfl w.heap.size 37 i0 _ 1 8 Tryz.underlying46 Hi.out lJ.out lI.out kT.out rfl (by decide) _ _ _ rfl HO.out ⟨b,0,none⟩ 1 c [.int .u64 n] rfl rfl EC.out yL.out (by unfold maxLen;omega) (by omega) (by rw[au];omega) ?_;intro v' w6 hown6 dN _)
 rw[Nat.zero_add,List.nil_append]at hown6;have wB:Hid (Below w.heap.size w w6):=ah (((aC w.heap.size w).alloc (aj _) _).grown dN (by rw[au];omega) (fun k hk=>(HO.out.lt k hk).1));rcases hown6.2 with⟨-,e⟩|⟨b6,c6,cur,rfl,-,-,h3,-,-,-⟩
 ·cases e
 have HC:Hid (w6.cell? ⟨b6,0,none⟩=some (.int .u64 n)):=ah (by rw[hown6.cellAt 0 (by omega)];rfl);have h3':=h3;clear hown6 dN h3;go_wp2_with fail
 go_ret;exact⟨b6,c6,rfl,⟨HC.out,h3'⟩,wB.out⟩
theorem Fz(w:World)(bb qb qc:Nat)(n:Int)(h1:1<=qc)(h0:w.cell? ⟨bb,0,none⟩=some (.slice (some ⟨qb,0,none⟩) 1 qc))(h:w.cell? ⟨qb,0,none⟩=some (.int .u64 n)) :
  Calls Tryz.prog 144 #[.pointer (some ⟨bb,0,none⟩)] w fun e w'=>∃b' c',e=.returned (.slice (some ⟨b',0,none⟩) 1 c')/\(w'.cell? ⟨b',0,none⟩=some (.int .u64 n)/\1<=c')/\Below w.heap.size w w':=by
 have HC:=ah (Gw n qb qc w h1 h);clear h;go_enter Tryz.func144,Tryz.ntmps144
 go_wp2_with fail
 refine HC.out.mono ?_;rintro e w1 ⟨b',c',rfl,hq,hb⟩;have HQ:=ah hq;have HB:=ah hb;clear hq hb HC;go_wp2_with fail
 go_ret;exact⟨b',c',rfl,HQ.out,HB.out⟩
theorem KI(w:World)(kv:Value)(tb:Nat)(a:Option Addr)(c:Nat)(h:w.cell? ⟨tb,38,none⟩=some (.slice a 0 c)) :
  Calls Tryz.prog 99 #[kv,.pointer (some ⟨tb,32,none⟩)] w fun e w'=>e=.returned (.bool true)/\w'=w:=by
 go_enter Tryz.func99,Tryz.ntmps99
 go_wp2_with fail
 go_loopg [5,6,12] 1 (fun gg _ _ v12 wq=>v12=.int .i64 0/\wq=w)
 case atStart=>exact⟨rfl,rfl⟩
 case round =>
  obtain⟨rfl,rfl⟩:=hrel;go_wp2_with fail
  go_ret;exact⟨rfl,rfl⟩
theorem MV(w:World)(g:Gh)(K:Km)(o:Ob)(h:cZ w g K)(ho:K.obj o.name=some o)(hq:o.q=[o.name]) :
  Calls Tryz.prog 124 #[.pointer (some ⟨g.kb,0,none⟩),.pointer (some ⟨g.bl o.name,0,none⟩)] w fun e w'=>e=.returned (.tuple #[])/\Below w.heap.size w w':=by
 obtain⟨qa,qc,hV⟩:=h.lkV ho;have hrow:=hV.row;have hv0:=hV.q;rw[hq]at hrow hv0;obtain⟨qb,qc',e,hqc,hq0⟩:=nG hrow;have hv0':w.cell? ⟨g.bl o.name,0,none⟩=some (.slice qa 1 qc):=hv0;have e':qa=some ⟨qb,0,none⟩/\qc=qc':=by cases e;exact⟨rfl,rfl⟩
 obtain⟨rfl,rfl⟩:=e';have HQ:=ah (Fz w (g.bl o.name) qb qc o.name hqc hv0' hq0);have k0:=h.iV.1;have lk:=bn w _ k0
 have BR:Hid (∀w1,Below w.heap.size w w1->Calls Tryz.prog 15 #[.pointer (some ⟨g.tb,0,none⟩),.int .u64 o.name] w1 fun e w'=>e=.returned (.pointer (some ⟨g.bl o.name,0,none⟩))/\w1=w'):=ah (fun w1 hb=>by
  have:=kK w1 g K.obj o.name (h.below hb).tab;rw[gK ho]at this;exact this)
 obtain⟨bb,hbb⟩:∃bb,g.bl o.name=bb:=⟨_,rfl⟩;rw[hbb]at HQ BR;rw[hbb];clear h ho hq hV hrow hv0 e hq0 hv0' hbb;go_enter Tryz.func124,Tryz.ntmps124
 go_wp2_with fail
 refine HQ.out.mono ?_;rintro e w1 ⟨b',c',rfl,⟨hc1,hcc⟩,hb1⟩;have HB1:=ah hb1;have ZX:=ah (BR.out w1 hb1);have k1:w1.cell? ⟨g.kb,0,none⟩=some (.pointer (some ⟨g.tb,0,none⟩)):=(hb1.cell (p:=⟨g.kb,0,none⟩) lk).trans k0;clear hb1 HQ BR k0 lk;go_wp2_with fail
 go_loopg [5,6,12] 1 (fun gg _ _ v12 wq=>∃i:Nat,i+gg=1/\v12=.int .i64 i/\Hid (Below w1.heap.size w1 wq)/\(i=0->w1=wq))
 case atStart=>exact⟨0,rfl,rfl,ah (aC _ _),fun _=>rfl⟩
 case round =>
  obtain⟨i,hi,rfl,HBq,hz⟩:=hrel;by_cases h0:i=0
  ·subst h0
   have hz:=hz rfl;subst hz;go_wp2_with fail
   refine ZX.out.mono ?_;rintro e w3 ⟨rfl,rfl⟩;clear ZX;go_upto_region 4 with fail
   go_cut [38] (fun v38 wx=>v38=.bool false/\Hid (Below w1.heap.size w1 wx))
   case first =>
    refine dW (by kernel_rfl) (by kernel_rfl) (by kernel_rfl)
     (fun k_ v=>match k_ with|0=>v=(.pointer (some ⟨bb,0,none⟩))|1=>v=.bool true|2=>v=(.bool true)|3=>v=(.pointer (some ⟨bb,0,none⟩))|4=>v=(.pointer (some ⟨bb,0,none⟩))|5=>v=.bool false|6=>v=(.bool false)|7=>v=(.bool false)|8=>v=undef|9=>v=undef|10=>v=undef|11=>v=undef|12=>v=undef|13=>v=undef|14=>v=undef|15=>v=undef|16=>v=(.bool false)|_=>True)
     (fun l a wx=>Below w1.heap.size w1 wx) ?_ ?_ ?_
    ·exact(aC _ w1).drew
    ·intro hu i_ l a wx hi hl lF hd hcl hR hW
     have hi27:i_=0\/i_=1\/i_=2\/i_=3\/i_=4\/i_=5\/i_=6\/i_=7\/i_=8\/i_=9\/i_=10\/i_=11\/i_=12\/i_=13\/i_=14\/i_=15\/i_=16:=by have:i_<17:=hi;omega
     rcases hi27 with rfl|rfl|rfl|rfl|rfl|rfl|rfl|rfl|rfl|rfl|rfl|rfl|rfl|rfl|rfl|rfl|rfl
     ·
      refine aK rfl (d:=22) rfl (aF rfl _) (dJ (hR.was 6 rfl)) ⟨hR.put hu (by rw[hl];decide) (d:=22) rfl (ak rfl) rfl,?_⟩;exact hW
     ·
      refine aK rfl (d:=23) rfl (aF rfl _) (sD (hR.slot 0 22 (hd 0 rfl) rfl) rfl (fun w=>by simp[eqGuard]) (Il _ _)) ⟨hR.put hu (by rw[hl];decide) (d:=23) rfl (ak rfl) rfl,?_⟩;exact hW
     ·
      refine aK rfl (d:=24) rfl (aF rfl _) (dJ (hR.slot 1 23 (hd 1 rfl) rfl)) ⟨hR.put hu (by rw[hl];decide) (d:=24) rfl (ak rfl) rfl,?_⟩;exact hW
     ·
      refine aK rfl (d:=25) rfl ((bV rfl (d:=24) rfl (hR.slot 2 24 (hd 2 rfl) rfl)).trans rfl) (dJ (hR.was 6 rfl)) ⟨hR.put hu (by rw[hl];decide) (d:=25) rfl (ak rfl) rfl,?_⟩;exact hW
     ·
      refine aK rfl (d:=26) rfl ((bV rfl (d:=24) rfl (hR.slot 2 24 (hd 2 rfl) rfl)).trans rfl) (dJ (hR.was 1 rfl)) ⟨hR.put hu (by rw[hl];decide) (d:=26) rfl (ak rfl) rfl,?_⟩;exact hW
     ·
      refine aK rfl (d:=27) rfl ((bV rfl (d:=24) rfl (hR.slot 2 24 (hd 2 rfl) rfl)).trans rfl) (sD (hR.slot 3 25 (hd 3 rfl) rfl) (hR.slot 4 26 (hd 4 rfl) rfl) (fun w=>by simp[eqGuard]) (CQ _ _)) ⟨hR.put hu (by rw[hl];decide) (d:=27) rfl (ak rfl) rfl,?_⟩;exact hW
     ·
      refine aK rfl (d:=28) rfl (aF rfl _) (oN (hR.slot 2 24 (hd 2 rfl) rfl) (hR.slot 5 27 (hd 5 rfl) rfl)) ⟨hR.put hu (by rw[hl];decide) (d:=28) rfl (ak rfl) rfl,?_⟩;exact hW
     ·
      refine aK rfl (d:=29) rfl (aF rfl _) (dJ (hR.slot 6 28 (hd 6 rfl) rfl)) ⟨hR.put hu (by rw[hl];decide) (d:=29) rfl (ak rfl) rfl,?_⟩;exact hW
     ·
      refine fE rfl (d:=30) rfl ((bV rfl (d:=29) rfl (hR.slot 7 29 (hd 7 rfl) rfl)).trans rfl) ⟨hR.put hu (by rw[hl];decide) (d:=30) rfl (ak rfl) rfl,?_⟩;exact hW
     ·
      refine fE rfl (d:=31) rfl ((bV rfl (d:=29) rfl (hR.slot 7 29 (hd 7 rfl) rfl)).trans rfl) ⟨hR.put hu (by rw[hl];decide) (d:=31) rfl (ak rfl) rfl,?_⟩;exact hW
     ·
      refine fE rfl (d:=32) rfl ((bV rfl (d:=29) rfl (hR.slot 7 29 (hd 7 rfl) rfl)).trans rfl) ⟨hR.put hu (by rw[hl];decide) (d:=32) rfl (ak rfl) rfl,?_⟩;exact hW
     ·
      refine fE rfl (d:=33) rfl ((bV rfl (d:=29) rfl (hR.slot 7 29 (hd 7 rfl) rfl)).trans rfl) ⟨hR.put hu (by rw[hl];decide) (d:=33) rfl (ak rfl) rfl,?_⟩;exact hW
     ·
      refine fE rfl (d:=34) rfl ((bV rfl (d:=29) rfl (hR.slot 7 29 (hd 7 rfl) rfl)).trans rfl) ⟨hR.put hu (by rw[hl];decide) (d:=34) rfl (ak rfl) rfl,?_⟩;exact hW
     ·
      refine fE rfl (d:=35) rfl ((bV rfl (d:=29) rfl (hR.slot 7 29 (hd 7 rfl) rfl)).trans rfl) ⟨hR.put hu (by rw[hl];decide) (d:=35) rfl (ak rfl) rfl,?_⟩;exact hW
     ·
      refine fE rfl (d:=36) rfl ((bV rfl (d:=29) rfl (hR.slot 7 29 (hd 7 rfl) rfl)).trans rfl) ⟨hR.put hu (by rw[hl];decide) (d:=36) rfl (ak rfl) rfl,?_⟩;exact hW
     ·
      refine fE rfl (d:=37) rfl ((bV rfl (d:=29) rfl (hR.slot 7 29 (hd 7 rfl) rfl)).trans rfl) ⟨hR.put hu (by rw[hl];decide) (d:=37) rfl (ak rfl) rfl,?_⟩;exact hW
     ·
      refine aK rfl (d:=38) rfl (aF rfl _) (rJ (hR.slot 7 29 (hd 7 rfl) rfl) rfl) ⟨hR.put hu (by rw[hl];decide) (d:=38) rfl (ak rfl) rfl,?_⟩;exact hW
    ·intro l a wx hl hR hW
     have e38:a.tmps.getD 38 undef=(.bool false):=hR.slot 16 38 (hl 16 (ak rfl)) rfl;rw[hR.fold [22,23,24,25,26,27,28,29,30,31,32,33,34,35,36,37,38] (by kernel_rfl)];simp only[List.foldl,e38];have HW:=ah hW;have Qi:=ah hl;clear hR hW hl e38;generalize a.tmps.getD 22 undef=u22;generalize a.tmps.getD 23 undef=u23;generalize a.tmps.getD 24 undef=u24;generalize a.tmps.getD 25 undef=u25;generalize a.tmps.getD 26 undef=u26;generalize a.tmps.getD 27 undef=u27;generalize a.tmps.getD 28 undef=u28;generalize a.tmps.getD 29 undef=u29;generalize a.tmps.getD 30 undef=u30;generalize a.tmps.getD 31 undef=u31;generalize a.tmps.getD 32 undef=u32;generalize a.tmps.getD 33 undef=u33;generalize a.tmps.getD 34 undef=u34;generalize a.tmps.getD 35 undef=u35;generalize a.tmps.getD 36 undef=u36;generalize a.tmps.getD 37 undef=u37;simp only[ay,aG,aH];go_step
     go_step
     go_meet;exact⟨rfl,HW⟩
   case rest =>
    obtain⟨rfl,HBx⟩:=hcut;go_wp2_with fail
    go_roundg 0
    case measure=>omega
    case rel=>exact⟨1,rfl,by go_num,HBx,fun e=>absurd e (by omega)⟩
  ·obtain rfl:i=1:=by omega
   go_wp2_with fail
   refine bodyPost_end (results_none rfl _ _ _) rfl ?_;exact⟨rfl,aT HB1.out HBq.out⟩
end Go.Proofs.YtiadbhiadhgjkaaGreatDoor
