import Derived.Test.YtiadbhiadhgjkaaGreatDoorZzMp
import Derived.Test.YtiadbhiadhgjkaaGreatDoorZzIsaR
set_option maxRecDepth 100000
set_option maxHeartbeats 4000000
namespace Go.Proofs.YtiadbhiadhgjkaaGreatDoor
open Go.RowKit
theorem cZ.nc4{w:World}{g:Gh}{K:Km}(h:cZ w g K):K.nc<=4:=h.cores.nc
structure Ze(w w2:World)(g:Gh)(K:Km)(ab kind n:Int)(da:Option Addr)(dl dc xb eb:Nat):Prop where
 ms:eD w g K w2 g
 act:aR w2 xb #[.int .i64 kind,.int .i64 n,.slice da dl dc] 108
 ev:aR w2 eb #[.int .i64 0,.int .u64 0,.int .i64 0] 105
 fx:g.A xb=none
 fe:g.A eb=none
 ne:w.heap.size<=eb
theorem Uj{w:World}{g:Gh}{K:Km}(h:cZ w g K)(hI:Inv g K)(kind n:Int)(da:Option Addr)(dl dc:Nat) :
  Ze w ((w.alloc (.cells #[.int .i64 kind,.int .i64 n,.slice da dl dc] 108)).alloc (.cells #[.int .i64 0,.int .u64 0,.int .i64 0] 105)) g K 0 kind n da dl dc w.heap.size (w.heap.size+1):=by
 have hB:Below w.heap.size w ((w.alloc (.cells #[.int .i64 kind,.int .i64 n,.slice da dl dc] 108)).alloc (.cells #[.int .i64 0,.int .u64 0,.int .i64 0] 105)):=((aC _ w).alloc (aj _) _).alloc (by simp) _;refine⟨(eD.refl h hI).below hB,(aR.new _ _ _).alloc _,?_,h.kS _ (aj _),h.kS _ (by omega),by omega⟩;have:=aR.new (w.alloc (.cells #[.int .i64 kind,.int .i64 n,.slice da dl dc] 108)) #[.int .i64 0,.int .u64 0,.int .i64 0] 105;rw[au]at this;exact this
attribute [local irreducible] World.setCell World.alloc World.drew World.setRow Calls Code.wp
theorem zG{Q:World->Gh->Prop}(hQ:∀w w' g g',Q w g->Ext g g' w w'->Q w' g'){rE:Km->Ob->Option (Km×Int)}{wt:Km->Ob->Nat->Option (Km×Int)}(DF:Ai Q rE)(hwt:VX Q wt)
  (w:World) (g:Gh) (K K':Km) (n kind:Int) (ev:Ev) (da:Option Addr) (dl dc:Nat) (h:cZ w g K) (hI:Inv g K) (hO:Qw K) (hq:Q w g) (hnc:0<K.nc) (hk1:kind≠1) (hk2:kind≠2) (hres:K.nJ rE wt (n%(K.nc:Int)).toNat=some (K',ev)) :
  Calls Tryz.prog 18 #[.pointer (some ⟨g.kb,0,none⟩),.agg #[.int .i64 kind,.int .i64 n,.slice da dl dc]] w fun e w'=>e=.returned (WX ev)/\∃g',eD w g K' w' g':=by
 have h4:=h.nc4;obtain⟨i,hi0⟩:∃i:Nat,n%(K.nc:Int)=(i:Int):=⟨(n%(K.nc:Int)).toNat,by have:=Int.emod_nonneg n (show(K.nc:Int)≠0 by omega);omega⟩;have hi:i<K.nc:=by have:=Int.emod_lt_of_pos n (show 0<(K.nc:Int)by omega);omega
 rw[hi0,Int.toNat_natCast]at hres;have hS:=Uj h hI kind n da dl dc;have HS:=ah hS;obtain⟨sb,sc,cc,hV⟩:=hS.ms.kin.UJ hi;have k2:=hV.cores;have x0:((w.alloc (.cells #[.int .i64 kind,.int .i64 n,.slice da dl dc] 108)).alloc (.cells #[.int .i64 0,.int .u64 0,.int .i64 0] 105)).cell? ⟨w.heap.size,0,none⟩=some (.int .i64 kind):=(hS.act.cell 0).trans rfl;have x1:((w.alloc (.cells #[.int .i64 kind,.int .i64 n,.slice da dl dc] 108)).alloc (.cells #[.int .i64 0,.int .u64 0,.int .i64 0] 105)).cell? ⟨w.heap.size,1,none⟩=some (.int .i64 n):=(hS.act.cell 1).trans rfl;have hk3:(kind==1)=false:=by simpa using hk1
 have hk4:(kind==2)=false:=by simpa using hk2
 generalize hW:((w.alloc (.cells #[.int .i64 kind,.int .i64 n,.slice da dl dc] 108)).alloc (.cells #[.int .i64 0,.int .u64 0,.int .i64 0] 105))=w2 at HS k2 x0 x1;have hQ2:Q w2 g:=hQ _ _ _ _ hq HS.out.ms.ext
 have Hmo:Hid (Calls Tryz.prog 40 #[.int .i64 n,.int .i64 K.nc] w2.drew fun e w'=>e=.returned (.int .i64 (i:Int))/\w2.drew=w'):=ah (by
  have:=FQ n K.nc w2.drew ⟨by omega,by omega⟩;rw[hi0]at this;exact this)
 have HPi:Hid (Calls Tryz.prog 44 #[.pointer (some ⟨g.kb,0,none⟩),.int .i64 i] w2.drew fun e w'=>e=.returned (WX ev)/\∃g',eD w g K' w' g'/\aR w' (w.heap.size+1) #[.int .i64 0,.int .u64 0,.int .i64 0] 105/\g'.A (w.heap.size+1)=none):=ah (by
  have hm:eD w g K w2.drew g:=HS.out.ms.below ((aC _ w2).drew);refine(Ng hQ DF hwt w2.drew g K K' i ev hm.kin hI hO (hQ _ _ _ _ hQ2 (Ext.below (aC _ w2).drew)) hi hres).mono ?_;rintro e w' ⟨h1,g',h2⟩;exact⟨h1,g',hm.from h2,h2.ext.kept.blk HS.out.ev.drew (fun q=>q HS.out.fe),h2.ext.tag _ HS.out.ev.drew.lt HS.out.fe⟩)
 clear h hI hi0 hS hV hi hO hq hQ DF hwt hres hk1 hk2 hQ2;go_enter Tryz.func18,Tryz.ntmps18
 go_upto_region 2 with fail
 try rw[hW]
 have adA:Hid (Calls Tryz.prog 40 #[.int .i64 n,.int .i64 K.nc] w2.drew fun e w'=>∃v,e=.returned v/\(v=.int .i64 (i:Int)/\w2.drew=w')):=ah (Hmo.out.mono fun e w' ⟨h1,h2⟩=>⟨_,h1,rfl,h2⟩);have aef:Hid (Calls Tryz.prog 44 #[.pointer (some ⟨g.kb,0,none⟩),.int .i64 i] w2.drew fun e w'=>∃v,e=.returned v/\(v=.agg #[.int .i64 ev.core,.int .u64 ev.thread,.int .i64 ev.what]/\∃g',eD w g K' w' g'/\aR w' (w.heap.size+1) #[.int .i64 0,.int .u64 0,.int .i64 0] 105/\g'.A (w.heap.size+1)=none)):=ah (HPi.out.mono fun e w' ⟨h1,h2⟩=>⟨_,h1,rfl,h2⟩);have y0:w2.drew.cell? ⟨w.heap.size,1,none⟩=some (.int .i64 n):=dD x1;have y1:w2.drew.cell? ⟨g.kb,2,none⟩=some (.slice (some ⟨g.cb,0,none⟩) K.nc cc):=dD k2
 go_region_law (first
  | (refine cB (by rfl) (bP (vs:=#[.int .i64 n,.int .i64 K.nc]) (by simp[Act.eval,Act.put]) (bE Tryz.func40 (by kernel_rfl) rfl)) (adA.out) ?_;rintro v w3 ⟨rfl,rfl⟩)
  | (refine cB (by rfl) (bP (vs:=#[.pointer (some ⟨g.kb,0,none⟩),.int .i64 i]) (by simp[Act.eval]) (bE Tryz.func44 (by kernel_rfl) rfl)) (aef.out) ?_;rintro v w3 ⟨rfl,g3,hm3,hB3,hA3⟩;have ev0:w3.cell? ⟨w.heap.size+1,0,none⟩=some (.int .i64 0):=(hB3.cell 0).trans rfl;have ev1:w3.cell? ⟨w.heap.size+1,1,none⟩=some (.int .u64 0):=(hB3.cell 1).trans rfl;have ev2:w3.cell? ⟨w.heap.size+1,2,none⟩=some (.int .i64 0):=(hB3.cell 2).trans rfl;have hfe:=hB3.free;have hle:=hB3.lt))
 all_goals
  have uH:=ah hm3;have HB3:=ah hB3;have Xy:=ah hA3;clear hm3 hB3 hA3;go_wp2_with fail
  have hX:=(((HB3.out.set 0 (.int .i64 ev.core)).set 1 (.int .u64 ev.thread)).set 2 (.int .i64 ev.what)).cells (d:=#[.int .i64 ev.core,.int .u64 ev.thread,.int .i64 ev.what]) (by simp only[ay,aG,aH]);have hkp:=((((Kept.refl (·=w.heap.size+1) w3).bC (w.heap.size+1) 0 (.int .i64 ev.core) rfl).bC (w.heap.size+1) 1 (.int .u64 ev.thread) rfl).bC (w.heap.size+1) 2 (.int .i64 ev.what) rfl);exact bodyPost_ret (results_cell_row rfl _ _ (w.heap.size+1) _ _ (0,0) _ rfl hX Tryz.underlying105 rfl (by kernel_rfl)) rfl ⟨rfl,_,uH.out.free hkp HB3.out Xy.out (by omega) (by decide)⟩
theorem vU(w:World)(base:Nat)(ty:TypeId)(out v:Value)(m l:List Int)(hown:w.ownsRow base 5 1 out m.length (gU m))(hv:yH w v l)(hl:m.length+l.length<=100000000)(hb:base<=w.heap.size) :
  ∃v' w',(Builtin.append_ #[63,63] ty #[out,v]).run Tryz.prog w=.ok v' w'/\w'.ownsRow base 5 1 v' (m++l).length (gU (m++l))/\w.grownBy w' out.ownBlock:=by
 obtain⟨i,hi,hz,hs,hby⟩:∃i,Tryz.prog.info? 5=some i/\i.zero=some (.int .u8 0)/\i.size=1/\i.bytes=1:=info_parts (by kernel_rfl);obtain⟨x,c,rfl,hx⟩:=hv;have hbv:gU (m++l)=gU m++gU l:=by simp[gU]
 cases x with
 | none =>
  have hl0:l=[]:=by
   rcases hx with h|⟨b,o,e,_⟩
   ·exact h
   ·cases e
  subst hl0;refine⟨out,w,?_,by simpa using hown,World.grownBy.refl w _⟩;rcases hown.2 with⟨rfl,_⟩|⟨g,cap,cur,rfl,_,_,hcap,_⟩
  ·simp[Builtin.append_,run_underlying Tryz.underlying63,sizeOf,typeInfo,hi,Builtin.lenOf,Builtin.firstCells]
  ·simp[Builtin.append_,run_underlying Tryz.underlying63,sizeOf,typeInfo,hi,Builtin.lenOf,Builtin.firstCells,hcap,storeCells]
 | some ad =>
  have hcl:∀j u,(gU l)[j]? = some u->w.cell? (ad.add j)=some u:=by
   intro j u hu;rcases hx with rfl|⟨b,o,e,_,hc⟩
   ·simp[gU]at hu
   ·cases e
    have hj:j<l.length:=by
     rcases Nat.lt_or_ge j l.length with h'|h'
     ·exact h'
     ·rw[List.getElem?_eq_none (by simpa[gU]using h')]at hu;cases hu
    rw[Addr.add_lit,hc j hj];simpa[gU,hj,List.getD]using hu
  obtain⟨v',w',h1,h2,h3,_⟩:=run_append_own_at (P:=Tryz.prog) w base 63 ty 5 i (.int .u8 0) 1 1 Tryz.underlying63 hi hz hs hby rfl (by omega) out m.length (gU m) hown ad l.length c (gU l) (by simp[gU]) hcl (fun v hv=>by
   obtain⟨j,_,rfl⟩:=List.mem_map.1 hv;rfl) (by unfold maxLen;omega) (by omega) hb
  exact⟨v',w',h1,by rw[hbv,aO];exact h2,h3⟩
theorem uL{w:World}{ops:Array Oper}{o:Oper}{a:Act}{K:Act->World->Prop}{Q:Exit->Act->World->Prop}{Z:Prop}(hgd:o.guard=none)(s x:Operand)
  (ho:o.op=.call { callee:=.builtin .append,args:=#[s,x],argTypes:=#[63,63] }) (base:Nat) (out v:Value) (m l:List Int) (hs:a.eval s=out) (hx:a.eval x=v)
  (hown:w.ownsRow base 5 1 out m.length (gU m)) (hv:yH w v l) (hl:m.length+l.length<=100000000) (hb:base<=w.heap.size)
  (h:∀v' w',w'.ownsRow base 5 1 v' (m++l).length (gU (m++l))->w.grownBy w' out.ownBlock->K (a.put o.dst v') w') :
  if Region.wanted o (yielded ops a.tmps)=true then Oper.wp Tryz.prog o a w K Q else Z:=by
 have hw:Region.wanted o (yielded ops a.tmps)=true:=by simp[Region.wanted,hgd]
 rw[aD hw];obtain⟨v',w',hr,h2,h3⟩:=vU w base o.type out v m l hown hv hl hb;unfold Oper.wp execOp;simp only[ho,resolve,invoke,builtin,Sem.run_bind,Sem.run_pure,Result.andThen_ok,List.map_toArray,bW,List.map_nil,hs,hx,hr];exact h v' w' h2 h3
theorem qd{w:World}{base e size n:Nat}{v:Value}{xs:List Value}(h:w.ownsRow base e size v n xs):(∃a c,v=.slice a n c)/\∀b,v.ownBlock=some b->base<=b:=by
 rcases h.2 with⟨rfl,rfl⟩|⟨g,cap,cur,rfl,hg,_⟩
 ·exact⟨⟨_,_,rfl⟩,fun b hb=>by cases hb⟩
 ·exact⟨⟨_,_,rfl⟩,fun b hb=>by cases hb;exact hg⟩
theorem sV{w:World}{base e size n:Nat}{v:Value}{xs:List Value}(h:w.ownsRow base e size v n xs){b:Nat}(hb:v.ownBlock=some b):∃cs,aR w b cs e:=by
 rcases h.2 with⟨rfl,rfl⟩|⟨g,cap,cur,rfl,hg,hh,_⟩
 ·cases hb
 ·cases hb;exact⟨cur,hh⟩
structure yI(w:World)(bb nb:Nat)(m:List Int)(n:Int):Prop where
 ex:∃out,aR w bb #[out] 63/\w.ownsRow (nb+1) 5 1 out m.length (gU m)
 n:aR w nb #[.int .i64 n] 3
 ne:bb<nb
theorem QS(w:World)(bb nb:Nat)(m:List Int)(n op a b c bf:Int)(h:yI w bb nb m n)(hr:Ins.right ⟨op,a,b,c,bf⟩=true)(hi:-2147483648<=bf/\bf<=2147483647)(hm:m.length<=100000)(hn:0<=n/\n<=100000) :
  Calls Tryz.prog 53 #[.agg #[.int .i64 op,.int .i64 a,.int .i64 b,.int .i64 c,.int .i32 bf],.pointer (some ⟨bb,0,none⟩),.pointer (some ⟨nb,0,none⟩)] w fun e w' =>
   e=.returned (.tuple #[])/\yI w' bb nb (m++Ins.enc ⟨op,a,b,c,bf⟩) (n+1)/\Below bb w w'/\Kept (fun x=>x=bb\/x=nb\/∃cs,aR w x cs 5) w w':=by
 obtain⟨out,hB,hown⟩:=h.ex;have hN:=h.n;have hne:=h.ne;obtain⟨⟨o0,o1⟩,⟨a0,a1⟩,⟨b0,b1⟩,⟨c0,c1⟩⟩:=Ins.gJ hr;simp only at o0 o1 a0 a1 b0 b1 c0 c1;have k0:w.cell? ⟨bb,0,none⟩=some out:=(hB.cell 0).trans rfl;have k1:w.cell? ⟨nb,0,none⟩=some (.int .i64 n):=(hN.cell 0).trans rfl;have Hr:=ah hr;have Hi:=ah hi;have HB:=ah hB;have HN:=ah hN;have HO:=ah hown;have q1:bits .and .i64 a 15=a:=by rw[Pz];omega
 have q2:bits .and .i64 b 15=b:=by rw[Pz];omega
 have q3:bits .and .i64 c 15=c:=by rw[Pz];omega
 obtain⟨w3,hw3⟩:∃w3,w3=w.alloc (.cells #[.int .i64 op,.int .i64 a,.int .i64 b,.int .i64 c,.int .i32 bf] 26):=⟨_,rfl⟩;obtain⟨xb,hxb⟩:∃xb,w.heap.size=xb:=⟨_,rfl⟩;have hlb:=hB.lt;have hln:=hN.lt
 have hX:aR w3 xb #[.int .i64 op,.int .i64 a,.int .i64 b,.int .i64 c,.int .i32 bf] 26:=by
  rw[hw3,<-hxb];exact aR.new w _ _
 have hb3:Below xb w w3:=by
  rw[hw3,<-hxb];exact(aC _ w).alloc (aj _) _
 have hK3:Kept (fun _=>False) w w3:=Kept.of_below (by rw[hxb];exact hb3);have hB3:=hB.below hb3 (by omega);have hN3:=hN.below hb3 (by omega);have hO3:w3.ownsRow (nb+1) 5 1 out m.length (gU m):=dA hown hK3 (fun _ _ h=>h);have Hb3:=ah hb3;have HB3:=ah hB3;have Jg:=ah hN3;have BO:=ah hO3;have Ww:=ah hX;clear h hr hi hB hN hown hX hb3 hK3 hB3 hN3 hO3;go_enter Tryz.func53,Tryz.ntmps53
 go_wp2_with fail
 rw[<-hw3];clear hw3;have c0:w3.drew.cell? ⟨bb,0,none⟩=some out:=(HB3.out.drew.cell 0).trans rfl;have x0:w3.drew.cell? ⟨xb,0,none⟩=some (.int .i64 op):=(Ww.out.drew.cell 0).trans rfl;have x1:w3.drew.cell? ⟨xb,1,none⟩=some (.int .i64 a):=(Ww.out.drew.cell 1).trans rfl;have x2:w3.drew.cell? ⟨xb,2,none⟩=some (.int .i64 b):=(Ww.out.drew.cell 2).trans rfl;have x3:w3.drew.cell? ⟨xb,3,none⟩=some (.int .i64 c):=(Ww.out.drew.cell 3).trans rfl;have x4:w3.drew.cell? ⟨xb,4,none⟩=some (.int .i32 bf):=(Ww.out.drew.cell 4).trans rfl
 have Xh:Hid (Calls Tryz.prog 54 #[.agg #[.int .i64 op,.int .i64 a,.int .i64 b,.int .i64 c,.int .i32 bf]] w3.drew fun e w'=>∃v,e=.returned v/\(yH w' v (Ins.enc ⟨op,a,b,c,bf⟩)/\Below w3.heap.size w3 w')):=ah (by
  refine(Sb op a b c bf w3.drew Hr.out Hi.out).mono ?_;rintro e w' ⟨v,h1,h2,h3⟩;rw[cK]at h3;exact⟨v,h1,h2,(aC _ w3).drew.trans h3⟩)
 obtain⟨i0,hi0,hz0,hz1,hz2⟩:∃i,Tryz.prog.info? 5=some i/\i.zero=some (.int .u8 0)/\i.size=1/\i.bytes=1:=info_parts (by kernel_rfl);have pJ:Hid (∀x,out.ownBlock=some x->∃cs,aR w x cs 5):=ah (fun x hx=>sV HO.out hx);have wM:Hid (Kept (fun _=>False) w w3):=ah (Kept.of_below (by rw[hxb];exact Hb3.out))
 have HGr:Hid (∀w4 w5,Below w3.heap.size w3 w4->w4.grownBy w5 out.ownBlock->w5.cell? ⟨bb,0,none⟩=some out/\w5.frozen? ⟨bb,0,none⟩=false/\aR w5 bb #[out] 63/\aR w5 nb #[.int .i64 n] 3):=ah (fun w4 w5 hb hg=>by
  have hk:=dG hg;have hge:=(qd BO.out).2;have h1:=hk.blk (HB3.out.below hb HB3.out.lt) (fun e=>by have:=hge _ e;omega);have h2:=hk.blk (Jg.out.below hb Jg.out.lt) (fun e=>by have:=hge _ e;omega);exact⟨(h1.cell 0).trans rfl,h1.free 0,h1,h2⟩)
 clear k0 k1
 go_region_law (first
  | (refine cB (by rfl) (bP (vs:=#[.agg #[.int .i64 op,.int .i64 a,.int .i64 b,.int .i64 c,.int .i32 bf]]) (by simp[Act.eval]) (bE Tryz.func54 (by kernel_rfl) rfl)) (Xh.out) ?_;rintro v w4 ⟨hs4,hb4⟩;have c4:w4.cell? ⟨bb,0,none⟩=some out:=((HB3.out.below hb4 HB3.out.lt).cell 0).trans rfl)
  | (refine uL (by rfl) (.tmp 16) (.tmp 18) (by rfl) (nb+1) out v m (Ins.enc ⟨op,a,b,c,bf⟩) (by simp[Act.eval]) (by simp[Act.eval]) (dA BO.out (Kept.of_below hb4) (fun _ _ h=>h)) hs4 (by simp[Ins.enc];omega) (by have:=Jg.out.lt;have:=hb4.size;omega) ?_;intro v5 w5 hown5 fI;obtain⟨⟨a5,k5,rfl⟩,Vm⟩:=qd hown5;obtain⟨f5,f6,f7,f8⟩:=HGr.out w4 w5 hb4 fI))
 all_goals
  have HF:Hid (yI ((w5.setCell ⟨bb,0,none⟩ (.slice a5 (m.length+(Ins.enc ⟨op,a,b,c,bf⟩).length) k5)).setCell ⟨nb,0,none⟩ (.int .i64 (n+1))) bb nb (m++Ins.enc ⟨op,a,b,c,bf⟩) (n+1)/\Below bb w ((w5.setCell ⟨bb,0,none⟩ (.slice a5 (m.length+(Ins.enc ⟨op,a,b,c,bf⟩).length) k5)).setCell ⟨nb,0,none⟩ (.int .i64 (n+1)))/\Kept (fun x=>x=bb\/x=nb\/∃cs,aR w x cs 5) w ((w5.setCell ⟨bb,0,none⟩ (.slice a5 (m.length+(Ins.enc ⟨op,a,b,c,bf⟩).length) k5)).setCell ⟨nb,0,none⟩ (.int .i64 (n+1)))):=ah (by
   rw[aO]at hown5 Vm;have hne':nb≠bb:=by omega
   have hB6:=((f7.set 0 (.slice a5 (m.length+(Ins.enc ⟨op,a,b,c,bf⟩).length) k5)).cells (d:=#[.slice a5 (m.length+(Ins.enc ⟨op,a,b,c,bf⟩).length) k5]) (by simp only[ay,aG])).aI (a:=⟨nb,0,none⟩) hne' (.int .i64 (n+1));have hN6:=((f8.aI (a:=⟨bb,0,none⟩) (Nat.ne_of_lt hne) (.slice a5 (m.length+(Ins.enc ⟨op,a,b,c,bf⟩).length) k5)).set 0 (.int .i64 (n+1))).cells (d:=#[.int .i64 (n+1)]) (by simp only[ay,aG]);have hK6:=((Kept.refl (fun x=>x=bb\/x=nb) w5).bC bb 0 (.slice a5 (m.length+(Ins.enc ⟨op,a,b,c,bf⟩).length) k5) (.inl rfl)).bC nb 0 (.int .i64 (n+1)) (.inr rfl);refine⟨⟨⟨_,hB6,?_⟩,hN6,hne⟩,?_,?_⟩
   ·rw[aO]
    exact dA hown5 hK6 (fun b hb e=>by have:=Vm b hb;omega)
   ·have hb5:Below bb w3 w5:=(Below.mono hb4 (by have:=HB3.out.lt;omega)).trans (Below.mono (Below.grown (aC (nb+1) w4) fI (by have:=Jg.out.lt;have:=hb4.size;omega) (fun k hk=>(qd BO.out).2 k hk)) (by omega))
    have hb3':Below bb w w3:=Below.mono Hb3.out (by omega);exact((hb3'.trans hb5).setCell (p:=⟨bb,0,none⟩) (aj _) _).setCell (p:=⟨nb,0,none⟩) (by show bb<=nb;omega) _
   ·exact(((wM.out.mono (fun _ _ e=>e.elim)).trans (Kept.of_below hb4)).trans ((dG fI).mono (fun x _ e=>.inr (.inr (pJ.out x e))))).trans (hK6.mono (fun _ _ e=>e.imp id .inl)))
  have n1:(w5.setCell ⟨bb,0,none⟩ (.slice a5 (m.length+(Ins.enc ⟨op,a,b,c,bf⟩).length) k5)).cell? ⟨nb,0,none⟩=some (.int .i64 n):=((f8.aI (a:=⟨bb,0,none⟩) (Nat.ne_of_lt hne) _).cell 0).trans rfl;have n2:(w5.setCell ⟨bb,0,none⟩ (.slice a5 (m.length+(Ins.enc ⟨op,a,b,c,bf⟩).length) k5)).frozen? ⟨nb,0,none⟩=false:=(f8.aI (a:=⟨bb,0,none⟩) (Nat.ne_of_lt hne) _).free 0;have hsum:IntKind.i64.wrap (n+1)=n+1:=aV _ (by omega);clear f5 f6 f7 f8 hown5 fI Vm hb4 hs4 c0 x0 x1 x2 x3 x4;go_wp2_with fail
  go_end0
  exact⟨rfl,HF.out⟩
end Go.Proofs.YtiadbhiadhgjkaaGreatDoor
