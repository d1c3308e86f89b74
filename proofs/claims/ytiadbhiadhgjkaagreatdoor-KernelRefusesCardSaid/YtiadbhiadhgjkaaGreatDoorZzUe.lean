import Derived.Test.YtiadbhiadhgjkaaGreatDoorZzLib
import Derived.Deep.LoopGhost
import Derived.Deep.AppendLies
import Derived.Test.YtiadbhiadhgjkaaGreatDoorZzKm
import Derived.Test.YtiadbhiadhgjkaaGreatDoorZzQa
set_option maxRecDepth 100000
set_option maxHeartbeats 4000000
namespace Go.Proofs.YtiadbhiadhgjkaaGreatDoor
open Go.RowKit
attribute [local irreducible] World.setCell World.alloc World.drew World.setRow Calls Code.wp
def roC(name home kind ld:Int)(lp:Value)(lim used given next hi:Int)(kids data:Value):Array Value:=#[.int .u64 name,.int .u64 home,.int .i64 kind,.int .i64 ld,lp,.int .i64 0,.slice none 0 0,.int .u64 0,.int .i64 lim,.int .i64 used,.int .i64 given,.int .u64 next,.int .u64 hi,kids,data,
 .int .u64 0,.slice none 0 0,.int .u64 0,.int .u64 0,.int .u64 0,.int .u64 0,.int .u64 0,.int .u64 0,.int .u64 0,.int .u64 0,.int .u64 0,.int .u64 0,.int .u64 0,.int .u64 0,.int .u64 0,.int .u64 0,.int .u64 0,.int .u64 0,.int .u64 0,
 .int .u64 0,.int .u64 0,.int .i64 0,.int .i64 0,.int .i64 0,.int .i64 0,.bool false,.bool false,.int .u64 0,.int .i64 0,.int .u64 0,.int .u64 0,.int .u64 0,.slice none 0 0,.slice none 0 0,.slice none 0 0,.int .i64 0]
structure adQ(w:World)(mb ob oc:Nat)(bs:List Nat):Prop where
 row:w.cell? ⟨mb,0,none⟩=some (.slice (some ⟨ob,0,none⟩) bs.length oc)
 ptr:∀(k b:Nat),bs[k]? = some b->w.cell? ⟨ob,k,none⟩=some (.pointer (some ⟨b,0,none⟩))
 nam:∀(k b:Nat),bs[k]? = some b->w.cell? ⟨b,0,none⟩=some (.int .u64 ((k:Int)+1))
 le:bs.length<=100
theorem aaB(w:World)(mb ob oc:Nat)(bs:List Nat)(n b:Nat)(h:adQ w mb ob oc bs)(hb:bs[n]? = some b) :
  Calls Tryz.prog 21 #[.pointer (some ⟨mb,0,none⟩),.int .u64 ((n:Int)+1)] w fun e w'=>e=.returned (.pointer (some ⟨b,0,none⟩))/\w'=w:=by
 have hn:n<bs.length:=(aW.1 hb).1;have h0:=h.row;have Hp:=ah h.ptr;have Hn:=ah h.nam;have Hl:=ah h.le;have Hb:=ah hb;clear h hb;go_enter Tryz.func21,Tryz.ntmps21
 go_wp2_with fail
 go_loopg [5] (n+1) (fun gg v5 wq=>∃i:Nat,i+gg=n+1/\1<=gg/\v5=.int .i64 i/\wq=w)
 case atStart=>exact⟨0,by omega,by omega,rfl,rfl⟩
 case round =>
  obtain⟨i,hi,hg,rfl,rfl⟩:=hrel;obtain⟨c,hc⟩:∃c,bs[i]? = some c:=⟨_,aQ (by omega)⟩;have c1:=Hp.out i c hc;have c2:=Hn.out i c hc;have hlt:(i:Int)<bs.length:=by omega
  have Hc:=ah hc;clear hc;by_cases e:i=n
  ·subst e
   have he:(((i:Int)+1)==((i:Int)+1))=true:=by simp
   have hcb:c=b:=Option.some.inj (Hc.out.symm.trans Hb.out);subst hcb;go_wp2_with fail
   go_ret;exact⟨rfl,rfl⟩
  ·have he:(((i:Int)+1)==((n:Int)+1))=false:=by simp;omega
   have hne:i+1<=n:=by omega
   clear e;go_wp2_with fail
   go_roundg (gk-1)
   case measure=>omega
   case rel =>
    have:=Hl.out;refine⟨i+1,by omega,by omega,?_,rfl⟩;rw[IntWalk.wrap64_in _ (by omega)];rfl
theorem aaZ(w:World)(b:Nat)(k:Int)(a:Option Addr)(n c:Nat)(hn:n<=1000000)(h2:w.cell? ⟨b,2,none⟩=some (.int .i64 k))(h14:w.cell? ⟨b,14,none⟩=some (.slice a n c))(hk:k=1\/k=2\/k=6) :
  Calls Tryz.prog 47 #[.pointer (some ⟨b,0,none⟩)] w fun e w'=>e=.returned (.int .i64 (if k=2 then 1+((n/64:Nat):Int)else 1))/\w'=w:=by
 have hq:IntKind.i64.wrap (Int.tdiv (n:Int) 64)=((n/64:Nat):Int):=by
  rw[Int.tdiv_eq_ediv_of_nonneg (by omega),aV _ (by omega)];omega
 have hq2:IntKind.i64.wrap (1+((n/64:Nat):Int))=1+((n/64:Nat):Int):=aV _ (by omega);rcases hk with rfl|rfl|rfl
 all_goals
  go_enter Tryz.func47,Tryz.ntmps47
  go_wp2_with fail
  go_ret;first|exact⟨rfl,rfl⟩|exact⟨by simp,rfl⟩
def aam(b:Nat):Value:=.pointer (some ⟨b,0,none⟩)
def aai(w W:World)(dv:Value):Prop:=dv=.slice none 0 0\/∃D n cs,dv=.slice (some ⟨D,0,none⟩) n n/\aR W D cs 5/\cs.size=n/\w.heap.size<=D
section
variable {w W W':World}{dv:Value}
theorem aai.kept(h:aai w W dv){S:Nat->Prop}(k:Kept S W W')(hs:∀D cs,aR W D cs 5->¬S D):aai w W' dv:=by
 rcases h with e|⟨D,n,cs,e,hB,hn,hl⟩
 ·exact .inl e
 ·exact .inr ⟨D,n,cs,e,k.blk hB (hs D cs hB),hn,hl⟩
theorem aad{b:Nat}{c c':Array Value}{t t':TypeId}(h:aR W b c t)(h':aR W b c' t'):t=t':=by
 have:=h.symm.trans h';simp at this;exact this.2
theorem aai.set(h:aai w W dv){b:Nat}{c:Array Value}{t:TypeId}(hb:aR W b c t)(ht:t≠5)(i:Nat)(v:Value):aai w (W.setCell ⟨b,i,none⟩ v) dv :=
 h.kept ((Kept.refl (·=b) W).bC _ _ _ rfl) (fun D cs hB e=>by rw[e]at hB;exact ht (aad hb hB))
end
structure acF(B:Nat)(w w':World)(mb rb ob:Nat)(ov nv dv kv ov' kv':Value)(bs:List Nat)(apA:Nat)(ks:List Value)(used given nx hi lim nx1 hi1:Int)(k d:Int)(lp data:Value):Prop where
 m:aR w' mb #[ov',nv,dv] 91
 row:w'.ownsRow B 114 1 ov' (bs.length+1) ((bs++[ob]).map aam)
 root:aR w' rb (roC 1 0 1 2 (.slice none 0 0) 600 used given nx hi kv' (.slice none 0 0)) 118
 kids:w'.ownsRow B 37 1 kv' (apA+1) ks
 new:aR w' ob (roC (nx-1) 1 k d lp lim 0 0 nx1 hi1 (.slice none 0 0) data) 118
 fresh:w.heap.size<=ob
 kept:Kept (fun b=>b=mb\/b=rb\/kv.ownBlock=some b\/ov.ownBlock=some b) w w'
 data:aai w w' data
 own:∀g,kv'.ownBlock=some g->kv.ownBlock=some g\/w.heap.size<=g
section
variable (a h k d:Int)(lp:Value)(lim u g nx hi:Int)(kv dv:Value)(x:Int)(v:Value)
theorem adG:(roC a h k d lp lim u g nx hi kv dv).setIfInBounds 0 (.int .u64 x)=roC x h k d lp lim u g nx hi kv dv:=rfl
theorem adE:(roC a h k d lp lim u g nx hi kv dv).setIfInBounds 8 (.int .i64 x)=roC a h k d lp x u g nx hi kv dv:=rfl
theorem adD:(roC a h k d lp lim u g nx hi kv dv).setIfInBounds 9 (.int .i64 x)=roC a h k d lp lim x g nx hi kv dv:=rfl
theorem adq:(roC a h k d lp lim u g nx hi kv dv).setIfInBounds 10 (.int .i64 x)=roC a h k d lp lim u x nx hi kv dv:=rfl
theorem abj:(roC a h k d lp lim u g nx hi kv dv).setIfInBounds 11 (.int .u64 x)=roC a h k d lp lim u g x hi kv dv:=rfl
theorem abh:(roC a h k d lp lim u g nx hi kv dv).setIfInBounds 12 (.int .u64 x)=roC a h k d lp lim u g nx x kv dv:=rfl
theorem adp:(roC a h k d lp lim u g nx hi kv dv).setIfInBounds 13 v=roC a h k d lp lim u g nx hi v dv:=rfl
theorem abg:(roC a h k d lp lim u g nx hi kv dv).setIfInBounds 14 v=roC a h k d lp lim u g nx hi kv v:=rfl
end
structure RPl(S:Nat->Prop)(w W:World)(rb ob:Nat)(o r:Array Value)(dv:Value):Prop where
 ge:w.heap.size<=ob
 lt:rb<w.heap.size
 s:S rb
 bo:aR W ob o 118
 br:aR W rb r 118
 kept:Kept S w W
 dat:aai w W dv
section
variable {S S':Nat->Prop}{w W W':World}{rb ob:Nat}{o r o':Array Value}{dv:Value}
theorem RPl.so(h:RPl S w W rb ob o r dv)(i:Nat)(v:Value)(e:o.setIfInBounds i v=o'):RPl S w (W.setCell ⟨ob,i,none⟩ v) rb ob o' r dv :=
 ⟨h.ge,h.lt,h.s,(h.bo.set i v).cells e,h.br.aI (by show ob≠rb;have:=h.ge;have:=h.lt;omega) v,h.kept.oz _ _ _ h.ge,h.dat.set h.bo (by decide) _ _⟩
theorem RPl.sr(h:RPl S w W rb ob o r dv)(i:Nat)(v:Value)(e:r.setIfInBounds i v=o'):RPl S w (W.setCell ⟨rb,i,none⟩ v) rb ob o o' dv :=
 ⟨h.ge,h.lt,h.s,h.bo.aI (by show rb≠ob;have:=h.ge;have:=h.lt;omega) v,(h.br.set i v).cells e,h.kept.bC _ _ _ h.s,h.dat.set h.br (by decide) _ _⟩
theorem RPl.drew(h:RPl S w W rb ob o r dv):RPl S w W.drew rb ob o r dv:=⟨h.ge,h.lt,h.s,h.bo.drew,h.br.drew,h.kept.drew,h.dat.kept ((Kept.refl (fun _=>False) W).drew) (fun _ _ _ q=>q)⟩
theorem RPl.drewN(h:RPl S w W rb ob o r dv)(n:Nat):RPl S w (W.drewN n) rb ob o r dv:=⟨h.ge,h.lt,h.s,h.bo.drewN n,h.br.drewN n,h.kept.drewN n,h.dat.kept ((Kept.refl (fun _=>False) W).drewN n) (fun _ _ _ q=>q)⟩
theorem RPl.alloc(h:RPl S w W rb ob o r dv)(x:Obj):RPl S w (W.alloc x) rb ob o r dv:=⟨h.ge,h.lt,h.s,h.bo.alloc _,h.br.alloc _,h.kept.alloc _,h.dat.kept ((Kept.refl (fun _=>False) W).alloc x) (fun _ _ _ q=>q)⟩
theorem RPl.bytes(h:RPl S w W rb ob o r (.slice none 0 0))(cs:Array Value):RPl S w (W.alloc (.cells cs 5)) rb ob o r (.slice (some ⟨W.heap.size,0,none⟩) cs.size cs.size) :=
 ⟨h.ge,h.lt,h.s,h.bo.alloc _,h.br.alloc _,h.kept.alloc _,.inr ⟨_,_,cs,rfl,aR.new _ _ _,rfl,h.kept.size⟩⟩
theorem RPl.made(h:RPl S w W rb ob o r (.slice none 0 0))(cs:Array Value){n:Nat}(hn:cs.size=n)(e:o.setIfInBounds 14 (.slice (some ⟨W.heap.size,0,none⟩) n n)=o') :
  RPl S w ((W.setCell ⟨ob,14,none⟩ (.slice (some ⟨W.heap.size,0,none⟩) n n)).alloc (.cells cs 5)) rb ob o' r (.slice (some ⟨W.heap.size,0,none⟩) n n):=by
 have h1:=(h.so 14 _ e).bytes cs;rw[hn,show(W.setCell ⟨ob,14,none⟩ (.slice (some ⟨W.heap.size,0,none⟩) n n)).heap.size=W.heap.size by simp]at h1;exact h1
theorem RPl.mono(h:RPl S w W rb ob o r dv)(hs:∀b,S b->S' b):RPl S' w W rb ob o r dv:=⟨h.ge,h.lt,hs _ h.s,h.bo,h.br,h.kept.mono (fun b _ q=>hs b q),h.dat⟩
theorem RPl.grown(h:RPl S w W rb ob o r dv){g:Option Nat}(hg:W.grownBy W' g)(hs:∀b,g=some b->b<w.heap.size->S b)(n1:g≠some ob)(n2:g≠some rb)(n3:∀D cs,aR W D cs 5->g≠some D):RPl S w W' rb ob o r dv:=by
 have k:=dG hg;exact⟨h.ge,h.lt,h.s,k.blk h.bo n1,k.blk h.br n2,h.kept.then k (fun b hb q=>hs b q hb),h.dat.kept k n3⟩
end
theorem own_ne{w W:World}{base e size n:Nat}{v:Value}{xs:List Value}(h:w.ownsRow base e size v n xs){b:Nat}{cs:Array Value}{T:TypeId}(hb:aR W b cs T)(hT:e≠T)(hw:W=w):v.ownBlock≠some b:=fun q=>by
 obtain⟨cs',hB⟩:=sV h q;subst hw;have:=hB.symm.trans hb;simp at this;exact hT this.2
theorem acQ:(Tryz.prog.info? 114).map (fun i=>(i.zero,i.size,i.bytes))=some (some (.pointer none),1,8):=by kernel_rfl
def rtC(used given nx hi:Int)(kv:Value):Array Value:=roC 1 0 1 2 (.slice none 0 0) 600 used given nx hi kv (.slice none 0 0)
def nwC(nm k d:Int)(lp:Value)(lim nx1 hi1:Int)(dv:Value):Array Value:=roC nm 1 k d lp lim 0 0 nx1 hi1 (.slice none 0 0) dv
theorem aaT(n:Nat)(h:n<=1000)(w:World):∃cs:Array Value,cs.size=n/\(Instr.makeSlice 63 (.int .i64 (n:Int)) (.int .i64 (n:Int))).run Tryz.prog w=.ok (.slice (some ⟨w.heap.size,0,none⟩) n n) (w.alloc (.cells cs 5)):=by
 obtain⟨i,hi,hz,hs,hb⟩:∃i,Tryz.prog.info? 5=some i/\i.zero=some (.int .u8 0)/\i.size=1/\i.bytes=1 :=
  info_parts (by kernel_rfl)
 have:=run_make (P:=Tryz.prog) w 63 5 i _ Tryz.underlying63 hi hz .i64 .i64 (n:Int) (n:Int) (by omega) (by omega) (by rw[hb];omega) (by omega)
 refine⟨_,?_,by rw[this,hs,show((n:Int)).toNat=n by omega,xG _ (.int .u8 0) _ (by simp[Value.cells]) (fun i hi=>by
  simp[Value.cells]at hi ⊢;subst hi;rfl),Nat.mul_one]⟩
 simp[row]
theorem acD(w:World)(k d:Int)(la:Option Addr)(n c:Nat):(Instr.build 118 #[(2,.int .i64 k),(3,.agg #[.int .i64 d,.slice la n c]),(1,.int .u64 1)]).run Tryz.prog w=.ok (.agg (roC 0 1 k d (.slice la n c) 0 0 0 0 0 (.slice none 0 0) (.slice none 0 0))) w:=by kernel_rfl
def adh(k p c need gv cost nx1 hi1 hi:Int):Prop:=(k=1/\p=120/\c=40/\need=41/\gv=120/\cost=1/\nx1=hi-40/\hi1=hi)\/(k=2/\p=2/\c=0/\need=1/\gv=0/\cost=3/\nx1=0/\hi1=0) \/
 (k=2/\p=1/\c=0/\need=1/\gv=0/\cost=2/\nx1=0/\hi1=0)\/(k=6/\p=0/\c=0/\need=1/\gv=0/\cost=1/\nx1=0/\hi1=0)
theorem aaI(B:Nat)(w:World)(hBw:B<=w.heap.size)(mb rb:Nat)(ov nv apB kv:Value)(bs:List Nat)(apA:Nat)(ks:List Value)(used given nx hi:Int)(d:Int)(la:Option Addr)(ln lc:Nat)(k p c need gv cost nx1 hi1:Int)(hk:adh k p c need gv cost nx1 hi1 hi)
  (hm:aR w mb #[ov,nv,apB] 91) (hr:aR w rb (rtC used given nx hi kv) 118)
  (ho:w.ownsRow B 114 1 ov bs.length (bs.map aam)) (hks:w.ownsRow B 37 1 kv apA ks) (hn:apA<=100/\bs.length<=100)
  (hx:2<=nx/\nx<=10) (hh:100<=hi/\hi<=300) (hu:0<=used/\used<=20) (hg:0<=given/\given<=200) :
  Calls Tryz.prog 20 #[.pointer (some ⟨mb,0,none⟩),.pointer (some ⟨rb,0,none⟩),.int .i64 k,.agg #[.int .i64 d,.slice la ln lc],.int .i64 p,.int .i64 c] w fun e w' =>
   ∃ob ov' kv' dv,e=.returned (.tuple #[.pointer (some ⟨ob,0,none⟩),.int .i64 0])/\acF B w w' mb rb ob ov nv apB kv ov' kv' bs apA (ks++[.int .u64 nx]) (used+cost) (given+gv) (nx+1) (hi-c) gv nx1 hi1 k d (.slice la ln lc) dv:=by
 have r0:w.cell? ⟨rb,0,none⟩=some (.int .u64 1):=(hr.cell 0).trans rfl;have b0:=hr.lt;have b1:rb<w.heap.size+1:=by omega
 have bld:=fun W=>acD W k d la ln lc
 have HR:=ah hr;have HM:=ah hm;have HO:=ah ho;have HK:=ah hks;have Hk:=ah hk;have HBw:=ah hBw;clear hr hm ho hks hk hBw;go_enter Tryz.func20,Tryz.ntmps20
 go_upto_region 1 with fail
 go_cut [14] (fun v14 wx=>∃ob,v14=.pointer (some ⟨ob,0,none⟩)/\Hid (RPl (·=rb) w wx rb ob (nwC 0 k d (.slice la ln lc) 0 0 0 (.slice none 0 0)) (rtC used given nx hi kv) (.slice none 0 0)))
 case first =>
  go_region
  go_wp2_with fail
  go_meet;have k0:=((Kept.refl (·=rb) w).alloc (.cells #[.int .i64 d,.slice la ln lc] 43)).alloc (.cells (nwC 0 k d (.slice la ln lc) 0 0 0 (.slice none 0 0)) 118);refine⟨_,rfl,ah ⟨by omega,HR.out.lt,rfl,?_,((HR.out.alloc _).alloc _).drew,k0.drew,.inl rfl⟩⟩;have hB:=(aR.new (w.alloc (.cells #[.int .i64 d,.slice la ln lc] 43)) (nwC 0 k d (.slice la ln lc) 0 0 0 (.slice none 0 0)) 118).drew;rw[au]at hB;exact hB
 case rest =>
  obtain⟨ob,rfl,Cb⟩:=hcut;rename World=>w1
  clear r0 b0 b1 bld;have n1:=Cb.out.ge;have n2:=Cb.out.lt;have hne:(rb=ob)=False:=by simp;omega
  have hne':(ob=rb)=False:=by simp;omega
  clear n1 n2
  have lG:∀(k:Int) (dv:Value) (W:World) (nm:Int) (a:Option Addr) (n c:Nat),n<=1000000->dv=.slice a n c->(k=1\/k=2\/k=6)->aR W ob (nwC nm k d (.slice la ln lc) 0 0 0 dv) 118->Calls Tryz.prog 47 #[.pointer (some ⟨ob,0,none⟩)] W fun e w'=>e=.returned (.int .i64 (if k=2 then 1+((n/64:Nat):Int)else 1))/\w'=W:=fun k dv W nm a n c hn e hk hB=>by
   subst e;exact aaZ _ ob k a n c hn ((hB.cell 2).trans rfl) ((hB.cell 14).trans rfl) hk
  have aaG:=ah lG;clear lG;go_upto_if 26 with fail
  go_cut [15,16] (fun v15 v16 wx=>v15=.int .u64 need/\v16=.int .i64 gv/\wx=w1)
  case first =>
   rcases Hk.out with⟨rfl,rfl,rfl,rfl,rfl,-,-,-⟩|⟨rfl,rfl,rfl,rfl,rfl,-,-,-⟩|⟨rfl,rfl,rfl,rfl,rfl,-,-,-⟩|⟨rfl,rfl,rfl,rfl,rfl,-,-,-⟩
   all_goals
    go_wp2_with fail
    go_meet;exact⟨rfl,rfl,rfl⟩
  case rest =>
  obtain⟨rfl,rfl,rfl⟩:=hcut;rename World=>w1
  go_upto_if 33 with fail
  go_cut [] (fun wx=>∃dv,Hid (RPl (·=rb) w wx rb ob (nwC 0 k d (.slice la ln lc) 0 0 0 dv) (rtC used given nx hi kv) dv)/\Hid (∀W nm,aR W ob (nwC nm k d (.slice la ln lc) 0 0 0 dv) 118->Calls Tryz.prog 47 #[.pointer (some ⟨ob,0,none⟩)] W fun e w'=>e=.returned (.int .i64 cost)/\w'=W))
  case first =>
   have o14:w1.cell? ⟨ob,14,none⟩=some (.slice none 0 0):=(Cb.out.bo.cell 14).trans rfl;have f14:w1.frozen? ⟨ob,14,none⟩=false:=Cb.out.bo.free 14;have hl:=Cb.out.bo.lt;have hl1:ob<w1.heap.size+1:=by omega
   have Xc:Hid (∀n:Nat,n<=1000->∃cs:Array Value,cs.size=n/\(Instr.makeSlice 63 (.int .i64 (n:Int)) (.int .i64 (n:Int))).run Tryz.prog w1=.ok (.slice (some ⟨w1.heap.size,0,none⟩) n n) (w1.alloc (.cells cs 5))):=ah (fun n h=>aaT n h w1);rcases Hk.out with⟨rfl,rfl,rfl,rfl,rfl,rfl,-,-⟩|⟨rfl,rfl,rfl,rfl,rfl,rfl,-,-⟩|⟨rfl,rfl,rfl,rfl,rfl,rfl,-,-⟩|⟨rfl,rfl,rfl,rfl,rfl,rfl,-,-⟩
   ·go_wp2_with fail
    go_meet;exact⟨_,Cb,ah (fun W nm hB=>aaG.out 1 _ W nm none 0 0 (by omega) rfl (.inl rfl) hB)⟩
   ·obtain⟨cs,hcs,hmk⟩:=Xc.out 128 (by omega)
    have hmk':(Instr.makeSlice 63 (.int .i64 128) (.int .i64 128)).run Tryz.prog w1=.ok (.slice (some ⟨w1.heap.size,0,none⟩) 128 128) (w1.alloc (.cells cs 5)):=by simpa using hmk
    have Hcs:=ah hcs;clear hcs hmk;go_wp2_with fail
    go_meet;exact⟨_,ah (Cb.out.made cs Hcs.out (abg ..)),ah (fun W nm hB=>aaG.out 2 _ W nm _ 128 128 (by omega) rfl (.inr (.inl rfl)) hB)⟩
   ·obtain⟨cs,hcs,hmk⟩:=Xc.out 64 (by omega)
    have hmk':(Instr.makeSlice 63 (.int .i64 64) (.int .i64 64)).run Tryz.prog w1=.ok (.slice (some ⟨w1.heap.size,0,none⟩) 64 64) (w1.alloc (.cells cs 5)):=by simpa using hmk
    have Hcs:=ah hcs;clear hcs hmk;go_wp2_with fail
    go_meet;exact⟨_,ah (Cb.out.made cs Hcs.out (abg ..)),ah (fun W nm hB=>aaG.out 2 _ W nm _ 64 64 (by omega) rfl (.inr (.inl rfl)) hB)⟩
   ·go_wp2_with fail
    go_meet;exact⟨_,Cb,ah (fun W nm hB=>aaG.out 6 _ W nm none 0 0 (by omega) rfl (.inr (.inr rfl)) hB)⟩
  case rest =>
  obtain⟨dv,Cb,HC⟩:=hcut;rename World=>w1
  clear aaG;have hb:1<=cost/\cost<=3/\0<=gv/\gv<=120/\1<=need/\need<=41:=by rcases Hk.out with h|h|h|h<;>omega
  have Hb:=ah hb;have hb1:cost<=3:=hb.2.1;have hb0:1<=cost:=hb.1;have hb3:gv<=120:=hb.2.2.2.1;have hb2:0<=gv:=hb.2.2.1;have hb5:need<=41:=hb.2.2.2.2.2;clear hb;have r11:w1.cell? ⟨rb,11,none⟩=some (.int .u64 nx):=(Cb.out.br.cell 11).trans rfl;have r12:w1.cell? ⟨rb,12,none⟩=some (.int .u64 hi):=(Cb.out.br.cell 12).trans rfl;have q1:IntKind.u64.wrap (hi-nx)=hi-nx:=IntWalk.u64_in _ (by omega);have q2:decide (hi-nx<need)=false:=aX (by omega);go_wp2_with fail
  go_quiet (fail)
  obtain⟨w2,hw2⟩:∃w2,w1.drewN nq=w2:=⟨_,rfl⟩;rw[hw2];have LC:=ah (Cb.out.drewN nq);rw[hw2]at LC;clear hw2 r11 r12 Cb q1;rename World=>w2
  have r8:w2.cell? ⟨rb,8,none⟩=some (.int .i64 600):=(LC.out.br.cell 8).trans rfl;have r9:w2.cell? ⟨rb,9,none⟩=some (.int .i64 used):=(LC.out.br.cell 9).trans rfl;have r10:w2.cell? ⟨rb,10,none⟩=some (.int .i64 given):=(LC.out.br.cell 10).trans rfl;have q3:IntKind.i64.wrap (600-used)=600-used:=aV _ (by omega);have q4:IntKind.i64.wrap (600-used-given)=600-used-given:=aV _ (by omega);have q5:decide (600-used-given<cost+gv)=false:=aX (by omega);have q6:IntKind.i64.wrap (cost+gv)=cost+gv:=aV _ (by omega);go_wp2_with fail
  clear q2;go_quiet ((go_at_call 47;exact Calls.quiet_of_same (HC.out _ _ (LC.out.bo.drewN _))))
  obtain⟨w3,hw3⟩:∃w3,w2.drewN nq=w3:=⟨_,rfl⟩;rw[hw3];have Qf:=ah (LC.out.drewN nq);rw[hw3]at Qf;clear hw3 r8 r9 r10 LC q3 q4 q6;rename World=>w3
  have o0:w3.cell? ⟨ob,0,none⟩=some (.int .u64 0):=(Qf.out.bo.cell 0).trans rfl;have of0:w3.frozen? ⟨ob,0,none⟩=false:=Qf.out.bo.free 0;have r11:w3.cell? ⟨rb,11,none⟩=some (.int .u64 nx):=(Qf.out.br.cell 11).trans rfl;have rf11:w3.frozen? ⟨rb,11,none⟩=false:=Qf.out.br.free 11;have q1:IntKind.u64.wrap (nx+1)=nx+1:=IntWalk.u64_in _ (by omega);go_upto_region 14 with fail
  obtain⟨w4,hw4⟩:∃w4,(w3.setCell ⟨ob,0,none⟩ (.int .u64 nx)).setCell ⟨rb,11,none⟩ (.int .u64 (nx+1))=w4:=⟨_,rfl⟩;rw[hw4]
  have ZJ:Hid (RPl (·=rb) w w4 rb ob (nwC nx k d (.slice la ln lc) 0 0 0 dv) (rtC used given (nx+1) hi kv) dv):=ah (by
   rw[<-hw4];exact(Qf.out.so 0 _ (adG ..)).sr 11 _ (abj ..))
  clear hw4 Qf o0 of0 r11 rf11 q1 q5;have r9:w4.cell? ⟨rb,9,none⟩=some (.int .i64 used):=(ZJ.out.br.cell 9).trans rfl;have rf9:w4.frozen? ⟨rb,9,none⟩=false:=ZJ.out.br.free 9;have q1:IntKind.i64.wrap (used+cost)=used+cost:=aV _ (by omega)
  have qK:Hid (∀W,W=w4.drew->Calls Tryz.prog 47 #[.pointer (some ⟨ob,0,none⟩)] W fun e w'=>∃v,e=.returned v/\(v=.int .i64 cost/\w'=w4.drew)):=ah (fun W hW=>by
   subst hW;exact(HC.out _ _ ZJ.out.bo.drew).mono (fun e w' q=>⟨_,q.1,rfl,q.2⟩))
  go_cut [] (fun wx=>Hid (RPl (·=rb) w wx rb ob (nwC nx k d (.slice la ln lc) 0 0 0 dv) (rtC (used+cost) given (nx+1) hi kv) dv))
  case first =>
   go_region_law (first|(refine cB (by rfl) (bP (vs:=#[.pointer (some ⟨ob,0,none⟩)]) (by simp[Act.eval,Act.put]) (bE Tryz.func47 (by kernel_rfl) rfl)) (qK.out _ (by first|rfl|exact drew_eq w4)) ?_;rintro v w9 ⟨rfl,rfl⟩)|fail)
   all_goals
    go_wp2_with fail
    go_meet;exact ah ((ZJ.out.sr 9 _ (adD ..)).drew)
  case rest =>
  rename World=>w5
  clear r9 rf9 q1 qK ZJ HC;have HP5:=hcut;clear hcut;go_upto_if 94 with fail
  go_cut [] (fun wx=>Hid (RPl (·=rb) w wx rb ob (nwC nx k d (.slice la ln lc) gv nx1 hi1 dv) (rtC (used+cost) (given+gv) (nx+1) (hi-c) kv) dv))
  case first =>
   rcases Hk.out with⟨rfl,rfl,rfl,rfl,rfl,rfl,rfl,rfl⟩|⟨rfl,rfl,rfl,rfl,rfl,rfl,rfl,rfl⟩|⟨rfl,rfl,rfl,rfl,rfl,rfl,rfl,rfl⟩|⟨rfl,rfl,rfl,rfl,rfl,rfl,rfl,rfl⟩
   ·have r10:w5.cell? ⟨rb,10,none⟩=some (.int .i64 given):=(HP5.out.br.cell 10).trans rfl
    have rf10:w5.frozen? ⟨rb,10,none⟩=false:=HP5.out.br.free 10;have r12:w5.cell? ⟨rb,12,none⟩=some (.int .u64 hi1):=(HP5.out.br.cell 12).trans rfl;have rf12:w5.frozen? ⟨rb,12,none⟩=false:=HP5.out.br.free 12;have o8:w5.cell? ⟨ob,8,none⟩=some (.int .i64 0):=(HP5.out.bo.cell 8).trans rfl;have of8:w5.frozen? ⟨ob,8,none⟩=false:=HP5.out.bo.free 8;have o11:w5.cell? ⟨ob,11,none⟩=some (.int .u64 0):=(HP5.out.bo.cell 11).trans rfl;have of11:w5.frozen? ⟨ob,11,none⟩=false:=HP5.out.bo.free 11;have o12:w5.cell? ⟨ob,12,none⟩=some (.int .u64 0):=(HP5.out.bo.cell 12).trans rfl;have of12:w5.frozen? ⟨ob,12,none⟩=false:=HP5.out.bo.free 12;have q1:IntKind.i64.wrap (given+120)=given+120:=aV _ (by omega);have q2:IntKind.u64.wrap (hi1-40)=hi1-40:=IntWalk.u64_in _ (by omega);have q3:IntKind.u64.wrap (hi1-40+40)=hi1:=by rw[show hi1-40+40=hi1 by omega];exact IntWalk.u64_in _ (by omega)
    go_wp2_with fail
    go_meet;exact ah (((((HP5.out.sr 10 _ (adq ..)).so 8 _ (adE ..)).sr 12 _ (abh ..)).so 11 _ (abj ..)).so 12 _ (abh ..))
   all_goals
    go_wp2_with fail
    go_meet;rw[Int.add_zero,Int.sub_zero];exact HP5
  case rest =>
  rename World=>w6
  have HP6:=hcut;clear hcut HP5;go_upto_region 21 with fail
  have hkn:kv.ownBlock≠some rb:=own_ne HK.out HR.out (by decide) rfl;have hon:ov.ownBlock≠some rb:=own_ne HO.out HR.out (by decide) rfl;have HK6:Hid (w6.ownsRow B 37 1 kv apA ks):=ah (dA HK.out HP6.out.kept (fun b e q=>hkn (by rw[e,q])));have hko:kv.ownBlock≠some ob:=own_ne HK6.out HP6.out.bo (by decide) rfl;obtain⟨⟨ka,kc,rfl⟩,-⟩:=qd HK.out;obtain⟨i0,hi0,hz0,hz1,hz2⟩:=info_parts qm;have yM:=ah hi0;have lJ:=ah hz0;have lI:=ah hz1;have kT:=ah hz2;have Zm:=ah (And.intro hkn (And.intro hon hko));have o0:(w6.alloc (.cells #[.int .u64 nx] 37)).cell? ⟨ob,0,none⟩=some (.int .u64 nx):=((HP6.out.bo.alloc _).cell 0).trans rfl;have o0':w6.cell? ⟨ob,0,none⟩=some (.int .u64 nx):=(HP6.out.bo.cell 0).trans rfl;have r13:w6.cell? ⟨rb,13,none⟩=some (.slice ka apA kc):=(HP6.out.br.cell 13).trans rfl;have r13':(w6.alloc (.cells #[.int .u64 nx] 37)).cell? ⟨rb,13,none⟩=some (.slice ka apA kc):=((HP6.out.br.alloc _).cell 13).trans rfl;have GY:Hid (World.ownsRow (w6.alloc (.cells #[.int .u64 nx] 37)).drew B 37 1 (.slice ka apA kc) apA ks):=ah (dA (T:=fun _=>False) HK6.out ((Kept.refl _ _).alloc _).drew (fun _ _ q=>q))
  have Hgr:Hid (∀w7,World.grownBy (w6.alloc (.cells #[.int .u64 nx] 37)).drew w7 (Value.slice ka apA kc).ownBlock->RPl (fun b=>b=rb\/(Value.slice ka apA kc).ownBlock=some b) w w7 rb ob (nwC nx k d (.slice la ln lc) gv nx1 hi1 dv) (rtC (used+cost) (given+gv) (nx+1) (hi-c) (.slice ka apA kc)) dv):=ah (fun w7 hg =>
   (((HP6.out.alloc _).drew).mono (fun _ q=>.inl q)).grown hg (fun b e _=>.inr e) Zm.out.2.2 Zm.out.1 (fun D cs hB=>own_ne GY.out hB (by decide) rfl))
  have TS:Hid (B<=((w6.alloc (.cells #[.int .u64 nx] 37)).drew).heap.size):=ah (bD HBw.out (((HP6.out.kept.alloc _).drew).size));have LX:Hid (∀u∈[Value.int .u64 nx],u.oneCell'=true):=ah (fun u hu=>by simp at hu;subst hu;rfl);clear hkn hon hko hi0 hz0 hz1 hz2;go_cut [] (fun wx=>∃kv',Hid (RPl (fun b=>b=rb\/(Value.slice ka apA kc).ownBlock=some b) w wx rb ob (nwC nx k d (.slice la ln lc) gv nx1 hi1 dv) (rtC (used+cost) (given+gv) (nx+1) (hi-c) kv') dv)/\Hid (wx.ownsRow B 37 1 kv' (apA+1) (ks++[.int .u64 nx]))/\Hid (∀g,kv'.ownBlock=some g->(Value.slice ka apA kc).ownBlock=some g\/w.heap.size<=g))
  case first =>
   go_region_law (first
    | (refine step_append_lies _ (by rfl) (.tmp 137) (.tmp 142) 46 (by rfl) B 37 i0 _ 1 8 Tryz.underlying46 yM.out lJ.out lI.out kT.out rfl (by decide) (.slice ka apA kc) apA ks (by simp[Act.eval]) GY.out ⟨w6.heap.size,0,none⟩ 1 1 [.int .u64 nx] (by simp[Act.eval]) rfl (World.news_of_block (aR.new w6 #[.int .u64 nx] 37).drew) LX.out (by omega) (by unfold maxLen;omega) (by omega) TS.out _ rfl ?_;intro g5 cap w7 hown5 fI hg5 uU;have hP7:=Hgr.out w7 fI;have j13:w7.cell? ⟨rb,13,none⟩=some (.slice ka apA kc):=(hP7.br.cell 13).trans rfl;have k13:w7.frozen? ⟨rb,13,none⟩=false:=hP7.br.free 13)
    | fail)
   all_goals
    clear j13 k13;go_wp2_with fail
    go_meet;have hn7:=own_ne hown5 hP7.br (by decide) rfl
    exact⟨_,ah (hP7.sr 13 _ (adp ..)),ah (dA hown5 ((Kept.refl (·=rb) w7).bC _ _ _ rfl) (fun b e q=>hn7 (by rw[e,q]))),ah (fun g e=>by
     cases e;rcases hg5 with q|q
     ·exact .inl q
     ·right
      have:=HP6.out.kept.size;rw[q];simp;omega)⟩
  case rest =>
  obtain⟨kv',HP8,HK8,Al⟩:=hcut;rename World=>w8
  clear o0 o0' r13 r13' GY Hgr LX TS yM lJ lI kT HP6 HK6;have hmr:mb≠rb:=fun e=>by have:=HM.out;rw[e]at this;exact absurd (aad this HR.out) (by decide)
  have hkm:(Value.slice ka apA kc).ownBlock≠some mb:=own_ne HK.out HM.out (by decide) rfl
  have hko:∀b,ov.ownBlock=some b->(Value.slice ka apA kc).ownBlock≠some b:=fun b e=>by
   obtain⟨cs,hB⟩:=sV HO.out e;exact own_ne HK.out hB (by decide) rfl
  have hor:ov.ownBlock≠some rb:=own_ne HO.out HR.out (by decide) rfl;have OD:aR w8 mb #[ov,nv,apB] 91:=HP8.out.kept.blk HM.out (fun q=>q.elim hmr hkm);have hO8:w8.ownsRow B 114 1 ov bs.length (bs.map aam):=dA HO.out HP8.out.kept (fun b e q=>q.elim (fun e2=>hor (by rw[e,e2])) (hko b e));have hom:ov.ownBlock≠some mb:=own_ne HO.out HM.out (by decide) rfl;have ru:ov.ownBlock≠some ob:=own_ne hO8 HP8.out.bo (by decide) rfl;obtain⟨⟨oa,oc,rfl⟩,-⟩:=qd HO.out;have hmb:=HM.out.lt;have hmo:(mb=ob)=False:=by have:=HP8.out.ge;simp;omega
  obtain⟨j0,hi0,hz0,hz1,hz2⟩:=info_parts acQ;have yM:=ah hi0;have lJ:=ah hz0;have lI:=ah hz1;have kT:=ah hz2;have m0:w8.cell? ⟨mb,0,none⟩=some (.slice oa bs.length oc):=(OD.cell 0).trans rfl;have GY:Hid (World.ownsRow (w8.alloc (.cells #[aam ob] 114)) B 114 1 (.slice oa bs.length oc) bs.length (bs.map aam)):=ah (dA (T:=fun _=>False) hO8 ((Kept.refl _ _).alloc _) (fun _ _ q=>q));have TS:Hid (B<=(w8.alloc (.cells #[aam ob] 114)).heap.size):=ah (bD HBw.out ((HP8.out.kept.alloc _).size));have LX:Hid (∀u∈[aam ob],u.oneCell'=true):=ah (fun u hu=>by simp at hu;subst hu;rfl);have LW:=ah OD;have acU:=ah (And.intro hom (And.intro hor (And.intro ru hmr)))
  have HKn:Hid (∀W g,World.grownBy (w8.alloc (.cells #[aam ob] 114)) W (Value.slice oa bs.length oc).ownBlock->g=kv'->W.ownsRow B 37 1 kv' (apA+1) (ks++[.int .u64 nx])):=ah (fun W g hg _=>by
   refine dA (dA (T:=fun _=>False) HK8.out ((Kept.refl _ _).alloc _) (fun _ _ q=>q)) (dG hg) (fun b e q=>?_);obtain⟨cs,hB⟩:=sV hO8 q;exact own_ne HK8.out hB (by decide) rfl e)
  clear hi0 hz0 hz1 hz2 OD hO8 hom ru hor hko hkm hmr hmb;have b8:w8.heap.size<w8.heap.size+1:=by omega
  go_wp2_with (at_builtin;refine wpList_append_lies _ rfl _ _ 89 rfl B 114 j0 _ 1 8 Tryz.underlying89 yM.out lJ.out lI.out kT.out rfl (by decide) _ _ _ rfl GY.out ⟨w8.heap.size,0,none⟩ 1 1 [aam ob] rfl rfl (World.news_of_block (aR.new w8 #[aam ob] 114)) LX.out (by omega) (by unfold maxLen;omega) (by omega) TS.out _ rfl ?_;intro g9 cap w9 adf aaM hg9 alo;have hB9:=(dG aaM).blk (LW.out.alloc _) acU.out.1;have m9:w9.cell? ⟨mb,0,none⟩=some (.slice oa bs.length oc):=(hB9.cell 0).trans rfl;have f9:w9.frozen? ⟨mb,0,none⟩=false:=hB9.free 0)
  go_ret2
  have k9:=dG aaM;have h9:=(HP8.out.alloc (.cells #[aam ob] 114)).dat.kept k9 (fun D cs hB=>own_ne GY.out hB (by decide) rfl);have hR9:=k9.blk (HP8.out.br.alloc (.cells #[aam ob] 114)) acU.out.2.1;have hN9:=k9.blk (HP8.out.bo.alloc (.cells #[aam ob] 114)) acU.out.2.2.1;have hK9:=HKn.out w9 _ aaM rfl;have afp:mb≠ob:=fun e=>by simp[e]at hmo
  have e1:(Value.slice (some ⟨g9,0,none⟩) (bs.length+1) cap).ownBlock≠some mb:=own_ne adf hB9 (by decide) rfl;have e2:kv'.ownBlock≠some mb:=own_ne hK9 hB9 (by decide) rfl;refine⟨ob,_,kv',dv,rfl,⟨(hB9.set 0 _).cells rfl,?_,hR9.aI acU.out.2.2.2 _,dA hK9 ((Kept.refl (·=mb) w9).bC _ _ _ rfl) (fun b e q=>e2 (by rw[e,q])),?_,HP8.out.ge,?_,h9.set hB9 (by decide) _ _,Al.out⟩⟩
  ·rw[List.map_append]
   exact dA adf ((Kept.refl (·=mb) w9).bC _ _ _ rfl) (fun b e q=>e1 (by rw[e,q]))
  ·rw[show nx+1-1=nx by omega]
   exact hN9.aI afp _
  ·refine Kept.bC ?_ _ _ _ (.inl rfl)
   refine((HP8.out.kept.mono (fun b _ q=>?_)).alloc _).then k9 (fun b _ q=>.inr (.inr (.inr q)))
   rcases q with q|q
   ·exact .inr (.inl q)
   ·exact .inr (.inr (.inl q))
structure apC(w W:World)(cb:Nat)(cv:Array Value)(mb rb:Nat)(ov nv apB kv nm:Value)(bs:List Nat)(nn apA nd:Nat)(ks ds:List Value)(used given nx hi:Int):Prop where
 eO:Below w.heap.size w W
 cfg:aR W cb cv 81
 m:aR W mb #[ov,nv,apB] 91
 root:aR W rb (rtC used given nx hi kv) 118
 row:W.ownsRow w.heap.size 114 1 ov bs.length (bs.map aam)
 kids:W.ownsRow w.heap.size 37 1 kv apA ks
 dev:W.ownsRow w.heap.size 37 1 apB nd ds
 nam:W.ownsRow w.heap.size 37 1 nm nn ((List.range nn).map fun i:Nat=>.int .u64 ((i:Int)+1))
 obs:∀(k b:Nat),bs[k]? = some b->∃cs,aR W b cs 118/\cs[0]? = some (.int .u64 ((k:Int)+1))
 fst:bs[0]? = some rb
 ge:w.heap.size<=cb/\w.heap.size<=mb/\w.heap.size<=rb
 d1:∀b,kv.ownBlock=some b->nm.ownBlock≠some b/\apB.ownBlock≠some b
 d2:∀b,nm.ownBlock=some b->apB.ownBlock≠some b
section
variable {w W W':World}{cb:Nat}{cv:Array Value}{mb rb:Nat}{ov nv apB kv nm:Value}{bs:List Nat}{nn apA nd:Nat}{ks ds:List Value}{used given nx hi:Int}
theorem apC.kept(h:apC w W cb cv mb rb ov nv apB kv nm bs nn apA nd ks ds used given nx hi){S:Nat->Prop}(k:Kept S W W')(hlo:∀b,b<w.heap.size->¬S b)(hc:¬S cb)(hm:¬S mb)(hO:∀b cs,aR W b cs 118->¬S b)(hP:∀b cs,aR W b cs 114->¬S b)(hU:∀b cs,aR W b cs 37->¬S b) :
  apC w W' cb cv mb rb ov nv apB kv nm bs nn apA nd ks ds used given nx hi:=by
 have u:∀{n:Nat} {v:Value} {xs:List Value},W.ownsRow w.heap.size 37 1 v n xs->W'.ownsRow w.heap.size 37 1 v n xs:=fun q=>dA q k (fun b e=>by
  obtain⟨cs,hB⟩:=sV q e;exact hU b cs hB)
 refine⟨h.eO.trans (k.below h.eO.size hlo),k.blk h.cfg hc,k.blk h.m hm,k.blk h.root (hO _ _ h.root),dA h.row k (fun b e=>?_),u h.kids,u h.dev,u h.nam,fun i b e=>?_,h.fst,h.ge,h.d1,h.d2⟩
 ·obtain⟨cs,hB⟩:=sV h.row e
  exact hP b cs hB
 ·obtain⟨cs,hB,h0⟩:=h.obs i b e
  exact⟨cs,k.blk hB (hO _ _ hB),h0⟩
theorem apC.below(h:apC w W cb cv mb rb ov nv apB kv nm bs nn apA nd ks ds used given nx hi)(k:Below W.heap.size W W'):apC w W' cb cv mb rb ov nv apB kv nm bs nn apA nd ks ds used given nx hi :=
 h.kept (S:=fun _=>False) (Kept.of_below k) (fun _ _ q=>q) (fun q=>q) (fun q=>q) (fun _ _ _ q=>q) (fun _ _ _ q=>q) (fun _ _ _ q=>q)
theorem apC.bytes(h:apC w W cb cv mb rb ov nv apB kv nm bs nn apA nd ks ds used given nx hi){D:Nat}{cs:Array Value}(hB:aR W D cs 5)(hD:w.heap.size<=D)(k:Kept (·=D) W W'):apC w W' cb cv mb rb ov nv apB kv nm bs nn apA nd ks ds used given nx hi:=by
 have t:∀{b:Nat} {c:Array Value} {T:TypeId},aR W b c T->T≠5->¬b=D:=fun hb hT e=>by rw[e]at hb;exact hT (aad hb hB)
 exact h.kept k (fun b hb e=>by omega) (t h.cfg (by decide)) (t h.m (by decide)) (fun b cs hb=>t hb (by decide)) (fun b cs hb=>t hb (by decide)) (fun b cs hb=>t hb (by decide))
theorem apC.ado(h:apC w W cb cv mb rb ov nv apB kv nm bs nn apA nd ks ds used given nx hi)(hl:bs.length<=100):∃ob oc,ov=.slice (some ⟨ob,0,none⟩) bs.length oc/\adQ W mb ob oc bs:=by
 have h0:=(aW.1 h.fst).1;obtain⟨⟨oa,oc,rfl⟩,-⟩:=qd h.row;obtain⟨ob,rfl,-,hc⟩:=aJ.cells (aJ.own h.row) h0;refine⟨ob,oc,rfl,(h.m.cell 0).trans rfl,fun k b e=>hc k _ (by rw[dF,e];rfl),fun k b e=>?_,hl⟩;obtain⟨cs,hB,h1⟩:=h.obs k b e;exact(hB.cell 0).trans h1
theorem apC.drew(h:apC w W cb cv mb rb ov nv apB kv nm bs nn apA nd ks ds used given nx hi):apC w W.drew cb cv mb rb ov nv apB kv nm bs nn apA nd ks ds used given nx hi:=h.below (aC _ _).drew
theorem apC.put(h:apC w W cb cv mb rb ov nv apB kv nm bs nn apA nd ks ds used given nx hi){ob:Nat}{ov' kv' lp data:Value}{used' acf hi' lim nx1 hi1 kd d:Int}{ks':List Value}(hnx:nx=(bs.length:Int)+1)
  (hr:acF w.heap.size W W' mb rb ob ov nv apB kv ov' kv' bs apA ks' used' acf (nx+1) hi' lim nx1 hi1 kd d lp data):apC w W' cb cv mb rb ov' nv apB kv' nm (bs++[ob]) nn (apA+1) nd ks' ds used' acf (nx+1) hi':=by
 have k:=hr.kept;have hcm:cb≠mb:=fun e=>by have:=h.cfg;rw[e]at this;exact absurd (aad this h.m) (by decide)
 have hcr:cb≠rb:=fun e=>by have:=h.cfg;rw[e]at this;exact absurd (aad this h.root) (by decide)
 have hck:kv.ownBlock≠some cb:=own_ne h.kids h.cfg (by decide) rfl;have hco:ov.ownBlock≠some cb:=own_ne h.row h.cfg (by decide) rfl
 have u:∀{n:Nat} {v:Value} {xs:List Value},W.ownsRow w.heap.size 37 1 v n xs->(∀b,v.ownBlock=some b->kv.ownBlock≠some b)->W'.ownsRow w.heap.size 37 1 v n xs:=fun q n1=>dA q k (fun b e hS=>by
  obtain⟨cs,hB⟩:=sV q e;rcases hS with e1|e1|e1|e1
  ·subst e1;exact absurd (aad hB h.m) (by decide)
  ·subst e1;exact absurd (aad hB h.root) (by decide)
  ·exact n1 b e e1
  ·exact own_ne h.row hB (by decide) rfl e1)
 refine⟨h.eO.trans (k.below h.eO.size (fun b hb hS=>?_)),k.blk h.cfg (fun hS=>?_),hr.m,hr.root,by rw[aO];exact hr.row,hr.kids,u h.dev (fun b e q=>(h.d1 b q).2 e),u h.nam (fun b e q=>(h.d1 b q).1 e),fun i b e=>?_,?_,h.ge,fun b e=>?_,h.d2⟩
 ·have g:=h.ge
  rcases hS with e|e|e|e
  ·omega
  ·omega
  ·have:=(qd h.kids).2 b e;omega
  ·have:=(qd h.row).2 b e;omega
 ·rcases hS with e|e|e|e
  ·exact hcm e
  ·exact hcr e
  ·exact hck e
  ·exact hco e
 ·by_cases hi:i<bs.length
  ·rw[List.getElem?_append_left hi]at e
   obtain⟨cs,hB,h0⟩:=h.obs i b e;by_cases hbr:b=rb
   ·subst hbr
    have h1:=hB.symm.trans h.root;have:i=0\/True:=.inr trivial
    simp at h1;rw[h1]at h0;exact⟨_,hr.root,by simpa[rtC,roC]using h0⟩
   ·refine⟨cs,k.blk hB (fun hS=>?_),h0⟩
    rcases hS with e1|e1|e1|e1
    ·subst e1;exact absurd (aad hB h.m) (by decide)
    ·exact hbr e1
    ·exact own_ne h.kids hB (by decide) rfl e1
    ·exact own_ne h.row hB (by decide) rfl e1
  ·rw[List.getElem?_append_right (by omega)]at e
   have hi0:i-bs.length=0:=by
    have:=(aW.1 e).1;simp at this;omega
   rw[hi0]at e
   cases e;refine⟨_,hr.new,?_⟩;show some (Value.int .u64 (nx+1-1))=_
   rw[hnx,show(bs.length:Int)+1+1-1=(i:Int)+1 by omega]
 ·have:=h.fst
  have hl:=(aW.1 this).1;rw[List.getElem?_append_left hl];exact this
 ·rcases hr.own b e with q|q
  ·exact h.d1 b q
  ·exact⟨fun q2=>by have:=uO h.nam q2;omega,fun q2=>by have:=uO h.dev q2;omega⟩
theorem apC.name(h:apC w W cb cv mb rb ov nv apB kv nm bs nn apA nd ks ds used given nx hi){nm':Value}{g:Nat}{n':Nat}{xs:List Value}(hg:World.grownBy W W' nm.ownBlock)(hr:W'.ownsRow w.heap.size 37 1 nm' n' xs)(hn:n'=nn+1)(hxs:xs=(List.range nn).map (fun i:Nat=>.int .u64 ((i:Int)+1))++[.int .u64 ((nn:Int)+1)])
  (ho:nm'.ownBlock=some g) (hf:nm.ownBlock=some g\/W.heap.size<=g):apC w W' cb cv mb rb ov nv apB kv nm' bs (nn+1) apA nd ks ds used given nx hi:=by
 have k:=dG hg;have u:∀{n:Nat} {v:Value} {xs:List Value},W.ownsRow w.heap.size 37 1 v n xs->(∀b,v.ownBlock=some b->nm.ownBlock≠some b)->W'.ownsRow w.heap.size 37 1 v n xs:=fun q n1=>dA q k (fun b e hS=>n1 b e hS)
 have t:∀{b:Nat} {c:Array Value} {T:TypeId},aR W b c T->T≠37->nm.ownBlock≠some b:=fun hb hT=>own_ne h.nam hb hT.symm rfl
 refine⟨h.eO.trans (k.below h.eO.size (fun b hb hS=>by have:=(qd h.nam).2 b hS;omega)),k.blk h.cfg (t h.cfg (by decide)),k.blk h.m (t h.m (by decide)),k.blk h.root (t h.root (by decide)),dA h.row k (fun b e=>?_),u h.kids (fun b e=>(h.d1 b e).1),u h.dev (fun b e q=>h.d2 b q e),?_,fun i b e=>?_,h.fst,h.ge,fun b e=>⟨fun q=>?_,(h.d1 b e).2⟩,fun b q e=>?_⟩
 ·obtain⟨cs,hB⟩:=sV h.row e
  exact t hB (by decide)
 ·rw[List.range_succ,List.map_append,<-hn]
  rw[hxs]at hr;exact hr
 ·obtain⟨cs,hB,h0⟩:=h.obs i b e
  exact⟨cs,k.blk hB (t hB (by decide)),h0⟩
 ·rw[ho]at q;cases q
  rcases hf with f|f
  ·exact(h.d1 _ e).1 f
  ·have:=uO h.kids e;omega
 ·rw[ho]at q;cases q
  rcases hf with f|f
  ·exact h.d2 _ f e
  ·have:=uO h.dev e;omega
theorem apC.eU(h:apC w W cb cv mb rb ov nv apB kv nm bs nn apA nd ks ds used given nx hi){dw':Value}{g n':Nat}{xs:List Value}(hg:World.grownBy W W' apB.ownBlock)(hr:W'.ownsRow w.heap.size 37 1 dw' n' xs)
  (ho:dw'.ownBlock=some g) (hf:apB.ownBlock=some g\/W.heap.size<=g):apC w (W'.setCell ⟨mb,2,none⟩ dw') cb cv mb rb ov nv dw' kv nm bs nn apA n' ks xs used given nx hi:=by
 have k:=dG hg;have t:∀{b:Nat} {c:Array Value} {T:TypeId},aR W b c T->T≠37->apB.ownBlock≠some b:=fun hb hT=>own_ne h.dev hb hT.symm rfl
 have hm:=k.blk h.m (t h.m (by decide));have k2:Kept (·=mb) W' (W'.setCell ⟨mb,2,none⟩ dw'):=(Kept.refl _ _).bC _ _ _ rfl;have nb:∀{b:Nat} {c:Array Value} {T:TypeId},aR W' b c T->T≠91->¬b=mb:=fun hb hT e=>by rw[e]at hb;exact hT (aad hb hm)
 have u:∀{n e:Nat} {v:Value} {xs:List Value},W'.ownsRow w.heap.size e 1 v n xs->e≠91->(W'.setCell ⟨mb,2,none⟩ dw').ownsRow w.heap.size e 1 v n xs:=fun q hT=>dA q k2 (fun b e=>by
  obtain⟨cs,hB⟩:=sV q e;exact nb hB hT)
 have hc:=k.blk h.cfg (t h.cfg (by decide));have hro:=k.blk h.root (t h.root (by decide));have hk:W'.ownsRow w.heap.size 37 1 kv apA ks:=dA h.kids k (fun b e q=>(h.d1 b e).2 q);have hn:W'.ownsRow w.heap.size 37 1 nm nn ((List.range nn).map fun i:Nat=>.int .u64 ((i:Int)+1)):=dA h.nam k (fun b e q=>h.d2 b e q)
 have hrow:W'.ownsRow w.heap.size 114 1 ov bs.length (bs.map aam):=dA h.row k (fun b e=>by
  obtain⟨cs,hB⟩:=sV h.row e;exact t hB (by decide))
 refine⟨(h.eO.trans (k.below h.eO.size (fun b hb hS=>by have:=(qd h.dev).2 b hS;omega))).trans (k2.below (bD h.eO.size k.size) (fun b hb e=>by have:=h.ge;omega)),k2.blk hc (nb hc (by decide)),(hm.set 2 _).cells rfl,k2.blk hro (nb hro (by decide)),u hrow (by decide),u hk (by decide),u hr (by decide),u hn (by decide),fun i b e=>?_,h.fst,h.ge,fun b e=>⟨(h.d1 b e).1,fun q=>?_⟩,fun b e q=>?_⟩
 ·obtain⟨cs,hB,h0⟩:=h.obs i b e
  have hB2:=k.blk hB (t hB (by decide));exact⟨cs,k2.blk hB2 (nb hB2 (by decide)),h0⟩
 ·rw[ho]at q;cases q
  rcases hf with f|f
  ·exact(h.d1 _ e).2 f
  ·have:=uO h.kids e;omega
 ·rw[ho]at q;cases q
  rcases hf with f|f
  ·exact h.d2 _ e f
  ·have:=uO h.nam e;omega
theorem acB{dv xv:Value}{ds:List UInt8}(hd:aai w W dv)(hx:dV W xv ds):∃v W',(Builtin.copy_ #[63,63] 3 #[dv,xv]).run Tryz.prog W=.ok v W'/\(W'=W\/∃D cs,aR W D cs 5/\w.heap.size<=D/\Kept (·=D) W W'):=by
 obtain⟨A,c,rfl,hc1,hc2⟩:=aJ.form hx;rcases hd with rfl|⟨D,n,cs,rfl,hB,hn,hl⟩
 ·exact⟨_,_,run_copy_none (P:=Tryz.prog) W _ _ _ 5 none A 0 0 ds.length c Tryz.underlying63 (by kernel_rfl) (by simp),.inl rfl⟩
 ·by_cases h0:0<ds.length/\0<n
  ·obtain⟨b,rfl,-,hcl⟩:=aJ.cells hx h0.1
   have hrun:=run_copy_row (P:=Tryz.prog) W 63 63 3 5 D 0 n n ⟨b,0,none⟩ ds.length c _ _ ((ds.map fA).take n) Tryz.underlying63 (by kernel_rfl) hB (by rw[List.length_take,List.length_map];exact Nat.min_comm _ _) (fun j v hj=>by
     rw[Addr.add_lit,Nat.zero_add];refine hcl j v ?_;rw[List.getElem?_take]at hj;split at hj
     ·exact hj
     ·cases hj) (by rw[List.length_take];omega) (fun v hv=>vg ds v (List.mem_of_mem_take hv))
   exact⟨_,_,hrun,.inr ⟨D,cs,hB,hl,Kept.setRow (S:=(·=D)) (Kept.refl _ W) (.inr rfl) _⟩⟩
  ·exact⟨_,_,run_copy_none (P:=Tryz.prog) W _ _ _ 5 _ A n n ds.length c Tryz.underlying63 (by kernel_rfl) (by rw[show Nat.min ds.length n=min ds.length n from rfl];omega),.inl rfl⟩
end
def aaD:List dR:=(dX [] 0).objs
def apD(j:Nat):Int:=([1,2,5,7,8]:List Int).getD j 0
def apE(j:Nat):Int:=([0,120,120,120,120]:List Int).getD j 0
def apF(j:Nat):Int:=([202,162,162,162,162]:List Int).getD j 0
structure adP(j:Nat)(o:dR):Prop where
 par:o.parent=0
 maps:o.maps.length=0
 kind:o.kind=1\/o.kind=2\/o.kind=6
 data:o.data.length<=128/\(o.kind=2->(o.data.length:Int)<=64*o.pages)/\(o.kind≠2->o.data.length=0)
 cost:∃need gv cost nx1 hi1,adh o.kind o.pages o.names need gv cost nx1 hi1 (apF j)/\apD (j+1)=apD j+cost/\apE (j+1)=apE j+gv/\apF (j+1)=apF j-o.names
 bu:0<=apD j/\apD j<=20
 apG:0<=apE j/\apE j<=200
 bh:100<=apF j/\apF j<=300
theorem aao:iN.length=128:=by decide +kernel
theorem abr{j:Nat}{o:dR}(h:aaD[j]? = some o):adP j o:=by
 match j,h with
 | 0,h=>cases h;exact⟨rfl,rfl,.inl rfl,⟨by decide,by decide,by decide⟩,⟨41,120,1,162,202,.inl ⟨rfl,rfl,rfl,rfl,rfl,rfl,rfl,rfl⟩,rfl,rfl,rfl⟩,⟨by decide,by decide⟩,⟨by decide,by decide⟩,⟨by decide,by decide⟩⟩
 | 1,h =>
  cases h;have e:(xB 2).kind=2:=rfl;exact⟨rfl,rfl,.inr (.inl rfl),⟨Nat.le_of_eq aao,fun _=>by show(iN.length:Int)<=64*2;rw[aao];decide,fun h=>absurd rfl h⟩,⟨1,0,3,0,0,.inr (.inl ⟨rfl,rfl,rfl,rfl,rfl,rfl,rfl,rfl⟩),rfl,rfl,rfl⟩,⟨by decide,by decide⟩,⟨by decide,by decide⟩,⟨by decide,by decide⟩⟩
 | 2,h=>cases h;exact⟨rfl,rfl,.inr (.inl rfl),⟨by decide,by decide,fun h=>absurd rfl h⟩,⟨1,0,2,0,0,.inr (.inr (.inl ⟨rfl,rfl,rfl,rfl,rfl,rfl,rfl,rfl⟩)),rfl,rfl,rfl⟩,⟨by decide,by decide⟩,⟨by decide,by decide⟩,⟨by decide,by decide⟩⟩
 | 3,h=>cases h;exact⟨rfl,rfl,.inr (.inr rfl),⟨by decide,by decide,by decide⟩,⟨1,0,1,0,0,.inr (.inr (.inr ⟨rfl,rfl,rfl,rfl,rfl,rfl,rfl,rfl⟩)),rfl,rfl,rfl⟩,⟨by decide,by decide⟩,⟨by decide,by decide⟩,⟨by decide,by decide⟩⟩
 | k+4,h=>exact absurd ((aW.1 h).1) (by show ¬k+4<4;omega)
theorem aaU(w:World):∃cs:Array Value,cs.size=1/\(Instr.makeSlice 46 (.int .i64 1) (.int .i64 1)).run Tryz.prog w=.ok (.slice (some ⟨w.heap.size,0,none⟩) 1 1) (w.alloc (.cells cs 37)):=by
 obtain⟨i,hi,hz,hs,hb⟩:=info_parts qm;have:=run_make (P:=Tryz.prog) w 46 37 i _ Tryz.underlying46 hi hz .i64 .i64 1 1 (by omega) (by omega) (by rw[hb];omega) (by omega)
 refine⟨_,?_,by rw[this,hs,show(1:Int).toNat=1 from rfl,xG _ (.int .u64 0) _ (by simp[Value.cells]) (fun i hi=>by
  simp[Value.cells]at hi ⊢;subst hi;rfl),Nat.mul_one]⟩
 simp[row]
theorem aaN(w:World):(Instr.build 118 #[(0,.int .u64 1),(2,.int .i64 1),(3,.agg #[.int .i64 2,.slice none 0 0]),(6,.int .i64 600),(7,.int .i64 1),(9,.int .u64 2),(10,.int .u64 202)]).run Tryz.prog w=.ok (.agg (rtC 1 0 2 202 (.slice none 0 0))) w:=by kernel_rfl
theorem aaS{P:Program}{a:Act}{w w':World}{K:Act->World->Prop}{Q:Exit->Act->World->Prop}{d:Option Tmp}{T t:TypeId}{p:String}{e:Array Edge}{fs:Array (Nat×Operand)}{vs:Array (Nat×Value)}{v:Value}
  (hv:fs.map (fun p=>(p.1,a.eval p.2))=vs) (hr:(Instr.build T vs).run P w=.ok v w') (h:K (a.put d v) w'):Oper.wp P ⟨d,.build T fs,t,p,e,none⟩ a w K Q:=by
 unfold Oper.wp;simp only[execOp,hv,hr,Sem.run_bind,Result.andThen_ok,Sem.run_pure];exact h
theorem aaQ{W:World}{g B:Nat}{e:TypeId}{x:Value}(hB:aR W g #[x] e)(hg:B<=g):W.ownsRow B e 1 (.slice (some ⟨g,0,none⟩) 1 1) 1 [x]:=⟨rfl,.inr ⟨g,1,#[x],rfl,hg,hB,aj _,by unfold maxLen;decide,rfl,rfl⟩⟩
def RAt(w:World)(cb:Nat)(cv:Array Value)(mb rb:Nat)(j nn:Nat)(nm:Value)(W:World):Prop:=∃ov nv apB kv bs nd ks ds,bs.length=j+1/\nd<=j/\apC w W cb cv mb rb ov nv apB kv nm bs nn j nd ks ds (apD j) (apE j) ((j:Int)+2) (apF j)
theorem abk(w:World)(v:Value)(h:rU w v (dX [] 0)) :
  Calls Tryz.prog 11 #[v] w fun e w'=>Below w.heap.size w w'/\∃mb oa oc,e=.returned (.tuple #[.pointer (some ⟨mb,0,none⟩),.int .i64 0])/\w'.cell? ⟨mb,0,none⟩=some (.slice oa 5 oc):=by
 obtain⟨sv,ov,rfl,hs,ho⟩:=h
 obtain⟨oa,oc,rfl,hc1,hc2⟩:∃oa oc,ov=.slice oa (dX [] 0).objs.length oc/\(dX [] 0).objs.length<=oc/\oc<=maxLen:=by
  obtain⟨ss,hsl,hV,hrow⟩:=ho;exact aJ.form hrow
 obtain⟨sa,sc,rfl,-,-⟩:=aJ.form hs;have hc1:4<=oc:=hc1;show Calls Tryz.prog 11 #[.agg #[.int .i64 1,.int .i64 600,.int .i64 200,.slice sa 3 sc,.slice oa 4 oc]] w _
 have pJ:Hid (mO w (.slice oa aaD.length oc) aaD):=ah ho;clear hs ho;have Xc:Hid (∀W,∃cs:Array Value,cs.size=1/\(Instr.makeSlice 46 (.int .i64 1) (.int .i64 1)).run Tryz.prog W=.ok (.slice (some ⟨W.heap.size,0,none⟩) 1 1) (W.alloc (.cells cs 37))):=ah aaU;obtain⟨cs1,hcs1,adL⟩:=Xc.out (w.alloc (.cells #[.int .i64 1,.int .i64 600,.int .i64 200,.slice sa 3 sc,.slice oa 4 oc] 81));rw[au]at adL;have Hcs:=ah hcs1;clear Xc hcs1;go_enter Tryz.func11,Tryz.ntmps11
 go_upto_block 0 with fail
 refine aaS (by rw[List.map_toArray];simp[Act.eval]) (aaN _) ?_;go_upto_block 0 with fail
 clear adL;obtain⟨h0,hh0⟩:∃h0,w.heap.size=h0:=⟨_,rfl⟩;have oU:=ah hh0;rw[hh0];obtain⟨W0,hW0⟩:∃W0,((((((w.alloc (.cells #[.int .i64 1,.int .i64 600,.int .i64 200,.slice sa 3 sc,.slice oa 4 oc] 81)).alloc (.cells cs1 37)).alloc (.cells #[.slice (some ⟨h0+1+1+1+1,0,none⟩) 1 1,.slice (some ⟨h0+1,0,none⟩) 1 1,.slice none 0 0] 91)).alloc (.cells (rtC 1 0 2 202 (.slice none 0 0)) 118)).alloc (.cells #[.pointer (some ⟨h0+1+1+1,0,none⟩)] 114)).alloc (.cells #[.int .u64 1] 37))=W0:=⟨_,rfl⟩;rw[hW0]
 have ZI:Hid (RAt w h0 #[.int .i64 1,.int .i64 600,.int .i64 200,.slice sa 3 sc,.slice oa 4 oc] (h0+1+1) (h0+1+1+1) 0 1 (.slice (some ⟨h0+1+1+1+1+1,0,none⟩) 1 1) W0):=ah (by
  have k0:Below w.heap.size w w:=aC _ _;have hb:∀(W:World) (n:Nat) (c:Array Value) (t:TypeId),W.heap.size=n->aR (W.alloc (.cells c t)) n c t:=fun W n c t e=>by rw[<-e];exact aR.new _ _ _
  refine⟨.slice (some ⟨h0+1+1+1+1,0,none⟩) 1 1,.slice (some ⟨h0+1,0,none⟩) 1 1,.slice none 0 0,.slice none 0 0,[h0+1+1+1],0,[],[],rfl,aj _,?_⟩;rw[<-hW0];have z1:(w.alloc (.cells #[.int .i64 1,.int .i64 600,.int .i64 200,.slice sa 3 sc,.slice oa 4 oc] 81)).heap.size=h0+1:=by rw[au,hh0]
  have apH:=hb w h0 #[.int .i64 1,.int .i64 600,.int .i64 200,.slice sa 3 sc,.slice oa 4 oc] 81 hh0;have k1:=k0.alloc (aj _) (.cells #[.int .i64 1,.int .i64 600,.int .i64 200,.slice sa 3 sc,.slice oa 4 oc] 81);generalize (w.alloc (.cells #[.int .i64 1,.int .i64 600,.int .i64 200,.slice sa 3 sc,.slice oa 4 oc] 81))=w1 at z1 apH k1 ⊢;have b0:Below w.heap.size w w1:=k1;have z2:(w1.alloc (.cells cs1 37)).heap.size=h0+1+1:=by rw[au,z1]
  have bC2:=apH.alloc (.cells cs1 37);have b2:=b0.alloc (by omega) (.cells cs1 37);generalize (w1.alloc (.cells cs1 37))=w2 at z2 bC2 b2 ⊢;have apI:=hb w2 (h0+1+1) #[.slice (some ⟨h0+1+1+1+1,0,none⟩) 1 1,.slice (some ⟨h0+1,0,none⟩) 1 1,.slice none 0 0] 91 z2;have z3:(w2.alloc (.cells #[.slice (some ⟨h0+1+1+1+1,0,none⟩) 1 1,.slice (some ⟨h0+1,0,none⟩) 1 1,.slice none 0 0] 91)).heap.size=h0+1+1+1:=by rw[au,z2]
  have bC3:=bC2.alloc (.cells #[.slice (some ⟨h0+1+1+1+1,0,none⟩) 1 1,.slice (some ⟨h0+1,0,none⟩) 1 1,.slice none 0 0] 91);have b3:=b2.alloc (by omega) (.cells #[.slice (some ⟨h0+1+1+1+1,0,none⟩) 1 1,.slice (some ⟨h0+1,0,none⟩) 1 1,.slice none 0 0] 91);generalize (w2.alloc (.cells #[.slice (some ⟨h0+1+1+1+1,0,none⟩) 1 1,.slice (some ⟨h0+1,0,none⟩) 1 1,.slice none 0 0] 91))=w3 at z3 bC3 b3 apI ⊢;have apJ:=hb w3 (h0+1+1+1) (rtC 1 0 2 202 (.slice none 0 0)) 118 z3;have z4:(w3.alloc (.cells (rtC 1 0 2 202 (.slice none 0 0)) 118)).heap.size=h0+1+1+1+1:=by rw[au,z3]
  have bC4:=bC3.alloc (.cells (rtC 1 0 2 202 (.slice none 0 0)) 118);have bM4:=apI.alloc (.cells (rtC 1 0 2 202 (.slice none 0 0)) 118);have b4:=b3.alloc (by omega) (.cells (rtC 1 0 2 202 (.slice none 0 0)) 118);generalize (w3.alloc (.cells (rtC 1 0 2 202 (.slice none 0 0)) 118))=w4 at z4 bC4 b4 bM4 apJ ⊢;have apK:=hb w4 (h0+1+1+1+1) #[.pointer (some ⟨h0+1+1+1,0,none⟩)] 114 z4;have z5:(w4.alloc (.cells #[.pointer (some ⟨h0+1+1+1,0,none⟩)] 114)).heap.size=h0+1+1+1+1+1:=by rw[au,z4]
  have bC5:=bC4.alloc (.cells #[.pointer (some ⟨h0+1+1+1,0,none⟩)] 114);have bM5:=bM4.alloc (.cells #[.pointer (some ⟨h0+1+1+1,0,none⟩)] 114);have bR5:=apJ.alloc (.cells #[.pointer (some ⟨h0+1+1+1,0,none⟩)] 114);have b5:=b4.alloc (by omega) (.cells #[.pointer (some ⟨h0+1+1+1,0,none⟩)] 114);generalize (w4.alloc (.cells #[.pointer (some ⟨h0+1+1+1,0,none⟩)] 114))=w5 at z5 bC5 b5 bM5 bR5 apK ⊢;have apL:=hb w5 (h0+1+1+1+1+1) #[.int .u64 1] 37 z5;have hO:=aaQ (apK.alloc (.cells #[.int .u64 1] 37)) (B:=w.heap.size) (by omega);have hN:=aaQ apL (B:=w.heap.size) (by omega);refine⟨b5.alloc (by omega) _,bC5.alloc _,bM5.alloc _,bR5.alloc _,hO,cu _ _ _ _,cu _ _ _ _,hN,fun k b e=>?_,rfl,by omega,fun b e=>(by cases e),fun b _ e=>(by cases e)⟩;match k,e with
  | 0,e=>cases e;exact⟨_,bR5.alloc _,rfl⟩
  | k+1,e=>cases e)
 clear hh0 hW0;go_cut [6,7,8,9,10] (fun v6 v7 v8 v9 v10 wx=>Hid (RAt w h0 #[.int .i64 1,.int .i64 600,.int .i64 200,.slice sa 3 sc,.slice oa 4 oc] (h0+1+1) (h0+1+1+1) 4 5 v6 wx))
 case first =>
  go_wp2_with fail
  go_loopg [6,7,8,9,10] 4 (fun gg v6 v7 _ _ _ wx=>∃j:Nat,j+gg=4/\v7=.int .i64 j/\Hid (RAt w h0 #[.int .i64 1,.int .i64 600,.int .i64 200,.slice sa 3 sc,.slice oa 4 oc] (h0+1+1) (h0+1+1+1) j (j+1) v6 wx))
  case atStart=>exact⟨0,by omega,rfl,ZI⟩
  case round =>
   obtain⟨j,hj,rfl,HR⟩:=hrel;by_cases hlt:j<4
   ·obtain⟨o,ho⟩:∃o,aaD[j]? = some o:=⟨_,aQ (by show j<4;exact hlt)⟩
    have hst:=abr ho;obtain⟨b,s,rfl,hbl,hV,hcell0⟩:=pJ.out.at ho;obtain⟨ov,nv,apB,kv,bs,nd,ks,ds,hbs,hnd,hR⟩:=HR.out;have Hnd:=ah hnd;have hcell:=fun i hi=>(hR.eO.cell (p:=⟨b,j*12+i,none⟩) hbl).trans (hcell0 i hi)
    obtain⟨la,lc,hls,hl1,hl2⟩:=aJ.form hV.lab;obtain⟨ca,cc,hlc,hc1',hc2'⟩:=aJ.form hV.gG;obtain⟨da,dc,hvd,hd1,hd2⟩:=aJ.form hV.data;obtain⟨ma,mc,Oa,hm1,hm2⟩:=aJ.form hV.maps;have q0:wr.cell? ⟨b,j*12,none⟩=some (.int .i64 o.kind):=by have:=hcell 0 (by omega);rw[Nat.add_zero]at this;rw[this];rfl
    have q1:wr.cell? ⟨b,j*12+1,none⟩=some (.int .i64 0):=by rw[hcell 1 (by omega),<-hst.par];rfl
    have q2:wr.cell? ⟨b,j*12+2,none⟩=some (.int .i64 (o.lab.d:Nat)):=by rw[hcell 2 (by omega)];rfl
    have q3:wr.cell? ⟨b,j*12+3,none⟩=some (.slice la o.lab.ps.length lc):=by rw[hcell 3 (by omega),<-hls];rfl
    have q4:wr.cell? ⟨b,j*12+4,none⟩=some (.int .i64 (o.gG.d:Nat)):=by rw[hcell 4 (by omega)];rfl
    have q5:wr.cell? ⟨b,j*12+5,none⟩=some (.slice ca o.gG.ps.length cc):=by rw[hcell 5 (by omega),<-hlc];rfl
    have q6:wr.cell? ⟨b,j*12+6,none⟩=some (.int .i64 o.pages):=by rw[hcell 6 (by omega)];rfl
    have q7:wr.cell? ⟨b,j*12+7,none⟩=some (.int .i64 o.names):=by rw[hcell 7 (by omega)];rfl
    have q8:wr.cell? ⟨b,j*12+8,none⟩=some (.slice da o.data.length dc):=by rw[hcell 8 (by omega),<-hvd];rfl
    have q9:wr.cell? ⟨b,j*12+9,none⟩=some (.slice ma o.maps.length mc):=by rw[hcell 9 (by omega),<-Oa];rfl
    have q10:wr.cell? ⟨b,j*12+10,none⟩=some (.int .i64 o.space):=by rw[hcell 10 (by omega)];rfl
    have q11:wr.cell? ⟨b,j*12+11,none⟩=some (.int .i64 o.pc):=by rw[hcell 11 (by omega)];rfl
    have c4:wr.cell? ⟨h0,4,none⟩=some (.slice (some ⟨b,0,none⟩) 4 oc):=(hR.cfg.cell 4).trans rfl;have Ja:=ah hst;have HV:=ah hV;have HRN:=ah hR;have Hbs:=ah hbs;have Hvd:=ah hvd;have hlt':(j:Int)<4:=by omega
    clear hcell hcell0 hls hlc hvd Oa hst hV hR hnd hbs hl1 hl2 hc1' hc2' hd1 hd2 hm1 hm2 ho;obtain⟨⟨na,nc,rfl⟩,-⟩:=qd HRN.out.nam;obtain⟨nb,rfl,hnl,hnc⟩:=aJ.cells (aJ.own HRN.out.nam) (by omega);have n0:wr.cell? ⟨nb,0,none⟩=some (.int .u64 1):=by rw[hnc 0 (.int .u64 1) (by rw[dF,List.getElem?_range (by omega)];rfl)]
    have hlb:bs.length<=100:=by rw[Hbs.out];omega
    obtain⟨ob,oc',rfl,hro⟩:=HRN.out.ado hlb;obtain⟨tb,htb⟩:∃tb,wr.heap.size=tb:=⟨_,rfl⟩;obtain⟨w1,hw1⟩:∃w1,wr.alloc (.cells #[.int .i64 o.kind,.int .i64 0,.int .i64 (o.lab.d:Nat),.slice la o.lab.ps.length lc,.int .i64 (o.gG.d:Nat),.slice ca o.gG.ps.length cc,.int .i64 o.pages,.int .i64 o.names,.slice da o.data.length dc,.slice ma o.maps.length mc,.int .i64 o.space,.int .i64 o.pc] 120)=w1:=⟨_,rfl⟩;have HT:Hid (aR w1 tb #[.int .i64 o.kind,.int .i64 0,.int .i64 (o.lab.d:Nat),.slice la o.lab.ps.length lc,.int .i64 (o.gG.d:Nat),.slice ca o.gG.ps.length cc,.int .i64 o.pages,.int .i64 o.names,.slice da o.data.length dc,.slice ma o.maps.length mc,.int .i64 o.space,.int .i64 o.pc] 120):=ah (by rw[<-hw1,<-htb];exact aR.new _ _ _);have hab:Below wr.heap.size wr w1:=by rw[<-hw1];exact(aC _ wr).alloc (aj _) _
    have HR1:=ah (HRN.out.below hab);have n1:w1.drew.cell? ⟨nb,0,none⟩=some (.int .u64 1):=dD ((hab.cell (p:=⟨nb,0,none⟩) hnl).trans n0);have HTl:Hid (w.heap.size<=tb):=ah (by rw[<-htb];exact HRN.out.eO.size);clear hnc n0 hro hab;go_upto_region 9 with fail
    clear hw1 htb c4 q0 q1 q2 q3 q4 q5 q6 q7 q8 q9 q10 q11;have s0:w1.drew.cell? ⟨tb,0,none⟩=some (.int .i64 o.kind):=(HT.out.drew.cell 0).trans rfl;have s1:w1.drew.cell? ⟨tb,1,none⟩=some (.int .i64 0):=(HT.out.drew.cell 1).trans rfl;have s2:w1.drew.cell? ⟨tb,2,none⟩=some (.int .i64 (o.lab.d:Nat)):=(HT.out.drew.cell 2).trans rfl;have s3:w1.drew.cell? ⟨tb,3,none⟩=some (.slice la o.lab.ps.length lc):=(HT.out.drew.cell 3).trans rfl;have s6:w1.drew.cell? ⟨tb,6,none⟩=some (.int .i64 o.pages):=(HT.out.drew.cell 6).trans rfl;have s7:w1.drew.cell? ⟨tb,7,none⟩=some (.int .i64 o.names):=(HT.out.drew.cell 7).trans rfl;have hS0:w1.drew.cell? ⟨tb,0,none⟩=some (.int .i64 o.kind)/\w1.drew.cell? ⟨tb,1,none⟩=some (.int .i64 0)/\w1.drew.cell? ⟨tb,2,none⟩=some (.int .i64 (o.lab.d:Nat))/\w1.drew.cell? ⟨tb,3,none⟩=some (.slice la o.lab.ps.length lc)/\w1.drew.cell? ⟨tb,6,none⟩=some (.int .i64 o.pages)/\w1.drew.cell? ⟨tb,7,none⟩=some (.int .i64 o.names)/\w1.drew.cell? ⟨nb,0,none⟩=some (.int .u64 1):=⟨s0,s1,s2,s3,s6,s7,n1⟩
    have BR:Hid (Calls Tryz.prog 21 #[.pointer (some ⟨h0+1+1,0,none⟩),.int .u64 1] w1.drew fun e w'=>∃v,e=.returned v/\v=.pointer (some ⟨h0+1+1+1,0,none⟩)/\w'=w1.drew):=ah (by
     obtain⟨ob2,oc2,e2,hro⟩:=HR1.out.drew.ado hlb;exact(aaB w1.drew _ _ _ bs 0 _ hro HR1.out.fst).mono (fun e w' q=>⟨_,q.1,rfl,q.2⟩))
    obtain⟨need,gv,cost,nx1,hi1,hk,e1,e2,e3⟩:=Ja.out.cost
    have om:Hid (Calls Tryz.prog 20 #[.pointer (some ⟨h0+1+1,0,none⟩),.pointer (some ⟨h0+1+1+1,0,none⟩),.int .i64 o.kind,.agg #[.int .i64 (o.lab.d:Nat),.slice la o.lab.ps.length lc],.int .i64 o.pages,.int .i64 o.names] w1.drew fun e w'=>∃v,e=.returned v/\∃nw ov' kv' dv,v=.tuple #[.pointer (some ⟨nw,0,none⟩),.int .i64 0] /\
      acF w.heap.size w1.drew w' (h0+1+1) (h0+1+1+1) nw (.slice (some ⟨ob,0,none⟩) bs.length oc') nv apB kv ov' kv' bs j (ks++[.int .u64 ((j:Int)+2)]) (apD (j+1)) (apE (j+1)) ((j:Int)+2+1) (apF (j+1)) gv nx1 hi1 o.kind (o.lab.d:Nat) (.slice la o.lab.ps.length lc) dv):=ah (by
     rw[e1,e2,e3];refine(aaI w.heap.size w1.drew HR1.out.drew.eO.size _ _ _ nv apB kv bs j ks (apD j) (apE j) ((j:Int)+2) (apF j) (o.lab.d:Nat) la o.lab.ps.length lc o.kind o.pages o.names need gv cost nx1 hi1 hk HR1.out.drew.m HR1.out.drew.root HR1.out.drew.row HR1.out.drew.kids ⟨by omega,hlb⟩ (by omega) Ja.out.bh Ja.out.bu Ja.out.apG).mono ?_;rintro e w' ⟨nw,ov',kv',dv,rfl,q⟩;exact⟨_,rfl,nw,ov',kv',dv,rfl,q⟩)
    have iR:Hid (∀(W:World) (nw:Nat) (ov' kv' dv:Value),acF w.heap.size w1.drew W (h0+1+1) (h0+1+1+1) nw (.slice (some ⟨ob,0,none⟩) bs.length oc') nv apB kv ov' kv' bs j (ks++[.int .u64 ((j:Int)+2)]) (apD (j+1)) (apE (j+1)) ((j:Int)+2+1) (apF (j+1)) gv nx1 hi1 o.kind (o.lab.d:Nat) (.slice la o.lab.ps.length lc) dv ->
      aR W tb #[.int .i64 o.kind,.int .i64 0,.int .i64 (o.lab.d:Nat),.slice la o.lab.ps.length lc,.int .i64 (o.gG.d:Nat),.slice ca o.gG.ps.length cc,.int .i64 o.pages,.int .i64 o.names,.slice da o.data.length dc,.slice ma o.maps.length mc,.int .i64 o.space,.int .i64 o.pc] 120/\W.cell? ⟨nb,0,none⟩=some (.int .u64 1)):=ah (fun W nw ov' kv' dv hp=>by
     have hR1:=HR1.out.drew;refine⟨hp.kept.blk HT.out.drew (fun hS=>?_),?_⟩
     ·rcases hS with e|e|e|e
      ·have:=HT.out.drew;rw[e]at this;exact absurd (aad this hR1.m) (by decide)
      ·have:=HT.out.drew;rw[e]at this;exact absurd (aad this hR1.root) (by decide)
      ·exact own_ne hR1.kids HT.out.drew (by decide) rfl e
      ·exact own_ne hR1.row HT.out.drew (by decide) rfl e
     ·have hP:=hR1.put (by rw[Hbs.out];omega) hp
      obtain⟨nb2,e,-,hc⟩:=aJ.cells (aJ.own hP.nam) (by omega)
      cases e;exact hc 0 _ (by rw[dF,List.getElem?_range (by omega)];rfl))
    clear e1 e2 e3 hk;go_cut [9,10] (fun v9 v10 wx=>∃nw ov' kv' dv,v9=.pointer (some ⟨nw,0,none⟩)/\v10=.int .i64 0/\Hid (acF w.heap.size w1.drew wx (h0+1+1) (h0+1+1+1) nw (.slice (some ⟨ob,0,none⟩) bs.length oc') nv apB kv ov' kv' bs j (ks++[.int .u64 ((j:Int)+2)]) (apD (j+1)) (apE (j+1)) ((j:Int)+2+1) (apF (j+1)) gv nx1 hi1 o.kind (o.lab.d:Nat) (.slice la o.lab.ps.length lc) dv))
    case first =>
     first
     | go_region_held3 (fun W=>W.cell? ⟨tb,0,none⟩=some (.int .i64 o.kind)/\W.cell? ⟨tb,1,none⟩=some (.int .i64 0)/\W.cell? ⟨tb,2,none⟩=some (.int .i64 (o.lab.d:Nat))/\W.cell? ⟨tb,3,none⟩=some (.slice la o.lab.ps.length lc)/\W.cell? ⟨tb,6,none⟩=some (.int .i64 o.pages)/\W.cell? ⟨tb,7,none⟩=some (.int .i64 o.names)/\W.cell? ⟨nb,0,none⟩=some (.int .u64 1)) (first|exact hS0|exact hS3)
       (first
        | (refine BR.out.mono ?_;rintro e w3 ⟨v,rfl,rfl,rfl⟩)
        | (refine om.out.mono ?_;rintro e w3 ⟨v,rfl,nw,ov',kv',dv,rfl,hp⟩;have hq:=iR.out _ _ _ _ _ hp;have hS3:w3.cell? ⟨tb,0,none⟩=some (.int .i64 o.kind)/\w3.cell? ⟨tb,1,none⟩=some (.int .i64 0)/\w3.cell? ⟨tb,2,none⟩=some (.int .i64 (o.lab.d:Nat))/\w3.cell? ⟨tb,3,none⟩=some (.slice la o.lab.ps.length lc)/\w3.cell? ⟨tb,6,none⟩=some (.int .i64 o.pages)/\w3.cell? ⟨tb,7,none⟩=some (.int .i64 o.names)/\w3.cell? ⟨nb,0,none⟩=some (.int .u64 1):=⟨(hq.1.cell 0).trans rfl,(hq.1.cell 1).trans rfl,(hq.1.cell 2).trans rfl,(hq.1.cell 3).trans rfl,(hq.1.cell 6).trans rfl,(hq.1.cell 7).trans rfl,hq.2⟩))
     | fail
     all_goals
      go_wp2_with fail
      go_meet;exact⟨_,_,_,_,rfl,rfl,ah hp⟩
    case rest =>
    obtain⟨nw,ov',kv',dv,rfl,rfl,HPt⟩:=hcut;rename World=>w2
    clear BR om s0 s1 s2 s3 s6 s7 n1 hS0;have HR2:=ah (HR1.out.drew.put (by rw[Hbs.out];omega) HPt.out);have HT2:=ah (iR.out _ _ _ _ _ HPt.out).1;have HDa:=ah (HPt.out.data)
    have x0:w2.cell? ⟨nw,0,none⟩=some (.int .u64 ((j:Int)+2)):=by
     have:w2.cell? ⟨nw,0,none⟩=some (.int .u64 ((j:Int)+2+1-1)):=(HPt.out.new.cell 0).trans rfl
     rw[this,show(j:Int)+2+1-1=(j:Int)+2 by omega]
    have HN2:=ah HPt.out.new;have vS:Hid (w.heap.size<=w1.drew.heap.size):=ah HR1.out.drew.eO.size;clear iR HR1 HT HRN HR;obtain⟨i0,hi0,hz0,hz1,hz2⟩:=info_parts qm;have yM:=ah hi0;have lJ:=ah hz0;have lI:=ah hz1;have kT:=ah hz2;have GY:Hid (World.ownsRow (w2.alloc (.cells #[.int .u64 ((j:Int)+2)] 37)) w.heap.size 37 1 (.slice (some ⟨nb,0,none⟩) (j+1) nc) (j+1) ((List.range (j+1)).map fun i:Nat=>.int .u64 ((i:Int)+1))):=ah (dA (T:=fun _=>False) HR2.out.nam ((Kept.refl _ _).alloc _) (fun _ _ q=>q));have LX:Hid (∀u∈[Value.int .u64 ((j:Int)+2)],u.oneCell'=true):=ah (fun u hu=>by simp at hu;subst hu;rfl);have TS:Hid (w.heap.size<=(w2.alloc (.cells #[.int .u64 ((j:Int)+2)] 37)).heap.size):=ah (by rw[au];exact Nat.le_succ_of_le HR2.out.eO.size);have b2:w2.heap.size<w2.heap.size+1:=by omega
    clear hi0 hz0 hz1 hz2;go_upto_region 13 with(at_builtin;refine wpList_append_lies _ rfl _ _ 46 rfl w.heap.size 37 i0 _ 1 8 Tryz.underlying46 yM.out lJ.out lI.out kT.out rfl (by decide) _ _ _ rfl GY.out ⟨w2.heap.size,0,none⟩ 1 1 [.int .u64 ((j:Int)+2)] rfl rfl (World.news_of_block (aR.new w2 #[.int .u64 ((j:Int)+2)] 37)) LX.out (by omega) (by unfold maxLen;omega) (by omega) TS.out _ rfl ?_;intro g3 cap w3 hown3 hgrow3 hg3 hlt3)
    have k3:=dG hgrow3
    have YF:=(HR2.out.below ((aC _ w2).alloc (aj _) (.cells #[.int .u64 ((j:Int)+2)] 37))).name hgrow3 hown3 rfl (by rw[show(((j+1:Nat):Int)+1)=(j:Int)+2 by omega]) rfl (by
     rcases hg3 with q|q
     ·exact .inl q
     ·right;rw[q];simp)
    have hnn:(Value.slice (some ⟨nb,0,none⟩) (j+1) nc).ownBlock≠some tb:=own_ne HR2.out.nam HT2.out (by decide) rfl;have hnw:(Value.slice (some ⟨nb,0,none⟩) (j+1) nc).ownBlock≠some nw:=own_ne HR2.out.nam HN2.out (by decide) rfl;have HT3:=ah (k3.blk (HT2.out.alloc (.cells #[.int .u64 ((j:Int)+2)] 37)) hnn);have Jg:=ah (k3.blk (HN2.out.alloc (.cells #[.int .u64 ((j:Int)+2)] 37)) hnw);have hD3:aai w1.drew w3.drew dv:=((HDa.out.kept ((Kept.refl (fun _=>False) w2).alloc (.cells #[.int .u64 ((j:Int)+2)] 37)) (fun _ _ _ q=>q)).kept k3 (fun D cs hB=>own_ne GY.out hB (by decide) rfl)).kept ((Kept.refl (fun _=>False) w3).drew) (fun _ _ _ q=>q);have HR3:=ah YF
    have hx3:dV w3.drew (.slice da o.data.length dc) o.data:=by
     have:=aJ.below HV.out.data YF.drew.eO (aj _);rw[Hvd.out]at this;exact this
    obtain⟨v13,w4,hcp,hw4⟩:=acB (w:=w1.drew) hD3 hx3
    obtain⟨xa,xn,xc,rfl⟩:∃xa xn xc,dv=.slice xa xn xc:=by
     rcases hD3 with e|⟨D,n,cs,e,-⟩
     ·exact⟨_,_,_,e⟩
     ·exact⟨_,_,_,e⟩
    have Xk:=ah hw4;have y14:w3.drew.cell? ⟨nw,14,none⟩=some (.slice xa xn xc):=(Jg.out.drew.cell 14).trans rfl;have y8:w3.drew.cell? ⟨tb,8,none⟩=some (.slice da o.data.length dc):=(HT3.out.drew.cell 8).trans rfl;clear hgrow3 hown3 hg3 k3 YF hnn hnw hD3 hx3 hw4 GY LX TS x0 b2 yM lJ lI kT HPt HR2 HT2 HN2 HDa;go_cut [] (fun wx=>wx=w4)
    case first =>
     go_region
     go_wp2_with fail
     go_meet;rfl
    case rest =>
    subst hcut;rename World=>w4
    have HR4:=ah (show apC w w4 h0 #[.int .i64 1,.int .i64 600,.int .i64 200,.slice sa 3 sc,.slice (some ⟨b,0,none⟩) 4 oc] (h0+1+1) (h0+1+1+1) ov' nv apB kv' (.slice (some ⟨g3,0,none⟩) (j+1+1) cap) (bs++[nw]) (j+1+1) (j+1) nd (ks++[.int .u64 ((j:Int)+2)]) ds (apD (j+1)) (apE (j+1)) ((j:Int)+2+1) (apF (j+1))from by
     rcases Xk.out with e|⟨D,cs,hB,hD,k⟩
     ·rw[e];exact HR3.out.drew
     ·exact HR3.out.drew.bytes hB (bD vS.out hD) k)
    have yO:=ah (show ∀(b:Nat) (c:Array Value) (T:TypeId),aR w3 b c T->T≠5->aR w4 b c T from fun b c T hb hT=>by
     rcases Xk.out with e|⟨D,cs,hB,hD,k⟩
     ·rw[e];exact hb.drew
     ·exact k.blk hb.drew (fun e=>by have:=hb.drew;rw[e]at this;exact hT (aad this hB)))
    have HT4:=ah (yO.out _ _ _ HT3.out (by decide));have HN4:=ah (yO.out _ _ _ Jg.out (by decide));clear y14 y8 hcp Xk yO HT3 Jg HR3;have y0:w4.cell? ⟨tb,0,none⟩=some (.int .i64 o.kind):=(HT4.out.cell 0).trans rfl
    have adS:Hid (∀W dw' nd' ds',nd'<=j+1->apC w W h0 #[.int .i64 1,.int .i64 600,.int .i64 200,.slice sa 3 sc,.slice (some ⟨b,0,none⟩) 4 oc] (h0+1+1) (h0+1+1+1) ov' nv dw' kv' (.slice (some ⟨g3,0,none⟩) (j+1+1) cap) (bs++[nw]) (j+1+1) (j+1) nd' (ks++[.int .u64 ((j:Int)+2)]) ds' (apD (j+1)) (apE (j+1)) ((j:Int)+2+1) (apF (j+1)) ->
      RAt w h0 #[.int .i64 1,.int .i64 600,.int .i64 200,.slice sa 3 sc,.slice (some ⟨b,0,none⟩) 4 oc] (h0+1+1) (h0+1+1+1) (j+1) (j+1+1) (.slice (some ⟨g3,0,none⟩) (j+1+1) cap) W):=ah (fun W dw' nd' ds' hle h=>⟨_,_,_,_,bs++[nw],_,_,_,by rw[aO,Hbs.out];rfl,hle,by rw[show(((j+1:Nat):Int)+2)=(j:Int)+2+1 by omega];exact h⟩)
    by_cases h6:o.kind=6
    ·have hb6:(o.kind==6)=true:=by simp[h6]
     have H6:=ah h6;clear h6;go_upto_region 15 with fail
     obtain⟨⟨dwa,dwc,rfl⟩,-⟩:=qd HR4.out.dev;obtain⟨i0,hi0,hz0,hz1,hz2⟩:=info_parts qm;have yM:=ah hi0;have lJ:=ah hz0;have lI:=ah hz1;have kT:=ah hz2
     have x0:w4.cell? ⟨nw,0,none⟩=some (.int .u64 ((j:Int)+2)):=by
      have:w4.cell? ⟨nw,0,none⟩=some (.int .u64 ((j:Int)+2+1-1)):=(HN4.out.cell 0).trans rfl
      rw[this,show(j:Int)+2+1-1=(j:Int)+2 by omega]
     have x0':(w4.alloc (.cells #[.int .u64 ((j:Int)+2)] 37)).cell? ⟨nw,0,none⟩=some (.int .u64 ((j:Int)+2)):=by
      have:(w4.alloc (.cells #[.int .u64 ((j:Int)+2)] 37)).cell? ⟨nw,0,none⟩=some (.int .u64 ((j:Int)+2+1-1)):=((HN4.out.alloc _).cell 0).trans rfl
      rw[this,show(j:Int)+2+1-1=(j:Int)+2 by omega]
     have m2:w4.cell? ⟨h0+1+1,2,none⟩=some (.slice dwa nd dwc):=(HR4.out.m.cell 2).trans rfl;have m2':(w4.alloc (.cells #[.int .u64 ((j:Int)+2)] 37)).cell? ⟨h0+1+1,2,none⟩=some (.slice dwa nd dwc):=((HR4.out.m.alloc _).cell 2).trans rfl;have hRa:=(HR4.out.below ((aC _ w4).alloc (aj _) (.cells #[.int .u64 ((j:Int)+2)] 37))).drew;have HRa:=ah hRa;have GY:Hid (World.ownsRow (w4.alloc (.cells #[.int .u64 ((j:Int)+2)] 37)).drew w.heap.size 37 1 (.slice dwa nd dwc) nd ds):=ah hRa.dev;have LX:Hid (∀u∈[Value.int .u64 ((j:Int)+2)],u.oneCell'=true):=ah (fun u hu=>by simp at hu;subst hu;rfl);have TS:Hid (w.heap.size<=((w4.alloc (.cells #[.int .u64 ((j:Int)+2)] 37)).drew).heap.size):=ah hRa.eO.size;have hnd:nd<=100:=by have:=Hnd.out;omega
     clear hi0 hz0 hz1 hz2 hRa
     go_region_law (first
      | (refine step_append_lies _ (by rfl) (.tmp 92) (.tmp 97) 46 (by rfl) w.heap.size 37 i0 _ 1 8 Tryz.underlying46 yM.out lJ.out lI.out kT.out rfl (by decide) (.slice dwa nd dwc) nd ds (by simp[Act.eval]) GY.out ⟨w4.heap.size,0,none⟩ 1 1 [.int .u64 ((j:Int)+2)] (by simp[Act.eval]) rfl (World.news_of_block (aR.new w4 #[.int .u64 ((j:Int)+2)] 37).drew) LX.out (by omega) (by unfold maxLen;omega) (by omega) TS.out _ rfl ?_;intro g5 cap5 w7 hown5 fI hg5 uU;have hM7:=(dG fI).blk HRa.out.m (own_ne GY.out HRa.out.m (by decide) rfl);have j13:w7.cell? ⟨h0+1+1,2,none⟩=some (.slice dwa nd dwc):=(hM7.cell 2).trans rfl;have k13:w7.frozen? ⟨h0+1+1,2,none⟩=false:=hM7.free 2)
      | fail)
     all_goals
      clear j13 k13 x0 x0' m2 m2' hb6 y0;go_wp2_with fail
      go_roundg (4-(j+1))
      case measure=>omega
      case rel =>
       refine⟨j+1,by omega,by first|rfl|go_num,ah (adS.out _ _ _ _ (by have:=Hnd.out;omega) (HRa.out.eU fI hown5 rfl ?_))⟩;rcases hg5 with q|q
       ·exact .inl q
       ·right;rw[q];exact aj _
    ·have hb6:(o.kind==6)=false:=by simpa using h6
     clear h6;go_wp2_with fail
     go_roundg (4-(j+1))
     case measure=>omega
     case rel=>exact⟨j+1,by omega,by first|rfl|go_num,ah (adS.out _ _ _ _ (by have:=Hnd.out;omega) HR4.out)⟩
   ·have hj4:j=4:=by omega
    have hge:¬(j:Int)<4:=by omega
    obtain⟨ov,nv,apB,kv,bs,nd,ks,ds,hbs,hnd,hR⟩:=HR.out;have c4:wr.cell? ⟨h0,4,none⟩=some (.slice oa 4 oc):=(hR.cfg.cell 4).trans rfl;have Hj4:=ah hj4;clear hlt hj4 hbs hnd hR;go_wp2_with fail
    go_meet;have e4:=Hj4.out;subst e4;exact HR
 case rest =>
  obtain⟨ov,nv,apB,kv,bs,nd,ks,ds,hbs,-,hR⟩:=hcut.out;rename World=>wA
  obtain⟨⟨na,nc,rfl⟩,-⟩:=qd hR.nam;obtain⟨nb,rfl,-,-⟩:=aJ.cells (aJ.own hR.nam) (by omega);have HRA:=ah hR;have Hbs:=ah hbs;clear hR hbs hcut ZI;go_wp2_with fail
  go_loopg [11,12,13,14,15] 4 (fun gg v11 _ _ _ _ wx=>∃i:Nat,i+gg=4/\v11=.int .i64 i/\Hid (apC w wx h0 #[.int .i64 1,.int .i64 600,.int .i64 200,.slice sa 3 sc,.slice oa 4 oc] (h0+1+1) (h0+1+1+1) ov nv apB kv (.slice (some ⟨nb,0,none⟩) 5 nc) bs 5 4 nd ks ds (apD 4) (apE 4) (((4:Nat):Int)+2) (apF 4)))
  case atStart=>exact⟨0,by omega,rfl,HRA⟩
  case round =>
   obtain⟨i,hi,rfl,HR⟩:=hrel;by_cases hlt:i<4
   ·obtain⟨o,ho⟩:∃o,aaD[i]? = some o:=⟨_,aQ (by show i<4;exact hlt)⟩
    have hst:=abr ho;obtain⟨b,s,rfl,hbl,hV,hcell0⟩:=pJ.out.at ho;have hR:=HR.out;have hcell:=fun k hk=>(hR.eO.cell (p:=⟨b,i*12+k,none⟩) hbl).trans (hcell0 k hk)
    obtain⟨la,lc,hls,-,-⟩:=aJ.form hV.lab;obtain⟨ca,cc,hlc,-,-⟩:=aJ.form hV.gG;obtain⟨da,dc,hvd,-,-⟩:=aJ.form hV.data;obtain⟨ma,mc,Oa,-,-⟩:=aJ.form hV.maps;have q0:wr.cell? ⟨b,i*12,none⟩=some (.int .i64 o.kind):=by have:=hcell 0 (by omega);rw[Nat.add_zero]at this;rw[this];rfl
    have q1:wr.cell? ⟨b,i*12+1,none⟩=some (.int .i64 0):=by rw[hcell 1 (by omega),<-hst.par];rfl
    have q2:wr.cell? ⟨b,i*12+2,none⟩=some (.int .i64 (o.lab.d:Nat)):=by rw[hcell 2 (by omega)];rfl
    have q3:wr.cell? ⟨b,i*12+3,none⟩=some (.slice la o.lab.ps.length lc):=by rw[hcell 3 (by omega),<-hls];rfl
    have q4:wr.cell? ⟨b,i*12+4,none⟩=some (.int .i64 (o.gG.d:Nat)):=by rw[hcell 4 (by omega)];rfl
    have q5:wr.cell? ⟨b,i*12+5,none⟩=some (.slice ca o.gG.ps.length cc):=by rw[hcell 5 (by omega),<-hlc];rfl
    have q6:wr.cell? ⟨b,i*12+6,none⟩=some (.int .i64 o.pages):=by rw[hcell 6 (by omega)];rfl
    have q7:wr.cell? ⟨b,i*12+7,none⟩=some (.int .i64 o.names):=by rw[hcell 7 (by omega)];rfl
    have q8:wr.cell? ⟨b,i*12+8,none⟩=some (.slice da o.data.length dc):=by rw[hcell 8 (by omega),<-hvd];rfl
    have q9:wr.cell? ⟨b,i*12+9,none⟩=some (.slice ma 0 mc):=by rw[hcell 9 (by omega),<-hst.maps,<-Oa];rfl
    have q10:wr.cell? ⟨b,i*12+10,none⟩=some (.int .i64 o.space):=by rw[hcell 10 (by omega)];rfl
    have q11:wr.cell? ⟨b,i*12+11,none⟩=some (.int .i64 o.pc):=by rw[hcell 11 (by omega)];rfl
    have c4:wr.cell? ⟨h0,4,none⟩=some (.slice (some ⟨b,0,none⟩) 4 oc):=(hR.cfg.cell 4).trans rfl;obtain⟨nb2,e,hnl,hnc⟩:=aJ.cells (aJ.own hR.nam) (by omega)
    cases e
    have nx:wr.cell? ⟨nb,i+1,none⟩=some (.int .u64 ((i:Int)+1+1)):=by
     rw[hnc (i+1) (.int .u64 ((i:Int)+1+1)) (by rw[dF,List.getElem?_range (by omega)];rfl)]
    have b3:(o.kind != 3)=true:=by rcases hst.kind with e|e|e<;>rw[e]<;>rfl
    have b5:(o.kind != 5)=true:=by rcases hst.kind with e|e|e<;>rw[e]<;>rfl
    have b4:(o.kind==4)=false:=by rcases hst.kind with e|e|e<;>rw[e]<;>rfl
    have w1i:IntKind.i64.wrap ((i:Int)+1)=(i:Int)+1:=aV _ (by omega);obtain⟨tb,htb⟩:∃tb,wr.heap.size=tb:=⟨_,rfl⟩;obtain⟨w1,hw1⟩:∃w1,wr.alloc (.cells #[.int .i64 o.kind,.int .i64 0,.int .i64 (o.lab.d:Nat),.slice la o.lab.ps.length lc,.int .i64 (o.gG.d:Nat),.slice ca o.gG.ps.length cc,.int .i64 o.pages,.int .i64 o.names,.slice da o.data.length dc,.slice ma 0 mc,.int .i64 o.space,.int .i64 o.pc] 120)=w1:=⟨_,rfl⟩;have hB1:aR w1 tb #[.int .i64 o.kind,.int .i64 0,.int .i64 (o.lab.d:Nat),.slice la o.lab.ps.length lc,.int .i64 (o.gG.d:Nat),.slice ca o.gG.ps.length cc,.int .i64 o.pages,.int .i64 o.names,.slice da o.data.length dc,.slice ma 0 mc,.int .i64 o.space,.int .i64 o.pc] 120:=by rw[<-hw1,<-htb];exact aR.new _ _ _
    have hab:Below wr.heap.size wr w1:=by rw[<-hw1];exact(aC _ wr).alloc (aj _) _
    have HR1:=ah (hR.below hab);have y0:w1.cell? ⟨tb,0,none⟩=some (.int .i64 o.kind):=(hB1.cell 0).trans rfl;have y9:w1.cell? ⟨tb,9,none⟩=some (.slice ma 0 mc):=(hB1.cell 9).trans rfl;have n1:w1.cell? ⟨nb,i+1,none⟩=some (.int .u64 ((i:Int)+1+1)):=(hab.cell (p:=⟨nb,i+1,none⟩) hnl).trans nx;obtain⟨bb,hbb⟩:∃bb,bs[i+1]? = some bb:=⟨_,aQ (by rw[Hbs.out];omega)⟩
    have BR:Hid (Calls Tryz.prog 21 #[.pointer (some ⟨h0+1+1,0,none⟩),.int .u64 ((i:Int)+1+1)] w1 fun e w'=>e=.returned (.pointer (some ⟨bb,0,none⟩))/\w'=w1):=ah (by
     obtain⟨ob2,oc2,e2,hro⟩:=HR1.out.ado (by rw[Hbs.out];omega);exact aaB w1 _ _ _ bs (i+1) bb hro hbb)
    have hlt':(i:Int)<4:=by omega
    have hl5:(i:Int)+1<5:=by omega
    clear hcell hcell0 hls hlc hvd Oa hst hV hR hnc hB1 hab nx hbb ho HR;go_wp2_with fail
    refine BR.out.mono ?_;rintro e w5 ⟨rfl,rfl⟩;clear BR n1 hl5 q0 q1 q2 q3 q4 q5 q6 q7 q8 q9 q10 q11 c4 hw1 htb;go_wp2_with fail
    go_loopg [14,15] 1 (fun gg v14 _ wx=>v14=.int .i64 0/\wx=w5)
    case atStart=>exact⟨rfl,rfl⟩
    case round =>
     obtain⟨rfl,rfl⟩:=hrel;go_wp2_with fail
     go_roundg (4-(i+1))
     case measure=>omega
     case rel=>exact⟨i+1,by omega,by first|rfl|go_num,HR1⟩
   ·have hi4:i=4:=by omega
    have hge:¬(i:Int)<4:=by omega
    have c4:wr.cell? ⟨h0,4,none⟩=some (.slice oa 4 oc):=(HR.out.cfg.cell 4).trans rfl;clear hlt hi4;go_wp2_with fail
    go_ret2
    obtain⟨⟨xa,xc,e⟩,-⟩:=qd HR.out.row;rw[Hbs.out]at e;refine⟨HR.out.eO,_,rfl,xa,xc,?_⟩;have:wr.cell? ⟨h0+1+1,0,none⟩=some ov:=(HR.out.m.cell 0).trans rfl
    rw[this,e]
end Go.Proofs.YtiadbhiadhgjkaaGreatDoor
