import Derived.Test.YtiadbhiadhgjkaaGreatDoorZzNn
import Derived.Test.YtiadbhiadhgjkaaGreatDoorZzQe
import Derived.Test.YtiadbhiadhgjkaaGreatDoorZzLib
import Derived.Deep.AppendLies
set_option maxRecDepth 100000
set_option maxHeartbeats 4000000
namespace Go.Proofs.YtiadbhiadhgjkaaGreatDoor
open Go.RowKit
attribute [local irreducible] World.setCell World.alloc World.drew World.setRow Calls Code.wp
def Uf(w:World):Option Km->Ending->World->Prop
 | none,e,_=>e=.returned (.tuple #[.pointer none,.pointer none])
 | some K,e,w'=>∃kb g,e=.returned (.tuple #[.pointer (some ⟨kb,0,none⟩),FL g K.obj 6])/\∃lo,rR w lo kb K g w'/\dx K/\K.nc=1
theorem QF{w:World}{g:Gh}{o:Ob}(h:vZ w g o)(hk:o.kind=3):w.cell? ⟨g.bl o.name,19,none⟩=some (.pointer (some ⟨g.tl o.name,0,none⟩))/\w.cell? ⟨g.tl o.name,20,none⟩=some (.int .i64 o.th.state)/\w.cell? ⟨g.tl o.name,32,none⟩=some (.int .i64 o.th.cont.phase):=by
 obtain⟨s,T,hB,-,h3,-⟩:=h.ex;have h19:=hB.cell 19;rw[(h3 hk).1]at h19;obtain⟨x,hT,-⟩:=(h3 hk).2.ex;exact⟨h19.trans rfl,(hT.cell 20).trans rfl,(hT.cell 32).trans rfl⟩
theorem zT:(Tryz.prog.info? 28).map (fun i=>(i.zero,i.size,i.bytes))=some (some (.agg #[.int .i64 0,.int .i32 0,.int .i32 0,.int .i32 0,.int .i32 0,.int .i32 0,.int .i64 0,.int .i64 0,.int .i64 0,.int .i64 0,.int .i32 0]),11,72):=by kernel_rfl
theorem zQ:∀ls:List Line,(ls.flatMap fQ).length=ls.length*11
 | []=>rfl
 | x::l=>by rw[List.flatMap_cons,aO,zQ l,aZ];show 11+_=_;omega
theorem uR{ls:List Line}{u:Value}(h:u∈ls.flatMap fQ):u.oneCell'=true:=by
 obtain⟨l,-,hl⟩:=List.mem_flatMap.1 h;simp[fQ]at hl;rcases hl with rfl|rfl|rfl|rfl|rfl|rfl|rfl|rfl|rfl|rfl|rfl<;>rfl
theorem PD(b j:Nat):(⟨b,0,none⟩:Addr).add j=⟨b,j,none⟩:=by unfold Addr.add;split<;>simp_all
section
variable {P:Program}{ops:Array Oper}{Q:Exit->Act->World->Prop}{i:Nat}{o:Oper}{a:Act}{w w':World}{K:Act->World->Prop}{d:Option Tmp}{t:TypeId}{p:String}{e:Array Edge}{g:Option (Nat×Bool)}{x y:Operand}{u v s:Value}
theorem wpOp_step{f:Tmp}(ho:ops[i]? = some o)(hd:iq ops i=some f)(h:∀K':Act->World->Prop,(∀v w,K (a.put (some f) v) w->K' (a.put o.dst v) w)->if Region.wanted o (yielded ops a.tmps)=true then Oper.wp P o a w K' Q else K' (a.put o.dst undef) w):wpOp P ops Q i K a w:=by
 unfold iq at hd;rw[ho]at hd;have hd:o.dst=some f:=hd;have h:=h K (fun v w q=>by rw[hd];exact q);unfold wpOp;rw[ho];by_cases hw:Region.wanted o (yielded ops a.tmps)=true
 ·rw[aD hw]at h
  simp only[hw,if_true];exact .inl h
 ·rw[aA hw]at h
  simp only[hw];exact h
theorem xY{T:TypeId}{f:Nat}(hx:a.eval x=s)(hr:(Instr.build T #[(f,s)]).run P w=.ok v w'):(execOp a.eval ⟨d,.build T #[(f,x)],t,p,e,g⟩).run P w=.ok (.value v) w':=by
 simp[execOp,hx,hr,Result.andThen]
theorem xX{T:TypeId}{f f2:Nat}(hx:a.eval x=s)(hy:a.eval y=u)(hr:(Instr.build T #[(f,s),(f2,u)]).run P w=.ok v w'):(execOp a.eval ⟨d,.build T #[(f,x),(f2,y)],t,p,e,g⟩).run P w=.ok (.value v) w':=by
 simp[execOp,hx,hy,hr,Result.andThen]
theorem IB{T:TypeId}{n:Nat}(hx:a.eval x=u)(hr:(Instr.buildSlice T n #[(0,u)]).run P w=.ok v w'):(execOp a.eval ⟨d,.buildSlice T n #[(0,x)],t,p,e,g⟩).run P w=.ok (.value v) w':=by
 simp[execOp,hx,hr,Result.andThen]
theorem IC{n:Nat}{vs:Array Value}(hx:a.eval x=.tuple vs)(hv:vs[n]? = some v):(execOp a.eval ⟨d,.extract x n,t,p,e,g⟩).run P w=.ok (.value v) w:=by
 simp[execOp,hx,Instr.extract,hv]
end
theorem RJ:jH.ok:=⟨⟨by decide,by decide⟩,⟨⟨by decide,by decide⟩,⟨by decide,by decide⟩,⟨by decide,by decide⟩,⟨by decide,by decide⟩,⟨by decide,by decide⟩⟩,fun _=>⟨by decide,by decide,by decide⟩⟩
structure aak(w:World)(ls:List Line)(d:Int)(sv:Value)(sl:List Int)(K0:Km)(b1 b4 b5 b7 b8 b9 b10 b11 b12 b13 b14 b15:Option Bool)(v11 v14 v15 v17 v18 v19 v20 v9 v21 v22 v6 v7:Value)(wx:World):Prop where
 eO:Below w.heap.size w wx
 lt:w.heap.size<wx.heap.size
 box:b9≠some true->aR wx w.heap.size #[.int .i64 d,sv] 36
 g1:b1=some true->b5≠some true->wx.ownsRow (w.heap.size+1) 28 11 v11 ls.length (ls.flatMap fQ)
 g4:b4=some true->b5≠some true->∃hb,v14=.slice (some ⟨hb,0,none⟩) 1 1/\aR wx hb (fQ jH).toArray 28
 g5:b5=some true->b9≠some true->∃a1 c1,v15=.slice a1 (ls.length+1) c1/\mY wx v15 (ls++[jH])
 g7:b7=some true->b9≠some true->∃a1 c1,v15=.slice a1 (ls.length+1) c1/\∃a2 n2 c2,sv=.slice a2 n2 c2/\v17=.agg #[.slice a1 (ls.length+1) c1,.int .i64 d,sv,.int .i64 0]
 g8:b8=some true->b9≠some true->∃Q,lU wx v18 [(⟨ls++[jH],⟨d,sl⟩,0⟩:PV)] Q
 g9:b9=some true->b10≠some true->rU wx v19 (dX [(⟨ls++[jH],⟨d,sl⟩,0⟩:PV).plain] 0)
 g10:b10=some true->∃kb lo g,v20=.tuple #[.pointer (some ⟨kb,0,none⟩),.int .i64 0]/\rR w lo kb K0 g wx/\(b11=some true->v9=.tuple #[.pointer (some ⟨kb,0,none⟩),.int .i64 0]) /\
  (b12=some true->v21=.pointer (some ⟨kb,0,none⟩))/\(b13=some true->v22=.int .i64 0)/\(b14=some true->v6=.pointer (some ⟨kb,0,none⟩))/\(b15=some true->v7=.int .i64 0)
theorem GJ(w:World):(Instr.build 26 #[(0,.int .i64 1)]).run Tryz.prog w=.ok (.agg #[.int .i64 1,.int .i64 0,.int .i64 0,.int .i64 0,.int .i32 0]) w:=by kernel_rfl
theorem GI(w:World):(Instr.build 28 #[(2,.agg #[.int .i64 1,.int .i64 0,.int .i64 0,.int .i64 0,.int .i32 0])]).run Tryz.prog w=.ok (.agg (fQ jH).toArray) w:=by kernel_rfl
theorem MU(w:World):(Instr.buildSlice 23 1 #[(0,.agg (fQ jH).toArray)]).run Tryz.prog w=.ok (.slice (some ⟨w.heap.size,0,none⟩) 1 1) (w.alloc (.cells (fQ jH).toArray 28)):=by
 show(Instr.buildSlice 23 1 #[(0,.agg #[.int .i64 0,.int .i32 0,.int .i32 0,.int .i32 0,.int .i32 0,.int .i32 0,.int .i64 1,.int .i64 0,.int .i64 0,.int .i64 0,.int .i32 0])]).run Tryz.prog w=_
 go_simp;try rfl
theorem Kr{w:World}{b:Nat}{x y:Value}(h:aR w b #[x,y] 36):(Instr.loadAt 36 (.pointer (some ⟨b,0,none⟩))).run Tryz.prog w=.ok (.agg #[x,y]) w:=by
 have h0:w.cell? ⟨b,0,none⟩=some x:=(h.cell 0).trans rfl;have h1:w.cell? ⟨b,1,none⟩=some y:=(h.cell 1).trans rfl;go_simp;try rfl
theorem GH(w:World)(a a2:Option Addr)(n c n2 c2:Nat)(d:Int):(Instr.build 100 #[(0,.slice a n c),(1,.agg #[.int .i64 d,.slice a2 n2 c2])]).run Tryz.prog w=.ok (.agg #[.slice a n c,.int .i64 d,.slice a2 n2 c2,.int .i64 0]) w:=by
 simp[Instr.build,go_sem,Value.cells];try rfl
theorem MS(w:World)(a a2:Option Addr)(n c n2 c2:Nat)(d:Int):(Instr.buildSlice 101 1 #[(0,.agg #[.slice a n c,.int .i64 d,.slice a2 n2 c2,.int .i64 0])]).run Tryz.prog w=.ok (.slice (some ⟨w.heap.size,0,none⟩) 1 1) (w.alloc (.cells #[.slice a n c,.int .i64 d,.slice a2 n2 c2,.int .i64 0] 100)):=by
 go_simp;try rfl
theorem KW{QQ:World->Gh->Prop}{rE:Km->Ob->Option (Km×Int)}(b lc:Nat)(ls:List Line)(d:Int)(sv:Value)(sl:List Int)(K0:Km)(r:Option Km)(w:World)(hQ:∀w w' g g',QQ w g->Ext g g' w w'->QQ w' g')(DF:Ai QQ rE)(hall:∀K K' o x,dx K->pG o=true->rE K o=some (K',x)->dx K')(hq:∀lo kb K g w',rR w lo kb K g w'->QQ w' g)(hl:mY w (.slice (some ⟨b,0,none⟩) ls.length lc) ls)(hn:0<ls.length)(hls:ls.length<=90)(hok:∀l∈ls,l.ok)
  (hs:yP w sv sl.length (sl.map (Value.int .i64))) (hsl:∀n∈sl,yJ n) (WR:tu (dX [(⟨ls++[jH],⟨d,sl⟩,0⟩:PV).plain] 0)=some K0) (hA:dx K0) (hnc:K0.nc=1) (hr:rM rE xC 600 K0=some r) :
  Calls Tryz.prog 8 #[.slice (some ⟨b,0,none⟩) ls.length lc,.agg #[.int .i64 d,sv]] w fun e w'=>Below w.heap.size w w'/\Uf w r e w':=by
 have HQ:=ah (And.intro hQ (And.intro DF (And.intro hall hq)));clear hQ DF hall hq;go_enter Tryz.func8,Tryz.ntmps8
 go_upto_region 1 with fail
 go_cut [6,7] (fun v6 v7 wx=>v7=.int .i64 0/\∃kb lo g,v6=.pointer (some ⟨kb,0,none⟩)/\Hid (rR w lo kb K0 g wx))
 case first =>
  obtain⟨i0,hi0,hz0,hz1,hz2⟩:=info_parts zT;have hb90:(0+ls.length)*72<=140737488355328:=by omega
  have hb91:(ls.length+1)*72<=140737488355328:=by omega
  have h90:0+ls.length<=maxLen:=by unfold maxLen;omega
  have h91:ls.length+1<=maxLen:=by unfold maxLen;omega
  obtain⟨sa,sc,rfl,-,-⟩:=hs.form
  have hnw:∀W,Below w.heap.size w W->∀(j:Nat) (u:Value),(ls.flatMap fQ)[j]? = some u->W.cell? ((⟨b,0,none⟩:Addr).add j)=some u:=fun W hW j u hu=>by
   obtain⟨b',e,-,hc⟩:=aJ.cells (aJ.below hl hW (aj _)) hn
   cases e;rw[PD];exact hc j u hu
  have hbd:=zB [(⟨ls++[jH],⟨d,sl⟩,0⟩:PV).plain] 0 (fun p hp=>by simp at hp;subst hp;exact(PV.NP _).1)
  have acH:∀p∈[(⟨ls++[jH],⟨d,sl⟩,0⟩:PV)],p.ok:=fun p hp=>by
   simp at hp;subst hp;refine⟨by show(ls++[jH]).length<=100;rw[aO,List.length_singleton];omega,fun l hl=>?_,hsl⟩;rcases List.mem_append.1 hl with e|e
   ·exact hok l e
   ·rw[List.mem_singleton.1 e];exact RJ
  refine dW (by kernel_rfl) (by kernel_rfl) (by kernel_rfl)
   (fun i v=>match i with|0=>v=.slice (some ⟨b,0,none⟩) ls.length lc|2=>v=.agg #[.int .i64 1,.int .i64 0,.int .i64 0,.int .i64 0,.int .i32 0]|3=>v=.agg (fQ jH).toArray|6=>v=.agg #[.int .i64 d,.slice sa sl.length sc]|_=>True)
   (fun l a wx=>aak w ls d (.slice sa sl.length sc) sl K0 l[1]? l[4]? l[5]? l[7]? l[8]? l[9]? l[10]? l[11]? l[12]? l[13]? l[14]? l[15]? (a.tmps.getD 11 undef) (a.tmps.getD 14 undef) (a.tmps.getD 15 undef) (a.tmps.getD 17 undef) (a.tmps.getD 18 undef) (a.tmps.getD 19 undef) (a.tmps.getD 20 undef) (a.tmps.getD 9 undef) (a.tmps.getD 21 undef) (a.tmps.getD 22 undef) (a.tmps.getD 6 undef) (a.tmps.getD 7 undef) wx) ?_ ?_ ?_
  ·exact⟨((aC _ w).alloc (aj _) _).drew,by simp,fun _=>(aR.new _ _ _).drew,fun h=>by simp at h,fun h=>by simp at h,fun h=>by simp at h,fun h=>by simp at h,fun h=>by simp at h,fun h=>by simp at h,fun h=>by simp at h⟩
  ·intro hu i l a wx hi hl lF hd hcl hR hW
   have hi16:i=0\/i=1\/i=2\/i=3\/i=4\/i=5\/i=6\/i=7\/i=8\/i=9\/i=10\/i=11\/i=12\/i=13\/i=14\/i=15:=by have:i<16:=hi;omega
   rcases hi16 with rfl|rfl|rfl|rfl|rfl|rfl|rfl|rfl|rfl|rfl|rfl|rfl|rfl|rfl|rfl|rfl
   ·refine aK rfl (d:=10) rfl (aF rfl _) (dJ (hR.was 0 rfl)) ⟨hR.put hu (by rw[hl];decide) (d:=10) rfl (ak rfl) rfl,?_⟩
    simpa only[aI,aL,bF,aB,Nat.reduceEqDiff]using hW
   ·have hno:¬(l[1]? = some true):=by rw[lF];simp
    have Oq:¬(l[5]? = some true):=fun h=>hno (hcl.of 1 rfl h)
    have xP:¬(l[7]? = some true):=fun h=>Oq (hcl.of 5 rfl h)
    have qw:¬(l[8]? = some true):=fun h=>xP (hcl.of 7 rfl h)
    have qp:¬(l[9]? = some true):=fun h=>qw (hcl.of 8 rfl h)
    have jV:¬(l[10]? = some true):=fun h=>qp (hcl.of 9 rfl h)
    refine wpOp_step (i:=1) (f:=11) rfl rfl (fun K1 hK1=>step_append_lies _ (by rfl) (.const (.slice none 0 0)) (.tmp 10) 23 (by rfl) (w.heap.size+1) 28 i0 _ 11 72 Tryz.underlying23 hi0 hz0 hz1 hz2 rfl (by decide) (.slice none 0 0) 0 [] ?_ (cu _ _ _ _) ⟨b,0,none⟩ ls.length lc (ls.flatMap fQ) ?_ (zQ ls) (hnw wx hW.eO) (fun u hu=>uR hu) hn h90 hb90 hW.lt _ rfl ?_)
    ·rfl
    ·exact hR.slot 0 10 (hd 0 rfl) rfl
    intro g1 c1 w1 hown1 Vl abS hlt1;have hbe:Below wx.heap.size wx w1:=(aC _ wx).grown Vl (aj _) (fun b e=>by cases e);refine hK1 _ _ ⟨hR.put hu (by rw[hl];decide) (d:=11) rfl (ak rfl) trivial,?_⟩;simp only[aI,aL,bF,aB,Nat.reduceEqDiff,set_self (show 1<l.size by rw[hl];decide),eG (show 11<a.tmps.size by rw[hR.size];exact ak rfl)];refine⟨aT hW.eO hbe,bA hW.lt hbe.size,fun h=>(hW.box h).below hbe (hW.box h).lt,fun _ _=>?_,fun h h'=>?_,fun h=>absurd h Oq,fun h=>absurd h xP,fun h=>absurd h qw,fun h=>absurd h qp,fun h=>absurd h jV⟩
    ·rw[Nat.zero_add,List.nil_append]at hown1;rw[Nat.zero_add];exact hown1
    ·obtain⟨hb,e1,e2⟩:=hW.g4 h h'
     exact⟨hb,e1,e2.below hbe e2.lt⟩
   ·refine aK rfl (d:=12) rfl (aF rfl _) (xY rfl (GJ _)) ⟨hR.put hu (by rw[hl];decide) (d:=12) rfl (ak rfl) rfl,?_⟩
    simpa only[aI,aL,bF,aB,Nat.reduceEqDiff]using hW
   ·refine aK rfl (d:=13) rfl (aF rfl _) (xY (hR.slot 2 12 (hd 2 rfl) rfl) (GI _)) ⟨hR.put hu (by rw[hl];decide) (d:=13) rfl (ak rfl) rfl,?_⟩
    simpa only[aI,aL,bF,aB,Nat.reduceEqDiff]using hW
   ·have hno:¬(l[4]? = some true):=by rw[lF];simp
    have Oq:¬(l[5]? = some true):=fun h=>hno (hcl.of 4 rfl h)
    have xP:¬(l[7]? = some true):=fun h=>Oq (hcl.of 5 rfl h)
    have qw:¬(l[8]? = some true):=fun h=>xP (hcl.of 7 rfl h)
    have qp:¬(l[9]? = some true):=fun h=>qw (hcl.of 8 rfl h)
    have jV:¬(l[10]? = some true):=fun h=>qp (hcl.of 9 rfl h)
    refine aK rfl (d:=14) rfl (aF rfl _) (IB (hR.slot 3 13 (hd 3 rfl) rfl) (MU _)) ⟨hR.put hu (by rw[hl];decide) (d:=14) rfl (ak rfl) trivial,?_⟩;simp only[aI,aL,bF,aB,Nat.reduceEqDiff,set_self (show 4<l.size by rw[hl];decide),eG (show 14<a.tmps.size by rw[hR.size];exact ak rfl)];have hbe:Below wx.heap.size wx (wx.alloc (.cells (fQ jH).toArray 28)):=(aC _ wx).alloc (aj _) _;exact⟨aT hW.eO hbe,bA hW.lt hbe.size,fun h=>(hW.box h).below hbe (hW.box h).lt,fun h h'=>(hW.g1 h h').alloc _,fun _ _=>⟨_,rfl,aR.new _ _ _⟩,fun h=>absurd h Oq,fun h=>absurd h xP,fun h=>absurd h qw,fun h=>absurd h qp,fun h=>absurd h jV⟩
   ·have hno:¬(l[5]? = some true):=by rw[lF];simp
    have xP:¬(l[7]? = some true):=fun h=>hno (hcl.of 5 rfl h)
    have qw:¬(l[8]? = some true):=fun h=>xP (hcl.of 7 rfl h)
    have qp:¬(l[9]? = some true):=fun h=>qw (hcl.of 8 rfl h)
    have jV:¬(l[10]? = some true):=fun h=>qp (hcl.of 9 rfl h)
    have hrow:=hW.g1 (hd 1 rfl) hno;obtain⟨hb,e14,hB⟩:=hW.g4 (hd 4 rfl) hno;refine wpOp_step (i:=5) (f:=15) rfl rfl (fun K1 hK1=>step_append_lies _ (by rfl) (.tmp 11) (.tmp 14) 23 (by rfl) (w.heap.size+1) 28 i0 _ 11 72 Tryz.underlying23 hi0 hz0 hz1 hz2 rfl (by decide) _ ls.length _ ?_ hrow ⟨hb,0,none⟩ 1 1 (fQ jH) ?_ rfl (fun j u hu=>by rw[PD,hB.cell];simpa using hu) (fun u hu=>uR (ls:=[jH]) (by simpa using hu)) (by decide) h91 hb91 hW.lt _ rfl ?_)
    ·rfl
    ·exact e14
    intro g1 c1 w1 hown1 Vl abS hlt1;have hbe:Below (w.heap.size+1) wx w1:=(aC _ wx).grown Vl hW.lt (fun b e=>(hrow.lt b e).1);refine hK1 _ _ ⟨hR.put hu (by rw[hl];decide) (d:=15) rfl (ak rfl) trivial,?_⟩;simp only[aI,aL,bF,aB,Nat.reduceEqDiff,set_self (show 5<l.size by rw[hl];decide),eG (show 15<a.tmps.size by rw[hR.size];exact ak rfl)];refine⟨hW.eO.trans (hbe.mono (by omega)),bA hW.lt hbe.size,fun h=>(hW.box h).below hbe (by omega),fun _ h=>absurd rfl h,fun _ h=>absurd rfl h,fun _ _=>⟨_,_,rfl,?_⟩,fun h=>absurd h xP,fun h=>absurd h qw,fun h=>absurd h qp,fun h=>absurd h jV⟩;unfold mY;rw[aO,List.length_singleton,List.flatMap_append];exact aJ.own (by simpa using hown1)
   ·have hno:¬(l[9]? = some true):=fun h=>by have:=hcl.of 6 rfl (hcl.of 7 rfl (hcl.of 8 rfl h));rw[lF]at this;cases this
    refine aK rfl (d:=16) rfl (aF rfl _) (eu (hR.was 3 rfl) (Kr (hW.box hno))) ⟨hR.put hu (by rw[hl];decide) (d:=16) rfl (ak rfl) rfl,?_⟩;simpa only[aI,aL,bF,aB,Nat.reduceEqDiff]using hW
   ·have hno:¬(l[7]? = some true):=by rw[lF];simp
    have qw:¬(l[8]? = some true):=fun h=>hno (hcl.of 7 rfl h)
    have qp:¬(l[9]? = some true):=fun h=>qw (hcl.of 8 rfl h)
    have jV:¬(l[10]? = some true):=fun h=>qp (hcl.of 9 rfl h)
    obtain⟨a1,c1,e15,hL⟩:=hW.g5 (hd 5 rfl) qp;refine aK rfl (d:=17) rfl (aF rfl _) (xX (show a.eval (.tmp 15)=_ from e15) (hR.slot 6 16 (hd 6 rfl) rfl) (GH _ _ _ _ _ _ _ _)) ⟨hR.put hu (by rw[hl];decide) (d:=17) rfl (ak rfl) trivial,?_⟩;simp only[aI,aL,bF,aB,Nat.reduceEqDiff,set_self (show 7<l.size by rw[hl];decide),eG (show 17<a.tmps.size by rw[hR.size];exact ak rfl)];exact⟨hW.eO,hW.lt,hW.box,hW.g1,hW.g4,hW.g5,fun _ _=>⟨_,_,e15,_,_,_,rfl,rfl⟩,fun h=>absurd h qw,fun h=>absurd h qp,fun h=>absurd h jV⟩
   ·have hno:¬(l[8]? = some true):=by rw[lF];simp
    have qp:¬(l[9]? = some true):=fun h=>hno (hcl.of 8 rfl h)
    have jV:¬(l[10]? = some true):=fun h=>qp (hcl.of 9 rfl h)
    obtain⟨a1,c1,e15,a2,n2,c2,e2,e17⟩:=hW.g7 (hd 7 rfl) qp;obtain⟨a1',c1',e15',hL⟩:=hW.g5 (hcl.of 5 rfl (hd 7 rfl)) qp;rw[e15]at e15'
    cases e15';rw[e15]at hL;have hbe:Below wx.heap.size wx (wx.alloc (.cells #[.slice a1 (ls.length+1) c1,.int .i64 d,.slice sa sl.length sc,.int .i64 0] 100)):=(aC _ wx).alloc (aj _) _;have hBp:=aR.new wx #[.slice a1 (ls.length+1) c1,.int .i64 d,.slice sa sl.length sc,.int .i64 0] 100
    have hPr:lU (wx.alloc (.cells #[.slice a1 (ls.length+1) c1,.int .i64 d,.slice sa sl.length sc,.int .i64 0] 100)) (.slice (some ⟨wx.heap.size,0,none⟩) 1 1) [(⟨ls++[jH],⟨d,sl⟩,0⟩:PV)] (fun _=>(.slice a1 (ls.length+1) c1,.slice sa sl.length sc)):=by
     refine⟨fun j p hj=>?_,_,1,rfl,aj _,by unfold maxLen;decide,.inr ⟨_,0,rfl,hBp.lt,fun j p hj i hi=>?_⟩⟩
     ·match j,hj with
      | 0,hj=>cases hj;exact⟨aJ.below hL hbe (aj _),(hs.below hW.eO (aj _)).below hbe (aj _)⟩
     ·match j,hj with
      | 0,hj =>
       cases hj;rw[show 0+0*4+i=i by omega];refine(hBp.cell i).trans ?_;match i,hi with
       | 0,_=>rfl
       | 1,_=>rfl
       | 2,_=>rfl
       | 3,_=>rfl
    refine aK rfl (d:=18) rfl (aF rfl _) (IB (show a.eval (.tmp 17)=_ from e17) (MS _ _ _ _ _ _ _ _)) ⟨hR.put hu (by rw[hl];decide) (d:=18) rfl (ak rfl) trivial,?_⟩;simp only[aI,aL,bF,aB,Nat.reduceEqDiff,set_self (show 8<l.size by rw[hl];decide),eG (show 18<a.tmps.size by rw[hR.size];exact ak rfl)];exact⟨aT hW.eO hbe,bA hW.lt hbe.size,fun h=>(hW.box h).below hbe (hW.box h).lt,fun h h'=>(hW.g1 h h').alloc _,fun h h'=>absurd (hcl.of 5 rfl (hd 7 rfl)) h',fun h h'=>⟨_,_,e15,by rw[e15];exact aJ.below hL hbe (aj _)⟩,fun _ _=>⟨_,_,e15,_,_,_,rfl,e17⟩,fun _ _=>⟨_,hPr⟩,fun h=>absurd h qp,fun h=>absurd h jV⟩
   ·have hno:¬(l[9]? = some true):=by rw[lF];simp
    have jV:¬(l[10]? = some true):=fun h=>hno (hcl.of 9 rfl h)
    obtain⟨Q,hPr⟩:=hW.g8 (hd 8 rfl) hno;refine gV rfl (d:=19) rfl (aF rfl _) (bP (vs:=#[a.tmps.getD 18 undef,.int .i64 0]) (by simp[Act.eval]) (bE Tryz.func12 (by kernel_rfl) rfl)) (R:=fun v w'=>rU w' v (dX [(⟨ls++[jH],⟨d,sl⟩,0⟩:PV).plain] 0)/\Below wx.heap.size wx w') ((zy _ _ Q 0 wx hPr acH (by omega)).mono fun e w' ⟨v,h1,h2,h3⟩=>⟨v,h1,h2,h3⟩) ?_;rintro v w' ⟨h1,hbe⟩;refine⟨hR.put hu (by rw[hl];decide) (d:=19) rfl (ak rfl) trivial,?_⟩;simp only[aI,aL,bF,aB,Nat.reduceEqDiff,set_self (show 9<l.size by rw[hl];decide),eG (show 19<a.tmps.size by rw[hR.size];exact ak rfl)];exact⟨aT hW.eO hbe,bA hW.lt hbe.size,fun h=>absurd rfl h,fun h h'=>absurd (hcl.of 5 rfl (hcl.of 7 rfl (hd 8 rfl))) h',fun h h'=>absurd (hcl.of 5 rfl (hcl.of 7 rfl (hd 8 rfl))) h',fun _ h=>absurd rfl h,fun _ h=>absurd rfl h,fun _ h=>absurd rfl h,fun _ _=>h1,fun h=>absurd h jV⟩
   ·have hno:¬(l[10]? = some true):=by rw[lF];simp
    have Ou:¬(l[11]? = some true):=fun h=>hno (hcl.of 10 rfl h)
    have TF:¬(l[12]? = some true):=fun h=>Ou (hcl.of 11 rfl h)
    have Yk:¬(l[13]? = some true):=fun h=>Ou (hcl.of 11 rfl h)
    have TD:¬(l[14]? = some true):=fun h=>TF (hcl.of 12 rfl h)
    have Yj:¬(l[15]? = some true):=fun h=>TD (hcl.of 14 rfl h)
    have hC:=hW.g9 (hd 9 rfl) hno;refine gV rfl (d:=20) rfl (aF rfl _) (bP (vs:=#[a.tmps.getD 19 undef]) (by simp[Act.eval]) (bE Tryz.func17 (by kernel_rfl) rfl)) (R:=fun v w'=>∃kb lo g,v=.tuple #[.pointer (some ⟨kb,0,none⟩),.int .i64 0]/\rR w lo kb K0 g w'/\Below wx.heap.size wx w') ((Dv wx _ _ K0 hC hbd WR).mono fun e w' ⟨kb,h1,h2,g,h3,h4,h5,h6⟩=>⟨_,h1,kb,wx.heap.size,g,rfl,⟨aT hW.eO h2,hW.eO.size,h3,h4,h5,h6,h2.size⟩,h2⟩) ?_;rintro v w' ⟨kb,lo,g,rfl,h1,hbe⟩;refine⟨hR.put hu (by rw[hl];decide) (d:=20) rfl (ak rfl) trivial,?_⟩;simp only[aI,aL,bF,aB,Nat.reduceEqDiff,set_self (show 10<l.size by rw[hl];decide),eG (show 20<a.tmps.size by rw[hR.size];exact ak rfl)];exact⟨aT hW.eO hbe,bA hW.lt hbe.size,fun h=>absurd (hd 9 rfl) h,fun h h'=>absurd (hcl.of 5 rfl (hcl.of 7 rfl (hcl.of 8 rfl (hd 9 rfl)))) h',fun h h'=>absurd (hcl.of 5 rfl (hcl.of 7 rfl (hcl.of 8 rfl (hd 9 rfl)))) h',fun _ h=>absurd (hd 9 rfl) h,fun _ h=>absurd (hd 9 rfl) h,fun _ h=>absurd (hd 9 rfl) h,fun _ h=>absurd rfl h,fun _=>⟨kb,lo,g,rfl,h1,fun h=>absurd h Ou,fun h=>absurd h TF,fun h=>absurd h Yk,fun h=>absurd h TD,fun h=>absurd h Yj⟩⟩
   ·have hno:¬(l[11]? = some true):=by rw[lF];simp
    obtain⟨kb,lo,g,e20,hK,q11,q12,q13,q14,q15⟩:=hW.g10 (hd 10 rfl);refine aK rfl (d:=9) rfl (aF rfl _) (dJ (show a.eval (.tmp 20)=_ from e20)) ⟨hR.put hu (by rw[hl];decide) (d:=9) rfl (ak rfl) trivial,?_⟩;simp only[aI,aL,bF,aB,Nat.reduceEqDiff,set_self (show 11<l.size by rw[hl];decide),eG (show 9<a.tmps.size by rw[hR.size];exact ak rfl)];exact⟨hW.eO,hW.lt,hW.box,hW.g1,hW.g4,hW.g5,hW.g7,hW.g8,hW.g9,fun _=>⟨kb,lo,g,e20,hK,fun _=>rfl,q12,q13,q14,q15⟩⟩
   ·have hno:¬(l[12]? = some true):=by rw[lF];simp
    obtain⟨kb,lo,g,e20,hK,q11,q12,q13,q14,q15⟩:=hW.g10 (hcl.of 10 rfl (hd 11 rfl));refine aK rfl (d:=21) rfl (aF rfl _) (IC (show a.eval (.tmp 9)=_ from q11 (hd 11 rfl)) rfl) ⟨hR.put hu (by rw[hl];decide) (d:=21) rfl (ak rfl) trivial,?_⟩;simp only[aI,aL,bF,aB,Nat.reduceEqDiff,set_self (show 12<l.size by rw[hl];decide),eG (show 21<a.tmps.size by rw[hR.size];exact ak rfl)];exact⟨hW.eO,hW.lt,hW.box,hW.g1,hW.g4,hW.g5,hW.g7,hW.g8,hW.g9,fun _=>⟨kb,lo,g,e20,hK,q11,fun _=>rfl,q13,q14,q15⟩⟩
   ·have hno:¬(l[13]? = some true):=by rw[lF];simp
    obtain⟨kb,lo,g,e20,hK,q11,q12,q13,q14,q15⟩:=hW.g10 (hcl.of 10 rfl (hd 11 rfl));refine aK rfl (d:=22) rfl (aF rfl _) (IC (show a.eval (.tmp 9)=_ from q11 (hd 11 rfl)) rfl) ⟨hR.put hu (by rw[hl];decide) (d:=22) rfl (ak rfl) trivial,?_⟩;simp only[aI,aL,bF,aB,Nat.reduceEqDiff,set_self (show 13<l.size by rw[hl];decide),eG (show 22<a.tmps.size by rw[hR.size];exact ak rfl)];exact⟨hW.eO,hW.lt,hW.box,hW.g1,hW.g4,hW.g5,hW.g7,hW.g8,hW.g9,fun _=>⟨kb,lo,g,e20,hK,q11,q12,fun _=>rfl,q14,q15⟩⟩
   ·have hno:¬(l[14]? = some true):=by rw[lF];simp
    obtain⟨kb,lo,g,e20,hK,q11,q12,q13,q14,q15⟩:=hW.g10 (hd 10 rfl);refine aK rfl (d:=6) rfl (aF rfl _) (mo (show a.eval (.tmp 21)=_ from q12 (hd 12 rfl))) ⟨hR.put hu (by rw[hl];decide) (d:=6) rfl (ak rfl) trivial,?_⟩;simp only[aI,aL,bF,aB,Nat.reduceEqDiff,set_self (show 14<l.size by rw[hl];decide),eG (show 6<a.tmps.size by rw[hR.size];exact ak rfl)];exact⟨hW.eO,hW.lt,hW.box,hW.g1,hW.g4,hW.g5,hW.g7,hW.g8,hW.g9,fun _=>⟨kb,lo,g,e20,hK,q11,q12,q13,fun _=>rfl,q15⟩⟩
   ·have hno:¬(l[15]? = some true):=by rw[lF];simp
    obtain⟨kb,lo,g,e20,hK,q11,q12,q13,q14,q15⟩:=hW.g10 (hcl.of 10 rfl (hd 14 rfl));refine aK rfl (d:=7) rfl (aF rfl _) (mo (show a.eval (.tmp 22)=_ from q13 (hd 13 rfl))) ⟨hR.put hu (by rw[hl];decide) (d:=7) rfl (ak rfl) trivial,?_⟩;simp only[aI,aL,bF,aB,Nat.reduceEqDiff,set_self (show 15<l.size by rw[hl];decide),eG (show 7<a.tmps.size by rw[hR.size];exact ak rfl)];exact⟨hW.eO,hW.lt,hW.box,hW.g1,hW.g4,hW.g5,hW.g7,hW.g8,hW.g9,fun _=>⟨kb,lo,g,e20,hK,q11,q12,q13,q14,fun _=>rfl⟩⟩
  ·intro l a wx hl hR hW
   obtain⟨kb,lo,g,e20,hK,q11,q12,q13,q14,q15⟩:=hW.g10 (hl 10 (ak rfl));have e6:=q14 (hl 14 (ak rfl));have e7:=q15 (hl 15 (ak rfl));rw[hR.fold [10,11,12,13,14,15,16,17,18,19,20,9,21,22,6,7] (by kernel_rfl)];simp only[List.foldl,e6,e7];clear hR hW e6 e7 q11 q12 q13 q14 q15 e20 hl;generalize a.tmps.getD 10 undef=u10;generalize a.tmps.getD 11 undef=u11;generalize a.tmps.getD 12 undef=u12;generalize a.tmps.getD 13 undef=u13;generalize a.tmps.getD 14 undef=u14;generalize a.tmps.getD 15 undef=u15;generalize a.tmps.getD 16 undef=u16;generalize a.tmps.getD 17 undef=u17;generalize a.tmps.getD 18 undef=u18;generalize a.tmps.getD 19 undef=u19;generalize a.tmps.getD 20 undef=u20;generalize a.tmps.getD 9 undef=u9;generalize a.tmps.getD 21 undef=u21;generalize a.tmps.getD 22 undef=u22;simp only[ay,aG,aH];go_step
   go_step
   go_meet;exact⟨rfl,kb,lo,g,rfl,ah hK⟩
 case rest =>
  obtain⟨rfl,kb,lo,g0,rfl,HW⟩:=hcut;have HA:=ah hA;have Hr:=ah hr;have Hnc:=ah hnc;clear hl hs WR hA hr hnc;go_wp2_with fail
  go_loopg [8,25] 600 (fun gg _ v25 wq=>∃(k:Nat) (K:Km) (g:Gh),k+gg=600/\v25=.int .i64 k/\Hid (rR w lo kb K g wq/\dx K/\K.nc=1/\rM rE xC (600-k) K=some r))
  case atStart=>exact⟨0,K0,g0,by omega,rfl,ah ⟨HW.out,HA.out,Hnc.out,Hr.out⟩⟩
  case round =>
   obtain⟨k,K,g,hk,rfl,HK⟩:=hrel;by_cases hlt:k<600
   ·have hlt':(k:Int)<600:=by omega
    obtain⟨m,hm⟩:∃m,600-k=m+1:=⟨600-k-1,by omega⟩;have hd:=HK.out.2.2.2;rw[hm]at hd;unfold rM at hd;split at hd
    ·cases hd
    ·rename_i p hp
     obtain⟨K',ev⟩:=p
     have TW:Hid (Calls Tryz.prog 18 #[.pointer (some ⟨kb,0,none⟩),.agg #[.int .i64 0,.int .i64 0,.slice none 0 0]] wr fun e w'=>e=.returned (WX ev)/\∃g',rR w lo kb K' g' w'/\dx K'):=ah (by
      have hst:=zG (Q:=QQ) (wt:=xC) HQ.out.1 HQ.out.2.1 (fun _ _ _ _ _ _ _ _ _ _ _ _ _ _ h=>by cases h) wr g K K' 0 0 ev none 0 0 HK.out.1.kin HK.out.1.inv HK.out.2.1.kok (HQ.out.2.2.2 _ _ _ _ _ HK.out.1) (by rw[HK.out.2.2.1];omega) (by decide) (by decide) (by rw[Int.zero_emod];exact hp);rw[HK.out.1.kb]at hst;refine hst.mono ?_;rintro e w' ⟨h1,g',h2⟩;exact⟨h1,g',(HK.out.1.step h2).1,dx.nJ HQ.out.2.2.1 (fun _ _ _ _ _ _ _ h=>(by cases h)) HK.out.2.1 hp⟩)
     have Hd:=ah hd;clear hd hp;unfold WX at TW;go_wp2_with fail
     refine TW.out.mono ?_;rintro e w2 ⟨rfl,g2,hW2,hA2⟩;have H2:=ah (And.intro hW2 hA2)
     have k0:w2.cell? ⟨kb,0,none⟩=some (.pointer (some ⟨g2.tb,0,none⟩)):=by
      obtain⟨cv,s',dv,-,hB,-,-⟩:=hW2.kin.gZ.ex;have:=hB.cell 0;rw[hW2.kb]at this;exact this.trans rfl
     have BR:Hid (Calls Tryz.prog 15 #[.pointer (some ⟨g2.tb,0,none⟩),.int .u64 6] w2 fun e w'=>e=.returned (FL g2 K'.obj 6)/\w2=w'):=ah (kK w2 g2 K'.obj 6 hW2.kin.tab);clear hW2 hA2 TW;go_wp2_with fail
     refine BR.out.mono ?_;rintro e w3 ⟨rfl,rfl⟩;clear BR k0
     cases hi:isDone K' with
     | none=>have:=Hd.out;rw[hi]at this;cases this
     | some t =>
      obtain⟨KG,ru⟩:=Dx hi;rcases ru with⟨ho,rfl⟩|⟨o,ho,hk3,rfl⟩
      ·have hp0:=nL (g:=g2) ho
       have hr2:r=some K':=by have:=Hd.out;rw[hi]at this;cases this;rfl
       subst hr2;have HN:=ah KG;rw[hp0];clear KG ho hi Hd;go_wp2_with fail
       go_ret2
       exact⟨H2.out.1.eO,kb,g2,(by rw[hp0];rfl),lo,H2.out.1,H2.out.2,HN.out⟩
      ·have hp1:FL g2 K'.obj 6=.pointer (some ⟨g2.bl 6,0,none⟩):=by unfold FL;rw[ho];rfl
       have HO:=(H2.out.1.kin.objs 6 o ho);have hnm:=HO.1;obtain⟨x19,x20,x32⟩:=QF HO.2 hk3;rw[hnm]at x19 x20 x32;obtain⟨st,hst⟩:∃st,o.th.state=st:=⟨_,rfl⟩;obtain⟨ph,zU⟩:∃ph,o.th.cont.phase=ph:=⟨_,rfl⟩;rw[hst]at x20 hi;rw[zU]at x32 hi;rw[hp1];have HN:=ah KG;have Cb:=ah hp1;by_cases hs0:st=0
       ·have hb0:(st==0)=true:=by simp[hs0]
        by_cases hp0:ph=0
        ·have hb1:(ph==0)=true:=by simp[hp0]
         have hr2:r=some K':=by have:=Hd.out;rw[hi]at this;simp[hs0,hp0]at this;exact this.symm
         subst hr2;clear KG ho hi Hd hp1 HO hnm hst zU hs0 hp0 hk3;go_wp2_with fail
         go_ret2
         exact⟨H2.out.1.eO,kb,g2,(by rw[Cb.out];rfl),lo,H2.out.1,H2.out.2,HN.out⟩
        ·have hb1:(ph==0)=false:=by simp[hp0]
         have mQ:Hid (rM rE xC m K'=some r):=ah (by have:=Hd.out;rw[hi]at this;simp[hp0]at this;exact this);clear KG ho hi Hd hp1 HO hnm hst zU hs0 hp0 hk3;go_wp2_with fail
         go_roundg (600-(k+1))
         case measure=>omega
         case rel=>exact⟨k+1,K',g2,by omega,by go_num,ah ⟨H2.out.1,H2.out.2,HN.out,by rw[show 600-(k+1)=m by omega];exact mQ.out⟩⟩
       ·have hb0:(st==0)=false:=by simp[hs0]
        have mQ:Hid (rM rE xC m K'=some r):=ah (by have:=Hd.out;rw[hi]at this;simp[hs0]at this;exact this);clear KG ho hi Hd hp1 HO hnm hst zU hs0 hk3 x32;go_wp2_with fail
        go_roundg (600-(k+1))
        case measure=>omega
        case rel=>exact⟨k+1,K',g2,by omega,by go_num,ah ⟨H2.out.1,H2.out.2,HN.out,by rw[show 600-(k+1)=m by omega];exact mQ.out⟩⟩
   ·have hlt':¬(k:Int)<600:=by omega
    have hr0:r=none:=by have:=HK.out.2.2.2;rw[show 600-k=0 by omega]at this;unfold rM at this;cases this;rfl
    subst hr0;go_wp2_with fail
    go_ret2
    exact⟨HK.out.1.eO,rfl⟩
end Go.Proofs.YtiadbhiadhgjkaaGreatDoor
