import Derived.Test.YtiadbhiadhgjkaaGreatDoorZzTf
import Derived.Test.YtiadbhiadhgjkaaGreatDoorZzQd
import Derived.Laws.CopyOwn
import Derived.Test.YtiadbhiadhgjkaaGreatDoorZzTe
set_option maxRecDepth 100000
set_option maxHeartbeats 4000000
namespace Go.Proofs.YtiadbhiadhgjkaaGreatDoor
open Go.RowKit
def dn.bO(l:dn)(c v:Nat):dn:=if v=l.d then l else l.snoc c v
def yF(w:World)(v:Value)(a b:dn):Prop:=∃a1 c1 a2 c2,v=.agg #[.int .i64 (a.d:Nat),.slice a1 a.ps.length c1,.int .i64 (b.d:Nat),.slice a2 b.ps.length c2]/\bg w (.slice a1 a.ps.length c1) a.ps/\bg w (.slice a2 b.ps.length c2) b.ps
def PG(w:World)(tb:Nat)(a b:dn):Prop:=∃a1 c1 a2 c2,aR w tb #[.int .i64 (a.d:Nat),.slice a1 a.ps.length c1,.int .i64 (b.d:Nat),.slice a2 b.ps.length c2] 302/\bg w (.slice a1 a.ps.length c1) a.ps/\bg w (.slice a2 b.ps.length c2) b.ps
theorem yF.below{w w':World}{v:Value}{a b:dn}(h:yF w v a b)(k:Below w.heap.size w w'):yF w' v a b:=by
 obtain⟨a1,c1,a2,c2,e,h1,h2⟩:=h;exact⟨a1,c1,a2,c2,e,aJ.below h1 k (aj _),aJ.below h2 k (aj _)⟩
attribute [local irreducible] World.setCell World.alloc World.drew World.setRow Calls Code.wp
theorem Cg(l:dn)(c level:Nat)(v:Value)(w:World)(h:bU w v l)(hn:l.ps.length<=900)(hps:eP l.d 0 l.ps=true)(hlo:lo c l.ps=l.ps.length) :
  Calls Tryz.prog 23 #[v,.int .u32 (c:Nat),.int .i64 (level:Nat)] w fun e w'=>∃u,e=.returned u/\bU w' u (l.bO c level)/\Below w.heap.size w w':=by
 unfold dn.bO;by_cases q:level=l.d
 ·rw[aD q];exact Jp l c level v w h hn hps q hlo
 ·rw[aA q];exact Ce l c level v w h hn hps q hlo
theorem VA(b:Nat)(w:World):(Instr.fieldAt 302 (.pointer (some ⟨b,0,none⟩)) 0).run Tryz.prog w=.ok (.pointer (some ⟨b,0,none⟩)) w:=by go_simp;try rfl
theorem Vz(b:Nat)(w:World):(Instr.fieldAt 302 (.pointer (some ⟨b,0,none⟩)) 1).run Tryz.prog w=.ok (.pointer (some ⟨b,2,none⟩)) w:=by go_simp;try rfl
theorem wJ{w:World}{b:Nat}{x y:Value}(h0:w.cell? ⟨b,0,none⟩=some x)(h1:w.cell? ⟨b,1,none⟩=some y):(Instr.loadAt 43 (.pointer (some ⟨b,0,none⟩))).run Tryz.prog w=.ok (.agg #[x,y]) w:=by go_simp;try rfl
theorem AZ{w:World}{b:Nat}{x y:Value}(h0:w.cell? ⟨b,2,none⟩=some x)(h1:w.cell? ⟨b,3,none⟩=some y):(Instr.loadAt 43 (.pointer (some ⟨b,2,none⟩))).run Tryz.prog w=.ok (.agg #[x,y]) w:=by go_simp;try rfl
theorem Lm(w:World)(x1 x2:Int)(a1 a2:Option Addr)(n1 c1 n2 c2:Nat):(Instr.build 302 #[(0,.agg #[.int .i64 x1,.slice a1 n1 c1]),(1,.agg #[.int .i64 x2,.slice a2 n2 c2])]).run Tryz.prog w=.ok (.agg #[.int .i64 x1,.slice a1 n1 c1,.int .i64 x2,.slice a2 n2 c2]) w:=by
 simp[Instr.build,go_sem,Value.cells];try rfl
theorem VU{a:Act}{d:Option Tmp}{t:TypeId}{p:String}{e:Array Edge}{g:Option (Nat×Bool)}(w:World):(execOp a.eval ⟨d,.alloc 302,t,p,e,g⟩).run Tryz.prog w=.ok (.value (.pointer (some ⟨w.heap.size,0,none⟩))) (w.alloc (.cells #[.int .i64 0,.slice none 0 0,.int .i64 0,.slice none 0 0] 302)):=by
 simp[execOp];go_simp;try rfl
theorem results_cell_tmp{P:Program}{fn:Func}{p q:Tmp}{ty:TypeId}(h:fn.results=#[.cell p ty,.tmp q])(tmps:Array Value)(w:World)(g:Nat)(t:TypeId)(cs:Array Value)(fr:Nat×Nat)(d:TypeDesc)
  (hp:tmps.getD p undef=.pointer (some ⟨g,0,none⟩)) (hg:w.heap[g]? = some (.cells cs t fr))
  (hu:P.underlying ty=some d) (hd:(match d with | .struct _ | .array _ _=>true|_=>false)=true) (hi:(P.info? ty).map (·.size)=some cs.size) :
  (results fn tmps).run P w=.ok (.tuple #[.agg cs,tmps.getD q undef]) w:=by
 have hp':tmps[p]?.getD undef=.pointer (some ⟨g,0,none⟩):=by simpa using hp
 simp[results,h,hp',asAddr,run_loadVar_row w g t ty cs fr d hg hu hd hi,Result.andThen]
structure WK(w1:World)(L M:dn)(b3 b7 b8 b9 b10:Option Bool)(v10 v14 v15 v6:Value)(wx:World):Prop where
 eO:Below w1.heap.size w1 wx
 g3:b3=some true->bU wx v10 L
 g7:b7=some true->bU wx v14 M
 g8:b8=some true->yF wx v15 L M
 g9:b9=some true->b10≠some true->∃tb,v6=.pointer (some ⟨tb,0,none⟩)/\w1.heap.size<=tb/\aR wx tb #[.int .i64 0,.slice none 0 0,.int .i64 0,.slice none 0 0] 302
 g10:b10=some true->∃tb,v6=.pointer (some ⟨tb,0,none⟩)/\w1.heap.size<=tb/\PG wx tb L M
theorem UH{w:World}{b:Nat}{x1 x2 x3 x4:Value}(h:aR w b #[x1,x2,x3,x4] 302):(Instr.loadAt 302 (.pointer (some ⟨b,0,none⟩))).run Tryz.prog w=.ok (.agg #[x1,x2,x3,x4]) w:=by
 have h0:w.cell? ⟨b,0,none⟩=some x1:=(h.cell 0).trans rfl;have h1:w.cell? ⟨b,1,none⟩=some x2:=(h.cell 1).trans rfl;have h2:w.cell? ⟨b,2,none⟩=some x3:=(h.cell 2).trans rfl;have h3:w.cell? ⟨b,3,none⟩=some x4:=(h.cell 3).trans rfl;go_simp;try rfl
structure yQ(w:World)(h0 h1 tb:Nat)(X:Array Value)(s1 s2:Value)(L M:dn)(b9:Option Bool)(wx:World):Prop where
 Qt:aR wx tb X 302
 p1:bg wx s1 L.ps
 p2:bg wx s2 M.ps
 res:b9≠some true->aR wx h1 #[.int .i64 0,.slice none 0 0,.int .i64 0,.slice none 0 0] 302
 fin:b9=some true->aR wx h1 X 302
 eO:Below h0 w wx
theorem yQ.below{w:World}{h0 h1 tb:Nat}{X:Array Value}{s1 s2:Value}{L M:dn}{b9:Option Bool}{wx w':World}(h:yQ w h0 h1 tb X s1 s2 L M b9 wx)(k:Below wx.heap.size wx w')(hle:h0<=wx.heap.size):yQ w h0 h1 tb X s1 s2 L M b9 w' :=
 ⟨h.Qt.below k h.Qt.lt,aJ.below h.p1 k (aj _),aJ.below h.p2 k (aj _),fun q=>(h.res q).below k (h.res q).lt,fun q=>(h.fin q).below k (h.fin q).lt,h.eO.trans (k.mono hle)⟩
theorem KL(l1 l2:dn)(c:Nat)(v:Value)(w:World)(h:yF w v l1 l2)(hn:l1.ps.length<=900/\l2.ps.length<=900)(hps:eP l1.d 0 l1.ps=true/\eP l2.d 0 l2.ps=true)(hlo:lo c l1.ps=l1.ps.length/\lo c l2.ps=l2.ps.length)
  (hr:(l1.bO c 0).right=true/\(l2.bO c 4).right=true) (hbd:((l1.bO c 0).d<1000/\∀p∈(l1.bO c 0).ps,p.1<4294967296/\p.2<4294967296)/\((l2.bO c 4).d<1000/\∀p∈(l2.bO c 4).ps,p.1<4294967296/\p.2<4294967296)) :
  Calls Tryz.prog 209 #[v,.int .u32 (c:Nat)] w fun e w'=>∃u,e=.returned (.tuple #[u,.bool true])/\yF w' u (l1.bO c 0) (l2.bO c 4)/\Below w.heap.size w w':=by
 obtain⟨a1,c1,a2,c2,rfl,hp1,hp2⟩:=h;obtain⟨h0,hh0⟩:∃h0,w.heap.size=h0:=⟨_,rfl⟩;obtain⟨w1,hw1⟩:∃w1,w1=(w.alloc (.cells #[.int .i64 (l1.d:Nat),.slice a1 l1.ps.length c1,.int .i64 (l2.d:Nat),.slice a2 l2.ps.length c2] 302)).alloc (.cells #[.int .i64 0,.slice none 0 0,.int .i64 0,.slice none 0 0] 302):=⟨_,rfl⟩;have hB0:aR w1 h0 #[.int .i64 (l1.d:Nat),.slice a1 l1.ps.length c1,.int .i64 (l2.d:Nat),.slice a2 l2.ps.length c2] 302:=by rw[hw1,<-hh0];exact(aR.new _ _ _).alloc _
 have hB1:aR w1 (h0+1) #[.int .i64 0,.slice none 0 0,.int .i64 0,.slice none 0 0] 302:=by
  rw[hw1,<-hh0];have:=aR.new (w.alloc (.cells #[.int .i64 (l1.d:Nat),.slice a1 l1.ps.length c1,.int .i64 (l2.d:Nat),.slice a2 l2.ps.length c2] 302)) #[.int .i64 0,.slice none 0 0,.int .i64 0,.slice none 0 0] 302;rw[au]at this;exact this
 have hb1:Below h0 w w1:=by rw[hw1,<-hh0];exact((aC _ w).alloc (aj _) _).alloc (by simp) _
 have hs1:w1.heap.size=h0+1+1:=by rw[hw1,au,au,hh0]
 have hq1:bg w1 (.slice a1 l1.ps.length c1) l1.ps:=aJ.below hp1 hb1 (by omega);have hq2:bg w1 (.slice a2 l2.ps.length c2) l2.ps:=aJ.below hp2 hb1 (by omega);have x0:w1.cell? ⟨h0,0,none⟩=some (.int .i64 (l1.d:Nat)):=(hB0.cell 0).trans rfl;have x1:w1.cell? ⟨h0,1,none⟩=some (.slice a1 l1.ps.length c1):=(hB0.cell 1).trans rfl;have x2:w1.cell? ⟨h0,2,none⟩=some (.int .i64 (l2.d:Nat)):=(hB0.cell 2).trans rfl;have x3:w1.cell? ⟨h0,3,none⟩=some (.slice a2 l2.ps.length c2):=(hB0.cell 3).trans rfl
 have HW1:Hid (∀W,Below w1.heap.size w1 W->Calls Tryz.prog 23 #[.agg #[.int .i64 (l1.d:Nat),.slice a1 l1.ps.length c1],.int .u32 (c:Nat),.int .i64 0] W fun e w'=>∃v,e=.returned v/\(bU w' v (l1.bO c 0)/\Below W.heap.size W w')):=ah (fun W hW =>
  Cg l1 c 0 _ W ⟨_,rfl,aJ.below hq1 hW (aj _)⟩ hn.1 hps.1 hlo.1)
 have HW2:Hid (∀W,Below w1.heap.size w1 W->Calls Tryz.prog 23 #[.agg #[.int .i64 (l2.d:Nat),.slice a2 l2.ps.length c2],.int .u32 (c:Nat),.int .i64 4] W fun e w'=>∃v,e=.returned v/\(bU w' v (l2.bO c 4)/\Below W.heap.size W w')):=ah (fun W hW =>
  Cg l2 c 4 _ W ⟨_,rfl,aJ.below hq2 hW (aj _)⟩ hn.2 hps.2 hlo.2)
 have HB1:=ah hB1;have Hb1:=ah hb1;have oU:=ah hh0;have Jc:=ah hs1;have Hw:=ah hw1;have Hr:=ah hr;have wL:=ah hbd;clear hp1 hp2 hq1 hq2 hB0 hB1 hb1 hn hps hlo hr hbd hw1;go_enter Tryz.func209,Tryz.ntmps209
 go_upto_region 1 with fail
 rw[<-Hw.out];try rw[oU.out]
 go_cut [6] (fun v6 wx=>∃tb,v6=.pointer (some ⟨tb,0,none⟩)/\w1.heap.size<=tb/\Hid (PG wx tb (l1.bO c 0) (l2.bO c 4))/\Hid (Below w1.heap.size w1 wx))
 case first =>
  refine dW (by kernel_rfl) (by kernel_rfl) (by kernel_rfl)
   (fun k_ v=>match k_ with|0=>v=.pointer (some ⟨h0,0,none⟩)|1=>v=.agg #[.int .i64 (l1.d:Nat),.slice a1 l1.ps.length c1]|2=>v=(.int .u32 (c:Nat))|4=>v=.pointer (some ⟨h0,2,none⟩)|5=>v=.agg #[.int .i64 (l2.d:Nat),.slice a2 l2.ps.length c2]|6=>v=(.int .u32 (c:Nat))|_=>True)
   (fun l a wx=>WK w1 (l1.bO c 0) (l2.bO c 4) l[3]? l[7]? l[8]? l[9]? l[10]? (a.tmps.getD 10 undef) (a.tmps.getD 14 undef) (a.tmps.getD 15 undef) (a.tmps.getD 6 undef) wx) ?_ ?_ ?_
  ·exact⟨(aC _ w1).drew,fun h=>by simp at h,fun h=>by simp at h,fun h=>by simp at h,fun h=>by simp at h,fun h=>by simp at h⟩
  ·intro hu i_ l a wx hi hl lF hd hcl hR hW
   have hi27:i_=0\/i_=1\/i_=2\/i_=3\/i_=4\/i_=5\/i_=6\/i_=7\/i_=8\/i_=9\/i_=10:=by have:i_<11:=hi;omega
   rcases hi27 with rfl|rfl|rfl|rfl|rfl|rfl|rfl|rfl|rfl|rfl|rfl
   ·
    refine aK rfl (d:=7) rfl (aF rfl _) (bH (hR.was 2 rfl) (VA _ _)) ⟨hR.put hu (by rw[hl];decide) (d:=7) rfl (ak rfl) rfl,?_⟩;simpa only[aI,aL,bF,aB,Nat.reduceEqDiff]using hW
   ·
    refine aK rfl (d:=8) rfl (aF rfl _) (eu (hR.slot 0 7 (hd 0 rfl) rfl) (wJ ((hW.eO.cell (bn w1 _ x0)).trans x0) ((hW.eO.cell (bn w1 _ x1)).trans x1))) ⟨hR.put hu (by rw[hl];decide) (d:=8) rfl (ak rfl) rfl,?_⟩;simpa only[aI,aL,bF,aB,Nat.reduceEqDiff]using hW
   ·
    refine aK rfl (d:=9) rfl (aF rfl _) (dJ (hR.was 1 rfl)) ⟨hR.put hu (by rw[hl];decide) (d:=9) rfl (ak rfl) rfl,?_⟩;simpa only[aI,aL,bF,aB,Nat.reduceEqDiff]using hW
   ·
    have hno:¬(l[3]? = some true):=by rw[lF];simp
    have xP:¬(l[7]? = some true):=fun h=>hno (hcl.of 3 rfl h)
    have qw:¬(l[8]? = some true):=fun h=>xP (hcl.of 7 rfl h)
    have jV:¬(l[10]? = some true):=fun h=>qw (hcl.of 8 rfl h)
    refine gV rfl (d:=10) rfl (aF rfl _) (bP (vs:=#[(.agg #[.int .i64 (l1.d:Nat),.slice a1 l1.ps.length c1]),(.int .u32 (c:Nat)),(.int .i64 0)]) (by rw[List.map_toArray];simp only[bW,List.map_nil,show a.eval (.tmp 8)=(.agg #[.int .i64 (l1.d:Nat),.slice a1 l1.ps.length c1])from(hR.slot 1 8 (hd 1 rfl) rfl),show a.eval (.tmp 9)=(.int .u32 (c:Nat))from(hR.slot 2 9 (hd 2 rfl) rfl),show a.eval (.const (.int .i64 0))=(.int .i64 0)from rfl]) (bE Tryz.func23 (by kernel_rfl) rfl)) (R:=fun v w'=>bU w' v (l1.bO c 0)/\Below wx.heap.size wx w') (HW1.out wx hW.eO) ?_;rintro v w' ⟨h1,hbe⟩;refine⟨hR.put hu (by rw[hl];decide) (d:=10) rfl (ak rfl) trivial,?_⟩;simp only[aI,aL,bF,aB,Nat.reduceEqDiff,set_self (show 3<l.size by rw[hl];decide),eG (show 10<a.tmps.size by rw[hR.size];exact ak rfl)]
    exact⟨aT hW.eO hbe,fun _=>h1,fun h=>absurd h xP,fun h=>absurd h qw,fun h h'=>by
     obtain⟨tb,e1,e2,e3⟩:=hW.g9 h h';exact⟨tb,e1,e2,e3.below hbe e3.lt⟩,fun h=>absurd h jV⟩
   ·
    refine aK rfl (d:=11) rfl (aF rfl _) (bH (hR.was 2 rfl) (Vz _ _)) ⟨hR.put hu (by rw[hl];decide) (d:=11) rfl (ak rfl) rfl,?_⟩;simpa only[aI,aL,bF,aB,Nat.reduceEqDiff]using hW
   ·
    refine aK rfl (d:=12) rfl (aF rfl _) (eu (hR.slot 4 11 (hd 4 rfl) rfl) (AZ ((hW.eO.cell (bn w1 _ x2)).trans x2) ((hW.eO.cell (bn w1 _ x3)).trans x3))) ⟨hR.put hu (by rw[hl];decide) (d:=12) rfl (ak rfl) rfl,?_⟩;simpa only[aI,aL,bF,aB,Nat.reduceEqDiff]using hW
   ·
    refine aK rfl (d:=13) rfl (aF rfl _) (dJ (hR.was 1 rfl)) ⟨hR.put hu (by rw[hl];decide) (d:=13) rfl (ak rfl) rfl,?_⟩;simpa only[aI,aL,bF,aB,Nat.reduceEqDiff]using hW
   ·
    have hno:¬(l[7]? = some true):=by rw[lF];simp
    have qw:¬(l[8]? = some true):=fun h=>hno (hcl.of 7 rfl h)
    have jV:¬(l[10]? = some true):=fun h=>qw (hcl.of 8 rfl h)
    refine gV rfl (d:=14) rfl (aF rfl _) (bP (vs:=#[(.agg #[.int .i64 (l2.d:Nat),.slice a2 l2.ps.length c2]),(.int .u32 (c:Nat)),(.int .i64 4)]) (by rw[List.map_toArray];simp only[bW,List.map_nil,show a.eval (.tmp 12)=(.agg #[.int .i64 (l2.d:Nat),.slice a2 l2.ps.length c2])from(hR.slot 5 12 (hd 5 rfl) rfl),show a.eval (.tmp 13)=(.int .u32 (c:Nat))from(hR.slot 6 13 (hd 6 rfl) rfl),show a.eval (.const (.int .i64 4))=(.int .i64 4)from rfl]) (bE Tryz.func23 (by kernel_rfl) rfl)) (R:=fun v w'=>bU w' v (l2.bO c 4)/\Below wx.heap.size wx w') (HW2.out wx hW.eO) ?_;rintro v w' ⟨h1,hbe⟩;refine⟨hR.put hu (by rw[hl];decide) (d:=14) rfl (ak rfl) trivial,?_⟩;simp only[aI,aL,bF,aB,Nat.reduceEqDiff,set_self (show 7<l.size by rw[hl];decide),eG (show 14<a.tmps.size by rw[hR.size];exact ak rfl)]
    exact⟨aT hW.eO hbe,fun h=>(hW.g3 h).below hbe (aj _),fun _=>h1,fun h=>absurd h qw,fun h h'=>by
     obtain⟨tb,e1,e2,e3⟩:=hW.g9 h h';exact⟨tb,e1,e2,e3.below hbe e3.lt⟩,fun h=>absurd h jV⟩
   ·
    have hno:¬(l[8]? = some true):=by rw[lF];simp
    have jV:¬(l[10]? = some true):=fun h=>hno (hcl.of 8 rfl h)
    obtain⟨b1,k1,e10,p1⟩:=fT (hW.g3 (hd 3 rfl));obtain⟨b2,k2,e14,p2⟩:=fT (hW.g7 (hd 7 rfl));refine aK rfl (d:=15) rfl (aF rfl _) (xX (show a.eval (.tmp 10)=_ from e10) (show a.eval (.tmp 14)=_ from e14) (Lm _ _ _ _ _ _ _ _ _)) ⟨hR.put hu (by rw[hl];decide) (d:=15) rfl (ak rfl) trivial,?_⟩;simp only[aI,aL,bF,aB,Nat.reduceEqDiff,set_self (show 8<l.size by rw[hl];decide),eG (show 15<a.tmps.size by rw[hR.size];exact ak rfl)];exact⟨hW.eO,hW.g3,hW.g7,fun _=>⟨b1,k1,b2,k2,rfl,p1,p2⟩,hW.g9,fun h=>absurd h jV⟩
   ·
    have hno:¬(l[9]? = some true):=by rw[lF];simp
    have jV:¬(l[10]? = some true):=fun h=>hno (hcl.of 9 rfl h)
    have hbe:Below wx.heap.size wx (wx.alloc (.cells #[.int .i64 0,.slice none 0 0,.int .i64 0,.slice none 0 0] 302)):=(aC _ wx).alloc (aj _) _;refine aK rfl (d:=6) rfl (aF rfl _) (VU _) ⟨hR.put hu (by rw[hl];decide) (d:=6) rfl (ak rfl) trivial,?_⟩;simp only[aI,aL,bF,aB,Nat.reduceEqDiff,set_self (show 9<l.size by rw[hl];decide),eG (show 6<a.tmps.size by rw[hR.size];exact ak rfl)];exact⟨aT hW.eO hbe,fun h=>(hW.g3 h).below hbe (aj _),fun h=>(hW.g7 h).below hbe (aj _),fun h=>(hW.g8 h).below hbe,fun _ _=>⟨_,rfl,hW.eO.size,aR.new _ _ _⟩,fun h=>absurd h jV⟩
   ·
    have hno:¬(l[10]? = some true):=by rw[lF];simp
    obtain⟨tb,e6,hlt,hB⟩:=hW.g9 (hd 9 rfl) hno;obtain⟨b1,k1,b2,k2,e15,p1,p2⟩:=hW.g8 (hd 8 rfl);refine jc rfl rfl (aF rfl _) (kP (show a.eval (.tmp 6)=_ from e6) (show a.eval (.tmp 15)=_ from e15) (uK hB (by kernel_rfl) rfl (by simp[Value.oneCell']))) ⟨hR.done rfl,?_⟩;have hk:Kept (·=tb) wx (wx.setRow tb #[.int .i64 ((l1.bO c 0).d:Nat),.slice b1 (l1.bO c 0).ps.length k1,.int .i64 ((l2.bO c 4).d:Nat),.slice b2 (l2.bO c 4).ps.length k2]):=(Kept.refl (fun x=>x=tb) wx).setRow (g:=tb) (.inr rfl) _;simp only[aI,bF,aB,Nat.reduceEqDiff,set_self (show 10<l.size by rw[hl];decide)];exact⟨below_setRow hW.eO hlt _,fun h=>(hW.g3 h).mild hk (dS.of hB (by decide)),fun h=>(hW.g7 h).mild hk (dS.of hB (by decide)),fun h=>⟨b1,k1,b2,k2,e15,p1.mild hk (dS.of hB (by decide)),p2.mild hk (dS.of hB (by decide))⟩,fun _ h=>absurd rfl h,fun _=>⟨tb,e6,hlt,b1,k1,b2,k2,hB.setRow _,p1.mild hk (dS.of hB (by decide)),p2.mild hk (dS.of hB (by decide))⟩⟩
  ·intro l a wx hl hR hW
   rw[hR.fold [7,8,9,10,11,12,13,14,15,6] (by kernel_rfl)];simp only[List.foldl];have HW:=ah hW;have Qi:=ah hl;clear hR hW hl;generalize a.tmps.getD 7 undef=u7;generalize a.tmps.getD 8 undef=u8;generalize a.tmps.getD 9 undef=u9;generalize a.tmps.getD 10 undef=u10;generalize a.tmps.getD 11 undef=u11;generalize a.tmps.getD 12 undef=u12;generalize a.tmps.getD 13 undef=u13;generalize a.tmps.getD 14 undef=u14;generalize a.tmps.getD 15 undef=u15;generalize a.tmps.getD 6 undef=u6 at HW ⊢;simp only[ay,aG,aH];obtain⟨tb,e6,hlt,hX⟩:=HW.out.g10 (Qi.out 10 (ak rfl));go_step
   go_step
   go_meet;exact⟨tb,e6,hlt,ah hX,ah HW.out.eO⟩
 case rest =>
  obtain⟨tb,rfl,hlt,HX,HY⟩:=hcut;rename World=>w3
  obtain⟨b1,k1,b2,k2,hB,p1,p2⟩:=HX.out;have hle0:h0+1<tb:=by have:=Jc.out;omega
  have HR1:Hid (∀W,bg W (.slice b1 (l1.bO c 0).ps.length k1) (l1.bO c 0).ps->Calls Tryz.prog 25 #[.agg #[.int .i64 ((l1.bO c 0).d:Nat),.slice b1 (l1.bO c 0).ps.length k1]] W fun e w'=>∃v,e=.returned v/\(v=.bool true/\Below W.heap.size W w')):=ah (fun W hW=>by
   have:=jD (l1.bO c 0) (by have:=wL.out.1.1;omega) wL.out.1.2 _ W ⟨_,rfl,hW⟩;rw[Hr.out.1]at this;exact this.mono fun e w' q=>⟨_,q.1,rfl,q.2⟩)
  have HR2:Hid (∀W,bg W (.slice b2 (l2.bO c 4).ps.length k2) (l2.bO c 4).ps->Calls Tryz.prog 25 #[.agg #[.int .i64 ((l2.bO c 4).d:Nat),.slice b2 (l2.bO c 4).ps.length k2]] W fun e w'=>∃v,e=.returned v/\(v=.bool true/\Below W.heap.size W w')):=ah (fun W hW=>by
   have:=jD (l2.bO c 4) (by have:=wL.out.2.1;omega) wL.out.2.2 _ W ⟨_,rfl,hW⟩;rw[Hr.out.2]at this;exact this.mono fun e w' q=>⟨_,q.1,rfl,q.2⟩)
  have WA:Hid (yQ w h0 (h0+1) tb #[.int .i64 ((l1.bO c 0).d:Nat),.slice b1 (l1.bO c 0).ps.length k1,.int .i64 ((l2.bO c 4).d:Nat),.slice b2 (l2.bO c 4).ps.length k2] (.slice b1 (l1.bO c 0).ps.length k1) (.slice b2 (l2.bO c 4).ps.length k2) (l1.bO c 0) (l2.bO c 4) (some false) w3) :=
   ah ⟨hB,p1,p2,fun _=>HB1.out.below HY.out HB1.out.lt,fun h=>by simp at h,Hb1.out.trans (HY.out.mono (by have:=Jc.out;omega))⟩
  have HD3:=ah (WA.out.below ((aC _ w3).drew) (by have:=hB.lt;omega));clear HX HY hB p1 p2 HW1 HW2 x0 x1 x2 x3;go_upto_region 2 with fail
  refine dW (by kernel_rfl) (by kernel_rfl) (by kernel_rfl)
   (fun k_ v=>match k_ with|0=>v=.agg #[.int .i64 ((l1.bO c 0).d:Nat),.slice b1 (l1.bO c 0).ps.length k1,.int .i64 ((l2.bO c 4).d:Nat),.slice b2 (l2.bO c 4).ps.length k2]|1=>v=.pointer (some ⟨tb,0,none⟩)|2=>v=.agg #[.int .i64 ((l1.bO c 0).d:Nat),.slice b1 (l1.bO c 0).ps.length k1]|3=>v=.bool true|4=>v=(.bool true)|5=>v=.pointer (some ⟨tb,2,none⟩)|6=>v=.agg #[.int .i64 ((l2.bO c 4).d:Nat),.slice b2 (l2.bO c 4).ps.length k2]|7=>v=.bool true|8=>v=(.bool true)|10=>v=(.bool true)|_=>True)
   (fun l a wx=>yQ w h0 (h0+1) tb #[.int .i64 ((l1.bO c 0).d:Nat),.slice b1 (l1.bO c 0).ps.length k1,.int .i64 ((l2.bO c 4).d:Nat),.slice b2 (l2.bO c 4).ps.length k2] (.slice b1 (l1.bO c 0).ps.length k1) (.slice b2 (l2.bO c 4).ps.length k2) (l1.bO c 0) (l2.bO c 4) l[9]? wx) ?_ ?_ ?_
  ·exact HD3.out
  ·intro hu i_ l a wx hi hl lF hd hcl hR hW
   have hi27:i_=0\/i_=1\/i_=2\/i_=3\/i_=4\/i_=5\/i_=6\/i_=7\/i_=8\/i_=9\/i_=10:=by have:i_<11:=hi;omega
   rcases hi27 with rfl|rfl|rfl|rfl|rfl|rfl|rfl|rfl|rfl|rfl|rfl
   ·
    refine aK rfl (d:=16) rfl (aF rfl _) (eu (hR.was 6 rfl) (UH hW.Qt)) ⟨hR.put hu (by rw[hl];decide) (d:=16) rfl (ak rfl) rfl,?_⟩;simpa only[aI,aL,bF,aB,Nat.reduceEqDiff]using hW
   ·
    refine aK rfl (d:=17) rfl (aF rfl _) (bH (hR.was 6 rfl) (VA _ _)) ⟨hR.put hu (by rw[hl];decide) (d:=17) rfl (ak rfl) rfl,?_⟩;simpa only[aI,aL,bF,aB,Nat.reduceEqDiff]using hW
   ·
    refine aK rfl (d:=18) rfl (aF rfl _) (eu (hR.slot 1 17 (hd 1 rfl) rfl) (wJ ((hW.Qt.cell 0).trans rfl) ((hW.Qt.cell 1).trans rfl))) ⟨hR.put hu (by rw[hl];decide) (d:=18) rfl (ak rfl) rfl,?_⟩;simpa only[aI,aL,bF,aB,Nat.reduceEqDiff]using hW
   ·
    refine gV rfl (d:=19) rfl (aF rfl _) (bP (vs:=#[(.agg #[.int .i64 ((l1.bO c 0).d:Nat),.slice b1 (l1.bO c 0).ps.length k1])]) (by rw[List.map_toArray];simp only[bW,List.map_nil,show a.eval (.tmp 18)=(.agg #[.int .i64 ((l1.bO c 0).d:Nat),.slice b1 (l1.bO c 0).ps.length k1])from(hR.slot 2 18 (hd 2 rfl) rfl)]) (bE Tryz.func25 (by kernel_rfl) rfl)) (R:=fun v w'=>v=.bool true/\Below wx.heap.size wx w') (HR1.out wx hW.p1) ?_;rintro v w' ⟨rfl,hbe⟩;refine⟨hR.put hu (by rw[hl];decide) (d:=19) rfl (ak rfl) rfl,?_⟩;have hW:=hW.below hbe (by have:=hW.Qt.lt;omega);simpa only[aI,aL,bF,aB,Nat.reduceEqDiff]using hW
   ·
    refine aK rfl (d:=20) rfl (aF rfl _) (dJ (hR.slot 3 19 (hd 3 rfl) rfl)) ⟨hR.put hu (by rw[hl];decide) (d:=20) rfl (ak rfl) rfl,?_⟩;simpa only[aI,aL,bF,aB,Nat.reduceEqDiff]using hW
   ·
    refine aK rfl (d:=21) rfl ((bV rfl (d:=20) rfl (hR.slot 4 20 (hd 4 rfl) rfl)).trans rfl) (bH (hR.was 6 rfl) (Vz _ _)) ⟨hR.put hu (by rw[hl];decide) (d:=21) rfl (ak rfl) rfl,?_⟩;simpa only[aI,aL,bF,aB,Nat.reduceEqDiff]using hW
   ·
    refine aK rfl (d:=22) rfl ((bV rfl (d:=20) rfl (hR.slot 4 20 (hd 4 rfl) rfl)).trans rfl) (eu (hR.slot 5 21 (hd 5 rfl) rfl) (AZ ((hW.Qt.cell 2).trans rfl) ((hW.Qt.cell 3).trans rfl))) ⟨hR.put hu (by rw[hl];decide) (d:=22) rfl (ak rfl) rfl,?_⟩;simpa only[aI,aL,bF,aB,Nat.reduceEqDiff]using hW
   ·
    refine gV rfl (d:=23) rfl ((bV rfl (d:=20) rfl (hR.slot 4 20 (hd 4 rfl) rfl)).trans rfl) (bP (vs:=#[(.agg #[.int .i64 ((l2.bO c 4).d:Nat),.slice b2 (l2.bO c 4).ps.length k2])]) (by rw[List.map_toArray];simp only[bW,List.map_nil,show a.eval (.tmp 22)=(.agg #[.int .i64 ((l2.bO c 4).d:Nat),.slice b2 (l2.bO c 4).ps.length k2])from(hR.slot 6 22 (hd 6 rfl) rfl)]) (bE Tryz.func25 (by kernel_rfl) rfl)) (R:=fun v w'=>v=.bool true/\Below wx.heap.size wx w') (HR2.out wx hW.p2) ?_;rintro v w' ⟨rfl,hbe⟩;refine⟨hR.put hu (by rw[hl];decide) (d:=23) rfl (ak rfl) rfl,?_⟩;have hW:=hW.below hbe (by have:=hW.Qt.lt;omega);simpa only[aI,aL,bF,aB,Nat.reduceEqDiff]using hW
   ·
    refine aK rfl (d:=24) rfl (aF rfl _) (oN (hR.slot 4 20 (hd 4 rfl) rfl) (hR.slot 7 23 (hd 7 rfl) rfl)) ⟨hR.put hu (by rw[hl];decide) (d:=24) rfl (ak rfl) rfl,?_⟩;simpa only[aI,aL,bF,aB,Nat.reduceEqDiff]using hW
   ·
    have hno:¬(l[9]? = some true):=by rw[lF];simp
    have hB:=hW.res hno;refine jc rfl rfl (aF rfl _) (kP (hR.was 4 rfl) (hR.slot 0 16 (hd 0 rfl) rfl) (uK hB (by kernel_rfl) rfl (by simp[Value.oneCell']))) ⟨hR.done rfl,?_⟩;have hk:Kept (fun x=>x=h0+1) wx (wx.setRow (h0+1) #[.int .i64 ((l1.bO c 0).d:Nat),.slice b1 (l1.bO c 0).ps.length k1,.int .i64 ((l2.bO c 4).d:Nat),.slice b2 (l2.bO c 4).ps.length k2]):=(Kept.refl (fun x=>x=h0+1) wx).setRow (g:=h0+1) (.inr rfl) _;simp only[set_self (show 9<l.size by rw[hl];decide)];exact⟨hW.Qt.setRow_other (by omega) _,hW.p1.mild hk (dS.of hB (by decide)),hW.p2.mild hk (dS.of hB (by decide)),fun h=>absurd rfl h,fun _=>hB.setRow _,below_setRow hW.eO (by omega) _⟩
   ·
    refine aK rfl (d:=5) rfl (aF rfl _) (mo (hR.slot 8 24 (hd 8 rfl) rfl)) ⟨hR.put hu (by rw[hl];decide) (d:=5) rfl (ak rfl) rfl,?_⟩;simpa only[aI,aL,bF,aB,Nat.reduceEqDiff]using hW
  ·intro l a wx hl hR hW
   have e5:a.tmps.getD 5 undef=(.bool true):=hR.slot 10 5 (hl 10 (ak rfl)) rfl;rw[hR.fold [16,17,18,19,20,21,22,23,24,5] (by kernel_rfl)];simp only[List.foldl,e5];have HW:=ah hW;have Qi:=ah hl;clear hR hW hl e5;generalize a.tmps.getD 16 undef=u16;generalize a.tmps.getD 17 undef=u17;generalize a.tmps.getD 18 undef=u18;generalize a.tmps.getD 19 undef=u19;generalize a.tmps.getD 20 undef=u20;generalize a.tmps.getD 21 undef=u21;generalize a.tmps.getD 22 undef=u22;generalize a.tmps.getD 23 undef=u23;generalize a.tmps.getD 24 undef=u24;simp only[ay,aG,aH];have hX:=HW.out.fin (Qi.out 9 (ak rfl));go_step
   go_wp2_with fail
   refine bodyPost_ret (results_cell_tmp rfl _ _ (h0+1) _ _ (0,0) _ rfl hX Tryz.underlying302 rfl (by kernel_rfl)) rfl ⟨_,rfl,⟨b1,k1,b2,k2,rfl,HW.out.p1,HW.out.p2⟩,?_⟩;rw[oU.out];exact HW.out.eO
end Go.Proofs.YtiadbhiadhgjkaaGreatDoor
namespace Go.Proofs.YtiadbhiadhgjkaaGreatDoor
open Go.RowKit
theorem Ya(b:Nat)(w:World):(Instr.fieldAt 247 (.pointer (some ⟨b,0,none⟩)) 0).run Tryz.prog w=.ok (.pointer (some ⟨b,0,none⟩)) w:=by go_simp;try rfl
theorem Oe(b:Nat)(w:World):(Instr.fieldAt 247 (.pointer (some ⟨b,0,none⟩)) 1).run Tryz.prog w=.ok (.pointer (some ⟨b,1,none⟩)) w:=by go_simp;try rfl
theorem Tz(b:Nat)(w:World):(Instr.fieldAt 247 (.pointer (some ⟨b,0,none⟩)) 2).run Tryz.prog w=.ok (.pointer (some ⟨b,2,none⟩)) w:=by go_simp;try rfl
theorem XZ(b:Nat)(w:World):(Instr.fieldAt 88 (.pointer (some ⟨b,0,none⟩)) 0).run Tryz.prog w=.ok (.pointer (some ⟨b,0,none⟩)) w:=by go_simp;try rfl
theorem Tw(b:Nat)(w:World):(Instr.fieldAt 68 (.pointer (some ⟨b,0,none⟩)) 3).run Tryz.prog w=.ok (.pointer (some ⟨b,4,none⟩)) w:=by go_simp;try rfl
theorem XY(b:Nat)(w:World):(Instr.fieldAt 68 (.pointer (some ⟨b,0,none⟩)) 4).run Tryz.prog w=.ok (.pointer (some ⟨b,6,none⟩)) w:=by go_simp;try rfl
theorem abJ{w:World}{q:Addr}{x:Addr}(h:w.cell? q=some (.pointer (some x))):(Instr.loadAt 30 (.pointer (some q))).run Tryz.prog w=.ok (.pointer (some x)) w:=by go_simp;try rfl
theorem XW{w:World}{q:Addr}{x:Addr}(h:w.cell? q=some (.pointer (some x))):(Instr.loadAt 84 (.pointer (some q))).run Tryz.prog w=.ok (.pointer (some x)) w:=by go_simp;try rfl
theorem UQ{w:World}{q:Addr}{x:Addr}(h:w.cell? q=some (.pointer (some x))):(Instr.loadAt 31 (.pointer (some q))).run Tryz.prog w=.ok (.pointer (some x)) w:=by go_simp;try rfl
theorem XV{w:World}{q:Addr}{x:Int}(h:w.cell? q=some (.int .u64 x)):(Instr.loadAt 37 (.pointer (some q))).run Tryz.prog w=.ok (.int .u64 x) w:=by go_simp;try rfl
theorem RA{w:World}{b:Nat}{x y:Value}(h0:w.cell? ⟨b,4,none⟩=some x)(h1:w.cell? ⟨b,5,none⟩=some y):(Instr.loadAt 43 (.pointer (some ⟨b,4,none⟩))).run Tryz.prog w=.ok (.agg #[x,y]) w:=by go_simp;try rfl
structure TQ(w1:World)(r:dn)(b19:Option Bool)(v24:Value)(wx:World):Prop where
 eO:Below w1.heap.size w1 wx
 g19:b19=some true->bU wx v24 r
attribute [local irreducible] World.setCell World.alloc World.drew World.setRow Calls Code.wp
theorem Gg(w:World)(g:Gh)(K:Km)(o x:Ob)(L:dn)(v:Value)(db:Nat)(b:Bool)(h:cZ w g K)(ho:K.obj o.name=some o)(hx:K.obj o.home=some x)(hL:bU w v L)(hok:fV L)(hr:L.rest.ps.length<=1000)
  (hD:aR w db #[.pointer (some ⟨g.kb,0,none⟩),.pointer (some ⟨g.bl o.name,0,none⟩),.pointer (some ⟨g.tl o.name,0,none⟩),.bool b] 247) :
  Calls Tryz.prog 172 #[.pointer (some ⟨db,0,none⟩),v] w fun e w'=>e=.returned (.bool (x.lab.leq L.rest))/\Below w.heap.size w w':=by
 obtain⟨la,lc,rfl,hp⟩:=fT hL;obtain⟨h0,hh0⟩:∃h0,w.heap.size=h0:=⟨_,rfl⟩;obtain⟨w1,hw1⟩:∃w1,w1=w.alloc (.cells #[.int .i64 (L.d:Nat),.slice la L.ps.length lc] 43):=⟨_,rfl⟩;have hb1:Below w.heap.size w w1:=by rw[hw1];exact(aC _ w).alloc (aj _) _
 have hN:aR w1 h0 #[.int .i64 (L.d:Nat),.slice la L.ps.length lc] 43:=by rw[hw1,<-hh0];exact aR.new _ _ _
 have h1:=h.below hb1;obtain⟨s,T,hO⟩:=h1.at ho;obtain⟨sx,Tx,hX⟩:=h1.at hx;have hxn:x.name=o.home:=(h1.objs _ _ hx).1;have hD1:=hD.below hb1 hD.lt;have d0:w1.cell? ⟨db,0,none⟩=some (.pointer (some ⟨g.kb,0,none⟩)):=(hD1.cell 0).trans rfl;have d1:w1.cell? ⟨db,1,none⟩=some (.pointer (some ⟨g.bl o.name,0,none⟩)):=(hD1.cell 1).trans rfl;have k0:=h1.iV.1;have o6:w1.cell? ⟨g.bl o.name,6,none⟩=some (.int .u64 o.home):=(hO.blk.cell 6).trans rfl;have x4:w1.cell? ⟨g.bl o.home,4,none⟩=some (.int .i64 (x.lab.d:Nat)):=by rw[<-hxn];exact(hX.blk.cell 4).trans rfl
 have x5:w1.cell? ⟨g.bl o.home,5,none⟩=some sx.lp:=by rw[<-hxn];exact(hX.blk.cell 5).trans rfl
 have hxl:=hX.rows.lab;have hxo:=hX.rows.ok.1;obtain⟨ha,hc,hlp,-,-⟩:=aJ.form hxl;rw[hlp]at x5 hxl;have b0:w1.cell? ⟨h0,0,none⟩=some (.int .i64 (L.d:Nat)):=(hN.cell 0).trans rfl;have b1:w1.cell? ⟨h0,1,none⟩=some (.slice la L.ps.length lc):=(hN.cell 1).trans rfl;have hLp:bg w1 (.slice la L.ps.length lc) L.ps:=aJ.below hp hb1 (aj _);obtain⟨B,hB⟩:∃B,x.lab.leq L.rest=B:=⟨_,rfl⟩
 have BR:Hid (∀W,Below w1.heap.size w1 W->Calls Tryz.prog 15 #[.pointer (some ⟨g.tb,0,none⟩),.int .u64 o.home] W fun e w'=>∃v,e=.returned v/\(v=.pointer (some ⟨g.bl o.home,0,none⟩)/\W=w')):=ah (fun W hW=>by
  have:=kK W g K.obj o.home (h1.below hW).tab;rw[gK hx]at this;exact this.mono (fun e w' q=>⟨_,q.1,rfl,q.2⟩))
 have HRs:Hid (∀W,Below w1.heap.size w1 W->Calls Tryz.prog 27 #[.agg #[.int .i64 (L.d:Nat),.slice la L.ps.length lc]] W fun e w'=>∃v,e=.returned v/\(bU w' v L.rest/\Below W.heap.size W w')):=ah (fun W hW =>
  oD L _ W hok ⟨_,rfl,aJ.below hLp hW (aj _)⟩)
 have HLq:Hid (∀W u,Below w1.heap.size w1 W->bU W u L.rest->Calls Tryz.prog 26 #[.agg #[.int .i64 (x.lab.d:Nat),.slice ha x.lab.ps.length hc],u] W fun e w'=>∃v,e=.returned v/\(v=.bool B/\Below W.heap.size W w')):=ah (fun W u hW hu=>by
  have:=qN x.lab L.rest _ u W ⟨_,rfl,aJ.below hxl hW (aj _)⟩ hu ⟨hxo.n,hr⟩;rw[hB]at this;exact this.mono (fun e w' q=>⟨_,q.1,rfl,q.2⟩))
 rw[hB];have Hb1:=ah hb1;have oU:=ah hh0;have Hw:=ah hw1;clear h h1 ho hx hL hok hr hD hp hN hO hX hxn hD1 hxl hxo hlp hLp hb1 hw1 hB;generalize g.kb=kb at *;generalize g.tb=tt at *;generalize g.bl o.name=ob at *;generalize g.bl o.home=hb at *;generalize o.home=home at *;obtain⟨r,hr⟩:∃r,L.rest=r:=⟨_,rfl⟩;rw[hr]at HRs HLq;clear hr;generalize L.ps.length=ln at *;generalize x.lab.ps.length=hn at *;obtain⟨ld,hld⟩:∃ld:Int,((L.d:Nat):Int)=ld:=⟨_,rfl⟩;obtain⟨hdv,hhd⟩:∃hdv:Int,((x.lab.d:Nat):Int)=hdv:=⟨_,rfl⟩;rw[hld]at b0 HRs Hw;rw[hhd]at x4 HLq;rw[hld];clear hld hhd;go_enter Tryz.func172,Tryz.ntmps172
 go_upto_region 1 with fail
 rw[<-Hw.out];try rw[oU.out]
 refine dW (by kernel_rfl) (by kernel_rfl) (by kernel_rfl)
  (fun k_ v=>match k_ with|0=>v=(.pointer (some ⟨db,0,none⟩))|1=>v=.pointer (some ⟨db,0,none⟩)|2=>v=.pointer (some ⟨db,0,none⟩)|3=>v=.pointer (some ⟨kb,0,none⟩)|4=>v=.pointer (some ⟨kb,0,none⟩)|5=>v=.pointer (some ⟨kb,0,none⟩)|6=>v=.pointer (some ⟨tt,0,none⟩)|7=>v=(.pointer (some ⟨db,0,none⟩))|8=>v=.pointer (some ⟨db,0,none⟩)|9=>v=.pointer (some ⟨db,1,none⟩)|10=>v=.pointer (some ⟨ob,0,none⟩)|11=>v=.pointer (some ⟨ob,0,none⟩)|12=>v=.pointer (some ⟨ob,6,none⟩)|13=>v=.int .u64 home|14=>v=.pointer (some ⟨hb,0,none⟩)|15=>v=.pointer (some ⟨hb,0,none⟩)|16=>v=.pointer (some ⟨hb,4,none⟩)|17=>v=.agg #[.int .i64 hdv,.slice ha hn hc]|18=>v=.agg #[.int .i64 ld,.slice la ln lc]|20=>v=.bool B|21=>v=(.bool B)|_=>True)
  (fun l a wx=>TQ w1 r l[19]? (a.tmps.getD 24 undef) wx) ?_ ?_ ?_
 ·exact⟨(aC _ w1).drew,fun h=>by simp at h⟩
 ·intro hu i_ l a wx hi hl lF hd hcl hR hW
  have hi27:i_=0\/i_=1\/i_=2\/i_=3\/i_=4\/i_=5\/i_=6\/i_=7\/i_=8\/i_=9\/i_=10\/i_=11\/i_=12\/i_=13\/i_=14\/i_=15\/i_=16\/i_=17\/i_=18\/i_=19\/i_=20\/i_=21:=by have:i_<22:=hi;omega
  rcases hi27 with rfl|rfl|rfl|rfl|rfl|rfl|rfl|rfl|rfl|rfl|rfl|rfl|rfl|rfl|rfl|rfl|rfl|rfl|rfl|rfl|rfl|rfl
  ·
   refine aK rfl (d:=5) rfl (aF rfl _) (dJ (hR.was 0 rfl)) ⟨hR.put hu (by rw[hl];decide) (d:=5) rfl (ak rfl) rfl,?_⟩;simpa only[aI,aL,bF,aB,Nat.reduceEqDiff]using hW
  ·
   refine aK rfl (d:=6) rfl (aF rfl _) (dh (hR.slot 0 5 (hd 0 rfl) rfl) rfl) ⟨hR.put hu (by rw[hl];decide) (d:=6) rfl (ak rfl) rfl,?_⟩;simpa only[aI,aL,bF,aB,Nat.reduceEqDiff]using hW
  ·
   refine aK rfl (d:=7) rfl (aF rfl _) (bH (hR.slot 1 6 (hd 1 rfl) rfl) (Ya _ _)) ⟨hR.put hu (by rw[hl];decide) (d:=7) rfl (ak rfl) rfl,?_⟩;simpa only[aI,aL,bF,aB,Nat.reduceEqDiff]using hW
  ·
   refine aK rfl (d:=8) rfl (aF rfl _) (eu (hR.slot 2 7 (hd 2 rfl) rfl) (abJ ((hW.eO.cell (bn w1 _ d0)).trans d0))) ⟨hR.put hu (by rw[hl];decide) (d:=8) rfl (ak rfl) rfl,?_⟩;simpa only[aI,aL,bF,aB,Nat.reduceEqDiff]using hW
  ·
   refine aK rfl (d:=9) rfl (aF rfl _) (dh (hR.slot 3 8 (hd 3 rfl) rfl) rfl) ⟨hR.put hu (by rw[hl];decide) (d:=9) rfl (ak rfl) rfl,?_⟩;simpa only[aI,aL,bF,aB,Nat.reduceEqDiff]using hW
  ·
   refine aK rfl (d:=10) rfl (aF rfl _) (bH (hR.slot 4 9 (hd 4 rfl) rfl) (XZ _ _)) ⟨hR.put hu (by rw[hl];decide) (d:=10) rfl (ak rfl) rfl,?_⟩;simpa only[aI,aL,bF,aB,Nat.reduceEqDiff]using hW
  ·
   refine aK rfl (d:=11) rfl (aF rfl _) (eu (hR.slot 5 10 (hd 5 rfl) rfl) (XW ((hW.eO.cell (bn w1 _ k0)).trans k0))) ⟨hR.put hu (by rw[hl];decide) (d:=11) rfl (ak rfl) rfl,?_⟩;simpa only[aI,aL,bF,aB,Nat.reduceEqDiff]using hW
  ·
   refine aK rfl (d:=12) rfl (aF rfl _) (dJ (hR.was 0 rfl)) ⟨hR.put hu (by rw[hl];decide) (d:=12) rfl (ak rfl) rfl,?_⟩;simpa only[aI,aL,bF,aB,Nat.reduceEqDiff]using hW
  ·
   refine aK rfl (d:=13) rfl (aF rfl _) (dh (hR.slot 7 12 (hd 7 rfl) rfl) rfl) ⟨hR.put hu (by rw[hl];decide) (d:=13) rfl (ak rfl) rfl,?_⟩;simpa only[aI,aL,bF,aB,Nat.reduceEqDiff]using hW
  ·
   refine aK rfl (d:=14) rfl (aF rfl _) (bH (hR.slot 8 13 (hd 8 rfl) rfl) (Oe _ _)) ⟨hR.put hu (by rw[hl];decide) (d:=14) rfl (ak rfl) rfl,?_⟩;simpa only[aI,aL,bF,aB,Nat.reduceEqDiff]using hW
  ·
   refine aK rfl (d:=15) rfl (aF rfl _) (eu (hR.slot 9 14 (hd 9 rfl) rfl) (UQ ((hW.eO.cell (bn w1 _ d1)).trans d1))) ⟨hR.put hu (by rw[hl];decide) (d:=15) rfl (ak rfl) rfl,?_⟩;simpa only[aI,aL,bF,aB,Nat.reduceEqDiff]using hW
  ·
   refine aK rfl (d:=16) rfl (aF rfl _) (dh (hR.slot 10 15 (hd 10 rfl) rfl) rfl) ⟨hR.put hu (by rw[hl];decide) (d:=16) rfl (ak rfl) rfl,?_⟩;simpa only[aI,aL,bF,aB,Nat.reduceEqDiff]using hW
  ·
   refine aK rfl (d:=17) rfl (aF rfl _) (bH (hR.slot 11 16 (hd 11 rfl) rfl) (XY _ _)) ⟨hR.put hu (by rw[hl];decide) (d:=17) rfl (ak rfl) rfl,?_⟩;simpa only[aI,aL,bF,aB,Nat.reduceEqDiff]using hW
  ·
   refine aK rfl (d:=18) rfl (aF rfl _) (eu (hR.slot 12 17 (hd 12 rfl) rfl) (XV ((hW.eO.cell (bn w1 _ o6)).trans o6))) ⟨hR.put hu (by rw[hl];decide) (d:=18) rfl (ak rfl) rfl,?_⟩;simpa only[aI,aL,bF,aB,Nat.reduceEqDiff]using hW
  ·
   refine gV rfl (d:=19) rfl (aF rfl _) (bP (vs:=#[(.pointer (some ⟨tt,0,none⟩)),(.int .u64 home)]) (by rw[List.map_toArray];simp only[bW,List.map_nil,show a.eval (.tmp 11)=(.pointer (some ⟨tt,0,none⟩))from(hR.slot 6 11 (hd 6 rfl) rfl),show a.eval (.tmp 18)=(.int .u64 home)from(hR.slot 13 18 (hd 13 rfl) rfl)]) (bE Tryz.func15 (by kernel_rfl) rfl)) (R:=fun v w'=>v=.pointer (some ⟨hb,0,none⟩)/\wx=w') (BR.out wx hW.eO) ?_;rintro v w' ⟨rfl,rfl⟩;refine⟨hR.put hu (by rw[hl];decide) (d:=19) rfl (ak rfl) rfl,?_⟩;simpa only[aI,aL,bF,aB,Nat.reduceEqDiff]using hW
  ·
   refine aK rfl (d:=20) rfl (aF rfl _) (dh (hR.slot 14 19 (hd 14 rfl) rfl) rfl) ⟨hR.put hu (by rw[hl];decide) (d:=20) rfl (ak rfl) rfl,?_⟩;simpa only[aI,aL,bF,aB,Nat.reduceEqDiff]using hW
  ·
   refine aK rfl (d:=21) rfl (aF rfl _) (bH (hR.slot 15 20 (hd 15 rfl) rfl) (Tw _ _)) ⟨hR.put hu (by rw[hl];decide) (d:=21) rfl (ak rfl) rfl,?_⟩;simpa only[aI,aL,bF,aB,Nat.reduceEqDiff]using hW
  ·
   refine aK rfl (d:=22) rfl (aF rfl _) (eu (hR.slot 16 21 (hd 16 rfl) rfl) (RA ((hW.eO.cell (bn w1 _ x4)).trans x4) ((hW.eO.cell (bn w1 _ x5)).trans x5))) ⟨hR.put hu (by rw[hl];decide) (d:=22) rfl (ak rfl) rfl,?_⟩;simpa only[aI,aL,bF,aB,Nat.reduceEqDiff]using hW
  ·
   refine aK rfl (d:=23) rfl (aF rfl _) (eu (hR.was 3 rfl) (wJ ((hW.eO.cell (bn w1 _ b0)).trans b0) ((hW.eO.cell (bn w1 _ b1)).trans b1))) ⟨hR.put hu (by rw[hl];decide) (d:=23) rfl (ak rfl) rfl,?_⟩;simpa only[aI,aL,bF,aB,Nat.reduceEqDiff]using hW
  ·
   refine gV rfl (d:=24) rfl (aF rfl _) (bP (vs:=#[(.agg #[.int .i64 ld,.slice la ln lc])]) (by rw[List.map_toArray];simp only[bW,List.map_nil,show a.eval (.tmp 23)=(.agg #[.int .i64 ld,.slice la ln lc])from(hR.slot 18 23 (hd 18 rfl) rfl)]) (bE Tryz.func27 (by kernel_rfl) rfl)) (R:=fun v w'=>bU w' v r/\Below wx.heap.size wx w') (HRs.out wx hW.eO) ?_;rintro v w' ⟨h1,hbe⟩;refine⟨hR.put hu (by rw[hl];decide) (d:=24) rfl (ak rfl) trivial,?_⟩;simp only[set_self (show 19<l.size by rw[hl];decide),eG (show 24<a.tmps.size by rw[hR.size];exact ak rfl)];exact⟨aT hW.eO hbe,fun _=>h1⟩
  ·
   refine gV rfl (d:=25) rfl (aF rfl _) (bP (vs:=#[.agg #[.int .i64 hdv,.slice ha hn hc],a.tmps.getD 24 undef]) (by rw[List.map_toArray];simp only[bW,List.map_nil,show a.eval (.tmp 22)=_ from(hR.slot 17 22 (hd 17 rfl) rfl),show a.eval (.tmp 24)=a.tmps.getD 24 undef from rfl]) (bE Tryz.func26 (by kernel_rfl) rfl)) (R:=fun v w'=>v=.bool B/\Below wx.heap.size wx w') (HLq.out wx _ hW.eO (hW.g19 (hd 19 rfl))) ?_;rintro v w' ⟨rfl,hbe⟩;refine⟨hR.put hu (by rw[hl];decide) (d:=25) rfl (ak rfl) rfl,?_⟩;have hW:TQ w1 r l[19]? (a.tmps.getD 24 undef) w':=⟨aT hW.eO hbe,fun h=>(hW.g19 h).below hbe (aj _)⟩;simpa only[aI,aL,bF,aB,Nat.reduceEqDiff]using hW
  ·
   refine aK rfl (d:=4) rfl (aF rfl _) (mo (hR.slot 20 25 (hd 20 rfl) rfl)) ⟨hR.put hu (by rw[hl];decide) (d:=4) rfl (ak rfl) rfl,?_⟩;simpa only[aI,aL,bF,aB,Nat.reduceEqDiff]using hW
 ·intro l a wx hl hR hW
  have e4:a.tmps.getD 4 undef=(.bool B):=hR.slot 21 4 (hl 21 (ak rfl)) rfl;rw[hR.fold [5,6,7,8,9,10,11,12,13,14,15,16,17,18,19,20,21,22,23,24,25,4] (by kernel_rfl)];simp only[List.foldl,e4];have HW:=ah hW;have Qi:=ah hl;clear hR hW hl e4;generalize a.tmps.getD 5 undef=u5;generalize a.tmps.getD 6 undef=u6;generalize a.tmps.getD 7 undef=u7;generalize a.tmps.getD 8 undef=u8;generalize a.tmps.getD 9 undef=u9;generalize a.tmps.getD 10 undef=u10;generalize a.tmps.getD 11 undef=u11;generalize a.tmps.getD 12 undef=u12;generalize a.tmps.getD 13 undef=u13;generalize a.tmps.getD 14 undef=u14;generalize a.tmps.getD 15 undef=u15;generalize a.tmps.getD 16 undef=u16;generalize a.tmps.getD 17 undef=u17;generalize a.tmps.getD 18 undef=u18;generalize a.tmps.getD 19 undef=u19;generalize a.tmps.getD 20 undef=u20;generalize a.tmps.getD 21 undef=u21;generalize a.tmps.getD 22 undef=u22;generalize a.tmps.getD 23 undef=u23;generalize a.tmps.getD 24 undef=u24;generalize a.tmps.getD 25 undef=u25;simp only[ay,aG,aH];go_step
  go_wp2_with fail
  go_ret;exact⟨rfl,Hb1.out.trans (HW.out.eO.mono Hb1.out.size)⟩
end Go.Proofs.YtiadbhiadhgjkaaGreatDoor
namespace Go.Proofs.YtiadbhiadhgjkaaGreatDoor
open Go.RowKit
def Ob.eH(o:Ob):Nat:=(o.name*256+o.th.made+1).toNat
def Ob.Jv(o:Ob):Ob:={ o with lab:=o.lab.bO o.eH 0,th:={ o.th with clear:=o.th.clear.bO o.eH 4,made:=o.th.made+1 } }
structure Ug(K:Km)(o:Ob):Prop where
 made:0<=o.th.made/\o.th.made<255
 name:0<o.name/\o.name<4194304
 d:o.lab.d≠0/\o.lab.d<=4
 len:o.lab.ps.length<=900/\o.th.clear.ps.length<=900
 ps:eP o.lab.d 0 o.lab.ps=true/\eP o.th.clear.d 0 o.th.clear.ps=true
 lo:lo o.eH o.lab.ps=o.lab.ps.length/\lo o.eH o.th.clear.ps=o.th.clear.ps.length
 lt:∀p∈o.lab.ps,p.1<o.eH
 right:(o.lab.bO o.eH 0).right=true/\(o.th.clear.bO o.eH 4).right=true
 bd:((o.lab.bO o.eH 0).d<1000/\∀p∈(o.lab.bO o.eH 0).ps,p.1<4294967296/\p.2<4294967296)/\((o.th.clear.bO o.eH 4).d<1000/\∀p∈(o.th.clear.bO o.eH 4).ps,p.1<4294967296/\p.2<4294967296)
 rest:(o.lab.bO o.eH 0).rest.ps.length<=1000
 home:∃x,K.obj o.home=some x/\x.lab.leq (o.lab.bO o.eH 0).rest=true
theorem YU(n:Int)(h:0<=n/\n<4194304)(w:World):(convert 37 71 (.int .u64 n)).run Tryz.prog w=.ok (.int .u32 n) w:=by
 have:IntKind.u32.wrap n=n:=IntWalk.u32_in _ (by omega)
 go_simp;try rfl
theorem VK(n:Int)(h:0<=n/\n<255)(w:World):(convert 3 71 (.int .i64 (n+1))).run Tryz.prog w=.ok (.int .u32 (n+1)) w:=by
 have:IntKind.u32.wrap (n+1)=n+1:=IntWalk.u32_in _ (by omega)
 go_simp;try rfl
theorem VI(n:Int)(h:0<=n/\n<4194304)(w:World):(binOp .shl 71 (.int .u32 n) (.int .u64 8)).run Tryz.prog w=.ok (.int .u32 (n*256)) w:=by
 have:IntKind.u32.wrap (n*256)=n*256:=IntWalk.u32_in _ (by omega)
 go_simp;try rfl
theorem or256(a b:Int)(h0:0<=a/\a<4194304)(h1:0<=b/\b<256):bits .or .u32 (a*256) b=a*256+b:=by
 obtain⟨a,rfl⟩:=Int.eq_ofNat_of_zero_le h0.1;obtain⟨b,rfl⟩:=Int.eq_ofNat_of_zero_le h1.1;have e1:((a:Int)*256)=((2^8*a:Nat):Int):=by omega
 rw[e1];have h2':b<2^8:=by omega
 show IntKind.u32.wrap ((BitVec.ofInt 32 ((2^8*a:Nat):Int) ||| BitVec.ofInt 32 (b:Int)).toNat:Int)=_
 rw[BitVec.toNat_or,dw,dw,BitVec.toNat_ofNat,BitVec.toNat_ofNat,Nat.mod_eq_of_lt (by omega),Nat.mod_eq_of_lt (by omega),<-Nat.two_pow_add_eq_or_of_lt h2'];rw[IntWalk.u32_in _ (by omega)];omega
theorem YS(n m:Int)(h:0<=n/\n<4194304)(hm:0<=m/\m<255)(w:World):(binOp .or 71 (.int .u32 (n*256)) (.int .u32 (m+1))).run Tryz.prog w=.ok (.int .u32 (n*256+(m+1))) w:=by
 have:=or256 n (m+1) h (by omega);go_simp;try rfl
theorem VL(m:Int)(h:0<=m/\m<255)(w:World):(binOp .add 3 (.int .i64 m) (.int .i64 1)).run Tryz.prog w=.ok (.int .i64 (m+1)) w:=by
 have:IntKind.i64.wrap (m+1)=m+1:=aV _ (by omega)
 go_simp;try rfl
theorem YT(b:Nat)(w:World):(Instr.fieldAt 68 (.pointer (some ⟨b,0,none⟩)) 1).run Tryz.prog w=.ok (.pointer (some ⟨b,2,none⟩)) w:=by go_simp;try rfl
theorem YQ(b:Nat)(w:World):(Instr.fieldAt 52 (.pointer (some ⟨b,0,none⟩)) 1).run Tryz.prog w=.ok (.pointer (some ⟨b,17,none⟩)) w:=by go_simp;try rfl
theorem YP(b:Nat)(w:World):(Instr.fieldAt 52 (.pointer (some ⟨b,0,none⟩)) 7).run Tryz.prog w=.ok (.pointer (some ⟨b,24,none⟩)) w:=by go_simp;try rfl
theorem VJ{w:World}{q:Addr}{x:Int}(h:w.cell? q=some (.int .i64 x)):(Instr.loadAt 3 (.pointer (some q))).run Tryz.prog w=.ok (.int .i64 x) w:=by go_simp;try rfl
theorem VH{w:World}{b:Nat}{v0 v1:Value}{x:Int}{a:Option Addr}{n c:Nat}(h0:w.cell? ⟨b,4,none⟩=some v0)(h1:w.cell? ⟨b,5,none⟩=some v1)(f:∀j,w.frozen? ⟨b,j,none⟩=false):(Instr.storeAt 43 (.pointer (some ⟨b,4,none⟩)) (.agg #[.int .i64 x,.slice a n c])).run Tryz.prog w=.ok () ((w.setCell ⟨b,4,none⟩ (.int .i64 x)).setCell ⟨b,5,none⟩ (.slice a n c)):=by
 have f4:=f 4;have f5:=f 5;go_simp;try rfl
theorem Si{w:World}{b:Nat}{v0 v1:Value}{x:Int}{a:Option Addr}{n c:Nat}(h0:w.cell? ⟨b,17,none⟩=some v0)(h1:w.cell? ⟨b,18,none⟩=some v1)(f:∀j,w.frozen? ⟨b,j,none⟩=false):(Instr.storeAt 43 (.pointer (some ⟨b,17,none⟩)) (.agg #[.int .i64 x,.slice a n c])).run Tryz.prog w=.ok () ((w.setCell ⟨b,17,none⟩ (.int .i64 x)).setCell ⟨b,18,none⟩ (.slice a n c)):=by
 have f4:=f 17;have f5:=f 18;go_simp;try rfl
structure aeH(W0 W1 W2:World)(db wb:Nat)(b14 b17:Option Bool)(wx:World):Prop where
 cd:∀j,wx.cell? ⟨db,j,none⟩=W0.cell? ⟨db,j,none⟩
 cw:∀j,wx.cell? ⟨wb,j,none⟩=W0.cell? ⟨wb,j,none⟩
 a:b14≠some true->wx=W0
 b:b14=some true->b17≠some true->wx=W1
 c:b17=some true->wx=W2
attribute [local irreducible] World.setCell World.alloc World.drew World.setRow Calls Code.wp
theorem BA(w:World)(g:Gh)(K:Km)(o:Ob)(db:Nat)(h:cZ w g K)(hI:Inv g K)(ho:K.obj o.name=some o)(hk:o.kind=3)(hc:Ug K o)(hD:aR w db #[.pointer (some ⟨g.kb,0,none⟩),.pointer (some ⟨g.bl o.name,0,none⟩),.pointer (some ⟨g.tl o.name,0,none⟩),.bool false] 247)(hdb:g.A db=none) :
  Calls Tryz.prog 167 #[.pointer (some ⟨db,0,none⟩)] w fun e w'=>e=.returned (.tuple #[.int .i64 0,.int .u64 (o.eH:Nat),.int .u64 0])/\eD w g (K.set o.Jv) w' g/\aR w' db #[.pointer (some ⟨g.kb,0,none⟩),.pointer (some ⟨g.bl o.name,0,none⟩),.pointer (some ⟨g.tl o.name,0,none⟩),.bool false] 247:=by
 obtain⟨x,hT⟩:=h.gQ ho hk;obtain⟨s,T,hO⟩:=h.at ho;have d1:w.cell? ⟨db,1,none⟩=some (.pointer (some ⟨g.bl o.name,0,none⟩)):=(hD.cell 1).trans rfl;have d2:w.cell? ⟨db,2,none⟩=some (.pointer (some ⟨g.tl o.name,0,none⟩)):=(hD.cell 2).trans rfl;have t24:w.cell? ⟨g.tl o.name,24,none⟩=some (.int .i64 o.th.made):=(hT.blk.cell 24).trans rfl;have o2:w.cell? ⟨g.bl o.name,2,none⟩=some (.int .u64 o.name):=(hO.blk.cell 2).trans rfl;obtain⟨hm0,hm1⟩:=hc.made;obtain⟨hn0,hn1⟩:=hc.name;have Gj:(o.eH:Int)=o.name*256+(o.th.made+1):=by unfold Ob.eH;omega
 have hge:¬(255<=o.th.made):=by omega
 have hw1:IntKind.i64.wrap (o.th.made+1)=o.th.made+1:=aV _ (by omega);have HC:=ah hc;have adN:=ah Gj;go_enter Tryz.func167,Tryz.ntmps167
 go_upto_region 3 with fail
 go_cut [5] (fun v5 wx=>v5=.int .u32 (o.eH:Nat)/\Hid (Below w.heap.size w wx))
 case first =>
  have hnm:0<=o.name/\o.name<4194304:=⟨by omega,hn1⟩;have hmd:0<=o.th.made/\o.th.made<255:=⟨hm0,hm1⟩;have hbl:∃bb,g.bl o.name=bb:=⟨_,rfl⟩
  refine dW (by kernel_rfl) (by kernel_rfl) (by kernel_rfl)
   (fun k_ v=>match k_ with|0=>v=(.pointer (some ⟨db,0,none⟩))|1=>v=.pointer (some ⟨db,0,none⟩)|2=>v=.pointer (some ⟨db,1,none⟩)|3=>v=.pointer (some ⟨g.bl o.name,0,none⟩)|4=>v=.pointer (some ⟨g.bl o.name,0,none⟩)|5=>v=.pointer (some ⟨g.bl o.name,2,none⟩)|6=>v=.int .u64 o.name|7=>v=.int .u32 o.name|8=>v=.int .u32 (o.name*256)|9=>v=(.pointer (some ⟨db,0,none⟩))|10=>v=.pointer (some ⟨db,0,none⟩)|11=>v=.pointer (some ⟨db,2,none⟩)|12=>v=.pointer (some ⟨g.tl o.name,0,none⟩)|13=>v=.pointer (some ⟨g.tl o.name,0,none⟩)|14=>v=.pointer (some ⟨g.tl o.name,24,none⟩)|15=>v=.int .i64 o.th.made|16=>v=.int .i64 (o.th.made+1)|17=>v=.int .u32 (o.th.made+1)|18=>v=.int .u32 (o.name*256+(o.th.made+1))|19=>v=(.int .u32 (o.name*256+(o.th.made+1)))|_=>True)
   (fun l a wx=>Below w.heap.size w wx) ?_ ?_ ?_
  ·exact(aC _ w).drew
  ·intro hu i_ l a wx hi hl lF hd hcl hR hW
   have hi27:i_=0\/i_=1\/i_=2\/i_=3\/i_=4\/i_=5\/i_=6\/i_=7\/i_=8\/i_=9\/i_=10\/i_=11\/i_=12\/i_=13\/i_=14\/i_=15\/i_=16\/i_=17\/i_=18\/i_=19:=by have:i_<20:=hi;omega
   rcases hi27 with rfl|rfl|rfl|rfl|rfl|rfl|rfl|rfl|rfl|rfl|rfl|rfl|rfl|rfl|rfl|rfl|rfl|rfl|rfl|rfl
   ·
    refine aK rfl (d:=16) rfl (aF rfl _) (dJ (hR.was 0 rfl)) ⟨hR.put hu (by rw[hl];decide) (d:=16) rfl (ak rfl) rfl,?_⟩;exact hW
   ·
    refine aK rfl (d:=17) rfl (aF rfl _) (dh (hR.slot 0 16 (hd 0 rfl) rfl) rfl) ⟨hR.put hu (by rw[hl];decide) (d:=17) rfl (ak rfl) rfl,?_⟩;exact hW
   ·
    refine aK rfl (d:=18) rfl (aF rfl _) (bH (hR.slot 1 17 (hd 1 rfl) rfl) (Oe _ _)) ⟨hR.put hu (by rw[hl];decide) (d:=18) rfl (ak rfl) rfl,?_⟩;exact hW
   ·
    refine aK rfl (d:=19) rfl (aF rfl _) (eu (hR.slot 2 18 (hd 2 rfl) rfl) (UQ ((hW.cell (bn w _ d1)).trans d1))) ⟨hR.put hu (by rw[hl];decide) (d:=19) rfl (ak rfl) rfl,?_⟩;exact hW
   ·
    refine aK rfl (d:=20) rfl (aF rfl _) (dh (hR.slot 3 19 (hd 3 rfl) rfl) rfl) ⟨hR.put hu (by rw[hl];decide) (d:=20) rfl (ak rfl) rfl,?_⟩;exact hW
   ·
    refine aK rfl (d:=21) rfl (aF rfl _) (bH (hR.slot 4 20 (hd 4 rfl) rfl) (YT _ _)) ⟨hR.put hu (by rw[hl];decide) (d:=21) rfl (ak rfl) rfl,?_⟩;exact hW
   ·
    refine aK rfl (d:=22) rfl (aF rfl _) (eu (hR.slot 5 21 (hd 5 rfl) rfl) (XV ((hW.cell (bn w _ o2)).trans o2))) ⟨hR.put hu (by rw[hl];decide) (d:=22) rfl (ak rfl) rfl,?_⟩;exact hW
   ·
    refine aK rfl (d:=23) rfl (aF rfl _) (sw (hR.slot 6 22 (hd 6 rfl) rfl) (YU _ hnm _)) ⟨hR.put hu (by rw[hl];decide) (d:=23) rfl (ak rfl) rfl,?_⟩;exact hW
   ·
    refine aK rfl (d:=24) rfl (aF rfl _) (sD (hR.slot 7 23 (hd 7 rfl) rfl) rfl (fun w=>by simp[eqGuard]) (VI _ hnm _)) ⟨hR.put hu (by rw[hl];decide) (d:=24) rfl (ak rfl) rfl,?_⟩;exact hW
   ·
    refine aK rfl (d:=25) rfl (aF rfl _) (dJ (hR.was 0 rfl)) ⟨hR.put hu (by rw[hl];decide) (d:=25) rfl (ak rfl) rfl,?_⟩;exact hW
   ·
    refine aK rfl (d:=26) rfl (aF rfl _) (dh (hR.slot 9 25 (hd 9 rfl) rfl) rfl) ⟨hR.put hu (by rw[hl];decide) (d:=26) rfl (ak rfl) rfl,?_⟩;exact hW
   ·
    refine aK rfl (d:=27) rfl (aF rfl _) (bH (hR.slot 10 26 (hd 10 rfl) rfl) (Tz _ _)) ⟨hR.put hu (by rw[hl];decide) (d:=27) rfl (ak rfl) rfl,?_⟩;exact hW
   ·
    refine aK rfl (d:=28) rfl (aF rfl _) (eu (hR.slot 11 27 (hd 11 rfl) rfl) (Dq ((hW.cell (bn w _ d2)).trans d2))) ⟨hR.put hu (by rw[hl];decide) (d:=28) rfl (ak rfl) rfl,?_⟩;exact hW
   ·
    refine aK rfl (d:=29) rfl (aF rfl _) (dh (hR.slot 12 28 (hd 12 rfl) rfl) rfl) ⟨hR.put hu (by rw[hl];decide) (d:=29) rfl (ak rfl) rfl,?_⟩;exact hW
   ·
    refine aK rfl (d:=30) rfl (aF rfl _) (bH (hR.slot 13 29 (hd 13 rfl) rfl) (YP _ _)) ⟨hR.put hu (by rw[hl];decide) (d:=30) rfl (ak rfl) rfl,?_⟩;exact hW
   ·
    refine aK rfl (d:=31) rfl (aF rfl _) (eu (hR.slot 14 30 (hd 14 rfl) rfl) (VJ ((hW.cell (bn w _ t24)).trans t24))) ⟨hR.put hu (by rw[hl];decide) (d:=31) rfl (ak rfl) rfl,?_⟩;exact hW
   ·
    refine aK rfl (d:=32) rfl (aF rfl _) (sD (hR.slot 15 31 (hd 15 rfl) rfl) rfl (fun w=>by simp[eqGuard]) (VL _ hmd _)) ⟨hR.put hu (by rw[hl];decide) (d:=32) rfl (ak rfl) rfl,?_⟩;exact hW
   ·
    refine aK rfl (d:=33) rfl (aF rfl _) (sw (hR.slot 16 32 (hd 16 rfl) rfl) (VK _ hmd _)) ⟨hR.put hu (by rw[hl];decide) (d:=33) rfl (ak rfl) rfl,?_⟩;exact hW
   ·
    refine aK rfl (d:=34) rfl (aF rfl _) (sD (hR.slot 8 24 (hd 8 rfl) rfl) (hR.slot 17 33 (hd 17 rfl) rfl) (fun w=>by simp[eqGuard]) (YS _ _ hnm hmd _)) ⟨hR.put hu (by rw[hl];decide) (d:=34) rfl (ak rfl) rfl,?_⟩;exact hW
   ·
    refine aK rfl (d:=5) rfl (aF rfl _) (mo (hR.slot 18 34 (hd 18 rfl) rfl)) ⟨hR.put hu (by rw[hl];decide) (d:=5) rfl (ak rfl) rfl,?_⟩;exact hW
  ·intro l a wx hl hR hW
   have e5:a.tmps.getD 5 undef=(.int .u32 (o.name*256+(o.th.made+1))):=hR.slot 19 5 (hl 19 (ak rfl)) rfl;rw[hR.fold [16,17,18,19,20,21,22,23,24,25,26,27,28,29,30,31,32,33,34,5] (by kernel_rfl)];simp only[List.foldl,e5];have HW:=ah hW;have Qi:=ah hl;clear hR hW hl e5;generalize a.tmps.getD 16 undef=u16;generalize a.tmps.getD 17 undef=u17;generalize a.tmps.getD 18 undef=u18;generalize a.tmps.getD 19 undef=u19;generalize a.tmps.getD 20 undef=u20;generalize a.tmps.getD 21 undef=u21;generalize a.tmps.getD 22 undef=u22;generalize a.tmps.getD 23 undef=u23;generalize a.tmps.getD 24 undef=u24;generalize a.tmps.getD 25 undef=u25;generalize a.tmps.getD 26 undef=u26;generalize a.tmps.getD 27 undef=u27;generalize a.tmps.getD 28 undef=u28;generalize a.tmps.getD 29 undef=u29;generalize a.tmps.getD 30 undef=u30;generalize a.tmps.getD 31 undef=u31;generalize a.tmps.getD 32 undef=u32;generalize a.tmps.getD 33 undef=u33;generalize a.tmps.getD 34 undef=u34;simp only[ay,aG,aH];go_step
   go_step
   go_meet;exact⟨by rw[Gj],HW⟩
 case rest =>
  rename World=>w3
  obtain⟨rfl,HB3⟩:=hcut;have h3:=h.below HB3.out;have hD3:=hD.below HB3.out hD.lt;have hO3:=hO.below HB3.out;have uG:=hT.below HB3.out;have hlp:=hO3.rows.lab;have hcp:=uG.rows.gG;obtain⟨la,lc,VF,-,-⟩:=aJ.form hlp;obtain⟨ca,cc,VG,-,-⟩:=aJ.form hcp;rw[VF]at hlp;rw[VG]at hcp;obtain⟨L,hL⟩:∃L,o.lab.bO o.eH 0=L:=⟨_,rfl⟩;obtain⟨M,hM⟩:∃M,o.th.clear.bO o.eH 4=M:=⟨_,rfl⟩
  have ZE:Hid (Calls Tryz.prog 170 #[.pointer (some ⟨db,0,none⟩)] w3 fun e w'=>e=.returned (.agg #[.int .i64 (o.lab.d:Nat),.slice la o.lab.ps.length lc,.int .i64 (o.th.clear.d:Nat),.slice ca o.th.clear.ps.length cc])/\Below w3.heap.size w3 w'):=ah (by
   refine QD w3 db g.kb (g.bl o.name) (g.tl o.name) false _ _ _ _ _ _ _ _ hD3 ((hO3.blk.cell 4).trans rfl) ((hO3.blk.cell 5).trans ?_) ((uG.blk.cell 17).trans rfl) ((uG.blk.cell 18).trans ?_)
   ·show some s.lp=_;rw[VF]
   ·show some x.cp=_;rw[VG])
  have WE:Hid (∀w4,Below w3.heap.size w3 w4->Calls Tryz.prog 209 #[.agg #[.int .i64 (o.lab.d:Nat),.slice la o.lab.ps.length lc,.int .i64 (o.th.clear.d:Nat),.slice ca o.th.clear.ps.length cc],.int .u32 (o.eH:Nat)] w4 fun e w'=>∃u,e=.returned (.tuple #[u,.bool true])/\yF w' u L M/\Below w4.heap.size w4 w'):=ah (fun w4 hb=>by
   have c:=HC.out;rw[<-hL,<-hM];exact KL o.lab o.th.clear o.eH _ w4 ⟨la,lc,ca,cc,rfl,aJ.below hlp hb (aj _),aJ.below hcp hb (aj _)⟩ c.len c.ps c.lo c.right c.bd)
  have H:=ah h;have HI:=ah hI;have HO:=ah ho;have HD:=ah hD;have HL:=ah hL;have HMm:=ah hM;obtain⟨N,hN⟩:∃N,o.eH=N:=⟨_,rfl⟩;have HN:=ah hN;rw[hN]at WE;rw[hN];clear h hI ho hc hD hT hO d1 d2 t24 o2 hge h3 hD3 hO3 uG hlp hcp VF VG hL hM hN Gj hw1;go_wp2_with fail
  refine ZE.out.mono ?_;rintro e w4 ⟨rfl,hb4⟩;have HF4:=ah (WE.out w4 hb4);have yO:=ah (aT HB3.out hb4);clear WE ZE hb4;go_wp2_with fail
  refine HF4.out.mono ?_;rintro e w5 ⟨u,rfl,⟨b1,k1,b2,k2,rfl,p1,p2⟩,hb5⟩;have pK:=ah (aT yO.out hb5);have Cb:=ah p1;have LC:=ah p2;clear HF4 hb5 p1 p2;go_upto_region 7 with fail
  obtain⟨wb,hwb⟩:∃wb,w5.heap.size=wb:=⟨_,rfl⟩;obtain⟨w6,hw6⟩:∃w6,w6=w5.alloc (.cells #[.int .i64 (L.d:Nat),.slice b1 L.ps.length k1,.int .i64 (M.d:Nat),.slice b2 M.ps.length k2] 302):=⟨_,rfl⟩;have hb6:Below w5.heap.size w5 w6:=by rw[hw6];exact(aC _ _).alloc (aj _) _
  have hX6:aR w6 wb #[.int .i64 (L.d:Nat),.slice b1 L.ps.length k1,.int .i64 (M.d:Nat),.slice b2 M.ps.length k2] 302:=by rw[hw6,<-hwb];exact aR.new _ _ _
  rw[<-hw6,hwb];have wB:=ah (aT pK.out hb6);have HX6:=ah hX6;have LM:=ah (aJ.below Cb.out hb6 (aj _));have HQ2:=ah (aJ.below LC.out hb6 (aj _))
  have HHs:Hid (Calls Tryz.prog 172 #[.pointer (some ⟨db,0,none⟩),.agg #[.int .i64 (L.d:Nat),.slice b1 L.ps.length k1]] w6 fun e w'=>e=.returned (.bool true)/\Below w6.heap.size w6 w'):=ah (by
   have c:=HC.out;obtain⟨x,hx,hle⟩:=c.home;have hr:=c.rest;rw[HL.out]at hle hr;have hok:fV L:=by rw[<-HL.out];exact iE c.right.1
   have:=Gg w6 g K o x L _ db false (H.out.below wB.out) HO.out hx ⟨_,rfl,LM.out⟩ hok hr (HD.out.below wB.out HD.out.lt);rw[hle]at this;exact this)
  have y0:w6.cell? ⟨wb,0,none⟩=some (.int .i64 (L.d:Nat)):=(hX6.cell 0).trans rfl;have y1:w6.cell? ⟨wb,1,none⟩=some (.slice b1 L.ps.length k1):=(hX6.cell 1).trans rfl;have Hwb:=ah hwb;clear hb6 hX6 hw6 Cb LC hwb;go_wp2_with fail
  refine HHs.out.mono ?_;rintro e w7 ⟨rfl,hb7⟩;have HB7:=ah (aT wB.out hb7);have Wv:=ah (HX6.out.below hb7 HX6.out.lt);have HR1:=ah (aJ.below LM.out hb7 (aj _));have HR2:=ah (aJ.below HQ2.out hb7 (aj _));have hD7:=HD.out.below HB7.out HD.out.lt;have d2:w7.cell? ⟨db,2,none⟩=some (.pointer (some ⟨g.tl o.name,0,none⟩)):=(hD7.cell 2).trans rfl;obtain⟨x7,KJ⟩:=(H.out.below HB7.out).gQ HO.out hk;have t24:w7.cell? ⟨g.tl o.name,24,none⟩=some (.int .i64 o.th.made):=(KJ.blk.cell 24).trans rfl;have hfz:w7.frozen? ⟨g.tl o.name,24,none⟩=false:=KJ.blk.free 24;have hw1:IntKind.i64.wrap (o.th.made+1)=o.th.made+1:=aV _ (by omega);clear HHs LM HQ2 y0 y1 hb7 hD7 KJ HX6;have HD7:=ah (HD.out.below HB7.out HD.out.lt);have Hk:=ah hk;go_upto_region 10 with fail
  obtain⟨w8,hw8⟩:∃w8,w8=w7.setCell ⟨g.tl o.name,24,none⟩ (.int .i64 (o.th.made+1)):=⟨_,rfl⟩;rw[<-hw8];have hM7:=(eD.refl H.out HI.out).below HB7.out;have hM8:eD w g (K.set (o.eF { o.th with made:=o.th.made+1 })) w8 g:=by rw[hw8];exact hM7.made HO.out Hk.out _
  have hM9:=hM8.below (aC _ w8).drew;have htg:=(H.out.objs _ _ HO.out).2.tag;obtain⟨x0,hT0⟩:=H.out.gQ HO.out Hk.out;have UL:w.heap.size<=wb:=by rw[<-Hwb.out];exact pK.out.size
  have nd1:db≠g.bl o.name:=fun e=>by rw[e,htg]at hdb;cases hdb
  have nd2:db≠g.tl o.name:=fun e=>by rw[e,hT0.tag]at hdb;cases hdb
  have nw1:wb≠g.bl o.name:=fun e=>by have:=H.out.kS wb UL;rw[e,htg]at this;cases this
  have nw2:wb≠g.tl o.name:=fun e=>by have:=H.out.kS wb UL;rw[e,hT0.tag]at this;cases this
  have OC:aR w8.drew db #[.pointer (some ⟨g.kb,0,none⟩),.pointer (some ⟨g.bl o.name,0,none⟩),.pointer (some ⟨g.tl o.name,0,none⟩),.bool false] 247:=by rw[hw8];exact(HD7.out.aI (a:=⟨g.tl o.name,24,none⟩) (fun e=>nd2 e.symm) _).drew
  have WO:aR w8.drew wb #[.int .i64 (L.d:Nat),.slice b1 L.ps.length k1,.int .i64 (M.d:Nat),.slice b2 M.ps.length k2] 302:=by rw[hw8];exact(Wv.out.aI (a:=⟨g.tl o.name,24,none⟩) (fun e=>nw2 e.symm) _).drew
  obtain⟨x7,KJ⟩:=hM7.kin.gQ HO.out Hk.out;have hk8:Kept (·=g.tl o.name) w7 w8.drew:=by rw[hw8];exact((Kept.refl (·=g.tl o.name) w7).bC _ _ _ rfl).drew
  have hp1:bg w8.drew (.slice b1 L.ps.length k1) L.ps:=bg.mild (ps:=L.ps) HR1.out hk8 (dS.of KJ.blk (by decide));have hp2:bg w8.drew (.slice b2 M.ps.length k2) M.ps:=bg.mild (ps:=M.ps) HR2.out hk8 (dS.of KJ.blk (by decide));obtain⟨W0,hW0⟩:∃W0,w8.drew=W0:=⟨_,rfl⟩;rw[hW0]at hM9 OC WO hp1 hp2;have KF:(K.set (o.eF { o.th with made:=o.th.made+1 })).obj (o.eF { o.th with made:=o.th.made+1 }).name=some (o.eF { o.th with made:=o.th.made+1 }):=Km.dz K _;have Yf:fV L:=by rw[<-HL.out];exact iE HC.out.right.1
  have Ye:fV M:=by rw[<-HMm.out];exact iE HC.out.right.2
  have hmore:More (o.eF { o.th with made:=o.th.made+1 }) { (o.eF { o.th with made:=o.th.made+1 })with lab:=L }:=by
   have e:L=o.lab.snoc o.eH 0:=by
    rw[<-HL.out];unfold dn.bO;rw[aA (fun q=>HC.out.d.1 q.symm)]
   rw[e];exact Kc (o:=o.eF { o.th with made:=o.th.made+1 }) Hk.out HC.out.d HC.out.lt
  obtain⟨W1,hW1⟩:∃W1,W1=(W0.setCell ⟨g.bl o.name,4,none⟩ (.int .i64 (L.d:Nat))).setCell ⟨g.bl o.name,5,none⟩ (.slice b1 L.ps.length k1):=⟨_,rfl⟩;obtain⟨W2,hW2⟩:∃W2,W2=(W1.setCell ⟨g.tl o.name,17,none⟩ (.int .i64 (M.d:Nat))).setCell ⟨g.tl o.name,18,none⟩ (.slice b2 M.ps.length k2):=⟨_,rfl⟩;have Vw:eD w g ((K.set (o.eF { o.th with made:=o.th.made+1 })).set { (o.eF { o.th with made:=o.th.made+1 })with lab:=L }) W1 g:=by rw[hW1];exact hM9.Rv KF hmore hp1 Yf
  obtain⟨s9,T9,RN⟩:=hM9.kin.at KF;have hkk:Kept (·=g.bl o.name) W0 W1:=by rw[hW1];exact((Kept.refl (·=g.bl o.name) W0).bC _ _ _ rfl).bC _ _ _ rfl
  have hq2:bg W1 (.slice b2 M.ps.length k2) M.ps:=hp2.mild hkk (dS.of RN.blk (by decide))
  have YH:eD w g (K.set o.Jv) W2 g:=by
   have e:((K.set (o.eF { o.th with made:=o.th.made+1 })).set { (o.eF { o.th with made:=o.th.made+1 })with lab:=L }).set (Ob.eF { (o.eF { o.th with made:=o.th.made+1 })with lab:=L } { o.th with made:=o.th.made+1,clear:=M })=K.set o.Jv:=by
    refine(Km.set_set _ _ _ ?h1).trans ((Km.set_set _ _ _ ?h2).trans ?_)
    case h1=>rfl
    case h2=>rfl
    unfold Ob.Jv;rw[HL.out,HMm.out];rfl
   rw[<-e,hW2];exact Vw.gG (o:={ (o.eF { o.th with made:=o.th.made+1 })with lab:=L }) (Km.dz _ _) Hk.out hq2 Ye
  have u4:∃v,W0.cell? ⟨g.bl o.name,4,none⟩=some v:=⟨_,(RN.blk.cell 4).trans rfl⟩;have u5:∃v,W0.cell? ⟨g.bl o.name,5,none⟩=some v:=⟨_,(RN.blk.cell 5).trans rfl⟩;have uf:∀j,W0.frozen? ⟨g.bl o.name,j,none⟩=false:=RN.blk.free;obtain⟨x10,RL⟩:=Vw.kin.gQ (o:={ (o.eF { o.th with made:=o.th.made+1 })with lab:=L }) (Km.dz _ _) Hk.out;have t17:∃v,W1.cell? ⟨g.tl o.name,17,none⟩=some v:=⟨_,(RL.blk.cell 17).trans rfl⟩;have t18:∃v,W1.cell? ⟨g.tl o.name,18,none⟩=some v:=⟨_,(RL.blk.cell 18).trans rfl⟩;have tf:∀j,W1.frozen? ⟨g.tl o.name,j,none⟩=false:=RL.blk.free;have e1:W0.cell? ⟨db,1,none⟩=some (.pointer (some ⟨g.bl o.name,0,none⟩)):=(OC.cell 1).trans rfl;have e2:W0.cell? ⟨db,2,none⟩=some (.pointer (some ⟨g.tl o.name,0,none⟩)):=(OC.cell 2).trans rfl;have y0:W0.cell? ⟨wb,0,none⟩=some (.int .i64 (L.d:Nat)):=(WO.cell 0).trans rfl;have y1:W0.cell? ⟨wb,1,none⟩=some (.slice b1 L.ps.length k1):=(WO.cell 1).trans rfl;have y2:W0.cell? ⟨wb,2,none⟩=some (.int .i64 (M.d:Nat)):=(WO.cell 2).trans rfl;have y3:W0.cell? ⟨wb,3,none⟩=some (.slice b2 M.ps.length k2):=(WO.cell 3).trans rfl;have lu:=ah YH
  have HDW:Hid (aR W2 db #[.pointer (some ⟨g.kb,0,none⟩),.pointer (some ⟨g.bl o.name,0,none⟩),.pointer (some ⟨g.tl o.name,0,none⟩),.bool false] 247):=ah (by
   rw[hW2,hW1];exact(((OC.aI (a:=⟨g.bl o.name,4,none⟩) (fun e=>nd1 e.symm) _).aI (a:=⟨g.bl o.name,5,none⟩) (fun e=>nd1 e.symm) _).aI (a:=⟨g.tl o.name,17,none⟩) (fun e=>nd2 e.symm) _).aI (a:=⟨g.tl o.name,18,none⟩) (fun e=>nd2 e.symm) _)
  have c1:∀c j,c≠g.bl o.name->W1.cell? ⟨c,j,none⟩=W0.cell? ⟨c,j,none⟩:=fun c j q=>by
   rw[hW1,World.cell?_setCell_other _ _ _ _ (fun e=>q (congrArg Addr.block e).symm),World.cell?_setCell_other _ _ _ _ (fun e=>q (congrArg Addr.block e).symm)]
  have c2:∀c j,c≠g.tl o.name->W2.cell? ⟨c,j,none⟩=W1.cell? ⟨c,j,none⟩:=fun c j q=>by
   rw[hW2,World.cell?_setCell_other _ _ _ _ (fun e=>q (congrArg Addr.block e).symm),World.cell?_setCell_other _ _ _ _ (fun e=>q (congrArg Addr.block e).symm)]
  have hwN:IntKind.u64.wrap (N:Int)=(N:Int):=IntWalk.u64_in _ (by
   have a:=HN.out;have b:=adN.out;have c:=HC.out.name;have d:=HC.out.made;omega)
  clear hM7 hM8 hM9 Vw YH hT0 KJ RN RL hq2 hp1 hp2 hkk hk8 OC WO Yf Ye hmore KF hw8 d2 t24 hfz hw1 HR1 HR2 Wv HB7 HD7 UL htg;go_cut [2] (fun _ wx=>W2=wx)
  case first =>
   refine dW (by kernel_rfl) (by kernel_rfl) (by kernel_rfl)
    (fun k_ v=>match k_ with|0=>v=(.pointer (some ⟨db,0,none⟩))|1=>v=.pointer (some ⟨db,0,none⟩)|2=>v=.pointer (some ⟨db,1,none⟩)|3=>v=.pointer (some ⟨g.bl o.name,0,none⟩)|4=>v=(.pointer (some ⟨db,0,none⟩))|5=>v=.pointer (some ⟨db,0,none⟩)|6=>v=.pointer (some ⟨db,2,none⟩)|7=>v=.pointer (some ⟨g.tl o.name,0,none⟩)|8=>v=.pointer (some ⟨wb,0,none⟩)|9=>v=.agg #[.int .i64 (L.d:Nat),.slice b1 L.ps.length k1]|10=>v=.pointer (some ⟨wb,2,none⟩)|11=>v=.agg #[.int .i64 (M.d:Nat),.slice b2 M.ps.length k2]|12=>v=.pointer (some ⟨g.bl o.name,0,none⟩)|13=>v=.pointer (some ⟨g.bl o.name,4,none⟩)|15=>v=.pointer (some ⟨g.tl o.name,0,none⟩)|16=>v=.pointer (some ⟨g.tl o.name,17,none⟩)|_=>True)
    (fun l a wx=>aeH W0 W1 W2 db wb l[14]? l[17]? wx) ?_ ?_ ?_
   ·exact⟨fun j=>by rw[hW0],fun j=>by rw[hW0],fun _=>hW0,fun h=>by simp at h,fun h=>by simp at h⟩
   ·intro hu i_ l a wx hi hl lF hd hcl hR hW
    have hi27:i_=0\/i_=1\/i_=2\/i_=3\/i_=4\/i_=5\/i_=6\/i_=7\/i_=8\/i_=9\/i_=10\/i_=11\/i_=12\/i_=13\/i_=14\/i_=15\/i_=16\/i_=17:=by have:i_<18:=hi;omega
    rcases hi27 with rfl|rfl|rfl|rfl|rfl|rfl|rfl|rfl|rfl|rfl|rfl|rfl|rfl|rfl|rfl|rfl|rfl|rfl
    ·
     refine aK rfl (d:=59) rfl (aF rfl _) (dJ (hR.was 0 rfl)) ⟨hR.put hu (by rw[hl];decide) (d:=59) rfl (ak rfl) rfl,?_⟩;simpa only[aI,aL,bF,aB,Nat.reduceEqDiff]using hW
    ·
     refine aK rfl (d:=60) rfl (aF rfl _) (dh (hR.slot 0 59 (hd 0 rfl) rfl) rfl) ⟨hR.put hu (by rw[hl];decide) (d:=60) rfl (ak rfl) rfl,?_⟩;simpa only[aI,aL,bF,aB,Nat.reduceEqDiff]using hW
    ·
     refine aK rfl (d:=61) rfl (aF rfl _) (bH (hR.slot 1 60 (hd 1 rfl) rfl) (Oe _ _)) ⟨hR.put hu (by rw[hl];decide) (d:=61) rfl (ak rfl) rfl,?_⟩;simpa only[aI,aL,bF,aB,Nat.reduceEqDiff]using hW
    ·
     refine aK rfl (d:=62) rfl (aF rfl _) (eu (hR.slot 2 61 (hd 2 rfl) rfl) (UQ ((hW.cd _).trans e1))) ⟨hR.put hu (by rw[hl];decide) (d:=62) rfl (ak rfl) rfl,?_⟩;simpa only[aI,aL,bF,aB,Nat.reduceEqDiff]using hW
    ·
     refine aK rfl (d:=63) rfl (aF rfl _) (dJ (hR.was 0 rfl)) ⟨hR.put hu (by rw[hl];decide) (d:=63) rfl (ak rfl) rfl,?_⟩;simpa only[aI,aL,bF,aB,Nat.reduceEqDiff]using hW
    ·
     refine aK rfl (d:=64) rfl (aF rfl _) (dh (hR.slot 4 63 (hd 4 rfl) rfl) rfl) ⟨hR.put hu (by rw[hl];decide) (d:=64) rfl (ak rfl) rfl,?_⟩;simpa only[aI,aL,bF,aB,Nat.reduceEqDiff]using hW
    ·
     refine aK rfl (d:=65) rfl (aF rfl _) (bH (hR.slot 5 64 (hd 5 rfl) rfl) (Tz _ _)) ⟨hR.put hu (by rw[hl];decide) (d:=65) rfl (ak rfl) rfl,?_⟩;simpa only[aI,aL,bF,aB,Nat.reduceEqDiff]using hW
    ·
     refine aK rfl (d:=66) rfl (aF rfl _) (eu (hR.slot 6 65 (hd 6 rfl) rfl) (Dq ((hW.cd _).trans e2))) ⟨hR.put hu (by rw[hl];decide) (d:=66) rfl (ak rfl) rfl,?_⟩;simpa only[aI,aL,bF,aB,Nat.reduceEqDiff]using hW
    ·
     refine aK rfl (d:=67) rfl (aF rfl _) (bH (hR.was 6 rfl) (VA _ _)) ⟨hR.put hu (by rw[hl];decide) (d:=67) rfl (ak rfl) rfl,?_⟩;simpa only[aI,aL,bF,aB,Nat.reduceEqDiff]using hW
    ·
     refine aK rfl (d:=68) rfl (aF rfl _) (eu (hR.slot 8 67 (hd 8 rfl) rfl) (wJ ((hW.cw _).trans y0) ((hW.cw _).trans y1))) ⟨hR.put hu (by rw[hl];decide) (d:=68) rfl (ak rfl) rfl,?_⟩;simpa only[aI,aL,bF,aB,Nat.reduceEqDiff]using hW
    ·
     refine aK rfl (d:=69) rfl (aF rfl _) (bH (hR.was 6 rfl) (Vz _ _)) ⟨hR.put hu (by rw[hl];decide) (d:=69) rfl (ak rfl) rfl,?_⟩;simpa only[aI,aL,bF,aB,Nat.reduceEqDiff]using hW
    ·
     refine aK rfl (d:=70) rfl (aF rfl _) (eu (hR.slot 10 69 (hd 10 rfl) rfl) (AZ ((hW.cw _).trans y2) ((hW.cw _).trans y3))) ⟨hR.put hu (by rw[hl];decide) (d:=70) rfl (ak rfl) rfl,?_⟩;simpa only[aI,aL,bF,aB,Nat.reduceEqDiff]using hW
    ·
     refine aK rfl (d:=71) rfl (aF rfl _) (dh (hR.slot 3 62 (hd 3 rfl) rfl) rfl) ⟨hR.put hu (by rw[hl];decide) (d:=71) rfl (ak rfl) rfl,?_⟩;simpa only[aI,aL,bF,aB,Nat.reduceEqDiff]using hW
    ·
     refine aK rfl (d:=72) rfl (aF rfl _) (bH (hR.slot 12 71 (hd 12 rfl) rfl) (Tw _ _)) ⟨hR.put hu (by rw[hl];decide) (d:=72) rfl (ak rfl) rfl,?_⟩;simpa only[aI,aL,bF,aB,Nat.reduceEqDiff]using hW
    ·
     have hno:¬(l[14]? = some true):=by rw[lF];simp
     have Yi:¬(l[17]? = some true):=fun h=>hno (hcl.of 14 rfl h)
     have hw:=hW.a hno;obtain⟨v4,hv4⟩:=u4;obtain⟨v5,hv5⟩:=u5;refine jc rfl rfl (aF rfl _) (kP (hR.slot 13 72 (hd 13 rfl) rfl) (hR.slot 9 68 (hd 9 rfl) rfl) (VH (by rw[hw];exact hv4) (by rw[hw];exact hv5) (by rw[hw];exact uf))) ⟨hR.done rfl,?_⟩;simp only[aI,bF,aB,Nat.reduceEqDiff,set_self (show 14<l.size by rw[hl];decide)];rw[hw,<-hW1];exact⟨fun j=>c1 _ j nd1,fun j=>c1 _ j nw1,fun h=>absurd rfl h,fun _ _=>rfl,fun h=>absurd h Yi⟩
    ·
     refine aK rfl (d:=73) rfl (aF rfl _) (dh (hR.slot 7 66 (hd 7 rfl) rfl) rfl) ⟨hR.put hu (by rw[hl];decide) (d:=73) rfl (ak rfl) rfl,?_⟩;simpa only[aI,aL,bF,aB,Nat.reduceEqDiff]using hW
    ·
     refine aK rfl (d:=74) rfl (aF rfl _) (bH (hR.slot 15 73 (hd 15 rfl) rfl) (YQ _ _)) ⟨hR.put hu (by rw[hl];decide) (d:=74) rfl (ak rfl) rfl,?_⟩;simpa only[aI,aL,bF,aB,Nat.reduceEqDiff]using hW
    ·
     have hno:¬(l[17]? = some true):=by rw[lF];simp
     have h14:=hd 14 rfl;have hw:=hW.b h14 hno;obtain⟨v4,hv4⟩:=t17;obtain⟨v5,hv5⟩:=t18;refine jc rfl rfl (aF rfl _) (kP (hR.slot 16 74 (hd 16 rfl) rfl) (hR.slot 11 70 (hd 11 rfl) rfl) (Si (by rw[hw];exact hv4) (by rw[hw];exact hv5) (by rw[hw];exact tf))) ⟨hR.done rfl,?_⟩;simp only[aI,bF,aB,Nat.reduceEqDiff,set_self (show 17<l.size by rw[hl];decide)];rw[hw,<-hW2];exact⟨fun j=>(c2 _ j nd2).trans (c1 _ j nd1),fun j=>(c2 _ j nw2).trans (c1 _ j nw1),fun h=>absurd h14 h,fun _ h=>absurd rfl h,fun _=>rfl⟩
   ·intro l a wx hl hR hW
    rw[hR.fold [59,60,61,62,63,64,65,66,67,68,69,70,71,72,73,74] (by kernel_rfl)];simp only[List.foldl];have HW:=ah hW;have Qi:=ah hl;clear hR hW hl;generalize a.tmps.getD 59 undef=u59;generalize a.tmps.getD 60 undef=u60;generalize a.tmps.getD 61 undef=u61;generalize a.tmps.getD 62 undef=u62;generalize a.tmps.getD 63 undef=u63;generalize a.tmps.getD 64 undef=u64;generalize a.tmps.getD 65 undef=u65;generalize a.tmps.getD 66 undef=u66;generalize a.tmps.getD 67 undef=u67;generalize a.tmps.getD 68 undef=u68;generalize a.tmps.getD 69 undef=u69;generalize a.tmps.getD 70 undef=u70;generalize a.tmps.getD 71 undef=u71;generalize a.tmps.getD 72 undef=u72;generalize a.tmps.getD 73 undef=u73;generalize a.tmps.getD 74 undef=u74;simp only[ay,aG,aH];go_step
    go_step
    go_meet;exact(HW.out.c (Qi.out 17 (ak rfl))).symm
  case rest =>
   subst hcut;clear u4 u5 uf t17 t18 tf e1 e2 y0 y1 y2 y3 c1 c2 hW0 hW1 hW2;go_wp2_with fail
   go_ret3
   exact⟨by rw[HN.out];try rfl,lu.out,HDW.out⟩
theorem Dy(v:Value)(w:World):Calls Tryz.prog 156 #[v,.int .i64 0,.int .i64 1] w fun e w'=>e=.returned (.tuple #[])/\w'=w:=by
 go_enter Tryz.func156,Tryz.ntmps156
 go_wp2_with fail
 go_loopg [6] 1 (fun gg v6 wq=>v6=.int .i64 1/\wq=w)
 case atStart=>exact⟨rfl,rfl⟩
 case round =>
  obtain⟨rfl,rfl⟩:=hrel;go_wp2_with fail
  refine bodyPost_end (results_none rfl _ _ _) rfl ?_;exact⟨rfl,rfl⟩
theorem Nh(a:Option Addr)(c:Nat)(k:Int)(w:World):Calls Tryz.prog 136 #[.slice a 1 c,.int .i64 0,.int .i64 1,.int .i64 k] w fun e w'=>e=.returned (.tuple #[])/\w'=w:=by
 have HI:=ah (Dy (.slice a 1 c) w);go_enter Tryz.func136,Tryz.ntmps136
 go_wp2_with fail
 go_loopg [1,2,3] 1 (fun gg v1 v2 _ wq=>v1=.int .i64 0/\v2=.int .i64 1/\wq=w)
 case atStart=>exact⟨rfl,rfl,rfl⟩
 case round =>
  obtain⟨rfl,rfl,rfl⟩:=hrel;go_wp2_with fail
  refine HI.out.mono ?_;rintro e w1 ⟨rfl,rfl⟩;go_wp2_with fail
  refine bodyPost_ret (results_none rfl _ _ _) rfl ?_;exact⟨rfl,rfl⟩
theorem JI(a:Option Addr)(c:Nat)(w:World):Calls Tryz.prog 114 #[.slice a 1 c] w fun e w'=>e=.returned (.tuple #[])/\w'=w:=by
 have HL:=ah (Tryz.bits_Len 1 w (by decide) (by decide));have HP:=ah (fun k=>Nh a c k w);go_enter Tryz.func114,Tryz.ntmps114
 go_wp2_with fail
 refine HL.out.mono ?_;rintro e w1 ⟨rfl,rfl⟩;have LC:=ah (HP.out ((Lib.bitLen (1:Int).toNat:Nat):Int));go_wp2_with fail
 refine LC.out.mono ?_;rintro e w2 ⟨rfl,rfl⟩;go_wp2_with fail
 refine bodyPost_end (results_none rfl _ _ _) rfl ?_;exact⟨rfl,rfl⟩
theorem Bv(a:Option Addr)(c:Nat)(w:World):Calls Tryz.prog 115 #[.slice a 1 c] w fun e w'=>e=.returned (.slice a 1 c)/\w'=w:=by
 go_enter Tryz.func115,Tryz.ntmps115
 go_wp2_with fail
 go_ret;exact⟨rfl,rfl⟩
theorem Nt(n:Int)(hc:MF n=[])(hr:ME n=[])(w:World)(hs:pF w)(hm:lg w) :
  Calls Tryz.prog 111 #[.int .u64 n] w fun e w'=>∃s xa ca xb cb ok,e=.returned (.tuple #[.agg #[.string s,.slice xa 0 ca,.slice xb 0 cb],.bool ok])/\Below w.heap.size w w':=by
 by_cases h:1<=n/\n<=40
 ·obtain⟨k,rfl⟩:∃k:Nat,n=(k:Int)+1:=⟨(n-1).toNat,by omega⟩
  have hk:k<40:=by omega
  unfold MF at hc;unfold ME at hr;rw[aD h]at hc hr;have hkn:((k:Int)+1).toNat-1=k:=by omega
  rw[hkn]at hc hr;have e1:cC k=[]:=hc;have e2:cR k=[]:=hr;refine(UE k hk w hs hm).mono ?_;rintro e w' ⟨v,rfl,⟨a,b,rfl,hA,hB⟩,hb⟩;rw[e1]at hA;rw[e2]at hB;obtain⟨xa,ca,rfl,-⟩:=hA;obtain⟨xb,cb,rfl,-⟩:=hB;exact⟨_,_,_,_,_,_,rfl,hb⟩
 ·refine(XF n h w).mono ?_
  rintro e w' ⟨rfl,hb⟩;exact⟨_,_,_,_,_,_,rfl,hb⟩
theorem Nk(W:World)(x:Value):(W.alloc (.cells #[x] 37)).ownsRow 0 37 1 (.slice (some ⟨W.heap.size,0,none⟩) 1 1) 1 [x] :=
 ⟨rfl,.inr ⟨_,1,_,rfl,Nat.zero_le _,aR.new _ _ _,aj _,by unfold maxLen;decide,rfl,rfl⟩⟩
structure adb(w wx:World)(sb:Nat)(s:ByteArray)(xa xb:Option Addr)(ca cb:Nat):Prop where
 eO:Below w.heap.size w wx
 blk:aR wx sb #[.string s,.slice xa 0 ca,.slice xb 0 cb] 237
 ge:w.heap.size<=sb
theorem Nf(w:World)(g:Gh)(K:Km)(o:Ob)(h:cZ w g K)(hI:Inv g K)(ho:K.obj o.name=some o)(hk:o.kind=3)(hs:pF w)(hm:lg w){K':Km}(hres:K.CU o=some K') :
  Calls Tryz.prog 94 #[.pointer (some ⟨g.kb,0,none⟩),.pointer (some ⟨g.bl o.name,0,none⟩)] w fun e w'=>e=.returned (.tuple #[])/\∃g',eD w g K' w' g':=by
 unfold Km.CU at hres;split at hres
 ·rename_i hcr
  obtain⟨hc,hr⟩:=hcr
  cases hres;obtain⟨x,hT⟩:=h.gQ ho hk;have t0:=h.pU ho hk;have r0:w.cell? ⟨g.tl o.name,0,none⟩=some (.int .u64 (o.th.r 0)):=hT.reg (by omega)
  have n0:w.cell? ⟨g.bl o.name,2,none⟩=some (.int .u64 o.name):=by
   obtain⟨s,T,hO⟩:=h.at ho;exact hO.name
  have Xp:=ah (Nt (o.th.r 0) hc hr w hs hm);have H:=ah h;have HI:=ah hI;have HO:=ah ho;have HK:=ah hk;have HT:=ah hT;have ltl:=hT.blk.lt;have lbl:=bn w _ t0;obtain⟨tb,htb⟩:∃tb,g.tl o.name=tb:=⟨_,rfl⟩;obtain⟨bb,hbb⟩:∃bb,g.bl o.name=bb:=⟨_,rfl⟩;have vD:=ah htb;have wm:=ah hbb;rw[htb]at t0 r0 ltl;rw[hbb]at t0 n0 lbl;rw[hbb];clear h hI ho hk hs hm hT hc hr htb hbb;go_enter Tryz.func94,Tryz.ntmps94
  go_upto_region 1 with fail
  go_cut [5,6] (fun v5 v6 wx=>∃sb s xa xb ca cb,v5=.pointer (some ⟨sb,0,none⟩)/\Hid (adb w wx sb s xa xb ca cb))
  case first =>
   go_wp2_with fail
   refine Xp.out.mono ?_;rintro e w1 ⟨s,xa,ca,xb,cb,ok,rfl,hb1⟩;have HB1:=ah hb1;clear hb1 Xp;go_wp2_with fail
   go_meet;exact⟨_,s,xa,xb,ca,cb,rfl,ah ⟨aT HB1.out ((aC _ w1).alloc (aj _) _),aR.new _ _ _,HB1.out.size⟩⟩
  case rest =>
   obtain⟨sb,s,xa,xb,ca,cb,rfl,HP⟩:=hcut;clear Xp r0;obtain⟨w1,hw1⟩:∃w1,w1=wc:=⟨_,rfl⟩;subst hw1;have hM:eD w g K w1 g:=(eD.refl H.out HI.out).below HP.out.eO;have hT1:=HT.out.below HP.out.eO;have t1:w1.cell? ⟨bb,19,none⟩=some (.pointer (some ⟨tb,0,none⟩)):=(HP.out.eO.cell (p:=⟨bb,19,none⟩) lbl).trans t0;have n1:w1.cell? ⟨bb,2,none⟩=some (.int .u64 o.name):=(HP.out.eO.cell (p:=⟨bb,2,none⟩) lbl).trans n0;have hB1:=hT1.blk;rw[vD.out]at hB1;have c33:w1.cell? ⟨tb,33,none⟩=some x.bZ:=(hB1.cell 33).trans rfl;have f33:w1.frozen? ⟨tb,33,none⟩=false:=hB1.free 33;have HM:=ah hM;have HT1:=ah hT1;have HB1:=ah hB1;have l1:=HP.out.eO.size;have hlt:tb<w1.heap.size:=hB1.lt;clear t0 n0 hM hT1 hB1;go_upto_region 2 with fail
   go_cut [] (fun wx=>∃lb,Hid (eD w g (K.set (o.dL { o.th.cont with bZ:=[o.name] })) wx (g.own lb (o.name,12)))/\Hid (wx.cell? ⟨tb,33,none⟩=some (.slice (some ⟨lb,0,none⟩) 1 1)/\aR wx sb #[.string s,.slice xa 0 ca,.slice xb 0 cb] 237))
   case first =>
    go_wp2_with fail
    go_meet
    have hst:∀wx,wx=(w1.alloc (.cells #[.int .u64 o.name] 37)).setCell ⟨tb,33,none⟩ (.slice (some ⟨w1.heap.size,0,none⟩) 1 1)->∃lb,Hid (eD w g (K.set (o.dL { o.th.cont with bZ:=[o.name] })) wx (g.own lb (o.name,12)))/\Hid (wx.cell? ⟨tb,33,none⟩=some (.slice (some ⟨lb,0,none⟩) 1 1)/\aR wx sb #[.string s,.slice xa 0 ca,.slice xb 0 cb] 237):=by
     intro wx hwx
     have hBx:aR wx tb (jw (o.dL { o.th.cont with bZ:=[o.name] }).th { x with bZ:=.slice (some ⟨w1.heap.size,0,none⟩) 1 1 } (g.root o.name) (g.tabs o.name)) 52:=by
      rw[hwx];exact((HB1.out.alloc _).set 33 _).cells (uJ _ _ _ _ _ _)
     have hk1:Kept (·=g.tl o.name) w1 wx:=by
      rw[hwx,vD.out];exact((Kept.refl (·=tb) w1).alloc _).bC _ _ _ rfl
     have hsz:wx.heap.size=w1.heap.size+1:=by rw[hwx,World.size_setCell,au]
     have hrow:wx.ownsRow 0 37 1 (.slice (some ⟨w1.heap.size,0,none⟩) 1 1) 1 ([o.name].map (.int .u64)):=by
      rw[hwx];exact dA (Nk w1 (.int .u64 o.name)) ((Kept.refl (·=tb) _).bC _ _ _ rfl) (fun b hb q=>by cases hb;exact absurd (show w1.heap.size=tb from q) (by omega))
     have hnm:=eB.own (A:=g.A) (tg:=(o.name,12)) (l:=[o.name]) hrow rfl;refine⟨w1.heap.size,ah (HM.out.ML HO.out HK.out (abw HM.out.kin HO.out HK.out (by omega) (.inl (aj _)) (by omega) hk1) HT1.out (by rw[vD.out];exact hBx) hnm),ah ⟨(hBx.cell 33).trans rfl,?_⟩⟩
     ·rw[hwx]
      exact((HP.out.blk.alloc _).aI (a:=⟨tb,33,none⟩) (by show tb≠sb;have:=HP.out.ge;omega) _)
    exact hst _ (World.setCell_alloc_past _ _ _ _ hlt).symm
   case rest =>
    obtain⟨lb,Xr,HS2⟩:=hcut;clear t1 n1 c33 f33 HM HT1 HB1 l1 hlt;obtain⟨w2,hw2⟩:∃w2,w2=wc:=⟨_,rfl⟩;subst hw2;obtain⟨x2,DJ⟩:=Xr.out.kin.gQ (o:=o.dL { o.th.cont with bZ:=[o.name] }) (n:=o.name) (Km.dz K _) HK.out;have hB2:=DJ.blk
    have e33:x2.bZ=.slice (some ⟨lb,0,none⟩) 1 1:=by
     have h1:=hB2.cell 33;have h2:g.tl (o.dL { o.th.cont with bZ:=[o.name] }).name=tb:=vD.out;rw[show(g.own lb (o.name,12)).tl=g.tl from rfl,h2,HS2.out.1]at h1;exact(Option.some.inj (h1.trans rfl)).symm
    have c33:=HS2.out.1
    have hB2':aR w2 tb (jw (o.dL { o.th.cont with bZ:=[o.name] }).th x2 (g.root o.name) (g.tabs o.name)) 52:=by
     have h2:g.tl (o.dL { o.th.cont with bZ:=[o.name] }).name=tb:=vD.out;rw[show(g.own lb (o.name,12)).tl=g.tl from rfl,h2]at hB2;exact hB2
    have f33:=hB2'.free 33;have f32:=hB2'.free 32;have c32:w2.cell? ⟨tb,32,none⟩=some (.int .i64 o.th.cont.phase):=(hB2'.cell 32).trans rfl;have s1:w2.cell? ⟨sb,1,none⟩=some (.slice xa 0 ca):=(HS2.out.2.cell 1).trans rfl;have s2:w2.cell? ⟨sb,2,none⟩=some (.slice xb 0 cb):=(HS2.out.2.cell 2).trans rfl;have hst:tb≠sb:=by have:=HP.out.ge;omega
    have HT2:=ah DJ;have HB2:=ah hB2';have HE:=ah e33;clear DJ hB2 hB2' e33;have HSo:=ah (JI (some ⟨lb,0,none⟩) 1 w2);have HCo:=ah (Bv (some ⟨lb,0,none⟩) 1 w2);go_wp2_with fail
    go_loopg [8,9,43] 1 (fun gg _ _ v43 wq=>v43=.int .i64 0/\w2=wq)
    case atStart=>exact⟨rfl,rfl⟩
    case round =>
     obtain⟨rfl,rfl⟩:=hrel;go_wp2_with fail
     refine HSo.out.mono ?_;rintro e w3 ⟨rfl,rfl⟩;go_wp2_with fail
     refine HCo.out.mono ?_;rintro e w3 ⟨rfl,rfl⟩;clear HSo HCo;obtain⟨w4,hw4⟩:∃w4,w4=w3.setCell ⟨tb,33,none⟩ (.slice (some ⟨lb,0,none⟩) 1 1):=⟨_,rfl⟩
     have hB4:aR w4 tb (jw (o.dL { o.th.cont with bZ:=[o.name] }).th x2 (g.root o.name) (g.tabs o.name)) 52:=by
      rw[hw4,<-HE.out];refine(HB2.out.set 33 _).cells ?_;rw[uJ (l:=[o.name])];rfl
     have hk4:Kept (·=tb) w3 w4:=by rw[hw4];exact(Kept.refl (·=tb) w3).bC _ _ _ rfl
     have s24:w4.cell? ⟨sb,2,none⟩=some (.slice xb 0 cb):=by
      rw[hw4];exact(((HS2.out.2).aI (a:=⟨tb,33,none⟩) hst _).cell 2).trans rfl
     have c324:w4.cell? ⟨tb,32,none⟩=some (.int .i64 o.th.cont.phase):=(hB4.cell 32).trans rfl;have f324:=hB4.free 32;have yO:=ah hB4;have Ib:=ah hk4;have Xk:=ah hw4;clear hB4 hk4 hw4;go_upto_block 2 with fail
     rw[<-Xk.out];clear Xk s1 s2 c32 c33 f32 f33;go_wp2_with fail
     go_loopg [11,12,103] 1 (fun gg _ _ v103 wq=>v103=.int .i64 0/\w4=wq)
     case atStart=>exact⟨rfl,rfl⟩
     case round =>
      obtain⟨rfl,rfl⟩:=hrel;go_wp2_with fail
      refine bodyPost_end (results_none rfl _ _ _) rfl ?_;refine⟨rfl,g.own lb (o.name,12),?_⟩;have h2:(g.own lb (o.name,12)).tl (o.dL { o.th.cont with bZ:=[o.name] }).name=tb:=vD.out;have hF:=Xr.out.nums (o:=o.dL { o.th.cont with bZ:=[o.name] }) (t:={ (o.dL { o.th.cont with bZ:=[o.name] }).th with cont:={ (o.dL { o.th.cont with bZ:=[o.name] }).th.cont with phase:=2 } }) (Km.dz K _) HK.out HT2.out (w':=w4.setCell ⟨tb,32,none⟩ (.int .i64 2)) (by rw[h2];exact Ib.out.bC _ _ _ rfl) (by rw[h2];exact(yO.out.set 32 _).cells (zF _ _ _ _ _)) ⟨rfl,rfl,rfl,rfl,rfl,rfl,rfl⟩ HT2.out.rows.regs HT2.out.rows.pc;have e5:=Km.set_set K (o.dL { o.th.cont with bZ:=[o.name] }) (o.dL { o.th.cont with bZ:=[o.name],phase:=2 }) rfl;rw[<-e5];exact hF
 ·cases hres
end Go.Proofs.YtiadbhiadhgjkaaGreatDoor
