import Derived.Test.YtiadbhiadhgjkaaGreatDoorZzMap
import Derived.Test.YtiadbhiadhgjkaaGreatDoorZzMp
import Derived.Deep.AppendLies
import Derived.Test.YtiadbhiadhgjkaaGreatDoorZzWoHm
import Derived.Deep.RegionHeld3
import Derived.Test.YtiadbhiadhgjkaaGreatDoorZzNc
import Derived.Test.YtiadbhiadhgjkaaGreatDoorZzLib
set_option maxRecDepth 100000
set_option maxHeartbeats 8000000
namespace Go.Proofs.YtiadbhiadhgjkaaGreatDoor
open Go.RowKit
attribute [local irreducible] World.setCell World.alloc World.drew World.setRow Calls Code.wp
def oQ(w:World)(v:Value)(l:List Int):Prop:=∃a c,v=.slice a l.length c/\l.length<=c/\c<=maxLen/\(l=[]\/∃b,a=some ⟨b,0,none⟩/\∀j,j<l.length->w.cell? ⟨b,j,none⟩=some (.int .u64 (l.getD j 0)))
theorem oQ.own{w:World}{base:Nat}{v:Value}{l:List Int}(h:w.ownsRow base 37 1 v l.length (l.map (.int .u64))):oQ w v l:=by
 rcases h.2 with⟨rfl,h0⟩|⟨g,cap,cur,rfl,_,hh,h3,h4,h5,h6⟩
 ·obtain rfl:l=[]:=List.eq_nil_of_length_eq_zero h0
  exact⟨_,_,rfl,aj _,Nat.zero_le _,.inl rfl⟩
 ·refine⟨_,_,rfl,h3,h4,.inr ⟨g,rfl,fun j hj=>?_⟩⟩
  rw[h.cellAt j (by omega)];simp[hj,List.getD]
def kW(x:Int):Nat->List Int->Int
 | _,[]=>-1
 | k,y::r=>if x=y then k else kW x (k+1) r
def xK(x:Int)(l:List Int):Int:=kW x 0 l
theorem Dw(x:Int)(l:List Int){k:Nat}{y:Int}(h:l[k]? = some y):kW x k (l.drop k)=if x=y then(k:Int)else kW x (k+1) (l.drop (k+1)):=by
 have hk:=(aW.1 h).1;rw[List.drop_eq_getElem_cons hk];have:l[k]=y:=(aW.1 h).2
 rw[this];rfl
theorem su(x:Int):∀(l:List Int) (k:Nat),x ∉ l->kW x k l=-1
 | [],_,_=>rfl
 | y::r,k,h=>by
  unfold kW;rw[aA (fun e=>h (by rw[e];exact bq ..)),su x r (k+1) (fun e=>h (List.mem_cons_of_mem _ e))]
theorem xL(x:Int):∀(l:List Int) (k:Nat),x∈l->(k:Int)<=kW x k l
 | [],_,h=>by cases h
 | y::r,k,h=>by
  unfold kW;by_cases e:x=y
  ·rw[aD e];exact Int.le_refl _
  ·rw[aA e]
   have:=xL x r (k+1) ((List.mem_cons.1 h).resolve_left e);omega
theorem NR(x:Int)(l:List Int):decide (0<=xK x l)=decide (x∈l):=by
 unfold xK;by_cases h:x∈l
 ·have:=xL x l 0 h
  simp only[h,decide_true,aY];omega
 ·rw[su x l 0 h];simp[h]
theorem Iu(l:List Int)(x:Int)(v:Value)(w:World)(h:oQ w v l) :
  Calls Tryz.prog 139 #[v,.int .u64 x] w fun e w'=>e=.returned (.int .i64 (xK x l))/\w'=w:=by
 obtain⟨a,c,rfl,h1,h2,h3⟩:=h;unfold maxLen at h2;have HL:=ah h3;clear h3;go_enter Tryz.func139,Tryz.ntmps139
 go_wp2_with fail
 go_loopg [8] l.length (fun gg vi wx=>∃k:Nat,k+gg=l.length/\vi=.int .i64 k/\wx=w/\Hid (xK x l=kW x k (l.drop k)))
 case atStart=>exact⟨0,by omega,rfl,rfl,ah rfl⟩
 case round =>
  obtain⟨k,hk,rfl,rfl,HI⟩:=hrel;by_cases hlt:k<l.length
  ·have hlt':(k:Int)<l.length:=by omega
   obtain⟨b,rfl,hc⟩:=HL.out.resolve_left (fun e=>by rw[e]at hlt;simp at hlt);have hck:=hc k hlt;obtain⟨y,hy⟩:∃y,l[k]? = some y:=⟨_,aQ hlt⟩;have hyd:l.getD k 0=y:=by rw[List.getD_eq_getElem?_getD,hy];rfl
   rw[hyd]at hck;have HN:=ah (Dw x l hy);clear hc hy hyd;by_cases hxy:x=y
   ·have hb:(x==y)=true:=by simp[hxy]
    have HF:Hid (xK x l=(k:Int)):=ah (by rw[HI.out,HN.out,aD hxy]);clear hxy;go_wp2_with fail
    go_ret;rw[HF.out];exact⟨rfl,rfl⟩
   ·have hb:(x==y)=false:=by simp[hxy]
    have HF:Hid (xK x l=kW x (k+1) (l.drop (k+1))):=ah (by rw[HI.out,HN.out,aA hxy]);clear hxy;go_wp2_with fail
    go_roundg (l.length-(k+1))
    case measure=>omega
    case rel=>exact⟨k+1,by omega,by go_num,rfl,HF⟩
  ·have hlt':¬(k:Int)<l.length:=by omega
   have HF:Hid (xK x l=-1):=ah (by rw[HI.out,List.drop_eq_nil_of_le (by omega)];rfl);go_wp2_with fail
   go_ret;rw[HF.out];exact⟨rfl,rfl⟩
theorem Bu(l:List Int)(x:Int)(v:Value)(w:World)(h:oQ w v l) :
  Calls Tryz.prog 117 #[v,.int .u64 x] w fun e w'=>e=.returned (.bool (decide (x∈l)))/\w'=w:=by
 have HI:=ah (Iu l x v w h);have HE:=ah (NR x l);obtain⟨i,hi⟩:∃i,xK x l=i:=⟨_,rfl⟩;have Hi:=ah hi;clear h hi;go_enter Tryz.func117,Tryz.ntmps117
 go_wp2_with fail
 refine HI.out.mono ?_;rintro e w1 ⟨rfl,rfl⟩;go_wp2_with fail
 go_ret;rw[<-HE.out];first
 | exact⟨rfl,rfl⟩
 | exact⟨by simp,rfl⟩
end Go.Proofs.YtiadbhiadhgjkaaGreatDoor
namespace Go.Proofs.YtiadbhiadhgjkaaGreatDoor
open Go.RowKit
def mH(x:Ob)(n:Int):Ob:=if n=0\/n∈x.q then x else { x with q:=x.q++[n],ver:=if x.q=[]then wu (x.ver+1)else x.ver }
def jK(x:Ob)(n:Int):Ob:=if n∈x.q then { x with q:=x.q.erase n,ver:=if x.q.head? = some n then(if x.q.erase n=[]then wu (x.ver+1)else wu (wu (x.ver+1)+1))else x.ver }else x
section
variable {w w6:World}{g:Gh}{K:Km}{o:Ob}
theorem cZ.Na(h:cZ w g K)(ho:K.obj o.name=some o){s:Os}{T:Value}(hB:aR w (g.bl o.name) (jO o s (g.mt o.name) T) 68)(hR:fM w g.A (g.bl o.name) o s (g.fr o.name))
  (h3:o.kind=3->T=.pointer (some ⟨g.tl o.name,0,none⟩)/\vv w g.A o.name (g.tl o.name) o.th (g.root o.name) (g.tabs o.name)) (hT:o.kind≠3->T=.pointer none)
  {g5 cap:Nat} {l:List Int} {ver:Int} (hg5:s.q.ownBlock=some g5\/w.heap.size<=g5) (hk:Kept (kR s.q (g.bl o.name)) w w6) (hB6:aR w6 (g.bl o.name) (jO { o with q:=l,ver:=ver } { s with q:=.slice (some ⟨g5,0,none⟩) l.length cap } (g.mt o.name) T) 68)
  (hrow:w6.ownsRow 0 37 1 (.slice (some ⟨g5,0,none⟩) l.length cap) l.length (l.map (.int .u64))) :
  cZ w6 (g.own g5 (o.name,1)) (K.set { o with q:=l,ver:=ver })/\Ext g (g.own g5 (o.name,1)) w w6:=by
 have hx:=(h.objs _ _ ho).2;have hm:dS w (kR s.q (g.bl o.name)):=nQ hB hR.q.row (by decide) (by decide);have hold:=qy (hv:=hR.q.tag) h.kS hg5
 have hs:∀b,kR s.q (g.bl o.name) b->g.A b=some (o.name,1)\/g.A b=some (o.name,0):=fun b q=>by
  rcases q with q|q
  ·exact .inl (hR.q.tag b q)
  ·rw[q];exact .inr hx.tag
 have uU:g5<w6.heap.size:=uO hrow rfl;have hl0:=dK.own g (b:=g5) (tg:=(o.name,1)) hold;have Oo:eB w6 (g.own g5 (o.name,1)).A (o.name,1) (.slice (some ⟨g5,0,none⟩) l.length cap) l:=⟨hrow,fun b hb=>by cases hb;rw[Gh.jm,aD rfl]⟩;refine h.wrote (o:=o) (s':={ s with q:=.slice (some ⟨g5,0,none⟩) l.length cap }) (T:=T) hk hm ho (fun b q ql=>(hs b q).elim (fun e=>⟨1,e⟩) (fun e=>⟨0,e⟩)) hl0 (fun m=>dO.own g g5 _ m) ⟨rfl,rfl,rfl⟩ rfl ?_ ?_ rfl hB6 ?_ ?_ hT
 ·intro b hb e
  rw[Gh.jm,aA];· exact e
  rintro rfl;rcases hg5 with e1|e1
  ·have:=hR.q.tag _ e1;rw[e]at this;cases this
  ·omega
 ·intro b hb
  rw[Gh.jm,aA (by omega)];exact h.kS b (bD hk.size hb)
 ·exact hR.abt hk hm (fun c q ql i h1 h5 h2 e=>by rcases hs c q with e1|e1<;>· rw[e1]at e;cases e;omega) hl0.A ver Oo
 ·intro e
  refine⟨(h3 e).1,(h3 e).2.kept hk hm (fun c q ql i h10 e2=>by rcases hs c q with e1|e1<;>· rw[e1]at e2;cases e2;omega) hl0.A⟩
theorem eD.Na{w0:World}{g0:Gh}(h:eD w0 g0 K w g)(ho:K.obj o.name=some o){g5:Nat}{l:List Int}{ver:Int}(h1:cZ w6 (g.own g5 (o.name,1)) (K.set { o with q:=l,ver:=ver }))(h2:Ext g (g.own g5 (o.name,1)) w w6) :
  eD w0 g0 (K.set { o with q:=l,ver:=ver }) w6 (g.own g5 (o.name,1)):=by
 refine h.step h1 ?_ h2
 exact h.inv.set ho (o':={ o with q:=l,ver:=ver }) ⟨rfl,rfl,rfl,rfl,rfl,rfl⟩ rfl (fun e=>by have c:=h.inv.cont _ o ho e;exact⟨c.names,c.next,c.used,c.given,c.sum,c.lim⟩) (fun b n i e=>by
  change (g.own g5 (o.name,1)).A b=some (n,i)at e;rw[Gh.jm]at e;split at e
  ·cases e;exact .inr rfl
  ·exact .inl e)
end
end Go.Proofs.YtiadbhiadhgjkaaGreatDoor
namespace Go.Proofs.YtiadbhiadhgjkaaGreatDoor
def Sq:List (List Nat):=[[],[],[],[],[],[1],[1],[1],[1],[1],[1,2],[],[],[],[1,2],[1],[],[1],[1],[1],[1],[],[],[],[1],[],[1],[1],[],[1],[1],[],[],[1],[],[],[],[],[],[]]
def Sn:List (List Nat):=[[],[],[],[],[1],[],[],[],[],[],[],[1],[1],[1],[],[],[1],[],[3],[3],[],[1],[1],[],[],[1],[],[],[],[],[],[],[],[],[1],[1],[1],[],[1],[1]]
def MF(n:Int):List Nat:=if 1<=n/\n<=40 then Sq.getD (n.toNat-1) []else []
def ME(n:Int):List Nat:=if 1<=n/\n<=40 then Sn.getD (n.toNat-1) []else []
def Ob.dL(o:Ob)(c:Cont):Ob:=o.eF { o.th with cont:=c }
def Km.CU(K:Km)(o:Ob):Option Km:=if MF (o.th.r 0)=[]/\ME (o.th.r 0)=[]then some (K.set (o.dL { o.th.cont with bZ:=[o.name],phase:=2 }))else none
def Th.ans(t:Th)(e x y:Int):Th:={ t with r:=upd (upd (upd t.r 0 e) 1 (if e=0 then x else 0)) 2 (if e=0 then y else 0) }
def Km.Ir(K:Km)(o:Ob):Option (Km×Int) :=
 if o.th.cont.next=0/\o.th.cont.bZ=[o.name]/\o.q=[]/\o.name≠0 then
  some (K.set ((mH o o.name).dL { o.th.cont with next:=1,phase:=3 }),2)
 else none
def Km.AV(K:Km)(o:Ob):Option (Km×Int):=if o.th.cont.reads=[]then some (K.set (o.dL { o.th.cont with seen:=[],phase:=4 }),2)else none
structure vT where
 (K:Km) (e x y:Int) (gone:Bool)
def Km.SC(cl:Km->Ob->Option vT)(K:Km)(o:Ob):Option (Km×Int) :=
 if o.th.cont.reads≠[]then none else
 let o1:=o.dL { o.th.cont with phase:=5 }
 match cl { K.set o1 with done:=false } o1 with
 | none=>none
 | some c=>match c.K.obj o.name with
  | none=>none
  | some o2=>if o2.kind=3/\o2.q=[o.name]/\c.K.done=false/\c.gone=false/\(0<=c.x/\c.x<=18446744073709551615)/\(0<=c.y/\c.y<=18446744073709551615)/\(0<=c.e/\c.e<=100)then some (c.K.set (o2.eF (o2.th.ans c.e c.x c.y)),3)else none
def Km.AY(K:Km)(o:Ob):Option (Km×Int) :=
 let c:=o.th.cont
 if c.bZ=[o.name]/\o.q.length<=1000 then some (K.set ((jK o o.name).dL { c with bZ:=[],phase:=6 }),2)else none
def Km.Gi(K:Km)(o:Ob):Option (Km×Int):=if o.th.cont.picks=[]then some (K.set (o.dL rO),2)else none
def Km.FR(cl:Km->Ob->Option vT)(K:Km)(o:Ob):Option (Km×Int) :=
 let p:=o.th.cont.phase
 if p=1 then(K.CU o).map fun K'=>(K',2)
 else if p=2 then K.Ir o
 else if p=3 then K.AV o
 else if p=4 then K.SC cl o
 else if p=5 then K.AY o
 else if p=6 then K.Gi o
 else none
end Go.Proofs.YtiadbhiadhgjkaaGreatDoor
namespace Go.Proofs.YtiadbhiadhgjkaaGreatDoor
open Go.RowKit
theorem eB.own{w:World}{A:Nat->Option (Int×Nat)}{tg:Int×Nat}{l:List Int}{b n cap:Nat}(hrow:w.ownsRow 0 37 1 (.slice (some ⟨b,0,none⟩) n cap) n (l.map (.int .u64)))(hn:n=l.length):eB w (fun c=>if c=b then some tg else A c) tg (.slice (some ⟨b,0,none⟩) n cap) l:=by
 subst hn;exact⟨hrow,fun c hc=>by cases hc;exact aD rfl⟩
structure SF(g:Gh)(n:Int)(i gb:Nat)(w w':World)(S:Nat->Prop):Prop where
 kept:Kept S w w'
 mild:dS w S
 own:∀b,S b->b<w.heap.size->b=g.tl n\/g.A b=some (n,i)
 whose:w.heap.size<=gb\/g.A gb=some (n,i)
 lt:gb<w'.heap.size
 ge:11<=i
theorem kY.lists{w w':World}{g:Gh}{n:Int}{t:Th}{x:Ts}{i gb:Nat}{S:Nat->Prop}(h:kY w g.A n t x)(htl:g.A (g.tl n)=some (n,10))(hn:∀b,w.heap.size<=b->g.A b=none)(k:SF g n i gb w w' S) :
  bg w' x.cp t.clear.ps/\(i≠11->eB w' (g.own gb (n,i)).A (n,11) x.al t.qF)/\(i≠12->eB w' (g.own gb (n,i)).A (n,12) x.bZ t.cont.bZ)/\(i≠13->eB w' (g.own gb (n,i)).A (n,13) x.reads t.cont.reads) /\
  (i≠14->eB w' (g.own gb (n,i)).A (n,14) x.seen t.cont.seen)/\(i≠15->eB w' (g.own gb (n,i)).A (n,15) x.picks t.cont.picks):=by
 have hA:∀b tg,g.A b=some tg->(g.own gb (n,i)).A b=some tg:=(dK.own g (k.whose.elim (fun e=>.inl (hn _ e)) .inr)).A
 have hs:∀j,11<=j->i≠j->∀b,S b->b<w.heap.size->g.A b≠some (n,j):=fun j hj hij b q ql e=>by
  rcases k.own b q ql with e1|e1
  ·rw[e1,htl]at e;cases e;omega
  ·rw[e1]at e;cases e;exact hij rfl
 exact⟨h.gG.mild k.kept k.mild,fun e=>Own.kept h.al k.kept (hs 11 (by omega) e) hA,fun e=>Own.kept h.bZ k.kept (hs 12 (by omega) e) hA,fun e=>Own.kept h.reads k.kept (hs 13 (by omega) e) hA,fun e=>Own.kept h.seen k.kept (hs 14 (by omega) e) hA,fun e=>Own.kept h.picks k.kept (hs 15 (by omega) e) hA⟩
section
variable {w0 w w':World}{g0 g:Gh}{K:Km}{o:Ob}
theorem eD.yS(h:eD w0 g0 K w g)(ho:K.obj o.name=some o)(hk:o.kind=3){i gb:Nat}{S:Nat->Prop}(k:SF g o.name i gb w w' S){x':Ts}{t:Th}(hB:aR w' (g.tl o.name) (jw t x' (g.root o.name) (g.tabs o.name)) 52)
  (hR:kY w' (g.own gb (o.name,i)).A o.name t x') (hs:t.space=o.th.space):eD w0 g0 (K.set (o.eF t)) w' (g.own gb (o.name,i)):=by
 obtain⟨x,hT⟩:=h.kin.gQ ho hk;have hold:g.A gb=none\/g.A gb=some (o.name,i):=k.whose.elim (fun e=>.inl (h.kin.kS _ e)) .inr
 obtain⟨k1,k2⟩:=h.kin.yS (g':=g.own gb (o.name,i)) ho hk k.kept k.mild (fun b q ql=>by
   rcases k.own b q ql with e|e
   ·exact⟨10,aj _,by rw[e];exact hT.tag⟩
   ·exact⟨i,by have:=k.ge;omega,e⟩) (dK.own g hold) (fun n _=>dO.own g _ _ n) ⟨rfl,rfl,rfl,rfl⟩ ⟨rfl,rfl,rfl⟩ rfl
  (fun b hb e=>by
   rw[Gh.jm,aA];· exact e
   rintro rfl;rcases k.whose with e1|e1
   ·omega
   ·rw[e]at e1;cases e1)
  (fun b hb=>by
   rw[Gh.jm,aA (by have:=k.lt;omega)];exact h.kin.kS b (bD k.kept.size hb)) hB hR
 refine h.step k1 ?_ k2
 exact h.inv.set (o':=o.eF t) (A':=(g.own gb (o.name,i)).A) ho ⟨rfl,rfl,rfl,rfl,rfl,hs⟩ rfl (fun q=>by have:o.kind=1:=q;omega) (fun b n j e=>by
  rw[Gh.jm]at e;split at e
  ·cases e;exact .inr rfl
  ·exact .inl e)
theorem eD.nums(h:eD w0 g0 K w g)(ho:K.obj o.name=some o)(hk:o.kind=3){x:Ts}(hT:rz w g o.name o.th x)(k:Kept (·=g.tl o.name) w w'){t:Th}(hB:aR w' (g.tl o.name) (jw t x (g.root o.name) (g.tabs o.name)) 52)
  (hs:t.space=o.th.space/\t.clear=o.th.clear/\t.qF=o.th.qF/\t.cont.bZ=o.th.cont.bZ/\t.cont.reads=o.th.cont.reads/\t.cont.seen=o.th.cont.seen/\t.cont.picks=o.th.cont.picks)
  (Oh:∀i,0<=t.r i/\t.r i<=18446744073709551615) (hpc:0<=t.pc/\t.pc<=18446744073709551615):eD w0 g0 (K.set (o.eF t)) w' g:=by
 obtain⟨s1,s2,s3,s4,s5,s6,s7⟩:=hs;obtain⟨k1,k2⟩:=h.kin.AA ho hk hT k hB ⟨rfl,rfl,rfl,rfl,rfl⟩ ⟨s3,s4,s5,s6,s7⟩ (by rw[s2];exact(hT.rows.kept k (dS.of hT.blk (by decide)) (A':=g.A) (fun c q _ i hi e=>by rw[q,hT.tag]at e;cases e;omega) (fun _ _ e=>e)).gG) Oh hpc (by rw[s2];exact hT.rows.VN);exact h.step k1 (h.inv.Ct ho hk s1) k2
end
theorem zF(t:Th)(x:Ts)(a b v:Int):(jw t x a b).setIfInBounds 32 (.int .i64 v)=jw { t with cont:={ t.cont with phase:=v } } x a b:=by
 unfold jw;simp only[ay,aG,aH]
theorem uJ(t:Th)(x:Ts)(a b:Int)(v:Value)(l:List Int):(jw t x a b).setIfInBounds 33 v=jw { t with cont:={ t.cont with bZ:=l } } { x with bZ:=v } a b:=by
 unfold jw;simp only[ay,aG,aH]
theorem Mw(t:Th)(x:Ts)(a b v:Int):(jw t x a b).setIfInBounds 34 (.int .i64 v)=jw { t with cont:={ t.cont with next:=v } } x a b:=by
 unfold jw;simp only[ay,aG,aH]
theorem Mt(t:Th)(x:Ts)(a b:Int)(v:Value)(l:List Int):(jw t x a b).setIfInBounds 36 v=jw { t with cont:={ t.cont with seen:=l } } { x with seen:=v } a b:=by
 unfold jw;simp only[ay,aG,aH]
section
variable {w0 w w':World}{g0 g:Gh}{K:Km}{o:Ob}
theorem eD.phase(h:eD w0 g0 K w g)(ho:K.obj o.name=some o)(hk:o.kind=3)(v:Int):eD w0 g0 (K.set (o.dL { o.th.cont with phase:=v })) (w.setCell ⟨g.tl o.name,32,none⟩ (.int .i64 v)) g:=by
 obtain⟨x,hT⟩:=h.kin.gQ ho hk;exact h.nums ho hk hT ((Kept.refl (·=g.tl o.name) w).bC _ _ _ rfl) ((hT.blk.set 32 _).cells (zF _ _ _ _ _)) ⟨rfl,rfl,rfl,rfl,rfl,rfl,rfl⟩ hT.rows.regs hT.rows.pc
theorem eD.XG(h:eD w0 g0 K w g)(ho:K.obj o.name=some o)(hk:o.kind=3)(v:Int):eD w0 g0 (K.set (o.dL { o.th.cont with next:=v })) (w.setCell ⟨g.tl o.name,34,none⟩ (.int .i64 v)) g:=by
 obtain⟨x,hT⟩:=h.kin.gQ ho hk;exact h.nums ho hk hT ((Kept.refl (·=g.tl o.name) w).bC _ _ _ rfl) ((hT.blk.set 34 _).cells (Mw _ _ _ _ _)) ⟨rfl,rfl,rfl,rfl,rfl,rfl,rfl⟩ hT.rows.regs hT.rows.pc
theorem eD.reg(h:eD w0 g0 K w g)(ho:K.obj o.name=some o)(hk:o.kind=3){j:Nat}(hj:j<16){v:Int}(hv:0<=v/\v<=18446744073709551615) :
  eD w0 g0 (K.set (o.eF { o.th with r:=upd o.th.r j v })) (w.setCell ⟨g.tl o.name,j,none⟩ (.int .u64 v)) g:=by
 obtain⟨x,hT⟩:=h.kin.gQ ho hk;exact h.nums ho hk hT ((Kept.refl (·=g.tl o.name) w).bC _ _ _ rfl) ((hT.blk.set j _).cells (Ig _ _ _ _ _ j hj)) ⟨rfl,rfl,rfl,rfl,rfl,rfl,rfl⟩ (zD hT.rows.regs hv) hT.rows.pc
theorem abw(h:cZ w g K)(ho:K.obj o.name=some o)(hk:o.kind=3){i gb:Nat}(hi:11<=i)(hgb:w.heap.size<=gb\/g.A gb=some (o.name,i))(hlt:gb<w'.heap.size)(k:Kept (·=g.tl o.name) w w'):SF g o.name i gb w w' (·=g.tl o.name):=by
 obtain⟨x,hT⟩:=h.gQ ho hk;exact⟨k,dS.of hT.blk (by decide),fun b q _=>.inl q,hgb,hlt,hi⟩
theorem eD.ML(h:eD w0 g0 K w g)(ho:K.obj o.name=some o)(hk:o.kind=3){gb:Nat}{S:Nat->Prop}(k:SF g o.name 12 gb w w' S){x:Ts}(hT:rz w g o.name o.th x){l:List Int}{v:Value}(hB:aR w' (g.tl o.name) (jw (o.dL { o.th.cont with bZ:=l }).th { x with bZ:=v } (g.root o.name) (g.tabs o.name)) 52)
  (hl:eB w' (g.own gb (o.name,12)).A (o.name,12) v l):eD w0 g0 (K.set (o.dL { o.th.cont with bZ:=l })) w' (g.own gb (o.name,12)):=by
 obtain⟨h1,h2,-,h4,h5,h6⟩:=hT.rows.lists hT.tag h.kin.kS k;exact h.yS ho hk k hB ⟨h1,h2 (by omega),hl,h4 (by omega),h5 (by omega),h6 (by omega),hT.rows.regs,hT.rows.pc,hT.rows.VN⟩ rfl
end
end Go.Proofs.YtiadbhiadhgjkaaGreatDoor
namespace Go.Proofs.YtiadbhiadhgjkaaGreatDoor
open Go.RowKit
attribute [local irreducible] World.setCell World.alloc World.drew World.setRow Calls Code.wp
structure LkV(w:World)(b:Nat)(x:Ob)(qa:Option Addr)(qc:Nat):Prop where
 q:w.cell? ⟨b,0,none⟩=some (.slice qa x.q.length qc)
 ver:w.cell? ⟨b,1,none⟩=some (.int .u64 x.ver)
 row:oQ w (.slice qa x.q.length qc) x.q
theorem cZ.lkV{w:World}{g:Gh}{K:Km}{x:Ob}(h:cZ w g K)(hx:K.obj x.name=some x):∃qa qc,LkV w (g.bl x.name) x qa qc:=by
 obtain⟨s,T,hO⟩:=h.at hx;have hB:=hO.blk;have hR:=hO.rows;obtain⟨sq,sk,sf,sm,sl,sc,so,si,sr⟩:=s;have h1:oQ w sq x.q:=oQ.own hR.q.row;obtain⟨qa,qc,rfl,h2,h3,h4⟩:=h1;exact⟨qa,qc,(hB.cell 0).trans rfl,(hB.cell 1).trans rfl,⟨qa,qc,rfl,h2,h3,h4⟩⟩
theorem KE(w:World)(g:Gh)(K:Km)(x:Ob)(n:Int)(h:cZ w g K)(hx:K.obj x.name=some x) :
  Calls Tryz.prog 119 #[.pointer (some ⟨g.bl x.name,0,none⟩),.int .u64 n] w fun e w'=>e=.returned (.bool (decide (x.q.head? = some n)))/\w'=w:=by
 obtain⟨qa,qc,hV⟩:=h.lkV hx;have k0:=hV.q;obtain⟨a,c,e,h2,h3,h4⟩:=hV.row
 cases e;generalize hb:g.bl x.name=b at *;clear h hx hV hb
 cases hq:x.q with
 | nil =>
  rw[hq]at k0;have k0':w.cell? ⟨b,0,none⟩=some (.slice qa 0 qc):=k0;clear k0 h4;go_enter Tryz.func119,Tryz.ntmps119
  go_wp2_with fail
  go_ret;exact⟨rfl,rfl⟩
 | cons y r =>
  obtain⟨qb,rfl,hc⟩:=h4.resolve_left (by rw[hq];simp);have k1:=hc 0 (by rw[hq];simp);rw[hq]at k0 k1;have k1':w.cell? ⟨qb,0,none⟩=some (.int .u64 y):=k1;have k0':w.cell? ⟨b,0,none⟩=some (.slice (some ⟨qb,0,none⟩) (r.length+1) qc):=k0;have hp:(0:Int)<(r.length:Int)+1:=by omega
  have hp2:(((r.length+1:Nat):Int))=(r.length:Int)+1:=by omega
  have hn:(0:Int)<=((r.length+1:Nat):Int):=by omega
  have hm:r.length+1<=qc:=by rw[hq]at h2;exact h2
  have he:decide ((y::r).head? = some n)=(y==n):=by
   by_cases e:y=n<;>simp[e]
  rw[he];clear k0 k1 hc hq h2;go_enter Tryz.func119,Tryz.ntmps119
  go_wp2_with fail
  go_ret;exact⟨rfl,rfl⟩
theorem Dh(x:Ob)(s:Os)(mt:Int)(T v:Value)(l:List Int):(jO x s mt T).setIfInBounds 0 v=jO { x with q:=l } { s with q:=v } mt T:=by
 unfold jO;simp only[ay,aG]
theorem wI(x:Ob)(s:Os)(mt:Int)(T:Value)(n:Int):(jO x s mt T).setIfInBounds 1 (.int .u64 n)=jO { x with ver:=n } s mt T:=by
 unfold jO;simp only[ay,aG,aH]
theorem zM{w w5 w7:World}{g:Gh}{K:Km}{x:Ob}{o:Obj}(h:cZ w g K)(hI:Inv g K)(hx:K.obj x.name=some x){s:Os}{T:Value}(hB:aR w (g.bl x.name) (jO x s (g.mt x.name) T) 68)(hR:fM w g.A (g.bl x.name) x s (g.fr x.name))
  (h3:x.kind=3->T=.pointer (some ⟨g.tl x.name,0,none⟩)/\vv w g.A x.name (g.tl x.name) x.th (g.root x.name) (g.tabs x.name)) (hT:x.kind≠3->T=.pointer none) {g5 cap:Nat} {n ver:Int}
  (hown5:w5.ownsRow 0 37 1 (.slice (some ⟨g5,0,none⟩) (x.q.length+1) cap) (x.q.length+1) (x.q.map (.int .u64)++[.int .u64 n])) (hgrow:(w.alloc o).grownBy w5 s.q.ownBlock) (hg5:s.q.ownBlock=some g5\/g5=(w.alloc o).heap.size)
  (k7:Kept (·=g.bl x.name) w5 w7) (hB7:aR w7 (g.bl x.name) (jO { x with q:=x.q++[n],ver:=ver } { s with q:=.slice (some ⟨g5,0,none⟩) (x.q.length+1) cap } (g.mt x.name) T) 68) :
  eD w g (K.set { x with q:=x.q++[n],ver:=ver }) w7 (g.own g5 (x.name,1)):=by
 have htag:=(h.objs _ _ hx).2.tag
 have hne:g5≠g.bl x.name:=fun e=>by
  rcases hg5 with e1|e1
  ·have:=hR.q.tag _ e1;rw[e,htag]at this;cases this
  ·rw[au]at e1
   have:=hB.lt;omega
 have Og:=dA hown5 k7 (fun b hb q=>by cases hb;exact hne q);have hlen:(x.q++[n]).length=x.q.length+1:=by simp
 obtain⟨f1,f2⟩:=h.Na hx hB hR h3 hT (g5:=g5) (cap:=cap) (l:=x.q++[n]) (ver:=ver) (hg5.imp id (fun e=>by rw[e,au];omega))
  ((((Kept.refl _ w).alloc _).trans ((dG hgrow).mono (fun _ _ q=>.inl q))).trans (k7.mono (fun _ _ q=>.inr q))) (by rw[hlen];exact hB7) (by rw[hlen,List.map_append];exact Og)
 exact(eD.refl h hI).Na hx f1 f2
theorem NQ(w:World)(g:Gh)(K:Km)(x:Ob)(n:Int)(h:cZ w g K)(hI:Inv g K)(hx:K.obj x.name=some x)(hl:x.q.length<=1000000) :
  Calls Tryz.prog 118 #[.pointer (some ⟨g.bl x.name,0,none⟩),.int .u64 n] w fun e w'=>e=.returned (.tuple #[])/\∃g',eD w g (K.set (mH x n)) w' g':=by
 obtain⟨s,T,hB,hR,h3,hT⟩:=(h.objs _ _ hx).2.ex;obtain⟨qa,qc,hq,hq1,hq2⟩:=hR.q.form;obtain⟨sq,sk,sf,sm,sl,sc,so,si,sr⟩:=s;simp only at hq;subst hq;have HC:=ah (Bu x.q n _ w (oQ.own hR.q.row));have H:=ah h;have HI:=ah hI;have HX:=ah hx;have HB:=ah hB;have HR:=ah hR;have H3:=ah h3;have HT:=ah hT;have c0:w.cell? ⟨g.bl x.name,0,none⟩=some (.slice qa x.q.length qc):=(hB.cell 0).trans rfl;have htag:=(h.objs _ _ hx).2.tag;have Wh:=ah htag;have hbl:=hB.lt;obtain⟨i0,hi0,hz0,hz1,hz2⟩:=info_parts qm;have yM:=ah hi0;have lJ:=ah hz0;have lI:=ah hz1;have kT:=ah hz2;obtain⟨b,hb⟩:∃b,g.bl x.name=b:=⟨_,rfl⟩;rw[hb]at c0 hbl;have Hb:=ah hb;rw[hb];clear h hI hx hB hR h3 hT hi0 hz0 hz1 hz2 htag hb;by_cases h0:n=0
 ·have hb0:(n==0)=true:=by simp[h0]
  have he:mH x n=x:=by unfold mH;rw[aD (.inl h0)]
  have HE:=ah he;clear he h0;go_enter Tryz.func118,Tryz.ntmps118
  go_wp2_with fail
  refine bodyPost_ret (results_none rfl _ _ _) rfl ?_;rw[HE.out,Km.set_self HX.out];exact⟨rfl,g,eD.refl H.out HI.out⟩
 ·have hb0:(n==0)=false:=by simp[h0]
  have H0:=ah h0;clear h0;go_enter Tryz.func118,Tryz.ntmps118
  go_wp2_with fail
  refine HC.out.mono ?_;rintro e w1 ⟨rfl,rfl⟩;by_cases hm:n∈x.q
  ·have hd:decide (n∈x.q)=true:=bK hm
   rw[hd];have he:mH x n=x:=by unfold mH;rw[aD (.inr hm)]
   have HE:=ah he;clear he hm hd;go_wp2_with fail
   refine bodyPost_ret (results_none rfl _ _ _) rfl ?_;rw[HE.out,Km.set_self HX.out];exact⟨rfl,g,eD.refl H.out HI.out⟩
  ·have hd:decide (n∈x.q)=false:=aX hm
   rw[hd];have he:mH x n={ x with q:=x.q++[n],ver:=if x.q=[]then wu (x.ver+1)else x.ver }:=by unfold mH;rw[aA (by rintro(e|e);exact H0.out e;exact hm e)]
   have HE:=ah he;clear he hm hd HC
   have WH:Hid (∀w5,(w1.alloc (.cells #[.int .u64 n] 37)).grownBy w5 (Value.slice qa x.q.length qc).ownBlock->aR w5 b (jO x ⟨.slice qa x.q.length qc,sk,sf,sm,sl,sc,so,si,sr⟩ (g.mt x.name) T) 68):=ah (fun w5 hg=>by
    have h1:=HB.out;rw[Hb.out]at h1;refine(dG hg).blk (h1.alloc _) (fun e=>?_);have h2:=HR.out.q.tag _ e;have h3:=Wh.out;rw[Hb.out]at h3;rw[h2]at h3;cases h3)
   by_cases hq0:x.q.length=0
   ·have hb1:((x.q.length:Int)+1==1)=true:=by simp[hq0]
    have hq0':=List.eq_nil_of_length_eq_zero hq0;have HQ:=ah hq0';have hcast:((x.q.length+1:Nat):Int)=(x.q.length:Int)+1:=by omega
    clear hq0 hq0';go_wp2_with (at_builtin;(refine wpList_append_lies _ rfl _ _ 46 rfl 0 37 i0 _ 1 8 Tryz.underlying46 yM.out lJ.out lI.out kT.out rfl (by decide) _ x.q.length (x.q.map (.int .u64)) rfl (HR.out.q.row.alloc _) ⟨w1.heap.size,0,none⟩ 1 1 [.int .u64 n] rfl rfl (World.news_of_block (aR.new w1 #[.int .u64 n] 37)) (fun u hu=>by simp at hu;subst hu;rfl) (by omega) (by unfold maxLen;omega) (by omega) (Nat.zero_le _) _ rfl ?_;intro g5 cap w5 hown5 fI hg5 uU;have ni:=WH.out w5 fI;have j0:w5.cell? ⟨b,0,none⟩=some (.slice qa x.q.length qc):=(ni.cell 0).trans rfl;have j1:w5.cell? ⟨b,1,none⟩=some (.int .u64 x.ver):=(ni.cell 1).trans rfl;have f0:w5.frozen? ⟨b,0,none⟩=false:=ni.free 0;have f1:w5.frozen? ⟨b,1,none⟩=false:=ni.free 1))
    refine bodyPost_end (results_none rfl _ _ _) rfl ?_;refine⟨rfl,g.own g5 (x.name,1),?_⟩;rw[HE.out,aD HQ.out];have hX:=Hb.out;subst hX;refine zM H.out HI.out HX.out HB.out HR.out H3.out HT.out hown5 fI hg5 (((Kept.refl (·=g.bl x.name) w5).bC _ _ _ rfl).bC _ _ _ rfl) (((ni.set 0 _).set 1 _).cells ?_);rw[Dh (l:=x.q++[n]),wC,wI]
   ·have hb1:((x.q.length:Int)+1==1)=false:=by simp only[beq_eq_false_iff_ne,bF];omega
    have HQ:=ah hq0;have hcast:((x.q.length+1:Nat):Int)=(x.q.length:Int)+1:=by omega
    clear hq0;go_wp2_with (at_builtin;(refine wpList_append_lies _ rfl _ _ 46 rfl 0 37 i0 _ 1 8 Tryz.underlying46 yM.out lJ.out lI.out kT.out rfl (by decide) _ x.q.length (x.q.map (.int .u64)) rfl (HR.out.q.row.alloc _) ⟨w1.heap.size,0,none⟩ 1 1 [.int .u64 n] rfl rfl (World.news_of_block (aR.new w1 #[.int .u64 n] 37)) (fun u hu=>by simp at hu;subst hu;rfl) (by omega) (by unfold maxLen;omega) (by omega) (Nat.zero_le _) _ rfl ?_;intro g5 cap w5 hown5 fI hg5 uU;have ni:=WH.out w5 fI;have j0:w5.cell? ⟨b,0,none⟩=some (.slice qa x.q.length qc):=(ni.cell 0).trans rfl;have j1:w5.cell? ⟨b,1,none⟩=some (.int .u64 x.ver):=(ni.cell 1).trans rfl;have f0:w5.frozen? ⟨b,0,none⟩=false:=ni.free 0;have f1:w5.frozen? ⟨b,1,none⟩=false:=ni.free 1))
    refine bodyPost_end (results_none rfl _ _ _) rfl ?_;refine⟨rfl,g.own g5 (x.name,1),?_⟩;rw[HE.out,aA (fun e=>HQ.out (by rw[e];rfl))];have hX:=Hb.out;subst hX;refine zM H.out HI.out HX.out HB.out HR.out H3.out HT.out hown5 fI hg5 ((Kept.refl (·=g.bl x.name) w5).bC _ _ _ rfl) ((ni.set 0 _).cells ?_);rw[Dh (l:=x.q++[n])]
end Go.Proofs.YtiadbhiadhgjkaaGreatDoor
namespace Go.Proofs.YtiadbhiadhgjkaaGreatDoor
open Go.RowKit
attribute [local irreducible] World.setCell World.alloc World.drew World.setRow Calls Code.wp row
theorem FD(n:Nat)(x:Int):(jB n x).map fA=(List.range n).map fun j=>Value.int .u8 (vY n x j):=by
 unfold jB;rw[List.map_map];refine List.map_congr_left fun j _=>?_
 have h:=Po n x j;show Value.int .u8 ((UInt8.ofNat (vY n x j).toNat).toNat:Int)=_
 have e:((UInt8.ofNat (vY n x j).toNat).toNat:Int)=vY n x j:=by
  rw[UInt8.toNat_ofNat',Nat.mod_eq_of_lt (by omega)];omega
 rw[e]
theorem vg(l:List UInt8):∀v∈l.map fA,v.oneCell'=true:=fun v hv=>by obtain⟨j,_,rfl⟩:=List.mem_map.1 hv;rfl
theorem Ni{w:World}{g0:Nat}{bs:List UInt8}{a:Addr}{m c:Nat}(h:w.ownsRow g0 5 1 (.slice (some a) m c) m (bs.map fA)):∀(j:Nat) (u:Value),(bs.map fA)[j]? = some u->w.cell? (a.add j)=some u:=by
 intro j u hu;obtain⟨b,e,_,hc⟩:=aJ.cells (aJ.own h) (by have:=h.1;have:=(aW.1 hu).1;omega)
 cases e;rw[Addr.add_lit];have:=hc j u hu;rwa [Nat.zero_add]
theorem Nb(g0:Nat)(bs:List UInt8)(v:Value)(n:Nat)(x:Int)(w:World)(h:w.ownsRow g0 5 1 v bs.length (bs.map fA))(hl:bs.length<=1000000)(h8:n<=8)(h0:0<=x)(h1:x<=18446744073709551615) :
  Calls Tryz.prog 58 #[v,.int .i64 n,.int .u64 x] w fun e w' =>
   ∃v',e=.returned v'/\w'.ownsRow w.heap.size 5 1 v' (bs++jB n x).length ((bs++jB n x).map fA)/\Below w.heap.size w w':=by
 obtain⟨i0,hi,hz0,hz1,hz2⟩:=info_parts info5;have Hi:=ah hi;have lJ:=ah hz0;have lI:=ah hz1;have kT:=ah hz2;clear hi hz0 hz1 hz2;have H0:=ah h0;have H1:=ah h1;have Hw:=ah h;have HL:=ah (show(bs++jB n x).length=bs.length+n by simp[jB]);have HC:=ah (show(bs++jB n x).map fA=bs.map fA++(List.range n).map fun j=>Value.int .u8 (vY n x j)by rw[List.map_append,FD]);rw[HL.out,HC.out];clear h1;have key:∀(w1:World) (v1:Value),w1.ownsRow w.heap.size 5 1 v1 bs.length (bs.map fA)->Below w.heap.size w w1->True:=fun _ _ _ _=>trivial
 rcases h.2 with⟨rfl,hn0⟩|⟨g,cap,cur,rfl,-,-,-,-,-,-⟩
 ·obtain rfl:bs=[]:=List.length_eq_zero_iff.1 hn0
  refine(Ik n x w h8 H0.out H1.out).mono ?_;rintro e w' ⟨v,rfl,hv,hb⟩;exact⟨v,rfl,by simpa using hv,hb⟩
 clear h key;go_enter Tryz.func58,Tryz.ntmps58
 go_wp2_with (at_builtin;refine wpList_append_own _ rfl _ _ 63 rfl w.heap.size 5 i0 (.int .u8 0) 1 1 Tryz.underlying63 Hi.out lJ.out lI.out kT.out rfl (by decide) _ 0 [] rfl (cu _ _ _ _) ⟨g,0,none⟩ bs.length cap (bs.map fA) rfl (by simp) (Ni Hw.out) (vg bs) (by unfold maxLen;omega) (by omega) (aj _) ?_;intro v1 w1 hown1 hgrow1 _;rw[Nat.zero_add,List.nil_append]at hown1)
 have hb1:Below w.heap.size w w1:=Below.grown (aC _ _) hgrow1 (aj _) (fun k hk=>by cases hk);go_loopg [7,8] n (fun g v i wx=>∃k:Nat,k=g/\k<=n/\i=.int .i64 k/\wx.ownsRow w.heap.size 5 1 v (bs.length+(n-k)) (bs.map fA++(List.range (n-k)).map fun j=>Value.int .u8 (vY n x j))/\Below w.heap.size w wx)
 case atStart=>exact⟨n,rfl,aj _,rfl,by rw[Nat.sub_self];simpa using hown1,hb1⟩
 case round =>
  obtain⟨k,rfl,hk,rfl,hown,hb⟩:=hrel;have kZ:=ah hown;have Hb:=ah hb;clear hown hb hown1 hb1 hgrow1;by_cases hlt:0<k
  ·obtain⟨q,rfl⟩:∃q,k=q+1:=⟨k-1,by omega⟩
   have e1:((q+1:Nat):Int)=(q:Int)+1:=by omega
   rw[e1];clear e1;have hq8:q<8:=by omega
   have hby:x/2^(8*q)%256=vY n x (n-(q+1)):=by
    unfold vY;rw[show n-1-(n-(q+1))=q by omega,Int.pow_mul];rfl
   have Zy:=ah hby;clear hby;have hsz:=Hb.out.size;go_wp2_with (at_builtin;refine wpList_append_own _ rfl _ _ 63 rfl w.heap.size 5 i0 (.int .u8 0) 1 1 Tryz.underlying63 Hi.out lJ.out lI.out kT.out rfl (by decide) _ _ _ rfl (kZ.out.alloc _) ⟨wr.heap.size,0,none⟩ 1 1 [.int .u8 (x/2^(8*q)%256)] rfl rfl (cell_one_new' _ _ _) (fun u hu=>by simp at hu;rw[hu];rfl) (by unfold maxLen;omega) (by omega) (by rw[au];omega) ?_;intro v6 w6 hown6 dN _)
   go_roundg q
   case measure=>omega
   case rel =>
    refine⟨q,rfl,by omega,by go_num,?_,(Hb.out.alloc hsz _).grown dN (by simp;omega) (fun k hk=>(kZ.out.lt k hk).1)⟩;rw[Zy.out]at hown6;have e1:n-q=(n-(q+1))+1:=by omega
    rw[e1,List.range_succ,List.map_append,<-Nat.add_assoc,<-List.append_assoc];exact hown6
  ·obtain rfl:k=0:=by omega
   go_wp2_with fail
   go_ret;exact⟨_,rfl,kZ.out,Hb.out⟩
end Go.Proofs.YtiadbhiadhgjkaaGreatDoor
namespace Go.Proofs.YtiadbhiadhgjkaaGreatDoor
open Go.RowKit
attribute [local irreducible] World.setCell World.alloc World.drew World.setRow Calls Code.wp
attribute [local go_sem] Oper.semAt_some
theorem iD{w:World}{ops:Array Oper}{o:Oper}{a:Act}{K:Act->World->Prop}{Q:Exit->Act->World->Prop}{Z:Prop}(hgd:o.guard=none)(s x:Operand)
  (ho:o.op=.call { callee:=.builtin .append,args:=#[s,x],argTypes:=#[63,63] }) (base:Nat) (bs ds:List UInt8) (v xv:Value) (hs:a.eval s=v) (hown:w.ownsRow base 5 1 v bs.length (bs.map fA))
  (hx:a.eval x=xv) (hd:dV w xv ds) (hl:bs.length+ds.length<=1000000) (hb:base<=w.heap.size)
  (hk:∀v' w',w'.ownsRow base 5 1 v' (bs++ds).length ((bs++ds).map fA)->w.grownBy w' v.ownBlock->K (a.put o.dst v') w') :
  if Region.wanted o (yielded ops a.tmps)=true then Oper.wp Tryz.prog o a w K Q else Z:=by
 have hw:Region.wanted o (yielded ops a.tmps)=true:=by simp[Region.wanted,hgd]
 rw[aD hw];obtain⟨i,hi,hz,hsz,hby⟩:∃i,Tryz.prog.info? 5=some i/\i.zero=some (.int .u8 0)/\i.size=1/\i.bytes=1:=info_parts (by kernel_rfl)
 have hrun:∃v' w',(Builtin.append_ #[63,63] o.type #[v,xv]).run Tryz.prog w=.ok v' w'/\w'.ownsRow base 5 1 v' (bs++ds).length ((bs++ds).map fA)/\w.grownBy w' v.ownBlock:=by
  obtain⟨A,c,rfl,hc1,hc2⟩:=aJ.form hd;rw[aO,List.map_append]
  cases A with
  | none =>
   have h0:ds=[]:=by
    cases ds with
    | nil=>rfl
    | cons x r=>obtain⟨b,e,-⟩:=aJ.cells hd (by simp);cases e
   subst h0;simp only[List.length_nil,Nat.add_zero,List.map_nil,List.append_nil];refine⟨v,w,?_,hown,World.grownBy.refl w _⟩;rcases hown.2 with⟨rfl,hn⟩|⟨g,cap,cur,rfl,-,-,h3,-⟩
   ·simp[Builtin.append_,run_underlying Tryz.underlying63,sizeOf,typeInfo,hi,Builtin.lenOf,Builtin.firstCells]
   ·simp[Builtin.append_,run_underlying Tryz.underlying63,sizeOf,typeInfo,hi,Builtin.lenOf,Builtin.firstCells,h3,storeCells]
  | some ad =>
   have hcl:∀j u,(ds.map fA)[j]? = some u->w.cell? (ad.add j)=some u:=fun j u hu=>by
    obtain⟨b,e,-,hcl⟩:=aJ.cells hd (by have:=(aW.1 hu).1;rw[List.length_map]at this;omega)
    cases e;rw[Addr.add_lit,Nat.zero_add];exact hcl j u hu
   obtain⟨v',w',h1,h2,h3,_⟩:=run_append_own (P:=Tryz.prog) w base 63 o.type 5 i (.int .u8 0) 1 1 Tryz.underlying63 hi hz hsz hby rfl (by omega) v bs.length (bs.map fA) hown ad ds.length c (ds.map fA) (by simp) hcl (vg ds) (by unfold maxLen;omega) (by omega) hb;exact⟨v',w',h1,h2,h3⟩
 obtain⟨v',w',hr,h2,h3⟩:=hrun;unfold Oper.wp execOp;simp only[ho,resolve,invoke,builtin,Sem.run_bind,Sem.run_pure,Result.andThen_ok,List.map_toArray,bW,List.map_nil,hs,hx,hr];exact hk v' w' h2 h3
theorem Ec(w:World)(ds:List UInt8)(hl:ds.length<=1000000):dV (w.alloc (.cells (ds.map fA).toArray 5)) (.slice (some ⟨w.heap.size,0,none⟩) ds.length ds.length) ds :=
 ⟨_,_,rfl,aj _,by unfold maxLen;omega,.inr ⟨_,_,(0,0),rfl,aR.new _ _ _,fun j u hu=>by simpa using hu⟩⟩
theorem xu(x:Int)(h0:0<=x)(h1:x<256):jB 1 x=[UInt8.ofNat x.toNat]:=by
 have:vY 1 x 0=x:=by unfold vY;simp;omega
 simp[jB,this]
theorem yB(x:Int)(h0:0<=x)(h1:x<256):fA (UInt8.ofNat x.toNat)=.int .u8 x:=by
 unfold fA;rw[show((UInt8.ofNat x.toNat).toNat:Int)=x by simp;omega]
theorem OU(wq:World)(x y:Int)(hx:0<=x/\x<256)(hy:0<=y/\y<256):dV (wq.alloc (.cells #[.int .u8 x,.int .u8 y] 5)) (.slice (some ⟨wq.heap.size,0,none⟩) 2 2) (jB 1 x++jB 1 y):=by
 have h:=Ec wq [UInt8.ofNat x.toNat,UInt8.ofNat y.toNat] (by simp)
 have e:([UInt8.ofNat x.toNat,UInt8.ofNat y.toNat].map fA).toArray=#[Value.int .u8 x,.int .u8 y]:=by
  simp only[bW,List.map_nil,yB x hx.1 hx.2,yB y hy.1 hy.2]
 rw[e]at h;rw[xu x hx.1 hx.2,xu y hy.1 hy.2];exact h
theorem OV(wq:World)(x:Int)(hx:0<=x/\x<256):dV (wq.alloc (.cells #[.int .u8 x] 5)) (.slice (some ⟨wq.heap.size,0,none⟩) 1 1) (jB 1 x):=by
 have h:=Ec wq [UInt8.ofNat x.toNat] (by simp)
 have e:([UInt8.ofNat x.toNat].map fA).toArray=#[Value.int .u8 x]:=by
  simp only[bW,List.map_nil,yB x hx.1 hx.2]
 rw[e]at h;rw[xu x hx.1 hx.2];exact h
def rC(p:Nat×Nat):List UInt8:=jB 4 (p.1:Nat)++jB 1 (p.2:Nat)
theorem Ru(l:dn):nP l=jB 1 (l.d:Nat)++jB 1 (l.ps.length:Nat)++l.ps.flatMap rC:=by
 unfold nP;rw[List.append_assoc];rfl
theorem FC(g0:Nat)(bs:List UInt8)(v lv:Value)(l:dn)(w:World)(h:w.ownsRow g0 5 1 v bs.length (bs.map fA))(hl:bs.length<=900000)(hL:bU w lv l)(hr:l.right=true) :
  Calls Tryz.prog 31 #[v,lv] w fun e w'=>∃v',e=.returned v'/\w'.ownsRow w.heap.size 5 1 v' (bs++nP l).length ((bs++nP l).map fA)/\Below w.heap.size w w':=by
 obtain⟨s,rfl,hP⟩:=hL;obtain⟨la,lc,rfl,hc1,hc2⟩:=aJ.form hP;obtain⟨⟨d1,d4⟩,hn,hp⟩:=dn.gJ hr;have hD:dV w v bs:=aJ.own h;obtain⟨va,vc,rfl,-,-⟩:=aJ.form hD;obtain⟨w1,hw1⟩:∃w1:World,w1=w.alloc (.cells #[.int .i64 (l.d:Nat),.slice la l.ps.length lc] 43):=⟨_,rfl⟩;obtain⟨xb,hxb⟩:∃xb,xb=w.heap.size:=⟨_,rfl⟩;have HX:Hid (aR w1 xb #[.int .i64 (l.d:Nat),.slice la l.ps.length lc] 43):=by rw[hw1,hxb];exact aR.new _ _ _
 have HB1:Hid (Below w.heap.size w w1):=by rw[hw1];exact(aC _ w).alloc (aj _) _
 have HD:=ah (fun w' (k:Below w.heap.size w w')=>(aJ.below hD k (aj _):dV w' _ bs));have HP:=ah (fun w' (k:Below w.heap.size w w')=>(aJ.below hP k (aj _):bg w' _ l.ps));have Hp:=ah hp;have hwd:IntKind.u8.wrap (l.d:Int)=l.d:=IntWalk.u8_in _ (by omega);have hwn:IntKind.u8.wrap (l.ps.length:Int)=l.ps.length:=IntWalk.u8_in _ (by omega);have SN:=ah (fun wq=>OU wq (l.d:Nat) (l.ps.length:Nat) ⟨by omega,by omega⟩ ⟨by omega,by omega⟩);have Yo:(jB 1 ((l.d:Nat):Int)++jB 1 ((l.ps.length:Nat):Int)).length=2:=rfl;obtain⟨D2,hD2⟩:∃D2,jB 1 ((l.d:Nat):Int)++jB 1 ((l.ps.length:Nat):Int)=D2:=⟨_,rfl⟩;have HLP:Hid (bs++nP l=bs++D2++l.ps.flatMap rC):=by show _=_;rw[Ru,<-hD2];simp
 rw[hD2]at SN Yo;have hcx:=HX.out.cell;have kZ:=ah h
 have iR:Hid (∀w',Below w1.heap.size w1 w'->w'.cell? ⟨xb,0,none⟩=some (.int .i64 (l.d:Nat))/\w'.cell? ⟨xb,1,none⟩=some (.slice la l.ps.length lc)):=fun w' k=>by
  have h1:=aR.below HX.out k HX.out.lt;exact⟨h1.cell 0,h1.cell 1⟩
 have QC:Hid (Below w.heap.size w w1.drew):=HB1.out.drew;have hsz1:=HB1.out.size;rw[HLP.out];clear h hD hP hp hr hD2;go_enter Tryz.func31,Tryz.ntmps31
 go_upto_region 1 with fail
 rw[<-hw1,<-hxb];have Qx:=ah hxb;clear hw1 hxb;go_cut [5] (fun v5 wx=>Hid (wx.ownsRow w.heap.size 5 1 v5 (bs++D2).length ((bs++D2).map fA))/\Hid (Below w.heap.size w wx)/\Hid (aR wx xb #[.int .i64 (l.d:Nat),.slice la l.ps.length lc] 43))
 case first =>
  have hx0:=iR.out _ ((aC _ w1).drew);obtain⟨ahv,ahu⟩:=hx0;have Ql:Hid (Below w1.heap.size w1 (w1.alloc (.cells #[.int .u8 (l.d:Nat),.int .u8 (l.ps.length:Nat)] 5)).drew):=((aC _ w1).alloc (aj _) _).drew;have HDz:=ah (aJ.below (SN.out w1) ((aC _ _).drew) (aj _));have hsd:w1.heap.size<=w1.drew.heap.size:=by simp
  first
  | go_region_held3 (fun w'=>w'.cell? ⟨xb,0,none⟩=some (.int .i64 (l.d:Nat))/\w'.cell? ⟨xb,1,none⟩=some (.slice la l.ps.length lc))
    (first|exact iR.out _ ((aC _ w1).drew)|exact iR.out _ hba|exact iR.out _ Ql.out|exact iR.out _ hbb|exact iR.out _ (Below.alloc hba hba.size _)|exact iR.out _ hb5)
    ((first
     | (refine iD (by rfl) (.const (.slice none 0 0)) (.tmp 8) (by rfl) w1.heap.size [] bs _ _ rfl (cu _ _ _ _) (by rfl) (HD.out _ QC.out) (by simp;omega) hsd ?_;intro v1 wa zW Vk;have hba:Below w1.heap.size w1 wa:=((aC _ w1).drew).grown Vk hsd (fun b e=>by cases e);simp only[List.nil_append]at zW)
     | (refine iD (by rfl) (.const (.slice none 0 0)) (.tmp 8) (by rfl) w1.heap.size [] bs _ _ rfl (cu _ _ _ _) (by rfl) (HD.out _ (aT HB1.out Ql.out)) (by simp;omega) Ql.out.size ?_;intro v1 wb zV Oy;have hbb:Below w1.heap.size w1 wb:=Ql.out.grown Oy Ql.out.size (fun b e=>by cases e);simp only[List.nil_append]at zV;have hdb:=aJ.below HDz.out ((aC _ _).grown Oy (aj _) (fun b e=>by cases e)) (aj _))
     | (refine iD (by rfl) (.tmp 9) (.tmp 17) (by rfl) w1.heap.size bs D2 _ _ rfl (zW.alloc _) (by rfl) (SN.out wa) (by omega) (by rw[au];have:=hba.size;omega) ?_;intro v5 w5 hown5 fI;have hb5:Below w1.heap.size w1 w5:=(hba.alloc hba.size _).grown fI (by rw[au];have:=hba.size;omega) (fun b e=>(zW.lt b e).1))
     | (refine iD (by rfl) (.tmp 9) (.tmp 17) (by rfl) w1.heap.size bs D2 _ _ rfl zV (by rfl) hdb (by omega) hbb.size ?_;intro v5 w5 hown5 fI;have hb5:Below w1.heap.size w1 w5:=hbb.grown fI hbb.size (fun b e=>(zV.lt b e).1))
     | fail))
  | fail
  all_goals
   go_wp2_with fail
   go_meet;exact⟨ah (wZ hown5 HB1.out.size),ah (aT HB1.out hb5),ah (aR.below HX.out hb5 HX.out.lt)⟩
 case rest =>
 obtain⟨Ho5,Hb5,Hx5⟩:=hcut;have hcx:=Hx5.out.cell;have aji:Hid (w.heap.size<=wc.heap.size):=Hb5.out.size;obtain⟨B5,ni⟩:∃B5,bs++D2=B5:=⟨_,rfl⟩;have hl5:B5.length<=900002:=by rw[<-ni,aO];omega
 rw[ni]at Ho5;have aeD:=ah ni;clear iR HX HB1 QC SN ni HLP kZ;go_wp2_with fail
 go_loopg [5,7,22] l.ps.length (fun g u5 _ vi wx=>∃(k:Nat) (v5:Value),k+g=l.ps.length/\vi=.int .i64 k/\v5=u5/\Hid (wx.ownsRow w.heap.size 5 1 v5 (B5++(l.ps.take k).flatMap rC).length ((B5++(l.ps.take k).flatMap rC).map fA))/\Hid (Below w.heap.size w wx))
 case atStart=>exact⟨0,_,by omega,rfl,rfl,by rw[List.take_zero,List.flatMap_nil,List.append_nil];exact Ho5,Hb5⟩
 case round =>
  obtain⟨k,v5,hk,rfl,rfl,HR,HB⟩:=hrel;by_cases hlt:k<l.ps.length
  ·have hlt':(k:Int)<l.ps.length:=by omega
   obtain⟨q,hq⟩:∃q,l.ps[k]? = some q:=⟨_,aQ hlt⟩;obtain⟨b,rfl,-,q0,q1⟩:=bg.at (HP.out wr HB.out) hq;obtain⟨g1,g2⟩:=Hp.out q (bG hq)
   have mQ:Hid (B5++(l.ps.take (k+1)).flatMap rC=B5++(l.ps.take k).flatMap rC++jB 4 (q.1:Nat)++jB 1 (q.2:Nat)):=by
    show _=_
    rw[List.take_add_one,hq];simp[rC]
   have hTl:(B5++(l.ps.take k).flatMap rC).length<=900100:=by
    have h1:∀ps:List (Nat×Nat),(ps.flatMap rC).length=ps.length*5:=fun ps=>by
     induction ps with
     | nil=>rfl
     | cons p r ih=>rw[List.flatMap_cons,aO,ih,aZ];show 5+_=_;omega
    have h2:(l.ps.take k).length<=12:=by rw[List.length_take];omega
    rw[aO,h1];omega
   obtain⟨T,hT⟩:∃T,B5++(l.ps.take k).flatMap rC=T:=⟨_,rfl⟩;rw[hT]at HR hTl mQ;obtain⟨zb,hzb⟩:∃zb,zb=wr.heap.size:=⟨_,rfl⟩;obtain⟨wz,hwz⟩:∃wz:World,wz=wr.alloc (.cells #[.int .u32 (q.1:Nat),.int .i64 (q.2:Nat)] 111):=⟨_,rfl⟩;have HZ:Hid (aR wz zb #[.int .u32 (q.1:Nat),.int .i64 (q.2:Nat)] 111):=by rw[hwz,hzb];exact aR.new _ _ _
   have Ql:Hid (Below w.heap.size w wz):=by rw[hwz];exact HB.out.alloc HB.out.size _
   have HRz:Hid (wz.ownsRow w.heap.size 5 1 v5 T.length (T.map fA)):=by rw[hwz];exact HR.out.alloc _
   have PN:Hid (∀w',Below wz.heap.size wz w'->Calls Tryz.prog 58 #[v5,.int .i64 4,.int .u64 (q.1:Nat)] w' fun e w''=>∃v',e=.returned v'/\w''.ownsRow wz.heap.size 5 1 v' (T++jB 4 (q.1:Nat)).length ((T++jB 4 (q.1:Nat)).map fA)/\Below wz.heap.size wz w''/\Below w'.heap.size w' w''):=fun w' kb=>by
    refine(Nb w.heap.size T v5 4 (q.1:Nat) w' (dA HRz.out (T:=fun _=>False) (Kept.of_below kb) (fun _ _ h=>h)) (by omega) (by omega) (by omega) (by omega)).mono ?_;rintro e w'' ⟨v',rfl,ho,hb⟩;exact⟨v',rfl,wZ ho kb.size,aT kb hb,hb⟩
   have Wy:Hid (∀w',Below wz.heap.size wz w'->w'.cell? ⟨zb,0,none⟩=some (.int .u32 (q.1:Nat))/\w'.cell? ⟨zb,1,none⟩=some (.int .i64 (q.2:Nat))):=fun w' kb=>by
    have h1:=aR.below HZ.out kb HZ.out.lt;exact⟨h1.cell 0,h1.cell 1⟩
   have Hd1:=ah (fun wq=>OV wq (q.2:Nat) ⟨by omega,by omega⟩);have hw4:IntKind.u64.wrap (q.1:Int)=q.1:=IntWalk.u64_in _ (by omega);have hw1:IntKind.u8.wrap (q.2:Int)=q.2:=IntWalk.u8_in _ (by omega);have HBy:Hid (Below wz.heap.size wz (wz.alloc (.cells #[.int .u8 (q.2:Nat)] 5)).drew):=((aC _ wz).alloc (aj _) _).drew;have HDy:=ah (aJ.below (Hd1.out wz) ((aC _ _).drew) (aj _));have hl41:(jB 4 ((q.1:Nat):Int)).length=4/\(jB 1 ((q.2:Nat):Int)).length=1:=⟨rfl,rfl⟩;obtain⟨P4,DK⟩:∃P4,jB 4 ((q.1:Nat):Int)=P4:=⟨_,rfl⟩;obtain⟨P1,hP1⟩:∃P1,jB 1 ((q.2:Nat):Int)=P1:=⟨_,rfl⟩;rw[DK]at PN mQ hl41;rw[hP1]at mQ Hd1 HDy hl41;obtain⟨hl4,hl1⟩:=hl41;have hz0:=Wy.out _ ((aC _ wz).drew);obtain⟨ahs,ahr⟩:=hz0;clear hq hT DK hP1;go_upto_region 5 with fail
   rw[<-hwz,<-hzb];clear hwz hzb;first
   | go_region_held3 (fun w'=>w'.cell? ⟨zb,0,none⟩=some (.int .u32 (q.1:Nat))/\w'.cell? ⟨zb,1,none⟩=some (.int .i64 (q.2:Nat)))
     (first|exact Wy.out _ ((aC _ wz).drew)|exact Wy.out _ hba|exact Wy.out _ HBy.out|exact Wy.out _ hbb|exact Wy.out _ (Below.alloc hba hba.size _)|exact Wy.out _ hb5)
     ((first
      | (refine(PN.out _ ((aC _ wz).drew)).mono ?_;rintro e wa ⟨v1,rfl,zW,hba,-⟩)
      | (refine(PN.out _ HBy.out).mono ?_;rintro e wb ⟨v1,rfl,zV,hbb,hby⟩)
      | (refine iD (by rfl) (.tmp 30) (.tmp 34) (by rfl) wz.heap.size (T++P4) P1 _ _ rfl (zW.alloc _) (by rfl) (Hd1.out wa) (by rw[aO];omega) (by rw[au];have:=hba.size;omega) ?_;intro v6 w6 hown6 dN;have hb5:Below wz.heap.size wz w6:=(hba.alloc hba.size _).grown dN (by rw[au];have:=hba.size;omega) (fun b e=>(zW.lt b e).1))
      | (refine iD (by rfl) (.tmp 30) (.tmp 34) (by rfl) wz.heap.size (T++P4) P1 _ _ rfl zV (by rfl) (aJ.below HDy.out hby (aj _)) (by rw[aO];omega) hbb.size ?_;intro v6 w6 hown6 dN;have hb5:Below wz.heap.size wz w6:=hbb.grown dN hbb.size (fun b e=>(zV.lt b e).1))
      | fail))
   | fail
   all_goals
    have Qd:=ah (wZ hown6 Ql.out.size);have BS:=ah (aT Ql.out hb5);go_wp2_with fail
    go_roundg (l.ps.length-(k+1))
    case measure=>omega
    case rel=>exact⟨k+1,_,by omega,by go_num,rfl,by rw[mQ.out];exact Qd,BS⟩
  ·obtain rfl:k=l.ps.length:=by omega
   rw[List.take_length]at HR;go_wp2_with fail
   go_ret;exact⟨_,rfl,by rw[aeD.out];exact HR.out,HB.out⟩
theorem wG{w w':World}{base e size n:Nat}{v:Value}{xs:List Value}(h:w.ownsRow base e size v n xs){T:Nat->Prop}{ty:TypeId}(k:Kept T w w')(hT:∀b,T b->∃cs fz,w.heap[b]? = some (.cells cs ty fz))(hne:ty≠e):w'.ownsRow base e size v n xs :=
 dA h k (fun b hb ht=>by
  obtain⟨cur,e1,-⟩:=jA h hb;obtain⟨cs,fz,e2⟩:=hT b ht;rw[e1]at e2;simp only[Option.some.injEq,Obj.cells.injEq]at e2;exact hne e2.2.1.symm)
theorem iO{w w':World}{b ty:Nat}{cs:Array Value}(h:aR w b cs ty){T:Nat->Prop}{ty2:TypeId}(k:Kept T w w')(hT:∀b,T b->∃cs fz,w.heap[b]? = some (.cells cs ty2 fz))(hne:ty2≠ty):aR w' b cs ty :=
 h.below' k (fun ht=>by
  obtain⟨cs',fz,e2⟩:=hT b ht;unfold aR at h;rw[h]at e2;simp only[Option.some.injEq,Obj.cells.injEq]at e2;exact hne e2.2.1.symm)
theorem iK{w w':World}{ty n:Nat}{v:Value}{cells:List Value}(h:aJ w ty v n cells){T:Nat->Prop}{ty2:TypeId}(k:Kept T w w')(hT:∀b,T b->∃cs fz,w.heap[b]? = some (.cells cs ty2 fz))(hne:ty2≠ty):aJ w' ty v n cells :=
 aJ.kept h k (fun b cs fz ht hh=>by
  obtain⟨cs',fz',e2⟩:=hT b ht;rw[hh]at e2;simp only[Option.some.injEq,Obj.cells.injEq]at e2;exact hne e2.2.1.symm)
theorem Ag{w:World}{b ty:Nat}{cs:Array Value}(h:aR w b cs ty):∀b',b'=b->∃cs fz,w.heap[b']? = some (.cells cs ty fz):=fun b' e=>by
 subst e;exact⟨cs,_,h⟩
theorem Ij{w:World}{base e size n:Nat}{v:Value}{xs:List Value}(h:w.ownsRow base e size v n xs):∀b',v.ownBlock=some b'->∃cs fz,w.heap[b']? = some (.cells cs e fz):=fun b' hb=>by
 obtain⟨cur,e1,-⟩:=jA h hb;exact⟨_,_,e1⟩
def yP(w:World)(v:Value)(n:Nat)(cells:List Value):Prop :=
 ∃a c,v=.slice a n c/\n<=c/\c<=maxLen/\(n=0\/∃b o,a=some ⟨b,o,none⟩/\b<w.heap.size/\∀(j:Nat) (u:Value),cells[j]? = some u->w.cell? ⟨b,o+j,none⟩=some u)
theorem yP.below{w w':World}{v:Value}{n:Nat}{cells:List Value}(h:yP w v n cells){B:Nat}(hb:Below B w w')(hB:w.heap.size<=B):yP w' v n cells:=by
 obtain⟨a,c,rfl,h1,h2,h3⟩:=h;refine⟨a,c,rfl,h1,h2,h3.imp id ?_⟩;rintro⟨b,o,rfl,hlt,hc⟩;exact⟨b,o,rfl,bA hlt hb.size,fun j u hu=>by rw[hb.cell (p:=⟨b,o+j,none⟩) (bA hlt hB)];exact hc j u hu⟩
theorem yP.form{w:World}{v:Value}{n:Nat}{cells:List Value}(h:yP w v n cells):∃a c,v=.slice a n c/\n<=c/\c<=maxLen:=by
 obtain⟨a,c,e,h1,h2,_⟩:=h;exact⟨a,c,e,h1,h2⟩
theorem yP.cells{w:World}{n:Nat}{a:Option Addr}{c:Nat}{cells:List Value}(h:yP w (.slice a n c) n cells)(hn:0<n):∃b o,a=some ⟨b,o,none⟩/\b<w.heap.size/\∀(j:Nat) (u:Value),cells[j]? = some u->w.cell? ⟨b,o+j,none⟩=some u:=by
 obtain⟨a',c',e,_,_,h3⟩:=h
 cases e;exact h3.resolve_left (by omega)
theorem abv(n:Int)(_:yJ n):IntKind.i64.wrap (n.tmod 5+5)=n.tmod 5+5/\(n.tmod 5+5).tmod 5=n%5:=by
 have h1:-5<n.tmod 5/\n.tmod 5<5:=by
  constructor
  ·rcases Int.le_total 0 n with h|h
   ·have:=Int.tmod_nonneg 5 h;omega
   ·have h2:=Int.tmod_lt_of_pos (-n) (show(0:Int)<5 by omega)
    rw[Int.neg_tmod]at h2;omega
  ·exact Int.tmod_lt_of_pos n (by omega)
 refine⟨aV _ (by omega),?_⟩;rw[bQ (by omega)];rcases Int.le_total 0 n with h|h
 ·rw[bQ h];omega
 ·have h2:n.tmod 5=-((-n)%5):=by
   have:=Int.neg_tmod (-n) 5;rw[Int.neg_neg]at this;rw[this,bQ (by omega)]
  rw[h2];omega
structure sI(d:Int)(ls:List Int)(k:Nat)(ps:List (Nat×Nat)):Prop where
 eq:ng d 0 ls=ps++ng d k (ls.drop k)
 ln:ps.length<=k/\ps.length<=12
theorem sI.skip{d:Int}{ls:List Int}{k:Nat}{ps:List (Nat×Nat)}(h:sI d ls k ps){n:Int}(hn:ls[k]? = some n)(hc:¬(k<12/\n%5≠d)):sI d ls (k+1) ps:=by
 refine⟨?_,⟨by have:=h.ln.1;omega,h.ln.2⟩⟩;rw[h.eq,drop_at hn];conv=>lhs;unfold ng
 rw[aA hc,List.nil_append]
theorem sI.add{d:Int}{ls:List Int}{k:Nat}{ps:List (Nat×Nat)}(h:sI d ls k ps){n:Int}(hn:ls[k]? = some n)(hc:k<12/\n%5≠d):sI d ls (k+1) (ps++[(3*k+1,(n%5).toNat)]):=by
 refine⟨?_,?_⟩
 ·rw[h.eq,drop_at hn]
  conv=>lhs;unfold ng
  rw[aD hc];simp
 ·have:=h.ln.1
  rw[aO,List.length_singleton];omega
theorem Ko(s:Ew)(sv:Value)(w:World)(hv:yP w sv s.ls.length (s.ls.map (Value.int .i64)))(hls:∀n∈s.ls,yJ n) :
  Calls Tryz.prog 24 #[.agg #[.int .i64 s.d,sv]] w fun e w'=>∃a c,e=.returned (.agg #[.int .i64 (s.lab.d:Nat),.slice a s.lab.ps.length c])/\bg w' (.slice a s.lab.ps.length c) s.lab.ps/\Below w.heap.size w w':=by
 obtain⟨la,lc,rfl,hc1,hc2⟩:=hv.form;unfold maxLen at hc2;have hlm:s.ls.length<=9223372036854775807:=by omega
 obtain⟨d,hd⟩:∃d:Nat,s.d%4+1=(d:Int):=⟨(s.d%4+1).toNat,by omega⟩;have hd4:1<=d/\d<=4:=by omega
 have hdl:s.lab=⟨d,ng (d:Int) 0 s.ls⟩:=by unfold Ew.lab;rw[hd];rfl
 have HDl:=ah hdl;have h3:bits .and .i64 s.d 3=s.d%4:=acY s.d;have hw1:IntKind.i64.wrap (s.d%4+1)=(d:Int):=by rw[hd];exact aV _ (by omega)
 obtain⟨xb,hxb⟩:∃xb,xb=w.heap.size:=⟨_,rfl⟩;obtain⟨w1,hw1'⟩:∃w1:World,w1=((w.alloc (.cells #[.int .i64 s.d,.slice la s.ls.length lc] 36)).alloc (.cells #[.int .i64 0,.slice none 0 0] 43)).alloc (.cells #[.int .i64 (d:Nat),.slice none 0 0] 43):=⟨_,rfl⟩;have HXs:Hid (aR w1 xb #[.int .i64 s.d,.slice la s.ls.length lc] 36):=by rw[hw1',hxb];exact((aR.new _ _ _).alloc _).alloc _
 have HXr:Hid (aR w1 (xb+1) #[.int .i64 0,.slice none 0 0] 43):=by
  rw[hw1',hxb];have:=aR.new (w.alloc (.cells #[.int .i64 s.d,.slice la s.ls.length lc] 36)) #[.int .i64 0,.slice none 0 0] 43;rw[au]at this;exact this.alloc _
 have HXl:Hid (aR w1 (xb+1+1) #[.int .i64 (d:Nat),.slice none 0 0] 43):=by
  rw[hw1',hxb];have:=aR.new ((w.alloc (.cells #[.int .i64 s.d,.slice la s.ls.length lc] 36)).alloc (.cells #[.int .i64 0,.slice none 0 0] 43)) #[.int .i64 (d:Nat),.slice none 0 0] 43;rw[au,au]at this;exact this
 have HB1:Hid (Below w.heap.size w w1):=by rw[hw1'];exact(((aC _ w).alloc (aj _) _).alloc (by rw[au];omega) _).alloc (by rw[au,au];omega) _
 have HG:=ah (fun w' (k:Below w.heap.size w w')=>hv.below k (aj _));have Zr:=ah hls;obtain⟨i0,hi0,hz0,hz1,hz2⟩:=info_parts oK;have yM:=ah hi0;have lJ:=ah hz0;have lI:=ah hz1;have kT:=ah hz2;clear hv hls hi0 hz0 hz1 hz2 hdl hd;go_enter Tryz.func24,Tryz.ntmps24
 go_upto_region 2 with fail
 rw[<-hw1',<-hxb];have Qx:=ah hxb;have hcs:=HXs.out.cell;clear hw1' hxb;go_wp2_with fail
 go_loopg [4,5,14] s.ls.length (fun g _ _ vi wx=>∃(k:Nat) (ps:List (Nat×Nat)) (A:Value),k+g=s.ls.length/\vi=.int .i64 k/\Hid (sI (d:Int) s.ls k ps)/\Hid (aR wx (xb+1+1) #[.int .i64 (d:Nat),A] 43)/\Hid (wx.ownsRow w.heap.size 111 2 A ps.length (ps.flatMap fG))/\Hid (aR wx (xb+1) #[.int .i64 0,.slice none 0 0] 43)/\Hid (Below w.heap.size w wx))
 case atStart=>exact⟨0,[],.slice none 0 0,by omega,rfl,ah ⟨rfl,by simp⟩,HXl,ah (cu _ _ _ _),HXr,HB1⟩
 case round =>
  obtain⟨k,ps,A,hk,rfl,HS,HL,HA,HR,HB⟩:=hrel;obtain⟨pa,pc,rfl,-,-⟩:=aJ.form (aJ.own HA.out);clear hcs;by_cases hlt:k<s.ls.length
  ·have hlt':(k:Int)<s.ls.length:=by omega
   obtain⟨n,hn⟩:∃n,s.ls[k]? = some n:=⟨_,aQ hlt⟩;obtain⟨b,o,rfl,-,hc⟩:=(HG.out wr HB.out).cells (by omega);have hcn:wr.cell? ⟨b,o+k,none⟩=some (.int .i64 n):=hc k _ (by rw[dF,hn];rfl);have hni:=Zr.out n (bG hn);obtain⟨m1,m2⟩:=abv n hni;have hl0:=HL.out.cell;have hlf:=HL.out.free;have HSk:=ah (fun hc=>HS.out.skip hn hc);have HSa:=ah (fun hc=>HS.out.add hn hc);have hln:=HS.out.ln;obtain⟨y,hy⟩:∃y:Nat,n%5=(y:Int):=⟨(n%5).toNat,by omega⟩;rw[hy]at m2 HSk HSa;clear hc hn hy;by_cases c12:k<12
   ·have c12':(k:Int)<12:=by omega
    by_cases cd:y=d
    ·have cdb:((y:Int) != (d:Int))=false:=by simp[cd]
     have Xn:=ah (HSk.out (fun h=>h.2 (by rw[cd])));clear cd;go_wp2_with fail
     go_roundg (s.ls.length-(k+1))
     case measure=>omega
     case rel=>exact⟨k+1,ps,_,by omega,by go_num,Xn,HL,HA,HR,HB⟩
    ·have cdb:((y:Int) != (d:Int))=true:=by simp;omega
     have Xn:=ah (HSa.out ⟨c12,fun h=>cd (by omega)⟩);rw[Int.toNat_natCast]at Xn;have e1:IntKind.i64.wrap (3*(k:Int))=3*k:=aV _ (by omega);have e2:IntKind.i64.wrap (3*(k:Int)+1)=3*k+1:=aV _ (by omega);have e3:IntKind.u32.wrap (3*(k:Int)+1)=((3*k+1:Nat):Int):=by rw[IntWalk.u32_in _ (by omega)];omega
     clear cd;go_wp2_with (at_builtin;(refine wpList_append_lies _ rfl _ _ 41 rfl w.heap.size 111 i0 _ 2 16 Tryz.underlying41 yM.out lJ.out lI.out kT.out rfl (by decide) _ ps.length (ps.flatMap fG) rfl (HA.out.alloc _) ⟨wr.heap.size,0,none⟩ 1 1 (fG (3*k+1,y)) rfl rfl (World.news_of_block (aR.new wr #[.int .u32 ((3*k+1:Nat):Int),.int .i64 (y:Nat)] 111)) (fun u hu=>by simp[fG]at hu;rcases hu with rfl|rfl<;>rfl) (by omega) (by unfold maxLen;omega) (by omega) (by rw[au];have:=HB.out.size;omega) _ rfl ?_;intro g6 cap w6 hown6 dN _ _;have hL6:=iO (HL.out.alloc _) (dG dN) (Ij (HA.out.alloc _)) (by decide);have hc6:w6.cell? ⟨xb+1+1,1,none⟩=some (.slice pa ps.length pc):=(hL6.cell 1).trans rfl;have hf6:w6.frozen? ⟨xb+1+1,1,none⟩=false:=hL6.free 1))
     have kc:Kept (·=xb+1+1) w6 (w6.setCell ⟨xb+1+1,1,none⟩ (.slice (some ⟨g6,0,none⟩) (ps.length+1) cap)):=(Kept.refl (·=xb+1+1) w6).bC (xb+1+1) 1 _ rfl;have HLn:Hid (aR (w6.setCell ⟨xb+1+1,1,none⟩ (.slice (some ⟨g6,0,none⟩) (ps.length+1) cap)) (xb+1+1) #[.int .i64 (d:Nat),.slice (some ⟨g6,0,none⟩) (ps.length+1) cap] 43):=(hL6.set 1 _).cells rfl
     have WJ:Hid ((w6.setCell ⟨xb+1+1,1,none⟩ (.slice (some ⟨g6,0,none⟩) (ps.length+1) cap)).ownsRow w.heap.size 111 2 (.slice (some ⟨g6,0,none⟩) (ps.length+1) cap) (ps++[(3*k+1,y)]).length ((ps++[(3*k+1,y)]).flatMap fG)):=by
      have h1:=wG hown6 kc (Ag hL6) (by decide);rw[aO,List.flatMap_append];exact h1
     have Qd:=ah ((iO (HR.out.alloc _) (dG dN) (Ij (HA.out.alloc _)) (by decide)).below' kc (by omega));have BS:Hid (Below w.heap.size w (w6.setCell ⟨xb+1+1,1,none⟩ (.slice (some ⟨g6,0,none⟩) (ps.length+1) cap))):=((HB.out.alloc HB.out.size _).grown dN (by rw[au];have:=HB.out.size;omega) (fun b e=>(HA.out.lt b e).1)).setCell (p:=⟨xb+1+1,1,none⟩) (by have:=Qx.out;show _<=xb+1+1;omega) _;clear hL6 hc6 hf6 hown6 dN kc;go_roundg (s.ls.length-(k+1))
     case measure=>omega
     case rel=>exact⟨k+1,_,_,by omega,by go_num,Xn,HLn,WJ,Qd,BS⟩
   ·have c12':¬(k:Int)<12:=by omega
    have Xn:=ah (HSk.out (fun h=>c12 h.1));go_wp2_with fail
    go_roundg (s.ls.length-(k+1))
    case measure=>omega
    case rel=>exact⟨k+1,ps,_,by omega,by go_num,Xn,HL,HA,HR,HB⟩
  ·obtain rfl:k=s.ls.length:=by omega
   have hE:=HS.out.eq;rw[List.drop_length]at hE;have hE2:ng (d:Int) 0 s.ls=ps:=by rw[hE];exact List.append_nil _
   have HE:Hid (s.lab=⟨d,ps⟩):=by show _=_;rw[HDl.out,hE2]
   have hl0:=HL.out.cell;have hr0:=HR.out.cell;have hrf:=HR.out.free;have HF:Hid (aR ((wr.setCell ⟨xb+1,0,none⟩ (.int .i64 (d:Nat))).setCell ⟨xb+1,1,none⟩ (.slice pa ps.length pc)) (xb+1) #[.int .i64 (d:Nat),.slice pa ps.length pc] 43):=((HR.out.set 0 _).set 1 _).cells rfl;have kc:Kept (·=xb+1) wr ((wr.setCell ⟨xb+1,0,none⟩ (.int .i64 (d:Nat))).setCell ⟨xb+1,1,none⟩ (.slice pa ps.length pc)):=((Kept.refl (·=xb+1) wr).bC (xb+1) 0 _ rfl).bC (xb+1) 1 _ rfl;have HPf:Hid (bg ((wr.setCell ⟨xb+1,0,none⟩ (.int .i64 (d:Nat))).setCell ⟨xb+1,1,none⟩ (.slice pa ps.length pc)) (.slice pa ps.length pc) ps):=iK (aJ.own HA.out) kc (Ag HR.out) (by decide);have HBf:Hid (Below w.heap.size w ((wr.setCell ⟨xb+1,0,none⟩ (.int .i64 (d:Nat))).setCell ⟨xb+1,1,none⟩ (.slice pa ps.length pc))):=(HB.out.setCell (p:=⟨xb+1,0,none⟩) (by have:=Qx.out;show _<=xb+1;omega) _).setCell (p:=⟨xb+1,1,none⟩) (by have:=Qx.out;show _<=xb+1;omega) _;clear hE hE2 kc;go_wp2_with fail
   first
   | refine bodyPost_ret (results_cell_row rfl _ _ (xb+1) _ _ (0,0) _ rfl HF.out Tryz.underlying43 rfl (by kernel_rfl)) rfl ?_
   | refine bodyPost_end (results_cell_row rfl _ _ (xb+1) _ _ (0,0) _ rfl HF.out Tryz.underlying43 rfl (by kernel_rfl)) rfl ?_
   rw[HE.out];exact⟨_,_,rfl,HPf.out,HBf.out⟩
end Go.Proofs.YtiadbhiadhgjkaaGreatDoor
namespace Go.Proofs.YtiadbhiadhgjkaaGreatDoor
open Go.RowKit
def eX:dn:=⟨2,[]⟩
def jE:dn:=⟨4,[]⟩
def tH:dn:=⟨2,[(1,4)]⟩
def Ba:dn:=⟨2,[(1,0)]⟩
def XE(l:List UInt8):List UInt8:=l++List.replicate (16-l.length) 0
def iN:List UInt8:=[[eX],[tH],[Ba],[jE],[eX,jE],[tH,jE],[Ba,jE]].flatMap (fun r=>XE (r.flatMap nP))++List.replicate 16 0
structure ko where
 (lines:List Line)
 (lab:dn)
 (home:Int)
def rP(ls:List Line):List UInt8:=(mX ls).map fun x=>UInt8.ofNat x.toNat
def kU(n:Int)(p:ko):List dR :=
 [{ xB 3 with lab:=p.lab,gG:=jE,parent:=p.home%2,space:=n+2 },
  { xB 4 with lab:=eX,maps:=[⟨0,n+3,0,9,false⟩,⟨32,2,0,2,true⟩,⟨34,3,0,1,true⟩] },
  { xB 2 with lab:=eX,pages:=9,data:=(rP p.lines).take 576 }]
def dP:Int->List ko->List dR
 | _,[]=>[]
 | n,p::r=>kU n p++dP (n+3) r
def dX(l:List ko)(cores:Int):mU :=
 ⟨cores%2+1,600,200,[(0,2),(1,1),(0,1)],
  [{ xB 1 with lab:=eX,pages:=120,names:=40 },{ xB 2 with lab:=eX,pages:=2,data:=iN },{ xB 2 with lab:=tH,pages:=1,data:=[1,2,3] },{ xB 6 with lab:=tH }]++dP 4 (l.take 4)⟩
def jG:ko:=⟨[],eX,0⟩
example:(dX [jG] 1).right=true:=by decide +kernel
example:(tu (dX [jG] 1)).isSome=true:=by decide +kernel
def Iq:Km->Ob->Option (Km×Int):=fun _ _=>none
def xC:Km->Ob->Nat->Option (Km×Int):=fun _ _ _=>none
def VB:Option (Int×Int×Int):=(tu (dX [jG] 1)).bind fun K=>(K.nJ Iq xC 0).map fun r=>(r.2.core,r.2.thread,r.2.what)
example:VB=some (0,6,1):=by decide +kernel
end Go.Proofs.YtiadbhiadhgjkaaGreatDoor
namespace Go.Proofs.YtiadbhiadhgjkaaGreatDoor
open Go.RowKit
attribute [local irreducible] World.setCell World.alloc World.drew World.setRow Calls Code.wp
structure vB(w:World)(n b1:Nat)(s4 s5:Value)(W:World):Prop where
 one:aR W b1 #[.int .i64 2,.slice none 0 0] 43
 three:aR W (b1+1) #[.int .i64 4,.slice none 0 0] 43
 p4:bg W s4 [(1,4)]
 p5:bg W s5 [(1,0)]
 eO:Below n w W
 le:n<=b1
theorem vB.alloc{w W:World}{n b1:Nat}{s4 s5:Value}(h:vB w n b1 s4 s5 W)(o:Obj):vB w n b1 s4 s5 (W.alloc o):=by
 have hb:Below W.heap.size W (W.alloc o):=(aC _ W).alloc (aj _) o;have h1:=h.one.lt;have h2:=h.le;exact⟨h.one.alloc o,h.three.alloc o,aJ.below h.p4 hb (aj _),aJ.below h.p5 hb (aj _),h.eO.alloc (by omega) o,h.le⟩
theorem vB.store{w W:World}{n b1:Nat}{s4 s5:Value}(h:vB w n b1 s4 s5 W){t:Nat}{cs:Array Value}(ht:aR W t cs 43)(hn:b1+1<t)(u v:Value) :
  vB w n b1 s4 s5 ((W.setCell ⟨t,0,none⟩ u).setCell ⟨t,1,none⟩ v):=by
 have n0:t≠b1:=by omega
 have n1:t≠b1+1:=by omega
 have hk:Kept (·=t) W ((W.setCell ⟨t,0,none⟩ u).setCell ⟨t,1,none⟩ v):=((Kept.refl (·=t) W).bC t 0 u rfl).bC t 1 v rfl
 have hs:∀b cs' fz,b=t->W.heap[b]? = some (.cells cs' 111 fz)->False:=fun b cs' fz e hh=>by
  rw[e]at hh;have:=hh.symm.trans ht;simp at this
 have h2:=h.le
 exact⟨(h.one.aI (a:=⟨t,0,none⟩) n0 _).aI (a:=⟨t,1,none⟩) n0 _,(h.three.aI (a:=⟨t,0,none⟩) n1 _).aI (a:=⟨t,1,none⟩) n1 _,aJ.kept h.p4 hk hs,aJ.kept h.p5 hk hs,
  (h.eO.setCell (p:=⟨t,0,none⟩) (by show n<=t;omega) _).setCell (p:=⟨t,1,none⟩) (by show n<=t;omega) _,h.le⟩
theorem oP{W:World}{t:Nat}(ht:aR W t #[.int .i64 0,.slice none 0 0] 43)(u v:Value):aR ((W.setCell ⟨t,0,none⟩ u).setCell ⟨t,1,none⟩ v) t #[u,v] 43 :=
 ((ht.set 0 u).set 1 v).cells (by simp only[ay,aG,aH])
theorem sH{W:World}{t t':Nat}{cs:Array Value}{ty:Nat}(h:aR W t' cs ty)(hn:t≠t')(u v:Value):aR ((W.setCell ⟨t,0,none⟩ u).setCell ⟨t,1,none⟩ v) t' cs ty :=
 (h.aI (a:=⟨t,0,none⟩) hn _).aI (a:=⟨t,1,none⟩) hn _
structure Four(w:World)(n b1 b3 b4:Nat)(s4 s5:Value)(W:World):Prop where
 vV:vB w n b1 s4 s5 W
 up:aR W b3 #[.int .i64 2,s4] 43
 own:aR W b4 #[.int .i64 2,s5] 43
section
variable {w W:World}{n b1:Nat}{s4 s5:Value}
theorem RU(h:vB w n b1 s4 s5 W):Four w n b1 W.heap.size (W.heap.size+1) s4 s5 ((W.alloc (.cells #[.int .i64 2,s4] 43)).alloc (.cells #[.int .i64 2,s5] 43)):=by
 refine⟨(h.alloc _).alloc _,(aR.new W _ _).alloc _,?_⟩;have:=aR.new (W.alloc (.cells #[.int .i64 2,s4] 43)) #[.int .i64 2,s5] 43;rw[au]at this;exact this
theorem RQ(h:vB w n b1 s4 s5 W):Four w n b1 (W.heap.size+1) W.heap.size s4 s5 ((W.alloc (.cells #[.int .i64 2,s5] 43)).alloc (.cells #[.int .i64 2,s4] 43)):=by
 refine⟨(h.alloc _).alloc _,?_,(aR.new W _ _).alloc _⟩;have:=aR.new (W.alloc (.cells #[.int .i64 2,s5] 43)) #[.int .i64 2,s4] 43;rw[au]at this;exact this
theorem Iz(h:vB w n b1 s4 s5 W){t:Nat}(ht:aR W t #[.int .i64 0,.slice none 0 0] 43)(hn:b1+1<t) :
  Four w n b1 t W.heap.size s4 s5 (((W.setCell ⟨t,0,none⟩ (.int .i64 2)).setCell ⟨t,1,none⟩ s4).alloc (.cells #[.int .i64 2,s5] 43)):=by
 refine⟨(h.store ht hn _ _).alloc _,(oP ht _ _).alloc _,?_⟩;have:=aR.new ((W.setCell ⟨t,0,none⟩ (.int .i64 2)).setCell ⟨t,1,none⟩ s4) #[.int .i64 2,s5] 43;simpa using this
theorem Iy(h:vB w n b1 s4 s5 W){t:Nat}(ht:aR W t #[.int .i64 0,.slice none 0 0] 43)(hn:b1+1<t) :
  Four w n b1 W.heap.size t s4 s5 (((W.setCell ⟨t,0,none⟩ (.int .i64 2)).setCell ⟨t,1,none⟩ s5).alloc (.cells #[.int .i64 2,s4] 43)):=by
 refine⟨(h.store ht hn _ _).alloc _,?_,(oP ht _ _).alloc _⟩;have:=aR.new ((W.setCell ⟨t,0,none⟩ (.int .i64 2)).setCell ⟨t,1,none⟩ s5) #[.int .i64 2,s4] 43;simpa using this
theorem uW(h:vB w n b1 s4 s5 W){t t':Nat}(ht:aR W t #[.int .i64 0,.slice none 0 0] 43)(ht':aR W t' #[.int .i64 0,.slice none 0 0] 43)(hn:b1+1<t)(hn':b1+1<t')(hne:t≠t') :
  Four w n b1 t t' s4 s5 ((((W.setCell ⟨t,0,none⟩ (.int .i64 2)).setCell ⟨t,1,none⟩ s4).setCell ⟨t',0,none⟩ (.int .i64 2)).setCell ⟨t',1,none⟩ s5) :=
 ⟨(h.store ht hn _ _).store (sH ht' hne _ _) hn' _ _,sH (oP ht _ _) (Ne.symm hne) _ _,oP (sH ht' hne _ _) _ _⟩
end
def nE:List (List dn):=[[eX],[tH],[Ba],[jE],[eX,jE],[tH,jE],[Ba,jE]]
def putAt(bs:List UInt8)(q:Nat)(ds:List UInt8):List UInt8:=bs.take q++ds++bs.drop (q+ds.length)
def Uo(k j:Nat):List UInt8:=((nE.getD k []).take j).flatMap nP
def Ee(k:Nat):List UInt8:=(List.range k).foldl (fun bs i=>putAt bs (16*i) (Uo i 2)) (List.replicate 128 0)
def kX(k j:Nat):List UInt8:=putAt (Ee k) (16*k) (Uo k j)
def lM(k j:Nat):Nat:=16*k+(Uo k j).length
theorem KZ:∀k,k<7->∀j,j<(nE.getD k []).length->kX k (j+1)=putAt (kX k j) (lM k j) (nP ((nE.getD k []).getD j eX))/\lM k (j+1)=lM k j+(nP ((nE.getD k []).getD j eX)).length/\lM k (j+1)<=128/\lM k j<128/\0<(nP ((nE.getD k []).getD j eX)).length/\(kX k j).length=128/\((nE.getD k []).getD j eX).right=true:=by decide +kernel
theorem uZ:∀k,k<7->kX k 0=Ee k/\lM k 0=16*k/\kX k (nE.getD k []).length=Ee (k+1):=by decide +kernel
theorem OZ:Ee 7=iN/\Ee 0=List.replicate 128 0:=by decide +kernel
theorem Cx(w:World):(Instr.makeSlice 63 (.int .i64 128) (.int .i64 128)).run Tryz.prog w =
  .ok (.slice (some ⟨w.heap.size,0,none⟩) 128 128) (w.alloc (.cells ((List.replicate 128 (0:UInt8)).map fA).toArray 5)):=by
 obtain⟨i,hi,hz,hs,hb⟩:∃i,Tryz.prog.info? 5=some i/\i.zero=some (.int .u8 0)/\i.size=1/\i.bytes=1 :=
  info_parts (by kernel_rfl)
 have:=run_make (P:=Tryz.prog) w 63 5 i _ Tryz.underlying63 hi hz .i64 .i64 128 128 (by omega) (by omega) (by rw[hb];omega) (by omega)
 rw[this,hs,show(128:Int).toNat=128 from rfl,xG _ (.int .u8 0) _ (by simp[Value.cells]) (fun i hi=>by
  simp[Value.cells]at hi ⊢;subst hi;rfl),Nat.mul_one]
 rfl
theorem wW{w:World}{ops:Array Oper}{o:Oper}{a:Act}{K:Act->World->Prop}{Q:Exit->Act->World->Prop}{Z:Prop}(hgd:o.guard=none)(d s:Operand)
  (ho:o.op=.call { callee:=.builtin .copy,args:=#[d,s],argTypes:=#[63,63] }) (g q dLen dCap:Nat) (bs ds:List UInt8) (xv:Value)
  (hB:aR w g (bs.map fA).toArray 5) (hd:a.eval d=.slice (some ⟨g,q,none⟩) dLen dCap) (hs:a.eval s=xv) (hx:dV w xv ds) (h0:0<ds.length) (hl:ds.length<=dLen) (hfit:q+ds.length<=bs.length)
  (hk:∀w',Kept (·=g) w w'->aR w' g ((putAt bs q ds).map fA).toArray 5->K (a.put o.dst (.int .i64 (ds.length:Nat))) w') :
  if Region.wanted o (yielded ops a.tmps)=true then Oper.wp Tryz.prog o a w K Q else Z:=by
 have hw:Region.wanted o (yielded ops a.tmps)=true:=by simp[Region.wanted,hgd]
 rw[aD hw];obtain⟨A,c,rfl,hc1,hc2⟩:=aJ.form hx;obtain⟨b,rfl,-,hcl⟩:=aJ.cells hx h0;have hrun:=run_copy_row (P:=Tryz.prog) w 63 63 o.type 5 g q dLen dCap ⟨b,0,none⟩ ds.length c _ _ (ds.map fA) Tryz.underlying63 (by kernel_rfl) hB (by rw[List.length_map];exact(Nat.min_eq_left hl).symm) (fun j v hj=>by rw[Addr.add_lit,Nat.zero_add];exact hcl j v hj) (by simpa using hfit) (vg ds);unfold Oper.wp;simp[execOp,ho,resolve,invoke,builtin,hd,hs,hrun,Result.andThen];refine hk _ (Kept.setRow (S:=(·=g)) (Kept.refl _ w) (.inr rfl) _) ?_;refine aR.cells (hB.setRow _) ?_;unfold putAt;simp
structure RowsIn(w:World)(bb rb:Nat):Prop where
 lt:bb<rb/\rb<w.heap.size
 at_:∀k r,nE[k]? = some r->∃b,bb<b/\w.cell? ⟨rb,k,none⟩=some (.slice (some ⟨b,0,none⟩) r.length r.length)/\b<w.heap.size /\
  ∀j l,r[j]? = some l->∃s,w.cell? ⟨b,j*2,none⟩=some (.int .i64 (l.d:Nat))/\w.cell? ⟨b,j*2+1,none⟩=some s/\bg w s l.ps
theorem RowsIn.kept{w w':World}{bb rb:Nat}{cs:Array Value}(h:RowsIn w bb rb)(hB:aR w bb cs 5)(k:Kept (·=bb) w w'):RowsIn w' bb rb:=by
 refine⟨⟨h.lt.1,bA h.lt.2 k.size⟩,fun i r hr=>?_⟩;obtain⟨b,h1,h2,h3,h4⟩:=h.at_ i r hr;have hc:∀c,bb<c->c<w.heap.size->∀j,w'.cell? ⟨c,j,none⟩=w.cell? ⟨c,j,none⟩:=fun c e1 e2 j=>World.cell?_of_block (a:=⟨c,j,none⟩) (k.block c e2 (fun e=>by have e':c=bb:=e;omega))
 refine⟨b,h1,(hc rb h.lt.1 h.lt.2 i).trans h2,bA h3 k.size,fun j l hl=>?_⟩;obtain⟨s,a1,a2,a3⟩:=h4 j l hl
 exact⟨s,(hc b h1 h3 _).trans a1,(hc b h1 h3 _).trans a2,aJ.kept a3 k (fun c cs' fz e hh=>by
  have e':c=bb:=e;rw[e']at hh;have:=hh.symm.trans hB;simp at this)⟩
theorem RowsIn.below{w w':World}{bb rb:Nat}(h:RowsIn w bb rb)(k:Below w.heap.size w w'):RowsIn w' bb rb:=by
 refine⟨⟨h.lt.1,bA h.lt.2 k.size⟩,fun i r hr=>?_⟩;obtain⟨b,h1,h2,h3,h4⟩:=h.at_ i r hr;have hc:∀c,c<w.heap.size->∀j,w'.cell? ⟨c,j,none⟩=w.cell? ⟨c,j,none⟩:=fun c e2 j=>k.cell (p:=⟨c,j,none⟩) e2
 refine⟨b,h1,(hc rb h.lt.2 i).trans h2,bA h3 k.size,fun j l hl=>?_⟩;obtain⟨s,a1,a2,a3⟩:=h4 j l hl;exact⟨s,(hc b h3 _).trans a1,(hc b h3 _).trans a2,aJ.below a3 k (aj _)⟩
def jy(wx:World)(z:Array Value)(s4 s5:Value):World :=
 ((((((((wx.alloc (.cells z 5)).alloc (.cells #[.int .i64 2,.slice none 0 0] 43)).alloc (.cells #[.int .i64 2,s4] 43)).alloc (.cells #[.int .i64 2,s5] 43)).alloc (.cells #[.int .i64 4,.slice none 0 0] 43)).alloc
  (.cells #[.int .i64 2,.slice none 0 0,.int .i64 4,.slice none 0 0] 43)).alloc (.cells #[.int .i64 2,s4,.int .i64 4,.slice none 0 0] 43)).alloc (.cells #[.int .i64 2,s5,.int .i64 4,.slice none 0 0] 43)).alloc
  (.cells #[.slice (some ⟨wx.heap.size+1,0,none⟩) 1 1,.slice (some ⟨wx.heap.size+1+1,0,none⟩) 1 1,.slice (some ⟨wx.heap.size+1+1+1,0,none⟩) 1 1,.slice (some ⟨wx.heap.size+1+1+1+1,0,none⟩) 1 1,.slice (some ⟨wx.heap.size+1+1+1+1+1,0,none⟩) 2 2,.slice (some ⟨wx.heap.size+1+1+1+1+1+1,0,none⟩) 2 2,.slice (some ⟨wx.heap.size+1+1+1+1+1+1+1,0,none⟩) 2 2] 140)
theorem Fq(wx:World)(z:Array Value)(s4 s5:Value)(h4:bg wx s4 [(1,4)])(h5:bg wx s5 [(1,0)]) :
  aR (jy wx z s4 s5) wx.heap.size z 5/\RowsIn (jy wx z s4 s5) wx.heap.size (wx.heap.size+1+1+1+1+1+1+1+1)/\Below wx.heap.size wx (jy wx z s4 s5):=by
 have hz:aR (jy wx z s4 s5) wx.heap.size z 5:=((((((((aR.new wx z 5).alloc _).alloc _).alloc _).alloc _).alloc _).alloc _).alloc _).alloc _;have b1:=aR.new (wx.alloc (.cells z 5)) #[.int .i64 2,.slice none 0 0] 43;rw[au]at b1;have b2:=aR.new ((wx.alloc (.cells z 5)).alloc (.cells #[.int .i64 2,.slice none 0 0] 43)) #[.int .i64 2,s4] 43;rw[au,au]at b2;have b3:=aR.new (((wx.alloc (.cells z 5)).alloc (.cells #[.int .i64 2,.slice none 0 0] 43)).alloc (.cells #[.int .i64 2,s4] 43)) #[.int .i64 2,s5] 43;rw[au,au,au]at b3;have b4:=aR.new ((((wx.alloc (.cells z 5)).alloc (.cells #[.int .i64 2,.slice none 0 0] 43)).alloc (.cells #[.int .i64 2,s4] 43)).alloc (.cells #[.int .i64 2,s5] 43)) #[.int .i64 4,.slice none 0 0] 43;rw[au,au,au,au]at b4;have b5:=aR.new (((((wx.alloc (.cells z 5)).alloc (.cells #[.int .i64 2,.slice none 0 0] 43)).alloc (.cells #[.int .i64 2,s4] 43)).alloc (.cells #[.int .i64 2,s5] 43)).alloc (.cells #[.int .i64 4,.slice none 0 0] 43)) #[.int .i64 2,.slice none 0 0,.int .i64 4,.slice none 0 0] 43
 rw[au,au,au,au,au]at b5;have b6:=aR.new ((((((wx.alloc (.cells z 5)).alloc (.cells #[.int .i64 2,.slice none 0 0] 43)).alloc (.cells #[.int .i64 2,s4] 43)).alloc (.cells #[.int .i64 2,s5] 43)).alloc (.cells #[.int .i64 4,.slice none 0 0] 43)).alloc (.cells #[.int .i64 2,.slice none 0 0,.int .i64 4,.slice none 0 0] 43)) #[.int .i64 2,s4,.int .i64 4,.slice none 0 0] 43;rw[au,au,au,au,au,au]at b6;have b7:=aR.new (((((((wx.alloc (.cells z 5)).alloc (.cells #[.int .i64 2,.slice none 0 0] 43)).alloc (.cells #[.int .i64 2,s4] 43)).alloc (.cells #[.int .i64 2,s5] 43)).alloc (.cells #[.int .i64 4,.slice none 0 0] 43)).alloc (.cells #[.int .i64 2,.slice none 0 0,.int .i64 4,.slice none 0 0] 43)).alloc (.cells #[.int .i64 2,s4,.int .i64 4,.slice none 0 0] 43)) #[.int .i64 2,s5,.int .i64 4,.slice none 0 0] 43;rw[au,au,au,au,au,au,au]at b7
 have hB:Below wx.heap.size wx (jy wx z s4 s5):=by
  unfold jy;have h (W:World) (o:Obj) (hh:Below wx.heap.size wx W):Below wx.heap.size wx (W.alloc o):=hh.alloc hh.size o;exact h _ _ (h _ _ (h _ _ (h _ _ (h _ _ (h _ _ (h _ _ (h _ _ (h _ _ (aC _ wx)))))))))
 have c1:aR (jy wx z s4 s5) _ _ _:=((((((b1.alloc _).alloc _).alloc _).alloc _).alloc _).alloc _).alloc _;have c2:aR (jy wx z s4 s5) _ _ _:=(((((b2.alloc _).alloc _).alloc _).alloc _).alloc _).alloc _;have c3:aR (jy wx z s4 s5) _ _ _:=((((b3.alloc _).alloc _).alloc _).alloc _).alloc _;have c4:aR (jy wx z s4 s5) _ _ _:=(((b4.alloc _).alloc _).alloc _).alloc _;have c5:aR (jy wx z s4 s5) _ _ _:=((b5.alloc _).alloc _).alloc _;have c6:aR (jy wx z s4 s5) _ _ _:=(b6.alloc _).alloc _;have c7:aR (jy wx z s4 s5) _ _ _:=b7.alloc _
 have hs:(jy wx z s4 s5).heap.size=wx.heap.size+9:=by
  unfold jy;simp only[au]
 have c8:aR (jy wx z s4 s5) (wx.heap.size+1+1+1+1+1+1+1+1) #[.slice (some ⟨wx.heap.size+1,0,none⟩) 1 1,.slice (some ⟨wx.heap.size+1+1,0,none⟩) 1 1,.slice (some ⟨wx.heap.size+1+1+1,0,none⟩) 1 1,.slice (some ⟨wx.heap.size+1+1+1+1,0,none⟩) 1 1,.slice (some ⟨wx.heap.size+1+1+1+1+1,0,none⟩) 2 2,.slice (some ⟨wx.heap.size+1+1+1+1+1+1,0,none⟩) 2 2,.slice (some ⟨wx.heap.size+1+1+1+1+1+1+1,0,none⟩) 2 2] 140:=by
  have b8:=aR.new ((((((((wx.alloc (.cells z 5)).alloc (.cells #[.int .i64 2,.slice none 0 0] 43)).alloc (.cells #[.int .i64 2,s4] 43)).alloc (.cells #[.int .i64 2,s5] 43)).alloc (.cells #[.int .i64 4,.slice none 0 0] 43)).alloc (.cells #[.int .i64 2,.slice none 0 0,.int .i64 4,.slice none 0 0] 43)).alloc (.cells #[.int .i64 2,s4,.int .i64 4,.slice none 0 0] 43)).alloc (.cells #[.int .i64 2,s5,.int .i64 4,.slice none 0 0] 43)) #[.slice (some ⟨wx.heap.size+1,0,none⟩) 1 1,.slice (some ⟨wx.heap.size+1+1,0,none⟩) 1 1,.slice (some ⟨wx.heap.size+1+1+1,0,none⟩) 1 1,.slice (some ⟨wx.heap.size+1+1+1+1,0,none⟩) 1 1,.slice (some ⟨wx.heap.size+1+1+1+1+1,0,none⟩) 2 2,.slice (some ⟨wx.heap.size+1+1+1+1+1+1,0,none⟩) 2 2,.slice (some ⟨wx.heap.size+1+1+1+1+1+1+1,0,none⟩) 2 2] 140;rw[au,au,au,au,au,au,au,au]at b8;exact b8
 have n0:bg (jy wx z s4 s5) (.slice none 0 0) []:=aJ.nil _ _;have n4:bg (jy wx z s4 s5) s4 [(1,4)]:=aJ.below h4 hB (aj _);have n5:bg (jy wx z s4 s5) s5 [(1,0)]:=aJ.below h5 hB (aj _);refine⟨hz,⟨⟨by omega,by omega⟩,fun k r hr=>?_⟩,hB⟩;match k,hr with
 | 0,hr =>
  cases hr;refine⟨wx.heap.size+1,by omega,(c8.cell 0).trans rfl,by omega,fun j l hl=>?_⟩;match j,hl with
  | 0,hl=>cases hl;exact⟨_,(c1.cell 0).trans rfl,(c1.cell 1).trans rfl,n0⟩
 | 1,hr =>
  cases hr;refine⟨wx.heap.size+1+1,by omega,(c8.cell 1).trans rfl,by omega,fun j l hl=>?_⟩;match j,hl with
  | 0,hl=>cases hl;exact⟨_,(c2.cell 0).trans rfl,(c2.cell 1).trans rfl,n4⟩
 | 2,hr =>
  cases hr;refine⟨wx.heap.size+1+1+1,by omega,(c8.cell 2).trans rfl,by omega,fun j l hl=>?_⟩;match j,hl with
  | 0,hl=>cases hl;exact⟨_,(c3.cell 0).trans rfl,(c3.cell 1).trans rfl,n5⟩
 | 3,hr =>
  cases hr;refine⟨wx.heap.size+1+1+1+1,by omega,(c8.cell 3).trans rfl,by omega,fun j l hl=>?_⟩;match j,hl with
  | 0,hl=>cases hl;exact⟨_,(c4.cell 0).trans rfl,(c4.cell 1).trans rfl,n0⟩
 | 4,hr =>
  cases hr;refine⟨wx.heap.size+1+1+1+1+1,by omega,(c8.cell 4).trans rfl,by omega,fun j l hl=>?_⟩;match j,hl with
  | 0,hl=>cases hl;exact⟨_,(c5.cell 0).trans rfl,(c5.cell 1).trans rfl,n0⟩
  | 1,hl=>cases hl;exact⟨_,(c5.cell 2).trans rfl,(c5.cell 3).trans rfl,n0⟩
 | 5,hr =>
  cases hr;refine⟨wx.heap.size+1+1+1+1+1+1,by omega,(c8.cell 5).trans rfl,by omega,fun j l hl=>?_⟩;match j,hl with
  | 0,hl=>cases hl;exact⟨_,(c6.cell 0).trans rfl,(c6.cell 1).trans rfl,n4⟩
  | 1,hl=>cases hl;exact⟨_,(c6.cell 2).trans rfl,(c6.cell 3).trans rfl,n0⟩
 | 6,hr =>
  cases hr;refine⟨wx.heap.size+1+1+1+1+1+1+1,by omega,(c8.cell 6).trans rfl,by omega,fun j l hl=>?_⟩;match j,hl with
  | 0,hl=>cases hl;exact⟨_,(c7.cell 0).trans rfl,(c7.cell 1).trans rfl,n5⟩
  | 1,hl=>cases hl;exact⟨_,(c7.cell 2).trans rfl,(c7.cell 3).trans rfl,n0⟩
structure zo(w0:World)(n0 bb rb k j:Nat)(W:World):Prop where
 bytes:aR W bb ((kX k j).map fA).toArray 5
 rows:RowsIn W bb rb
 eO:Below n0 w0 W
 le:n0<=bb
theorem zo.below{w0 W W':World}{n0 bb rb k j:Nat}(h:zo w0 n0 bb rb k j W)(q:Below W.heap.size W W'):zo w0 n0 bb rb k j W' :=
 ⟨h.bytes.below q h.bytes.lt,h.rows.below q,h.eO.trans (q.mono (bD h.le (Nat.le_of_lt h.bytes.lt))),h.le⟩
theorem Fb(g q:Nat)(hq:q<128)(w:World):(Instr.slice 63 (.slice (some ⟨g,0,none⟩) 128 128) (some (.int .i64 q)) none none).run Tryz.prog w=.ok (.slice (some ⟨g,q,none⟩) (128-q) (128-q)) w:=by
 have hq0:(0:Int)<=q:=by omega
 have abP:(q:Int)<=128:=by omega
 have hne:¬128=q:=by omega
 go_simp
 try rfl
end Go.Proofs.YtiadbhiadhgjkaaGreatDoor
