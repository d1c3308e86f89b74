import Derived.Test.YtiadbhiadhgjkaaGreatDoorZzNb
import Derived.Test.YtiadbhiadhgjkaaGreatDoorZzLn
set_option maxRecDepth 100000
set_option maxHeartbeats 4000000
namespace Go.Proofs.YtiadbhiadhgjkaaGreatDoor
open Go.RowKit
attribute [local irreducible] World.setCell World.alloc World.drew World.setRow Calls Code.wp
def lo(c:Nat):List (Nat×Nat)->Nat
 | []=>0
 | p::r=>if p.1<c then lo c r+1 else 0
theorem NJ(c:Nat):∀l,lo c l<=l.length
 | []=>aj _
 | p::r=>by
  unfold lo;split
  ·have:=NJ c r;simp only[aZ];omega
  ·omega
theorem AX(d c:Nat):∀(last:Nat) (l:List (Nat×Nat)) (h:Nat) (p:Nat×Nat),eP d last l=true->l[h]? = some p->(p.1<c↔h<lo c l)
 | _,[],h,p,_,e=>by simp at e
 | last,q::r,0,p,hr,e=>by
  obtain rfl:q=p:=by simpa using e
  unfold lo;split
  ·rename_i hq;exact⟨fun _=>by omega,fun _=>hq⟩
  ·rename_i hq;exact⟨fun x=>absurd x hq,fun x=>by omega⟩
 | last,q::r,h+1,p,hr,e=>by
  have e':r[h]? = some p:=by simpa using e
  unfold eP at hr;rw[aM]at hr;have ih:=AX d c q.1 r h p hr.2 e';unfold lo;split
  ·rw[ih];omega
  ·rename_i hq
   have:=rY hr.2 p (bG e');constructor
   ·intro x;omega
   ·intro x;omega
def tQ(c:Nat)(l:List (Nat×Nat)):Bool:=match l[lo c l]? with
 | some p=>decide (p.1=c)
 | none=>false
def vX(p:Nat×Nat)(c:Nat):Int:=if p.1<c then -1 else if c<p.1 then 1 else 0
theorem zY(p:Nat×Nat)(c:Nat)(w:World):Calls Tryz.prog 46 #[.agg #[.int .u32 (p.1:Nat),.int .i64 (p.2:Nat)],.int .u32 (c:Nat)] w fun e w'=>e=.returned (.int .i64 (vX p c))/\Below w.heap.size w w':=by
 have HB:Hid (Below w.heap.size w (w.alloc (.cells #[.int .u32 (p.1:Nat),.int .i64 (p.2:Nat)] 111))):=(aC _ w).alloc (aj _) _;obtain⟨x,y⟩:=p;by_cases h1:x<c
 ·have e1:(x:Int)<(c:Int):=by omega
  have hr:vX (x,y) c=-1:=aD h1;rw[hr];clear hr h1;go_enter Tryz.func46,Tryz.ntmps46
  go_wp2_with fail
  go_ret;exact⟨rfl,HB.out⟩
 ·have e1:¬((x:Int)<(c:Int)):=by omega
  by_cases h2:c<x
  ·have e2:(c:Int)<(x:Int):=by omega
   have hr:vX (x,y) c=1:=by unfold vX;rw[aA h1,aD h2]
   rw[hr];clear hr h1 h2;go_enter Tryz.func46,Tryz.ntmps46
   go_wp2_with fail
   go_ret;exact⟨rfl,HB.out⟩
  ·have e2:¬((c:Int)<(x:Int)):=by omega
   have hr:vX (x,y) c=0:=by unfold vX;rw[aA h1,aA h2]
   rw[hr];clear hr h1 h2;go_enter Tryz.func46,Tryz.ntmps46
   go_wp2_with fail
   go_ret;exact⟨rfl,HB.out⟩
theorem Sw(d:Nat)(ps:List (Nat×Nat))(c:Nat)(v:Value)(w:World)(hps:eP d 0 ps=true)(hn:ps.length<=1000)(h:bg w v ps) :
  Calls Tryz.prog 45 #[v,.int .u32 (c:Nat),.func (.func 46) #[] #[]] w fun e w'=>e=.returned (.tuple #[.int .i64 (lo c ps:Nat),.bool (tQ c ps)])/\Below w.heap.size w w':=by
 obtain⟨la,lc,rfl,-,-⟩:=aJ.form h;have HL:=ah h;have Xo:=ah hps;have hlo:=NJ c ps;clear h hps;go_enter Tryz.func45,Tryz.ntmps45
 go_upto_block 0 with fail
 go_cut [9] (fun vi wx=>vi=.int .i64 (lo c ps:Nat)/\Hid (Below w.heap.size w wx))
 case first =>
  go_wp2_with fail
  go_loopg [9,10] ps.length (fun gg vi vj wx=>∃i j:Nat,i+gg=j/\j<=ps.length/\i<=lo c ps/\lo c ps<=j/\vi=.int .i64 i/\vj=.int .i64 j/\Hid (Below w.heap.size w wx))
  case atStart=>exact⟨0,ps.length,by omega,aj _,by omega,hlo,rfl,rfl,ah (aC _ _)⟩
  case round =>
   obtain⟨i,j,hg,hj,hi1,hj1,rfl,rfl,HB⟩:=hrel;by_cases hlt:i<j
   ·have hlt':(i:Int)<j:=by omega
    obtain⟨h,hh⟩:∃h:Nat,h=(i+j)/2:=⟨_,rfl⟩;have hhj:h<j:=by omega
    have hih:i<=h:=by omega
    obtain⟨p,hp⟩:∃p,ps[h]? = some p:=⟨_,aQ (by omega)⟩;have hsp:=AX d c 0 ps h p Xo.out hp;obtain⟨pb,hpb,Oj,hcells⟩:=aJ.cells HL.out (by omega);subst hpb
    have x0:wr.cell? ⟨pb,h*2,none⟩=some (.int .u32 (p.1:Nat)):=by
     rw[HB.out.cell (p:=⟨pb,h*2,none⟩) Oj];exact hcells _ _ ((gP fG 2 (fun _=>rfl) ps h p hp 0 (by omega)).trans rfl)
    have x1:wr.cell? ⟨pb,h*2+1,none⟩=some (.int .i64 (p.2:Nat)):=by
     rw[HB.out.cell (p:=⟨pb,h*2+1,none⟩) Oj];exact hcells _ _ ((gP fG 2 (fun _=>rfl) ps h p hp 1 (by omega)).trans rfl)
    have hsum:IntKind.i64.wrap ((i:Int)+j)=(i:Int)+j:=aV _ (by omega);have Hc:=ah (zY p c wr);have Hsp:=ah hsp;have hdv:((i:Int)+(j:Int))/2=(h:Int):=by omega
    clear hcells hp hsp hh;go_wp2_with fail
    refine Hc.out.mono ?_;rintro e w5 ⟨rfl,hb5⟩;have pK:Hid (Below w.heap.size w w5):=aT HB.out hb5;clear hb5;by_cases hpc:p.1<c
    ·have hcm:vX p c=-1:=aD hpc
     have hhl:=Hsp.out.1 hpc;have hs2:IntKind.i64.wrap ((h:Int)+1)=(h:Int)+1:=aV _ (by omega);rw[hcm];go_wp2_with fail
     go_roundg (j-(h+1))
     case measure=>omega
     case rel=>exact⟨h+1,j,by omega,hj,by omega,hj1,by go_num,rfl,pK⟩
    ·have hcm:¬vX p c<0:=by unfold vX;rw[aA hpc];split<;>omega
     have hhl:¬h<lo c ps:=fun q=>hpc (Hsp.out.2 q)
     go_wp2_with fail
     go_roundg (h-i)
     case measure=>omega
     case rel=>exact⟨i,h,by omega,by omega,hi1,by omega,rfl,rfl,pK⟩
   ·have hlt':¬((i:Int)<j):=by omega
    obtain rfl:i=lo c ps:=by omega
    go_wp2_with fail
    go_meet;exact⟨rfl,HB⟩
 case rest =>
  rename World=>w3
  obtain⟨rfl,HB⟩:=hcut;by_cases hlt:lo c ps<ps.length
  ·have hlt':((lo c ps:Nat):Int)<ps.length:=by omega
   obtain⟨p,hp⟩:∃p,ps[lo c ps]? = some p:=⟨_,aQ hlt⟩;have hsp:=AX d c 0 ps _ p Xo.out hp
   have hr:tQ c ps=(vX p c==0):=by
    unfold tQ vX;rw[hp];have:¬p.1<c:=fun q=>Nat.lt_irrefl _ (hsp.1 q)
    rw[aA this];by_cases e:p.1=c
    ·rw[aA (by omega)];simp[e]
    ·rw[aD (by omega)];simp[e]
   obtain⟨pb,hpb,Oj,hcells⟩:=aJ.cells HL.out (by omega);subst hpb
   have x0:w3.cell? ⟨pb,lo c ps*2,none⟩=some (.int .u32 (p.1:Nat)):=by
    rw[HB.out.cell (p:=⟨pb,lo c ps*2,none⟩) Oj];exact hcells _ _ ((gP fG 2 (fun _=>rfl) ps _ p hp 0 (by omega)).trans rfl)
   have x1:w3.cell? ⟨pb,lo c ps*2+1,none⟩=some (.int .i64 (p.2:Nat)):=by
    rw[HB.out.cell (p:=⟨pb,lo c ps*2+1,none⟩) Oj];exact hcells _ _ ((gP fG 2 (fun _=>rfl) ps _ p hp 1 (by omega)).trans rfl)
   have Hc:=ah (zY p c w3);have HR:=ah hr;clear hcells hp hsp hr;go_wp2_with fail
   refine Hc.out.mono ?_;rintro e w5 ⟨rfl,hb5⟩;have pK:Hid (Below w.heap.size w w5):=aT HB.out hb5;clear hb5;go_wp2_with fail
   exact bodyPost_ret (v:=.tuple #[.int .i64 (lo c ps:Nat),.bool (vX p c==0)]) (by simp[results,Tryz.results45,go_sem]) rfl ⟨by rw[HR.out],pK.out⟩
  ·have hlt':¬(((lo c ps:Nat):Int)<ps.length):=by omega
   have hr:tQ c ps=false:=by
    unfold tQ;rw[List.getElem?_eq_none (by omega)]
   have HR:=ah hr;clear hr;go_wp2_with fail
   exact bodyPost_ret (v:=.tuple #[.int .i64 (lo c ps:Nat),.bool false]) (by simp[results,Tryz.results45,go_sem]) rfl ⟨by rw[HR.out],HB.out⟩
theorem fT{w:World}{v:Value}{l:dn}(h:bU w v l):∃a c,v=.agg #[.int .i64 (l.d:Nat),.slice a l.ps.length c]/\bg w (.slice a l.ps.length c) l.ps:=by
 obtain⟨s,rfl,h1⟩:=h;obtain⟨a,c,rfl,-,-⟩:=aJ.form h1;exact⟨a,c,rfl,h1⟩
theorem qM(l:dn)(d:Nat)(c:Nat)(v:Value)(w:World)(hps:eP d 0 l.ps=true)(hn:l.ps.length<=1000)(h:bU w v l) :
  Calls Tryz.prog 19 #[v,.int .u32 (c:Nat)] w fun e w'=>e=.returned (.tuple #[.int .i64 (lo c l.ps:Nat),.bool (tQ c l.ps)])/\Below w.heap.size w w':=by
 obtain⟨a,k,rfl,h1⟩:=fT h;have HB:Hid (Below w.heap.size w (w.alloc (.cells #[.int .i64 (l.d:Nat),.slice a l.ps.length k] 43))):=ah ((aC _ w).alloc (aj _) _);have Hc:=ah (Sw d l.ps c _ _ hps hn (aJ.below h1 HB.out (aj _)));clear h h1;go_enter Tryz.func19,Tryz.ntmps19
 go_wp2_with fail
 refine Hc.out.mono ?_;rintro e w5 ⟨rfl,hb5⟩;have pK:Hid (Below w.heap.size w w5):=aT HB.out hb5;clear hb5;go_wp2_with fail
 exact bodyPost_ret (v:=.tuple #[.int .i64 (lo c l.ps:Nat),.bool (tQ c l.ps)]) (by simp[results,Tryz.results19,go_sem]) rfl ⟨rfl,pK.out⟩
theorem zO(ps:List (Nat×Nat)):(ps.flatMap fG).length=ps.length*2:=by
 induction ps with
 | nil=>rfl
 | cons p r ih=>rw[List.flatMap_cons,aO,ih,aZ];show 2+_=_;omega
theorem JY(ps:List (Nat×Nat)):∀u∈ps.flatMap fG,u.oneCell'=true:=by
 intro u hu;obtain⟨p,_,hp⟩:=List.mem_flatMap.1 hu;simp only[fG,List.mem_cons,List.not_mem_nil,or_false]at hp;rcases hp with rfl|rfl<;>rfl
theorem Ad(ps:List (Nat×Nat))(v:Value)(w:World)(hn:ps.length<=1000)(h:bg w v ps) :
  Calls Tryz.prog 48 #[v] w fun e w'=>∃a c,e=.returned (.slice a ps.length c)/\w'.ownsRow w.heap.size 111 2 (.slice a ps.length c) ps.length (ps.flatMap fG)/\Below w.heap.size w w':=by
 obtain⟨a,c,rfl,-,-⟩:=aJ.form h
 cases a with
 | none =>
  have h0:ps=[]:=by
   cases ps with
   | nil=>rfl
   | cons p r=>obtain⟨b,e,-⟩:=aJ.cells h (by simp);cases e
  subst h0;have hq:(binOp .eql 41 (.slice none 0 c) (.slice none 0 0)).run Tryz.prog w=.ok (.bool true) w:=by kernel_rfl
  clear h;go_enter Tryz.func48,Tryz.ntmps48
  go_wp2_with fail
  go_ret;exact⟨none,0,rfl,cu _ _ _ _,aC _ _⟩
 | some ad =>
  have HL:=ah h;obtain⟨i0,hi,hz0,hz1,hz2⟩:=info_parts oK;have Hi:=ah hi;have lJ:=ah hz0;have lI:=ah hz1;have kT:=ah hz2;have hq:(binOp .eql 41 (.slice (some ad) ps.length c) (.slice none 0 0)).run Tryz.prog w=.ok (.bool false) w:=by kernel_rfl
  have HO:Hid ((w.alloc (.cells #[] 111)).ownsRow w.heap.size 111 2 (.slice (some ⟨w.heap.size,0,none⟩) 0 0) 0 []):=ah (World.ownsRow_lit w #[] 0 (aj _) (Nat.zero_le _) rfl)
  have EC:Hid (∀j u,(ps.flatMap fG)[j]? = some u->(w.alloc (.cells #[] 111)).cell? (ad.add j)=some u):=ah (fun j u hu=>by
   have hj:=(aW.1 hu).1;rw[zO]at hj;obtain⟨b,hb,hbl,hcells⟩:=aJ.cells h (by omega)
   cases hb;rw[Addr.add_lit,Nat.zero_add,((aC w.heap.size w).alloc (aj _) _).cell (p:=⟨b,j,none⟩) hbl];exact hcells j u hu)
  clear h hi hz0 hz1 hz2;go_enter Tryz.func48,Tryz.ntmps48
  go_wp2_with (at_builtin;refine wpList_append_own _ rfl _ _ 41 rfl w.heap.size 111 i0 _ 2 16 Tryz.underlying41 Hi.out lJ.out lI.out kT.out rfl (by decide) _ _ _ rfl HO.out ad ps.length c (ps.flatMap fG) rfl (zO ps) EC.out (JY ps) (by unfold maxLen;omega) (by omega) (by rw[au];omega) ?_;intro v' w6 hown6 dN _)
  rw[Nat.zero_add,List.nil_append]at hown6;obtain⟨⟨a6,c6,rfl⟩,-⟩:=qd hown6;have wB:Hid (Below w.heap.size w w6):=ah (((aC w.heap.size w).alloc (aj _) _).grown dN (by rw[au];omega) (fun k hk=>(HO.out.lt k hk).1));have sK:=ah hown6;clear hown6 dN;go_wp2_with fail
  go_ret;exact⟨a6,c6,rfl,sK.out,wB.out⟩
theorem Gd(base:Nat)(ps:List (Nat×Nat))(q:Nat×Nat)(a:Option Addr)(c pb pc:Nat)(w:World)(hn:ps.length<=1000)(h:w.ownsRow base 111 2 (.slice a ps.length c) ps.length (ps.flatMap fG))(hB:aR w pb #[.int .u32 (q.1:Nat),.int .i64 (q.2:Nat)] 111)(hb:base<=w.heap.size) :
  Calls Tryz.prog 50 #[.slice a ps.length c,.int .i64 (ps.length:Nat),.slice (some ⟨pb,0,none⟩) 1 pc] w fun e w'=>∃a' c',e=.returned (.slice a' (ps.length+1) c')/\w'.ownsRow base 111 2 (.slice a' (ps.length+1) c') (ps.length+1) (ps.flatMap fG++fG q)/\Below base w w'/\Kept (fun b=>(Value.slice a ps.length c).ownBlock=some b) w w':=by
 have HO:=ah h;have hc:=qd h;obtain⟨i0,hi,hz0,hz1,hz2⟩:=info_parts oK;have Hi:=ah hi;have lJ:=ah hz0;have lI:=ah hz1;have kT:=ah hz2
 have EC:Hid (∀j u,[Value.int .u32 (q.1:Nat),.int .i64 (q.2:Nat)][j]? = some u->w.cell? ((⟨pb,0,none⟩:Addr).add j)=some u):=ah (fun j u hu=>by
  rw[Addr.add_lit,Nat.zero_add,hB.cell];simpa using hu)
 have hcap:ps.length<=c:=by
  rcases h.2 with⟨e,e2⟩|⟨g,cap,cur,e,-,-,h3,-⟩
  ·rw[e2];omega
  ·cases e;exact h3
 clear h hi hz0 hz1 hz2 hB hc;go_enter Tryz.func50,Tryz.ntmps50
 go_wp2_with (at_builtin;refine wpList_append_own _ rfl _ _ 41 rfl base 111 i0 _ 2 16 Tryz.underlying41 Hi.out lJ.out lI.out kT.out rfl (by decide) _ _ _ rfl HO.out ⟨pb,0,none⟩ 1 pc [.int .u32 (q.1:Nat),.int .i64 (q.2:Nat)] rfl rfl EC.out (fun u hu=>by simp at hu;rcases hu with rfl|rfl<;>rfl) (by unfold maxLen;omega) (by omega) hb ?_;intro v' w6 hown6 dN _)
 all_goals
  obtain⟨⟨a6,c6,rfl⟩,-⟩:=qd hown6;have wB:Hid (Below base w w6):=ah ((aC base w).grown dN hb (fun k hk=>(HO.out.lt k hk).1));have HK6:Hid (Kept (fun b=>(Value.slice a ps.length _).ownBlock=some b) w w6):=ah (dG dN);have sK:Hid (w6.ownsRow base 111 2 (.slice a6 (ps.length+1) c6) (ps.length+1) (ps.flatMap fG++fG q)):=ah hown6;clear hown6 dN;go_wp2_with fail
  go_ret;exact⟨a6,c6,rfl,sK.out,wB.out,HK6.out.mono (fun b _ e=>by cases a<;>exact e)⟩
theorem Da{w:World}{b b' e size n:Nat}{v:Value}{xs:List Value}(h:w.ownsRow b e size v n xs)(hb:b'<=b):w.ownsRow b' e size v n xs:=by
 refine⟨h.1,h.2.imp id ?_⟩;rintro⟨g,cap,cur,e1,e2,e3⟩;exact⟨g,cap,cur,e1,bD hb e2,e3⟩
theorem jW(w:World)(o:Obj):Below w.heap.size w (w.alloc o).drew:=((aC w.heap.size w).alloc (aj _) o).drew
structure WSt(w:World)(h0:Nat)(l:dn)(lv:Value)(tb:Nat)(a:Option Addr)(k:Nat)(wx:World):Prop where
 box:aR wx h0 #[.int .i64 (l.d:Nat),lv] 43
 res:aR wx (h0+1) #[.int .i64 0,.slice none 0 0] 43
 out:aR wx tb #[.int .i64 (l.d:Nat),.slice a l.ps.length k] 43
 row:wx.ownsRow (h0+1+1) 111 2 (.slice a l.ps.length k) l.ps.length (l.ps.flatMap fG)
 eO:Below h0 w wx
 ne:h0+1<tb
theorem Tf{w w3:World}{h0:Nat}{l:dn}{lv:Value}{a:Option Addr}{k:Nat}(hb:Below h0 w w3)(b0:aR w3 h0 #[.int .i64 (l.d:Nat),lv] 43)(b1:aR w3 (h0+1) #[.int .i64 0,.slice none 0 0] 43)
  (ho:w3.ownsRow (h0+1+1) 111 2 (.slice a l.ps.length k) l.ps.length (l.ps.flatMap fG)):WSt w h0 l lv w3.heap.size a k (w3.alloc (.cells #[.int .i64 (l.d:Nat),.slice a l.ps.length k] 43)) :=
 ⟨b0.alloc _,b1.alloc _,aR.new _ _ _,ho.alloc _,hb.alloc (bD (Nat.le_succ h0) (Nat.le_of_lt b1.lt)) _,b1.lt⟩
theorem Te{w w3:World}{h0 tb:Nat}{l:dn}{lv:Value}{a:Option Addr}{k:Nat}(hb:Below h0 w w3)(b0:aR w3 h0 #[.int .i64 (l.d:Nat),lv] 43)(b1:aR w3 (h0+1) #[.int .i64 0,.slice none 0 0] 43)
  (ho:w3.ownsRow (h0+1+1) 111 2 (.slice a l.ps.length k) l.ps.length (l.ps.flatMap fG)) (bt:aR w3 tb #[.int .i64 0,.slice none 0 0] 43) (ht:h0+1<tb) :
  WSt w h0 l lv tb a k ((w3.setCell ⟨tb,0,none⟩ (.int .i64 (l.d:Nat))).setCell ⟨tb,1,none⟩ (.slice a l.ps.length k)):=by
 have n0:tb≠h0:=by omega
 have n1:tb≠h0+1:=by omega
 refine⟨(b0.aI (a:=⟨tb,0,none⟩) n0 _).aI (a:=⟨tb,1,none⟩) n0 _,(b1.aI (a:=⟨tb,0,none⟩) n1 _).aI (a:=⟨tb,1,none⟩) n1 _,((bt.set 0 _).set 1 _).cells (by simp only[ay,aG,aH]),?_,(hb.setCell (p:=⟨tb,0,none⟩) (by show h0<=tb;omega) _).setCell (p:=⟨tb,1,none⟩) (by show h0<=tb;omega) _,ht⟩;refine dA ho (((Kept.refl (·=tb) w3).bC tb 0 (.int .i64 (l.d:Nat)) rfl).bC tb 1 (.slice a l.ps.length k) rfl) (fun b hb e=>?_);obtain⟨cs,hB⟩:=sV ho hb;rw[e]at hB;have:=hB.symm.trans bt;simp at this
theorem Ce(l:dn)(c level:Nat)(v:Value)(w:World)(h:bU w v l)(hn:l.ps.length<=900)(hps:eP l.d 0 l.ps=true)(hlv:level≠l.d)(hlo:lo c l.ps=l.ps.length) :
  Calls Tryz.prog 23 #[v,.int .u32 (c:Nat),.int .i64 (level:Nat)] w fun e w'=>∃u,e=.returned u/\bU w' u ⟨l.d,l.ps++[(c,level)]⟩/\Below w.heap.size w w':=by
 obtain⟨la,lc,rfl,hp⟩:=fT h;obtain⟨h0,hh0⟩:∃h0,w.heap.size=h0:=⟨_,rfl⟩;obtain⟨w1,hw1⟩:∃w1,w1=(w.alloc (.cells #[.int .i64 (l.d:Nat),.slice la l.ps.length lc] 43)).alloc (.cells #[.int .i64 0,.slice none 0 0] 43):=⟨_,rfl⟩;have hB0:aR w1 h0 #[.int .i64 (l.d:Nat),.slice la l.ps.length lc] 43:=by rw[hw1,<-hh0];exact(aR.new _ _ _).alloc _
 have hB1:aR w1 (h0+1) #[.int .i64 0,.slice none 0 0] 43:=by
  rw[hw1,<-hh0];have:=aR.new (w.alloc (.cells #[.int .i64 (l.d:Nat),.slice la l.ps.length lc] 43)) #[.int .i64 0,.slice none 0 0] 43;rw[au]at this;exact this
 have hb1:Below h0 w w1:=by rw[hw1,<-hh0];exact((aC _ w).alloc (aj _) _).alloc (by simp) _
 have hs1:w1.heap.size=h0+1+1:=by rw[hw1,au,au,hh0]
 have hp1:bg w1 (.slice la l.ps.length lc) l.ps:=aJ.below hp hb1 (by omega);have HB0:=ah hB0;have HB1:=ah hB1;have Hb1:=ah hb1;have Cb:=ah hp1;have oU:=ah hh0;have Xo:=ah hps;have SI:=ah hlo;have Jc:=ah hs1;clear h hp hB0 hB1 hb1 hp1 hps hlo hs1;go_enter Tryz.func23,Tryz.ntmps23
 go_upto_region 1 with fail
 try rw[<-hw1]
 clear hw1;go_cut [7] (fun vo wx=>∃tb a k,vo=.pointer (some ⟨tb,0,none⟩)/\Hid (WSt w h0 l (.slice la l.ps.length lc) tb a k wx))
 case first =>
  have x0:w1.drew.cell? ⟨h0,0,none⟩=some (.int .i64 (l.d:Nat)):=(HB0.out.drew.cell 0).trans rfl;have x1:w1.drew.cell? ⟨h0,1,none⟩=some (.slice la l.ps.length lc):=(HB0.out.drew.cell 1).trans rfl;have y0:(w1.alloc (.cells #[.int .i64 0,.slice none 0 0] 43)).drew.cell? ⟨h0,0,none⟩=some (.int .i64 (l.d:Nat)):=(((HB0.out.alloc _).drew).cell 0).trans rfl;have y1:(w1.alloc (.cells #[.int .i64 0,.slice none 0 0] 43)).drew.cell? ⟨h0,1,none⟩=some (.slice la l.ps.length lc):=(((HB0.out.alloc _).drew).cell 1).trans rfl
  have Hcl:Hid (∀W,Below w1.heap.size w1 W->Calls Tryz.prog 48 #[.slice la l.ps.length lc] W fun e w'=>∃v,e=.returned v/\((∃a k,v=.slice a l.ps.length k/\Hid (w'.ownsRow (h0+1+1) 111 2 (.slice a l.ps.length k) l.ps.length (l.ps.flatMap fG)))/\Below W.heap.size W w')):=ah (fun W hW=>by
   refine(Ad l.ps _ W (by omega) (aJ.below Cb.out hW (aj _))).mono ?_;rintro e w' ⟨a,k,h1,h2,h3⟩;exact⟨_,h1,⟨a,k,rfl,ah (Da h2 (by have:=hW.size;have:=Jc.out;omega))⟩,h3⟩)
  go_region_law (first
   | (refine cB (by rfl) (bP (vs:=#[.slice la l.ps.length lc]) (by simp[Act.eval]) (bE Tryz.func48 (by kernel_rfl) rfl)) (Hcl.out _ (by first|exact(aC _ w1).drew|exact jW _ _)) ?_;rintro v w3 ⟨⟨a3,k3,rfl,ho3⟩,hb3⟩;(have h30:aR w3 h0 #[.int .i64 (l.d:Nat),.slice la l.ps.length lc] 43:=(by first|exact(HB0.out.drew).below hb3 (HB0.out.drew).lt|exact((HB0.out.alloc _).drew).below hb3 ((HB0.out.alloc _).drew).lt));(have z0:w3.cell? ⟨h0,0,none⟩=some (.int .i64 (l.d:Nat)):=(h30.cell 0).trans rfl);(have z2:(w3.alloc (.cells #[.int .i64 0,.slice none 0 0] 43)).cell? ⟨h0,0,none⟩=some (.int .i64 (l.d:Nat)):=((h30.alloc _).cell 0).trans rfl);(try have uG:aR w3 w1.heap.size #[.int .i64 0,.slice none 0 0] 43:=((aR.new w1 _ _).drew).below hb3 ((aR.new w1 _ _).drew).lt);(try have hT4:w3.cell? ⟨w1.heap.size,0,none⟩=some (.int .i64 0):=(uG.cell 0).trans rfl);(try have hT5:w3.cell? ⟨w1.heap.size,1,none⟩=some (.slice none 0 0):=(uG.cell 1).trans rfl);(try have WQ:=uG.free);(try have KJ:w1.heap.size<w3.heap.size:=uG.lt)))
  all_goals
   have h31:aR w3 (h0+1) #[.int .i64 0,.slice none 0 0] 43:=(by first|exact(HB1.out.drew).below hb3 (HB1.out.drew).lt|exact((HB1.out.alloc _).drew).below hb3 ((HB1.out.alloc _).drew).lt);have hbb:Below h0 w w3:=Hb1.out.trans (by first|exact(((aC _ w1).drew).trans (hb3.mono (by rw[cK];exact aj _))).mono (by have:=Jc.out;omega)|exact((jW w1 _).trans (hb3.mono (by rw[cK,au];omega))).mono (by have:=Jc.out;omega));go_wp2_with fail
   go_meet;first
   | exact⟨_,_,_,rfl,ah (Tf hbb h30 h31 ho3.out)⟩
   | exact⟨_,_,_,rfl,ah (Te hbb h30 h31 ho3.out uG (by have:=Jc.out;omega))⟩
 case rest =>
  rename World=>w3
  obtain⟨tb,a,k,rfl,HW⟩:=hcut;have t0:w3.cell? ⟨tb,0,none⟩=some (.int .i64 (l.d:Nat)):=(HW.out.out.cell 0).trans rfl;have t1:w3.cell? ⟨tb,1,none⟩=some (.slice a l.ps.length k):=(HW.out.out.cell 1).trans rfl
  have Hfi:Hid (Calls Tryz.prog 19 #[.agg #[.int .i64 (l.d:Nat),.slice a l.ps.length k],.int .u32 (c:Nat)] w3 fun e w'=>e=.returned (.tuple #[.int .i64 (l.ps.length:Nat),.bool false])/\Below w3.heap.size w3 w'):=ah (by
   have:=qM l l.d c _ w3 Xo.out (by omega) ⟨_,rfl,aJ.own HW.out.row⟩;have hh:tQ c l.ps=false:=by unfold tQ;rw[SI.out,List.getElem?_eq_none (aj _)]
   rw[hh,SI.out]at this;exact this)
  go_wp2_with fail
  refine Hfi.out.mono ?_;rintro e w4 ⟨rfl,hb4⟩;have b0:=HW.out.box.below hb4 HW.out.box.lt;have b1:=HW.out.res.below hb4 HW.out.res.lt;have bt:=HW.out.out.below hb4 HW.out.out.lt;have ho4:w4.ownsRow (h0+1+1) 111 2 (.slice a l.ps.length k) l.ps.length (l.ps.flatMap fG):=dA HW.out.row (Kept.of_below hb4) (fun _ _ h=>h);have yO:Hid (Below h0 w w4):=ah (HW.out.eO.trans (hb4.mono (by have:=HW.out.box.lt;omega)));have u0:w4.cell? ⟨h0,0,none⟩=some (.int .i64 (l.d:Nat)):=(b0.cell 0).trans rfl;have u1:w4.cell? ⟨tb,1,none⟩=some (.slice a l.ps.length k):=(bt.cell 1).trans rfl;have LA:=ah b1;have Hbt:=ah bt;have Ho4:=ah ho4;have hlv1:((level:Int)==(l.d:Int))=false:=by simp;omega
  obtain⟨pb,hpb⟩:∃pb,w4.heap.size=pb:=⟨_,rfl⟩;have Zm:=ah HW.out.ne
  have Hin:Hid (Calls Tryz.prog 50 #[.slice a l.ps.length k,.int .i64 (l.ps.length:Nat),.slice (some ⟨pb,0,none⟩) 1 1] (w4.alloc (.cells #[.int .u32 (c:Nat),.int .i64 (level:Nat)] 111)) fun e w'=>∃a' c',e=.returned (.slice a' (l.ps.length+1) c') /\
    Hid (w'.ownsRow (h0+1+1) 111 2 (.slice a' (l.ps.length+1) c') (l.ps.length+1) (l.ps.flatMap fG++fG (c,level)))/\Hid (Below h0 w w')/\aR w' (h0+1) #[.int .i64 0,.slice none 0 0] 43/\aR w' tb #[.int .i64 (l.d:Nat),.slice a l.ps.length k] 43):=ah (by
   have hB:aR (w4.alloc (.cells #[.int .u32 (c:Nat),.int .i64 (level:Nat)] 111)) pb #[.int .u32 (c:Nat),.int .i64 (level:Nat)] 111:=by rw[<-hpb];exact aR.new _ _ _
   have ho5:=Ho4.out.alloc (.cells #[.int .u32 (c:Nat),.int .i64 (level:Nat)] 111);have hsz:h0+1<w4.heap.size:=LA.out.lt;refine(Gd (h0+1+1) l.ps (c,level) a k pb 1 _ (by omega) ho5 hB (by rw[au];omega)).mono ?_;rintro e w' ⟨a',c',h1,h2,h3,h4⟩
   have hty:∀x cs,aR (w4.alloc (.cells #[.int .u32 (c:Nat),.int .i64 (level:Nat)] 111)) x cs 43->¬(Value.slice a l.ps.length k).ownBlock=some x:=fun x cs hx e=>by
    obtain⟨cs',hB'⟩:=sV ho5 e;have:=hx.symm.trans hB';simp at this
   exact⟨a',c',h1,ah h2,ah ((yO.out.alloc (by omega) _).trans (h3.mono (by omega))),h4.blk (LA.out.alloc _) (hty _ _ (LA.out.alloc _)),h4.blk (Hbt.out.alloc _) (hty _ _ (Hbt.out.alloc _))⟩)
  clear t0 t1 b0 b1 bt ho4 hb4;go_wp2_with fail
  refine Hin.out.mono ?_;rintro e w6 ⟨a6,c6,rfl,ho6,hb6,r6,t6⟩;have hne1:=Zm.out;have s1:w6.cell? ⟨tb,1,none⟩=some (.slice a l.ps.length k):=(t6.cell 1).trans rfl;have s2:w6.frozen? ⟨tb,1,none⟩=false:=t6.free 1;have nt:tb≠h0+1:=by omega
  have r7:=r6.aI (a:=⟨tb,1,none⟩) nt (.slice a6 (l.ps.length+1) c6);have t7:=(t6.set 1 (.slice a6 (l.ps.length+1) c6)).cells (d:=#[.int .i64 (l.d:Nat),.slice a6 (l.ps.length+1) c6]) (by simp only[ay,aG,aH]);have q0:(w6.setCell ⟨tb,1,none⟩ (.slice a6 (l.ps.length+1) c6)).cell? ⟨tb,0,none⟩=some (.int .i64 (l.d:Nat)):=(t7.cell 0).trans rfl;have q2:(w6.setCell ⟨tb,1,none⟩ (.slice a6 (l.ps.length+1) c6)).cell? ⟨h0+1,0,none⟩=some (.int .i64 0):=(r7.cell 0).trans rfl;have q3:(w6.setCell ⟨tb,1,none⟩ (.slice a6 (l.ps.length+1) c6)).cell? ⟨h0+1,1,none⟩=some (.slice none 0 0):=(r7.cell 1).trans rfl;have q4:=r7.free;have R7:=ah r7;have hk6:=ah (((Kept.refl (fun x=>x=tb\/x=h0+1) w6).bC tb 1 (.slice a6 (l.ps.length+1) c6) (.inl rfl)).bC (h0+1) 0 (.int .i64 (l.d:Nat)) (.inr rfl) |>.bC (h0+1) 1 (.slice a6 (l.ps.length+1) c6) (.inr rfl));have T6:=ah t6;have R6:=ah r6;clear r6 t6 r7 t7;go_wp2_with fail
  have hX:=((R7.out.set 0 (.int .i64 (l.d:Nat))).set 1 (.slice a6 (l.ps.length+1) c6)).cells (d:=#[.int .i64 (l.d:Nat),.slice a6 (l.ps.length+1) c6]) (by simp only[ay,aG,aH]);refine bodyPost_ret (results_cell_row rfl _ _ (h0+1) _ _ (0,0) _ rfl hX Tryz.underlying43 rfl (by kernel_rfl)) rfl ⟨_,rfl,⟨_,rfl,?_⟩,?_⟩
  ·have e:(l.ps++[(c,level)]).flatMap fG=l.ps.flatMap fG++fG (c,level):=by rw[List.flatMap_append];rfl
   unfold bg;show aJ _ _ _ (l.ps++[(c,level)]).length ((l.ps++[(c,level)]).flatMap fG)
   rw[e,aO];refine aJ.own (dA ho6.out hk6.out (fun b hb e=>?_));obtain⟨cs,hB⟩:=sV ho6.out hb;rcases e with e|e
   ·rw[e]at hB;have:=hB.symm.trans T6.out;simp at this
   ·rw[e]at hB;have:=hB.symm.trans R6.out;simp at this
  ·rw[oU.out]
   exact((hb6.out.setCell (p:=⟨tb,1,none⟩) (by show h0<=tb;omega) _).setCell (p:=⟨h0+1,0,none⟩) (Nat.le_succ h0) _).setCell (p:=⟨h0+1,1,none⟩) (Nat.le_succ h0) _
end Go.Proofs.YtiadbhiadhgjkaaGreatDoor
