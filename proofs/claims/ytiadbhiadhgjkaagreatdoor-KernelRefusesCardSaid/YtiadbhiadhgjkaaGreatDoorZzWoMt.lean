import Derived.Test.YtiadbhiadhgjkaaGreatDoorZzWoE
import Derived.Laws.AppendOwnNone
import Derived.Test.YtiadbhiadhgjkaaGreatDoorZzLib
import Derived.Deep.LoopGhost
import Derived.BigRegion
import Derived.Deep.RegionHeld3
import Derived.Deep.MidRow
set_option maxRecDepth 100000
set_option maxHeartbeats 4000000
namespace Go.Proofs.YtiadbhiadhgjkaaGreatDoor
open Go.RowKit
attribute [local irreducible] World.setCell World.alloc World.drew World.setRow Calls Code.wp
attribute [local go_sem] Oper.semAt_some
def jl(ps:List (Nat×Nat)):List Nat:=(ps.filter fun p=>decide (p.2=0)).map (·.1)
def Mj(c:Nat):Value:=.int .u32 (c:Nat)
theorem NU:(Tryz.prog.info? 71).map (fun i=>(i.zero,i.size,i.bytes))=some (some (.int .u32 0),1,4):=by kernel_rfl
theorem Io(w:World)(v:Value)(t:TypeId):∀(j:Nat) (u:Value),[v][j]? = some u->(w.alloc (.cells #[v] t)).cell? ((⟨w.heap.size,0,none⟩:Addr).add j)=some u:=by
 intro j u h
 have hj:j=0:=by
  rcases Nat.eq_zero_or_pos j with e|e
  ·exact e
  ·rw[List.getElem?_eq_none (by simp;omega)]at h;cases h
 subst hj;rw[Addr.add_lit,(aR.new w #[v] t).cell];simpa using h
theorem CZ(l:dn)(v:Value)(w:World)(h:bU w v l)(hl:l.ps.length<=1000) :
  Calls Tryz.prog 9 #[v] w fun e w'=>∃r,e=.returned r/\w'.ownsRow w.heap.size 71 1 r (jl l.ps).length ((jl l.ps).map Mj)/\Below w.heap.size w w':=by
 obtain⟨s,rfl,hps⟩:=h;obtain⟨a,c,rfl,hc1,hc2⟩:=aJ.form hps;have HS:=ah (fun w' (k:Below w.heap.size w w')=>(aJ.below hps k (aj _):bg w' _ l.ps));obtain⟨i0,hi,hz0,hz1,hz2⟩:=info_parts NU;have Hi:=ah hi;have lJ:=ah hz0;have lI:=ah hz1;have kT:=ah hz2;have HB0:Hid (Below w.heap.size w (w.alloc (.cells #[.int .i64 (l.d:Nat),.slice a l.ps.length c] 43))):=(aC _ w).alloc (aj _) _;clear hi hz0 hz1 hz2 hps;go_enter Tryz.func9,Tryz.ntmps9
 go_wp2_with fail
 go_loopg [3,5,9] l.ps.length (fun g vo _ vi wx=>∃k:Nat,k+g=l.ps.length/\vi=.int .i64 k/\Hid (wx.ownsRow w.heap.size 71 1 vo (jl (l.ps.take k)).length ((jl (l.ps.take k)).map Mj))/\Hid (Below w.heap.size w wx))
 case atStart=>exact⟨0,by omega,rfl,ah (cu _ _ _ _),HB0⟩
 case round =>
  obtain⟨k,hk,rfl,HO,HB⟩:=hrel;by_cases hlt:k<l.ps.length
  ·have hlt':(k:Int)<l.ps.length:=by omega
   obtain⟨⟨x,y⟩,hq⟩:∃q,l.ps[k]? = some q:=⟨_,aQ hlt⟩;obtain⟨b,rfl,-,q0,q1⟩:=bg.at (HS.out _ HB.out) hq;simp only at q0 q1;have hsz:=HB.out.size
   have hnl:(jl (l.ps.take k)).length<=1000:=by
    unfold jl;rw[List.length_map];have h1:=List.length_filter_le (fun p:Nat×Nat=>decide (p.2=0)) (l.ps.take k);rw[List.length_take]at h1;omega
   have hnx:jl (l.ps.take (k+1))=jl (l.ps.take k)++(if y=0 then [x]else []):=by
    unfold jl;rw[List.take_add_one,hq,List.filter_append,List.map_append];by_cases e:y=0<;>simp[e]
   have BS:Hid (Below w.heap.size w (wr.alloc (.cells #[.int .u32 (x:Nat),.int .i64 (y:Nat)] 111))):=HB.out.alloc hsz _;have HOn:Hid ((wr.alloc (.cells #[.int .u32 (x:Nat),.int .i64 (y:Nat)] 111)).ownsRow w.heap.size 71 1 u3 (jl (l.ps.take k)).length ((jl (l.ps.take k)).map Mj)):=HO.out.alloc _;have hcz:=(aR.new wr #[.int .u32 (x:Nat),.int .i64 (y:Nat)] 111).cell;have hsw:wr.heap.size+1=(wr.alloc (.cells #[.int .u32 (x:Nat),.int .i64 (y:Nat)] 111)).heap.size:=by rw[au]
   have hone:=Io (wr.alloc (.cells #[.int .u32 (x:Nat),.int .i64 (y:Nat)] 111)) (.int .u32 (x:Nat)) 71;rw[<-hsw]at hone;have yL:=ah hone;clear hsw hone;clear hq;by_cases e:y=0
   ·rw[aD e]at hnx
    have mQ:=ah hnx;subst e;clear hnx;go_wp2_with (at_builtin;refine wpList_append_own _ rfl _ _ 69 rfl w.heap.size 71 i0 (.int .u32 0) 1 4 Tryz.underlying69 Hi.out lJ.out lI.out kT.out rfl (by decide) _ _ _ rfl (HOn.out.alloc _) ⟨wr.heap.size+1,0,none⟩ 1 1 [.int .u32 (x:Nat)] rfl rfl yL.out (fun u hu=>by simp at hu;subst hu;rfl) (by unfold maxLen;omega) (by omega) (by rw[au,au];omega) ?_;intro v' w6 hown6 dN _)
    have sK:Hid (w6.ownsRow w.heap.size 71 1 v' (jl (l.ps.take (k+1))).length ((jl (l.ps.take (k+1))).map Mj)):=by
     rw[mQ.out,List.map_append,aO];exact hown6
    have wB:Hid (Below w.heap.size w w6):=(BS.out.alloc (by rw[au];omega) _).grown dN (by rw[au,au];omega) (fun k hk=>(HOn.out.lt k hk).1);clear hown6 dN;go_wp2_with fail
    go_roundg (l.ps.length-(k+1))
    case measure=>omega
    case rel=>exact⟨k+1,by omega,by go_num,sK,wB⟩
   ·rw[aA e,List.append_nil]at hnx
    have sK:Hid ((wr.alloc (.cells #[.int .u32 (x:Nat),.int .i64 (y:Nat)] 111)).ownsRow w.heap.size 71 1 u3 (jl (l.ps.take (k+1))).length ((jl (l.ps.take (k+1))).map Mj)):=by
     show World.ownsRow _ _ _ _ _ _ _
     rw[hnx];exact HOn.out
    have eb:((y:Int)==0)=false:=by simp;omega
    clear hnx;go_wp2_with fail
    go_roundg (l.ps.length-(k+1))
    case measure=>omega
    case rel=>exact⟨k+1,by omega,by go_num,sK,BS⟩
  ·obtain rfl:k=l.ps.length:=by omega
   rw[List.take_length]at HO;go_wp2_with fail
   go_ret;exact⟨_,rfl,HO.out,HB.out⟩
theorem yX(l:dn)(v:Value)(w:World)(h:bU w v l)(hl:l.ps.length<=1000) :
  Calls Tryz.prog 81 #[v] w fun e w'=>e=.returned (.bool l.plain)/\Below w.heap.size w w':=by
 have hlen:l.plain=decide ((jl l.ps).length=0):=by
  unfold dn.plain jl;rw[List.length_map]
  cases e:l.ps.all fun p=>decide (p.2≠0)with
  | true =>
   symm
   rw[aY,List.length_eq_zero_iff,List.filter_eq_nil_iff];intro p hp;have:=List.all_eq_true.1 e p hp;simpa using this
  | false =>
   symm
   rw[decide_eq_false_iff_not];intro h0;rw[List.length_eq_zero_iff,List.filter_eq_nil_iff]at h0;rw[List.all_eq_false]at e;obtain⟨p,hp,h1⟩:=e;exact h1 (by have:=h0 p hp;simpa using this)
 have Hlen:=ah hlen;obtain⟨s,rfl,hps⟩:=h;obtain⟨wz,hwz⟩:∃wz:World,wz=w.alloc (.cells #[.int .i64 (l.d:Nat),s] 43):=⟨_,rfl⟩;obtain⟨a,c,rfl,hc1,hc2⟩:=aJ.form hps;have Ql:Hid (Below w.heap.size w wz):=by rw[hwz];exact(aC _ w).alloc (aj _) _
 have Ho:=ah (CZ l (.agg #[.int .i64 (l.d:Nat),.slice a l.ps.length c]) wz ⟨_,rfl,aJ.below hps Ql.out (aj _)⟩ hl);clear hlen hps;go_enter Tryz.func81,Tryz.ntmps81
 go_wp2_with fail
 rw[<-hwz];refine Ho.out.mono ?_;rintro e w1 ⟨r,rfl,hr,hb⟩;have HB1:=ah (aT Ql.out hb);obtain⟨ra,rc,rfl,-,-⟩:=aJ.form (aJ.own hr);clear hr hb hwz
 cases hd:decide ((jl l.ps).length=0)with
 | true =>
  have h0:(((jl l.ps).length:Int)==0)=true:=by rw[aY]at hd;simp[hd]
  have Hd:=ah hd;clear hd;go_wp2_with fail
  go_ret;exact⟨by rw[Hlen.out,Hd.out];rfl,HB1.out⟩
 | false =>
  have h0:(((jl l.ps).length:Int)==0)=false:=by rw[decide_eq_false_iff_not]at hd;simp;intro e;exact hd (by rw[e];rfl)
  have Hd:=ah hd;clear hd;go_wp2_with fail
  go_ret;exact⟨by rw[Hlen.out,Hd.out];rfl,HB1.out⟩
end Go.Proofs.YtiadbhiadhgjkaaGreatDoor
namespace Go.Proofs.YtiadbhiadhgjkaaGreatDoor
open Go.RowKit
structure Pool where
 n:Nat
 O:Nat->Int
 D:Nat->Int
def iF(O:Nat->Int):Nat->Nat
 | 0=>0
 | k+1=>iF O k+(if O k=0 then 1 else 0)
def firstFree(O:Nat->Int):Nat->Nat
 | 0=>0
 | k+1=>if firstFree O k<k then firstFree O k else if O k=0 then k else k+1
def bY(O:Nat->Int)(o:Int):Nat->Nat
 | 0=>0
 | k+1=>bY O o k+(if O k=o then 1 else 0)
theorem uV(O:Nat->Int)(k:Nat):iF O k<=k:=by
 induction k with
 | zero=>exact aj _
 | succ k ih=>unfold iF;split<;>omega
theorem uh(O:Nat->Int)(k:Nat):bY O 0 k=iF O k:=by
 induction k with
 | zero=>rfl
 | succ k ih=>unfold bY iF;rw[ih]
theorem iG(O:Nat->Int)(k:Nat):firstFree O k<=k:=by
 induction k with
 | zero=>exact aj _
 | succ k ih=>unfold firstFree;(repeat' split)<;>omega
theorem xV(O:Nat->Int)(k j:Nat)(h:j<firstFree O k):O j≠0:=by
 induction k with
 | zero=>simp[firstFree]at h
 | succ k ih =>
  unfold firstFree at h;by_cases h1:firstFree O k<k
  ·rw[aD h1]at h;exact ih h
  ·rw[aA h1]at h
   have h2:=iG O k;have h3:firstFree O k=k:=by omega
   by_cases h4:O k=0
   ·rw[aD h4]at h;exact ih (by omega)
   ·rw[aA h4]at h
    by_cases h5:j=k
    ·subst h5;exact h4
    ·exact ih (by omega)
theorem iY(O:Nat->Int)(k:Nat)(h:firstFree O k<k):O (firstFree O k)=0:=by
 induction k with
 | zero=>omega
 | succ k ih =>
  by_cases h1:firstFree O k<k
  ·have e:firstFree O (k+1)=firstFree O k:=by rw[firstFree,aD h1]
   rw[e];exact ih h1
  ·by_cases h4:O k=0
   ·have e:firstFree O (k+1)=k:=by rw[firstFree,aA h1,aD h4]
    rw[e];exact h4
   ·have e:firstFree O (k+1)=k+1:=by rw[firstFree,aA h1,aA h4]
    omega
theorem Bn(O:Nat->Int)(k i:Nat)(hi:i<=k)(h1:∀j,j<i->O j≠0)(h2:i<k->O i=0):firstFree O k=i:=by
 rcases Nat.lt_trichotomy (firstFree O k) i with h|h|h
 ·exact absurd (iY O k (by omega)) (h1 _ h)
 ·exact h
 ·have:=iG O k
  exact absurd (h2 (by omega)) (xV O k i h)
theorem mK(O:Nat->Int)(k:Nat):iF O k=0↔firstFree O k=k:=by
 induction k with
 | zero=>simp[iF,firstFree]
 | succ k ih =>
  have h2:=iG O k;by_cases h4:O k=0
  ·have e1:iF O (k+1)=iF O k+1:=by rw[iF,aD h4]
   have e2:firstFree O (k+1)<=k:=by rw[firstFree,aD h4];split<;>omega
   omega
  ·have e1:iF O (k+1)=iF O k:=by rw[iF,aA h4];rfl
   by_cases h1:firstFree O k<k
   ·have e:firstFree O (k+1)=firstFree O k:=by rw[firstFree,aD h1]
    rw[e1,e];omega
   ·have e:firstFree O (k+1)=k+1:=by rw[firstFree,aA h1,aA h4]
    rw[e1,e];omega
def dU(O:Nat->Int)(i:Nat)(v:Int):Nat->Int:=fun j=>if j=i then v else O j
theorem dZ(O:Nat->Int)(i:Nat)(v:Int):dU O i v i=v:=by simp[dU]
theorem bL(O:Nat->Int)(i j:Nat)(v:Int)(h:j≠i):dU O i v j=O j:=by simp[dU,h]
theorem yc(O:Nat->Int)(o v:Int)(i k:Nat)(h:k<=i):bY (dU O i v) o k=bY O o k:=by
 induction k with
 | zero=>rfl
 | succ k ih=>unfold bY;rw[ih (by omega),bL _ _ _ _ (by omega)]
theorem fu(O:Nat->Int)(o v:Int)(i k:Nat)(h:i<k):bY (dU O i v) o k+(if O i=o then 1 else 0)=bY O o k+(if v=o then 1 else 0):=by
 induction k with
 | zero=>omega
 | succ k ih =>
  unfold bY;by_cases e:k=i
  ·subst e
   rw[yc O o v k k (aj _),dZ];omega
  ·have:=ih (by omega)
   rw[bL _ _ _ _ e];omega
theorem iX(O:Nat->Int)(v:Int)(i k:Nat)(h:i<k):iF (dU O i v) k+(if O i=0 then 1 else 0)=iF O k+(if v=0 then 1 else 0):=by
 rw[<-uh,<-uh];exact fu O 0 v i k h
def Pool.left(P:Pool):Nat:=iF P.O P.n
def Pool.there(P:Pool)(f:Int):Bool:=decide (1<=f)&&decide (f<=P.n)
def Pool.owner(P:Pool)(f:Int):Int:=if P.there f then P.O (f.toNat-1)else 0
def Pool.fits(P:Pool)(f off n:Int):Bool:=(P.owner f != 0)&&decide (0<=n)&&decide (n<=64)&&decide (0<=off)&&decide (off<=64-n)
def Pool.bJ(P:Pool)(owner:Int):Int:=if owner≠0/\firstFree P.O P.n<P.n then firstFree P.O P.n+1 else 0
def Pool.alloc(P:Pool)(owner:Int):Pool :=
 if owner≠0/\firstFree P.O P.n<P.n then⟨P.n,dU P.O (firstFree P.O P.n) owner,fun j=>if firstFree P.O P.n*64<=j/\j<firstFree P.O P.n*64+64 then 0 else P.D j⟩else P
def Pool.free(P:Pool)(f:Int):Pool:=if P.owner f≠0 then⟨P.n,dU P.O (f.toNat-1) 0,P.D⟩else P
def Pool.write(P:Pool)(f off:Int)(m:Nat)(B:Nat->Int):Pool :=
 if P.fits f off m then⟨P.n,P.O,fun j=>if(f.toNat-1)*64+off.toNat<=j/\j<(f.toNat-1)*64+off.toNat+m then B (j-((f.toNat-1)*64+off.toNat))else P.D j⟩else P
theorem Pool.dM(P:Pool)(f:Int):P.there f=true↔1<=f/\f<=P.n:=by simp[Pool.there]
theorem Pool.eZ(P:Pool)(f:Int)(h:P.owner f≠0):P.there f=true:=by
 unfold Pool.owner at h;split at h
 ·assumption
 ·exact absurd rfl h
theorem Pool.nS(P:Pool)(f off n:Int):P.fits f off n=true↔P.owner f≠0/\0<=n/\n<=64/\0<=off/\off<=64-n:=by
 simp[Pool.fits,and_assoc]
structure bB(w:World)(pb db ob:Nat)(P:Pool):Prop where
 hp:aR w pb #[.slice (some ⟨db,0,none⟩) P.n P.n,.slice (some ⟨ob,0,none⟩) P.n P.n,.int .i64 P.left] 184
 hd:aR w db (row (P.n*64) fun i=>.int .u8 (P.D i)) 186
 ho:aR w ob (row P.n fun i=>.int .u64 (P.O i)) 37
 n1:pb≠db
 n2:pb≠ob
 n3:db≠ob
 lo:1<=P.n
 hi:P.n<=4096
 bd:∀i,0<=P.D i/\P.D i<=255
def PS(pb db ob:Nat):Nat->Prop:=fun k=>k=pb\/k=db\/k=ob
theorem bB.kept{S:Nat->Prop}{w w':World}{pb db ob:Nat}{P:Pool}(h:bB w pb db ob P)(k:Kept S w w')(h1:¬S pb)(h2:¬S db)(h3:¬S ob):bB w' pb db ob P :=
 ⟨k.blk h.hp h1,k.blk h.hd h2,k.blk h.ho h3,h.n1,h.n2,h.n3,h.lo,h.hi,h.bd⟩
theorem bB.below{w w':World}{pb db ob:Nat}{P:Pool}(h:bB w pb db ob P)(k:Below w.heap.size w w'):bB w' pb db ob P :=
 h.kept (S:=fun _=>False) (Kept.of_below k) (fun h=>h) (fun h=>h) (fun h=>h)
theorem bB.drew{w:World}{pb db ob:Nat}{P:Pool}(h:bB w pb db ob P):bB w.drew pb db ob P :=
 ⟨h.hp,h.hd,h.ho,h.n1,h.n2,h.n3,h.lo,h.hi,h.bd⟩
end Go.Proofs.YtiadbhiadhgjkaaGreatDoor
namespace Go.Proofs.YtiadbhiadhgjkaaGreatDoor
open Go.RowKit
attribute [local irreducible] World.setCell World.alloc World.drew World.setRow Calls Code.wp row
theorem tF(pb db ob:Nat)(P:Pool)(w:World)(hP:bB w pb db ob P) :
  Calls Tryz.prog 62 #[.pointer (some ⟨pb,0,none⟩)] w fun e w'=>e=.returned (.int .i64 P.left)/\w=w':=by
 have hc:=hP.hp.cell;clear hP;go_enter Tryz.func62,Tryz.ntmps62
 go_wp2
 go_ret;exact⟨rfl,rfl⟩
theorem nC(pb db ob:Nat)(P:Pool)(f:Int)(w:World)(hP:bB w pb db ob P) :
  Calls Tryz.prog 132 #[.pointer (some ⟨pb,0,none⟩),.int .i64 f] w fun e w'=>e=.returned (.bool (P.there f))/\w=w':=by
 have hc:=hP.hp.cell;clear hP;have ht:P.there f=(decide (1<=f)&&decide (f<=P.n)):=rfl;have Ht:=ah ht;clear ht;by_cases h1:1<=f
 ·have h1b:decide (1<=f)=true:=by simpa using h1
  go_enter Tryz.func132,Tryz.ntmps132
  go_wp2
  all_goals go_ret
  all_goals exact⟨by rw[Ht.out,h1b];simp,rfl⟩
 ·have h1b:decide (1<=f)=false:=by simpa using h1
  go_enter Tryz.func132,Tryz.ntmps132
  go_wp2
  all_goals go_ret
  all_goals exact⟨by rw[Ht.out,h1b];simp,rfl⟩
theorem kE(pb db ob:Nat)(P:Pool)(f:Int)(w:World)(hP:bB w pb db ob P) :
  Calls Tryz.prog 108 #[.pointer (some ⟨pb,0,none⟩),.int .i64 f] w fun e w'=>e=.returned (.int .u64 (P.owner f))/\w=w':=by
 have hc:=hP.hp.cell;have hw:P.owner f=if P.there f then P.O (f.toNat-1)else 0:=rfl
 by_cases ht:P.there f=true
 ·obtain⟨h1,h2⟩:=(P.dM f).1 ht
  obtain⟨k,rfl⟩:∃k:Nat,f=(k:Int)+1:=⟨(f-1).toNat,by omega⟩;have ho:=hP.ho.rowAt k (by omega);have hhi:=hP.hi;have HP:=ah hP;clear hP;rw[aD ht]at hw;have e:((k:Int)+1).toNat-1=k:=by omega
  rw[e]at hw;have Hw:=ah hw;clear hw e;have Ht:=ah ht;clear ht;go_enter Tryz.func108,Tryz.ntmps108
  go_wp2_with fail
  refine(nC pb db ob P _ _ HP.out).mono ?_;rintro e w' ⟨rfl,rfl⟩;rw[Ht.out];go_wp2_with fail
  go_ret;exact⟨by rw[Hw.out];rfl,rfl⟩
 ·rw[aA ht]at hw
  have ht':P.there f=false:=by simpa using ht
  have Hw:=ah hw;clear hw;have HP:=ah hP;clear hP;have Ht:=ah ht';clear ht ht';go_enter Tryz.func108,Tryz.ntmps108
  go_wp2_with fail
  refine(nC pb db ob P _ _ HP.out).mono ?_;rintro e w' ⟨rfl,rfl⟩;rw[Ht.out];go_wp2_with fail
  go_ret;exact⟨by rw[Hw.out];rfl,rfl⟩
theorem nT(pb db ob:Nat)(P:Pool)(f off n:Int)(w:World)(hP:bB w pb db ob P) :
  Calls Tryz.prog 79 #[.pointer (some ⟨pb,0,none⟩),.int .i64 f,.int .i64 off,.int .i64 n] w fun e w'=>e=.returned (.bool (P.fits f off n))/\w=w':=by
 have hw:P.fits f off n=((((P.owner f != 0)&&decide (0<=n))&&decide (n<=64))&&decide (0<=off)&&decide (off<=64-n)):=rfl;have Hw:=ah hw;clear hw;have HP:=ah hP;clear hP
 cases e1:(P.owner f != 0)
 ·go_enter Tryz.func79,Tryz.ntmps79
  go_wp2_with (go_at_call 108;refine(kE pb db ob P _ _ HP.out).mono ?_;rintro e w' ⟨rfl,rfl⟩)
  go_ret;exact⟨by rw[Hw.out,e1];rfl,rfl⟩
 by_cases h2:0<=n
 ·by_cases h3:n<=64
  ·by_cases h4:0<=off
   ·go_enter Tryz.func79,Tryz.ntmps79
    go_wp2_with (go_at_call 108;refine(kE pb db ob P _ _ HP.out).mono ?_;rintro e w' ⟨rfl,rfl⟩)
    go_ret;exact⟨by rw[Hw.out,e1];simp[h2,h3,h4],rfl⟩
   ·go_enter Tryz.func79,Tryz.ntmps79
    go_wp2_with (go_at_call 108;refine(kE pb db ob P _ _ HP.out).mono ?_;rintro e w' ⟨rfl,rfl⟩)
    go_ret;exact⟨by rw[Hw.out,e1];simp;omega,rfl⟩
  ·go_enter Tryz.func79,Tryz.ntmps79
   go_wp2_with (go_at_call 108;refine(kE pb db ob P _ _ HP.out).mono ?_;rintro e w' ⟨rfl,rfl⟩)
   go_ret;exact⟨by rw[Hw.out,e1];simp;omega,rfl⟩
 ·go_enter Tryz.func79,Tryz.ntmps79
  go_wp2_with (go_at_call 108;refine(kE pb db ob P _ _ HP.out).mono ?_;rintro e w' ⟨rfl,rfl⟩)
  go_ret;exact⟨by rw[Hw.out,e1];simp;omega,rfl⟩
theorem JB{w:World}{b o n:Nat}(h:w.there b o n)(a:Addr)(v:Value):(w.setCell a v).there b o n:=by
 intro j hj;obtain⟨h1,h2⟩:=h j hj;refine⟨?_,by rw[World.frozen?_setCell];exact h2⟩;by_cases e:a=⟨b,o+j,none⟩
 ·subst e;rw[World.cell?_setCell_same' _ _ _ h1];rfl
 ·rw[World.cell?_setCell_other _ _ _ _ e];exact h1
theorem bB.Ut{w:World}{pb db ob:Nat}{P:Pool}(h:bB w pb db ob P)(k:Nat)(v L:Int)(hL:L=(iF (dU P.O k v) P.n:Nat)) :
  bB ((w.setCell ⟨ob,k,none⟩ (.int .u64 v)).setCell ⟨pb,2,none⟩ (.int .i64 L)) pb db ob ⟨P.n,dU P.O k v,P.D⟩:=by
 refine⟨?_,(h.hd.aI (a:=⟨ob,k,none⟩) (fun e=>h.n3 e.symm) _).aI (a:=⟨pb,2,none⟩) h.n1 _,?_,h.n1,h.n2,h.n3,h.lo,h.hi,h.bd⟩
 ·refine aR.cells ((h.hp.aI (a:=⟨ob,k,none⟩) (fun e=>h.n2 e.symm) _).set 2 _) ?_
  simp[Pool.left,hL]
 ·refine(aR.cells (h.ho.set k _) ?_).aI (a:=⟨pb,2,none⟩) h.n2 _
  rw[wF];refine jN fun i _=>?_
  by_cases e:i=k
  ·rw[aD e];simp[dU,e]
  ·rw[aA e];simp[dU,e]
theorem xS(pb db ob:Nat)(P:Pool)(f:Int)(w:World)(hP:bB w pb db ob P) :
  Calls Tryz.prog 110 #[.pointer (some ⟨pb,0,none⟩),.int .i64 f] w fun e w'=>e=.returned (.tuple #[])/\bB w' pb db ob (P.free f)/\Kept (PS pb db ob) w w':=by
 have hc:=hP.hp.cell;have hfp:=hP.hp.free;have hfo:=hP.ho.free;have hn2:=hP.n2;have hhi:=hP.hi;have hll:=uV P.O P.n;have hll:P.left<=4096:=by unfold Pool.left;omega
 by_cases ht:P.there f=true
 ·obtain⟨h1,h2⟩:=(P.dM f).1 ht
  have how:P.owner f=P.O (f.toNat-1):=by unfold Pool.owner;rw[aD ht]
  obtain⟨k,rfl⟩:∃k:Nat,f=(k:Int)+1:=⟨(f-1).toNat,by omega⟩;have e:((k:Int)+1).toNat-1=k:=by omega
  rw[e]at how;have ho:=hP.ho.rowAt k (by omega);have hf:P.free ((k:Int)+1)=if P.O k≠0 then⟨P.n,dU P.O k 0,P.D⟩else P:=by unfold Pool.free;rw[how,e]
  have hup:=iX P.O 0 k P.n (by omega);have HP:=ah hP;clear hP;have Hf:=ah hf;clear hf;have Hup:=ah hup;clear hup;have Ht:=ah ht;clear ht how e
  cases e1:(P.O k != 0)
  ·go_enter Tryz.func110,Tryz.ntmps110
   go_wp2_with fail
   refine(nC pb db ob P _ _ HP.out).mono ?_;rintro e w' ⟨rfl,rfl⟩;rw[Ht.out];go_wp2_with fail
   go_end0
   exact⟨rfl,by rw[Hf.out,aA (by simpa using e1)];exact HP.out,Kept.refl _ _⟩
  ·go_enter Tryz.func110,Tryz.ntmps110
   go_wp2_with fail
   refine(nC pb db ob P _ _ HP.out).mono ?_;rintro e w' ⟨rfl,rfl⟩;rw[Ht.out];go_wp2_with fail
   go_end0
   refine⟨rfl,?_,((Kept.refl _ _).bC _ _ _ (.inr (.inr rfl))).bC _ _ _ (.inl rfl)⟩;rw[Hf.out,aD (by simpa using e1)];have hup:=Hup.out;have e2:¬P.O k=0:=by simpa using e1
   rw[aA e2]at hup;simp at hup;exact HP.out.Ut k 0 _ (by unfold Pool.left;omega)
 ·have ht':P.there f=false:=by simpa using ht
  have how:P.owner f=0:=by unfold Pool.owner;rw[aA ht]
  have Hf:Hid (P.free f=P):=by unfold Hid Pool.free;rw[how];simp
  have HP:=ah hP;clear hP;have Ht:=ah ht';clear ht ht' how;go_enter Tryz.func110,Tryz.ntmps110
  go_wp2_with fail
  refine(nC pb db ob P _ _ HP.out).mono ?_;rintro e w' ⟨rfl,rfl⟩;rw[Ht.out];go_wp2_with fail
  go_end0
  exact⟨rfl,by rw[Hf.out];exact HP.out,Kept.refl _ _⟩
def nA(w:World)(pb db ob n k:Nat):Prop :=
 w.cell? ⟨pb,0,none⟩=some (.slice (some ⟨db,0,none⟩) n n)/\w.cell? ⟨pb,1,none⟩=some (.slice (some ⟨ob,0,none⟩) n n)/\w.there db (k*64) 64
theorem nA.set{w:World}{pb db ob n k:Nat}(h:nA w pb db ob n k)(hn:ob≠pb)(i:Nat)(v:Value):nA (w.setCell ⟨ob,i,none⟩ v) pb db ob n k :=
 ⟨by rw[World.cell?_setCell_far _ _ _ _ hn];exact h.1,by rw[World.cell?_setCell_far _ _ _ _ hn];exact h.2.1,JB h.2.2 _ _⟩
theorem nA.sets{w:World}{pb db ob n k:Nat}(h:nA w pb db ob n k)(hn:pb≠db)(o:Nat)(vs:List Value):nA (w.setCells db o vs) pb db ob n k :=
 ⟨by rw[World.cell?_setCells_out _ _ _ _ _ (fun e=>absurd e hn)];exact h.1,by rw[World.cell?_setCells_out _ _ _ _ _ (fun e=>absurd e hn)];exact h.2.1,World.there_setCells h.2.2 _ _ _⟩
theorem nA.drew{w:World}{pb db ob n k:Nat}(h:nA w pb db ob n k):nA w.drew pb db ob n k :=
 ⟨by rw[World.cell?_drew];exact h.1,by rw[World.cell?_drew];exact h.2.1,(World.there_drew _ _ _ _).2 h.2.2⟩
theorem Jk:∀v∈[Value.int .u8 0,Value.int .u8 0,Value.int .u8 0,Value.int .u8 0,Value.int .u8 0,Value.int .u8 0,Value.int .u8 0,Value.int .u8 0,Value.int .u8 0,Value.int .u8 0,Value.int .u8 0,Value.int .u8 0,Value.int .u8 0,Value.int .u8 0,Value.int .u8 0,Value.int .u8 0,Value.int .u8 0,Value.int .u8 0,Value.int .u8 0,Value.int .u8 0,Value.int .u8 0,Value.int .u8 0,Value.int .u8 0,Value.int .u8 0,Value.int .u8 0,Value.int .u8 0,Value.int .u8 0,Value.int .u8 0,Value.int .u8 0,Value.int .u8 0,Value.int .u8 0,Value.int .u8 0,Value.int .u8 0,Value.int .u8 0,Value.int .u8 0,Value.int .u8 0,Value.int .u8 0,Value.int .u8 0,Value.int .u8 0,Value.int .u8 0,Value.int .u8 0,Value.int .u8 0,Value.int .u8 0,Value.int .u8 0,Value.int .u8 0,Value.int .u8 0,Value.int .u8 0,Value.int .u8 0,Value.int .u8 0,Value.int .u8 0,Value.int .u8 0,Value.int .u8 0,Value.int .u8 0,Value.int .u8 0,Value.int .u8 0,Value.int .u8 0,Value.int .u8 0,Value.int .u8 0,Value.int .u8 0,Value.int .u8 0,Value.int .u8 0,Value.int .u8 0,Value.int .u8 0,Value.int .u8 0],v.oneCell'=true:=by
 intro v hv;have e:[Value.int .u8 0,Value.int .u8 0,Value.int .u8 0,Value.int .u8 0,Value.int .u8 0,Value.int .u8 0,Value.int .u8 0,Value.int .u8 0,Value.int .u8 0,Value.int .u8 0,Value.int .u8 0,Value.int .u8 0,Value.int .u8 0,Value.int .u8 0,Value.int .u8 0,Value.int .u8 0,Value.int .u8 0,Value.int .u8 0,Value.int .u8 0,Value.int .u8 0,Value.int .u8 0,Value.int .u8 0,Value.int .u8 0,Value.int .u8 0,Value.int .u8 0,Value.int .u8 0,Value.int .u8 0,Value.int .u8 0,Value.int .u8 0,Value.int .u8 0,Value.int .u8 0,Value.int .u8 0,Value.int .u8 0,Value.int .u8 0,Value.int .u8 0,Value.int .u8 0,Value.int .u8 0,Value.int .u8 0,Value.int .u8 0,Value.int .u8 0,Value.int .u8 0,Value.int .u8 0,Value.int .u8 0,Value.int .u8 0,Value.int .u8 0,Value.int .u8 0,Value.int .u8 0,Value.int .u8 0,Value.int .u8 0,Value.int .u8 0,Value.int .u8 0,Value.int .u8 0,Value.int .u8 0,Value.int .u8 0,Value.int .u8 0,Value.int .u8 0,Value.int .u8 0,Value.int .u8 0,Value.int .u8 0,Value.int .u8 0,Value.int .u8 0,Value.int .u8 0,Value.int .u8 0,Value.int .u8 0]=List.replicate 64 (Value.int .u8 0):=by rfl
 rw[e]at hv;rw[List.eq_of_mem_replicate hv];rfl
theorem LY(i:Nat)(h:i<64):[Value.int .u8 0,Value.int .u8 0,Value.int .u8 0,Value.int .u8 0,Value.int .u8 0,Value.int .u8 0,Value.int .u8 0,Value.int .u8 0,Value.int .u8 0,Value.int .u8 0,Value.int .u8 0,Value.int .u8 0,Value.int .u8 0,Value.int .u8 0,Value.int .u8 0,Value.int .u8 0,Value.int .u8 0,Value.int .u8 0,Value.int .u8 0,Value.int .u8 0,Value.int .u8 0,Value.int .u8 0,Value.int .u8 0,Value.int .u8 0,Value.int .u8 0,Value.int .u8 0,Value.int .u8 0,Value.int .u8 0,Value.int .u8 0,Value.int .u8 0,Value.int .u8 0,Value.int .u8 0,Value.int .u8 0,Value.int .u8 0,Value.int .u8 0,Value.int .u8 0,Value.int .u8 0,Value.int .u8 0,Value.int .u8 0,Value.int .u8 0,Value.int .u8 0,Value.int .u8 0,Value.int .u8 0,Value.int .u8 0,Value.int .u8 0,Value.int .u8 0,Value.int .u8 0,Value.int .u8 0,Value.int .u8 0,Value.int .u8 0,Value.int .u8 0,Value.int .u8 0,Value.int .u8 0,Value.int .u8 0,Value.int .u8 0,Value.int .u8 0,Value.int .u8 0,Value.int .u8 0,Value.int .u8 0,Value.int .u8 0,Value.int .u8 0,Value.int .u8 0,Value.int .u8 0,Value.int .u8 0][i]? = some (Value.int .u8 0):=by
 have e:[Value.int .u8 0,Value.int .u8 0,Value.int .u8 0,Value.int .u8 0,Value.int .u8 0,Value.int .u8 0,Value.int .u8 0,Value.int .u8 0,Value.int .u8 0,Value.int .u8 0,Value.int .u8 0,Value.int .u8 0,Value.int .u8 0,Value.int .u8 0,Value.int .u8 0,Value.int .u8 0,Value.int .u8 0,Value.int .u8 0,Value.int .u8 0,Value.int .u8 0,Value.int .u8 0,Value.int .u8 0,Value.int .u8 0,Value.int .u8 0,Value.int .u8 0,Value.int .u8 0,Value.int .u8 0,Value.int .u8 0,Value.int .u8 0,Value.int .u8 0,Value.int .u8 0,Value.int .u8 0,Value.int .u8 0,Value.int .u8 0,Value.int .u8 0,Value.int .u8 0,Value.int .u8 0,Value.int .u8 0,Value.int .u8 0,Value.int .u8 0,Value.int .u8 0,Value.int .u8 0,Value.int .u8 0,Value.int .u8 0,Value.int .u8 0,Value.int .u8 0,Value.int .u8 0,Value.int .u8 0,Value.int .u8 0,Value.int .u8 0,Value.int .u8 0,Value.int .u8 0,Value.int .u8 0,Value.int .u8 0,Value.int .u8 0,Value.int .u8 0,Value.int .u8 0,Value.int .u8 0,Value.int .u8 0,Value.int .u8 0,Value.int .u8 0,Value.int .u8 0,Value.int .u8 0,Value.int .u8 0]=List.replicate 64 (Value.int .u8 0):=by rfl
 rw[e,List.getElem?_replicate,aD h]
theorem aR.setCells{t b n:Nat}:∀(vs:List Value) (o:Nat) (w:World) (f:Nat->Value),aR w b (row n f) t->o+vs.length<=n->aR (w.setCells b o vs) b (row n (fun j=>if o<=j/\j<o+vs.length then vs.getD (j-o) undef else f j)) t
 | [],o,w,f,h,_=>by
  refine aR.cells h (jN fun i _=>?_);rw[aA (by simp only[List.length_nil];omega)]
 | v::r,o,w,f,h,hl=>by
  have h1:=(h.set o v).cells (wF n f o v);have h2:=aR.setCells r (o+1) (w.setCell ⟨b,o,none⟩ v) _ h1 (by simp at hl;omega);refine aR.cells (show aR ((w.setCell ⟨b,o,none⟩ v).setCells b (o+1) r) b _ t from h2) (jN fun i _=>?_);by_cases e:i=o
  ·subst e
   rw[aA (by omega),aD rfl,aD (by simp)];simp
  ·by_cases e1:o+1<=i/\i<o+1+r.length
   ·rw[aD e1,aD (by simp;omega)]
    have:i-o=(i-(o+1))+1:=by omega
    rw[this];simp
   ·rw[aA e1,aA e,aA (by simp only[aZ];omega)]
theorem Kept.setCells{S:Nat->Prop}{w:World}{b:Nat}(hb:S b):∀(vs:List Value) (o:Nat) (w1:World),Kept S w w1->Kept S w (w1.setCells b o vs)
 | [],_,_,h=>h
 | v::r,o,w1,h=>Kept.setCells hb r (o+1) (w1.setCell ⟨b,o,none⟩ v) (h.bC b o v hb)
theorem bB.VP{w:World}{pb db ob:Nat}{P:Pool}(h:bB w pb db ob P)(k:Nat)(hk:k<P.n)(o:Int) :
  aR ((w.setCell ⟨ob,k,none⟩ (.int .u64 o)).drew.setCells db (k*64) [Value.int .u8 0,Value.int .u8 0,Value.int .u8 0,Value.int .u8 0,Value.int .u8 0,Value.int .u8 0,Value.int .u8 0,Value.int .u8 0,Value.int .u8 0,Value.int .u8 0,Value.int .u8 0,Value.int .u8 0,Value.int .u8 0,Value.int .u8 0,Value.int .u8 0,Value.int .u8 0,Value.int .u8 0,Value.int .u8 0,Value.int .u8 0,Value.int .u8 0,Value.int .u8 0,Value.int .u8 0,Value.int .u8 0,Value.int .u8 0,Value.int .u8 0,Value.int .u8 0,Value.int .u8 0,Value.int .u8 0,Value.int .u8 0,Value.int .u8 0,Value.int .u8 0,Value.int .u8 0,Value.int .u8 0,Value.int .u8 0,Value.int .u8 0,Value.int .u8 0,Value.int .u8 0,Value.int .u8 0,Value.int .u8 0,Value.int .u8 0,Value.int .u8 0,Value.int .u8 0,Value.int .u8 0,Value.int .u8 0,Value.int .u8 0,Value.int .u8 0,Value.int .u8 0,Value.int .u8 0,Value.int .u8 0,Value.int .u8 0,Value.int .u8 0,Value.int .u8 0,Value.int .u8 0,Value.int .u8 0,Value.int .u8 0,Value.int .u8 0,Value.int .u8 0,Value.int .u8 0,Value.int .u8 0,Value.int .u8 0,Value.int .u8 0,Value.int .u8 0,Value.int .u8 0,Value.int .u8 0]) pb #[.slice (some ⟨db,0,none⟩) P.n P.n,.slice (some ⟨ob,0,none⟩) P.n P.n,.int .i64 P.left] 184 /\
  aR ((w.setCell ⟨ob,k,none⟩ (.int .u64 o)).drew.setCells db (k*64) [Value.int .u8 0,Value.int .u8 0,Value.int .u8 0,Value.int .u8 0,Value.int .u8 0,Value.int .u8 0,Value.int .u8 0,Value.int .u8 0,Value.int .u8 0,Value.int .u8 0,Value.int .u8 0,Value.int .u8 0,Value.int .u8 0,Value.int .u8 0,Value.int .u8 0,Value.int .u8 0,Value.int .u8 0,Value.int .u8 0,Value.int .u8 0,Value.int .u8 0,Value.int .u8 0,Value.int .u8 0,Value.int .u8 0,Value.int .u8 0,Value.int .u8 0,Value.int .u8 0,Value.int .u8 0,Value.int .u8 0,Value.int .u8 0,Value.int .u8 0,Value.int .u8 0,Value.int .u8 0,Value.int .u8 0,Value.int .u8 0,Value.int .u8 0,Value.int .u8 0,Value.int .u8 0,Value.int .u8 0,Value.int .u8 0,Value.int .u8 0,Value.int .u8 0,Value.int .u8 0,Value.int .u8 0,Value.int .u8 0,Value.int .u8 0,Value.int .u8 0,Value.int .u8 0,Value.int .u8 0,Value.int .u8 0,Value.int .u8 0,Value.int .u8 0,Value.int .u8 0,Value.int .u8 0,Value.int .u8 0,Value.int .u8 0,Value.int .u8 0,Value.int .u8 0,Value.int .u8 0,Value.int .u8 0,Value.int .u8 0,Value.int .u8 0,Value.int .u8 0,Value.int .u8 0,Value.int .u8 0]) db (row (P.n*64) fun j=>.int .u8 (if k*64<=j/\j<k*64+64 then 0 else P.D j)) 186 /\
  aR ((w.setCell ⟨ob,k,none⟩ (.int .u64 o)).drew.setCells db (k*64) [Value.int .u8 0,Value.int .u8 0,Value.int .u8 0,Value.int .u8 0,Value.int .u8 0,Value.int .u8 0,Value.int .u8 0,Value.int .u8 0,Value.int .u8 0,Value.int .u8 0,Value.int .u8 0,Value.int .u8 0,Value.int .u8 0,Value.int .u8 0,Value.int .u8 0,Value.int .u8 0,Value.int .u8 0,Value.int .u8 0,Value.int .u8 0,Value.int .u8 0,Value.int .u8 0,Value.int .u8 0,Value.int .u8 0,Value.int .u8 0,Value.int .u8 0,Value.int .u8 0,Value.int .u8 0,Value.int .u8 0,Value.int .u8 0,Value.int .u8 0,Value.int .u8 0,Value.int .u8 0,Value.int .u8 0,Value.int .u8 0,Value.int .u8 0,Value.int .u8 0,Value.int .u8 0,Value.int .u8 0,Value.int .u8 0,Value.int .u8 0,Value.int .u8 0,Value.int .u8 0,Value.int .u8 0,Value.int .u8 0,Value.int .u8 0,Value.int .u8 0,Value.int .u8 0,Value.int .u8 0,Value.int .u8 0,Value.int .u8 0,Value.int .u8 0,Value.int .u8 0,Value.int .u8 0,Value.int .u8 0,Value.int .u8 0,Value.int .u8 0,Value.int .u8 0,Value.int .u8 0,Value.int .u8 0,Value.int .u8 0,Value.int .u8 0,Value.int .u8 0,Value.int .u8 0,Value.int .u8 0]) ob (row P.n fun i=>.int .u64 (dU P.O k o i)) 37 /\
  Kept (PS pb db ob) w ((w.setCell ⟨ob,k,none⟩ (.int .u64 o)).drew.setCells db (k*64) [Value.int .u8 0,Value.int .u8 0,Value.int .u8 0,Value.int .u8 0,Value.int .u8 0,Value.int .u8 0,Value.int .u8 0,Value.int .u8 0,Value.int .u8 0,Value.int .u8 0,Value.int .u8 0,Value.int .u8 0,Value.int .u8 0,Value.int .u8 0,Value.int .u8 0,Value.int .u8 0,Value.int .u8 0,Value.int .u8 0,Value.int .u8 0,Value.int .u8 0,Value.int .u8 0,Value.int .u8 0,Value.int .u8 0,Value.int .u8 0,Value.int .u8 0,Value.int .u8 0,Value.int .u8 0,Value.int .u8 0,Value.int .u8 0,Value.int .u8 0,Value.int .u8 0,Value.int .u8 0,Value.int .u8 0,Value.int .u8 0,Value.int .u8 0,Value.int .u8 0,Value.int .u8 0,Value.int .u8 0,Value.int .u8 0,Value.int .u8 0,Value.int .u8 0,Value.int .u8 0,Value.int .u8 0,Value.int .u8 0,Value.int .u8 0,Value.int .u8 0,Value.int .u8 0,Value.int .u8 0,Value.int .u8 0,Value.int .u8 0,Value.int .u8 0,Value.int .u8 0,Value.int .u8 0,Value.int .u8 0,Value.int .u8 0,Value.int .u8 0,Value.int .u8 0,Value.int .u8 0,Value.int .u8 0,Value.int .u8 0,Value.int .u8 0,Value.int .u8 0,Value.int .u8 0,Value.int .u8 0]):=by
 have far:∀{w:World} {b t:Nat} {c:Array Value} (vs:List Value) (o:Nat),aR w b c t->db≠b->aR (w.setCells db o vs) b c t:=by
  intro w b t c vs;induction vs generalizing w with
  | nil=>intro o h _;exact h
  | cons v r ih=>intro o h hn;exact ih (o+1) (h.aI (a:=⟨db,o,none⟩) hn v) hn
 refine⟨far _ _ (h.hp.aI (a:=⟨ob,k,none⟩) (fun e=>h.n2 e.symm) _).drew (fun e=>h.n1 e.symm),?_,?_,Kept.setCells (.inr (.inl rfl)) _ _ _ ((Kept.refl _ _).bC _ _ _ (.inr (.inr rfl))).drew⟩
 ·refine aR.cells (aR.setCells _ _ _ _ (h.hd.aI (a:=⟨ob,k,none⟩) (fun e=>h.n3 e.symm) _).drew (by simp only[aZ,List.length_nil];omega)) (jN fun j _=>?_)
  simp only[aZ,List.length_nil,Nat.zero_add,Nat.reduceAdd];by_cases e:k*64<=j/\j<k*64+64
  ·rw[aD e,aD e,List.getD_eq_getElem?_getD,LY _ (by omega)];rfl
  ·rw[aA e,aA e]
 ·refine far _ _ ((h.ho.set k _).cells ?_).drew h.n3
  rw[wF];refine jN fun i _=>?_
  by_cases e:i=k
  ·rw[aD e];simp[dU,e]
  ·rw[aA e];simp[dU,e]
theorem Uk:(Tryz.prog.info? 186).map (·.size)=some 64:=by kernel_rfl
theorem jk(pb db ob:Nat)(P:Pool)(o:Int)(w:World)(hP:bB w pb db ob P) :
  Calls Tryz.prog 38 #[.pointer (some ⟨pb,0,none⟩),.int .u64 o] w fun e w'=>e=.returned (.int .i64 (P.bJ o))/\bB w' pb db ob (P.alloc o)/\Kept (PS pb db ob) w w':=by
 have hc:=hP.hp.cell;have hfp:=hP.hp.free;have hfo:=hP.ho.free;have hn1:=hP.n1;have hn2:=hP.n2;have hn3:=hP.n3;have hhi:=hP.hi;have hll:=uV P.O P.n;have hll:P.left<=4096:=by unfold Pool.left;omega
 have HP:=ah hP;clear hP;by_cases h0:P.left=0
 ·have Hr:Hid (P.bJ o=0/\P.alloc o=P):=by
   have:firstFree P.O P.n=P.n:=(mK P.O P.n).1 h0
   constructor
   ·unfold Pool.bJ;rw[aA (by omega)]
   ·unfold Pool.alloc;rw[aA (by omega)]
  have h0b:((P.left:Int)==0)=true:=by simpa using h0
  clear h0;go_enter Tryz.func38,Tryz.ntmps38
  go_wp2_with (go_at_call 62;refine(tF pb db ob P _ HP.out).mono ?_;rintro e w' ⟨rfl,rfl⟩)
  go_ret;exact⟨by rw[Hr.out.1];rfl,by rw[Hr.out.2];exact HP.out,Kept.refl _ _⟩
 by_cases ho0:o=0
 ·have Hr:Hid (P.bJ o=0/\P.alloc o=P):=by
   constructor
   ·unfold Pool.bJ;rw[aA (by omega)]
   ·unfold Pool.alloc;rw[aA (by omega)]
  have h0b:((P.left:Int)==0)=false:=by simpa using h0
  have abU:(o==0)=true:=by simpa using ho0
  clear h0 ho0;go_enter Tryz.func38,Tryz.ntmps38
  go_wp2_with (go_at_call 62;refine(tF pb db ob P _ HP.out).mono ?_;rintro e w' ⟨rfl,rfl⟩)
  go_ret;exact⟨by rw[Hr.out.1];rfl,by rw[Hr.out.2];exact HP.out,Kept.refl _ _⟩
 have xR:firstFree P.O P.n<P.n:=by
  have h1:=iG P.O P.n;have h2:¬firstFree P.O P.n=P.n:=fun e=>h0 ((mK P.O P.n).2 e)
  omega
 have h0b:((P.left:Int)==0)=false:=by simpa using h0
 have abU:(o==0)=false:=by simpa using ho0
 have Hff:=ah xR;clear xR;have Ho0:=ah ho0;clear ho0;have H0:=ah h0;clear h0;go_enter Tryz.func38,Tryz.ntmps38
 go_wp2_with (go_at_call 62;refine(tF pb db ob P _ HP.out).mono ?_;rintro e w' ⟨rfl,rfl⟩)
 go_loopg [5,6,19] P.n (fun g _ _ i wx=>∃k:Nat,k+g=P.n/\i=.int .i64 k/\(∀j,j<k->P.O j≠0)/\wx=w)
 case atStart=>exact⟨0,by omega,rfl,by omega,rfl⟩
 case round =>
  obtain⟨k,hk,rfl,hno,rfl⟩:=hrel;have Hno:=ah hno;clear hno
  have hkn:k<P.n:=by
   have h1:=Hff.out;have h2:=Hno.out (firstFree P.O P.n);have h3:=iY P.O P.n h1;omega
  have ho:=HP.out.ho.rowAt k hkn
  cases e1:(P.O k==0)
  ·go_wp2_with fail
   go_roundg (P.n-(k+1))
   case measure=>omega
   case rel =>
    refine⟨k+1,by omega,by go_num,fun j hj=>?_,rfl⟩;rcases Nat.lt_or_eq_of_le (Nat.le_of_lt_succ hj)with h|h
    ·exact Hno.out j h
    ·subst h;simpa using e1
  ·have hki:(k:Int)<P.n:=by omega
   have hk0:(0:Int)<=(k:Int):=by omega
   have hu:=Tryz.underlying186;have hz1:∀v∈[Value.int .u8 0,Value.int .u8 0,Value.int .u8 0,Value.int .u8 0,Value.int .u8 0,Value.int .u8 0,Value.int .u8 0,Value.int .u8 0,Value.int .u8 0,Value.int .u8 0,Value.int .u8 0,Value.int .u8 0,Value.int .u8 0,Value.int .u8 0,Value.int .u8 0,Value.int .u8 0,Value.int .u8 0,Value.int .u8 0,Value.int .u8 0,Value.int .u8 0,Value.int .u8 0,Value.int .u8 0,Value.int .u8 0,Value.int .u8 0,Value.int .u8 0,Value.int .u8 0,Value.int .u8 0,Value.int .u8 0,Value.int .u8 0,Value.int .u8 0,Value.int .u8 0,Value.int .u8 0,Value.int .u8 0,Value.int .u8 0,Value.int .u8 0,Value.int .u8 0,Value.int .u8 0,Value.int .u8 0,Value.int .u8 0,Value.int .u8 0,Value.int .u8 0,Value.int .u8 0,Value.int .u8 0,Value.int .u8 0,Value.int .u8 0,Value.int .u8 0,Value.int .u8 0,Value.int .u8 0,Value.int .u8 0,Value.int .u8 0,Value.int .u8 0,Value.int .u8 0,Value.int .u8 0,Value.int .u8 0,Value.int .u8 0,Value.int .u8 0,Value.int .u8 0,Value.int .u8 0,Value.int .u8 0,Value.int .u8 0,Value.int .u8 0,Value.int .u8 0,Value.int .u8 0,Value.int .u8 0],v.oneCell'=true:=Jk
   have hi:(Tryz.prog.info? 186).map (·.size)=some [Value.int .u8 0,Value.int .u8 0,Value.int .u8 0,Value.int .u8 0,Value.int .u8 0,Value.int .u8 0,Value.int .u8 0,Value.int .u8 0,Value.int .u8 0,Value.int .u8 0,Value.int .u8 0,Value.int .u8 0,Value.int .u8 0,Value.int .u8 0,Value.int .u8 0,Value.int .u8 0,Value.int .u8 0,Value.int .u8 0,Value.int .u8 0,Value.int .u8 0,Value.int .u8 0,Value.int .u8 0,Value.int .u8 0,Value.int .u8 0,Value.int .u8 0,Value.int .u8 0,Value.int .u8 0,Value.int .u8 0,Value.int .u8 0,Value.int .u8 0,Value.int .u8 0,Value.int .u8 0,Value.int .u8 0,Value.int .u8 0,Value.int .u8 0,Value.int .u8 0,Value.int .u8 0,Value.int .u8 0,Value.int .u8 0,Value.int .u8 0,Value.int .u8 0,Value.int .u8 0,Value.int .u8 0,Value.int .u8 0,Value.int .u8 0,Value.int .u8 0,Value.int .u8 0,Value.int .u8 0,Value.int .u8 0,Value.int .u8 0,Value.int .u8 0,Value.int .u8 0,Value.int .u8 0,Value.int .u8 0,Value.int .u8 0,Value.int .u8 0,Value.int .u8 0,Value.int .u8 0,Value.int .u8 0,Value.int .u8 0,Value.int .u8 0,Value.int .u8 0,Value.int .u8 0,Value.int .u8 0].length:=Uk
   have hth:wr.there db (k*64) 64:=by
    intro j hj;have:=HP.out.hd.rowAt (k*64+j) (by omega);exact⟨by rw[this];rfl,HP.out.hd.free _⟩
   have hS:nA wr pb db ob P.n k:=⟨by rw[HP.out.hp.cell];rfl,by rw[HP.out.hp.cell];rfl,hth⟩;go_wp2_with fail
   go_region_held3 (fun w'=>w'.cell? ⟨pb,0,none⟩=some (.slice (some ⟨db,0,none⟩) P.n P.n)/\w'.cell? ⟨pb,1,none⟩=some (.slice (some ⟨ob,0,none⟩) P.n P.n)/\w'.there db (k*64) 64) (first|exact hS.drew|exact(hS.set (fun e=>hn2 e.symm) _ _).drew|exact((hS.set (fun e=>hn2 e.symm) _ _).drew.sets hn1 _ _)) (fail)
   obtain⟨h1,h2,h3,h4⟩:=HP.out.VP k hkn o;have hkf:Hid (firstFree P.O P.n=k):=Bn P.O P.n k (by omega) Hno.out (fun _=>by simpa using e1)
   have Hr:Hid (P.bJ o=(k:Int)+1/\P.alloc o=⟨P.n,dU P.O k o,fun j=>if k*64<=j/\j<k*64+64 then 0 else P.D j⟩):=by
    constructor
    ·unfold Pool.bJ;rw[aD ⟨Ho0.out,Hff.out⟩,hkf.out]
    ·unfold Pool.alloc;rw[aD ⟨Ho0.out,Hff.out⟩,hkf.out]
   have hup:=iX P.O o k P.n hkn;have e2:P.O k=0:=by simpa using e1
   rw[aD e2,aA Ho0.out]at hup;have Hup:=ah hup;clear hup;clear e1 e2 hS hth hu hi hz1 ho hc hfp hfo;generalize World.setCells _ _ _ _=w2 at *;have hc:=h1.cell;have hf:=h1.free;have H1:=ah h1;have H2:=ah h2;have H3:=ah h3;have H4:=ah h4;clear h1 h2 h3 h4;have hlp:1<=P.left:=by have:=H0.out;omega
   go_wp2_with fail
   go_ret;have abF:=Hup.out;refine⟨by rw[Hr.out.1];rfl,?_,?_⟩
   ·rw[Hr.out.2]
    refine⟨aR.cells (H1.out.set 2 _) ?_,H2.out.aI (a:=⟨pb,2,none⟩) hn1 _,H3.out.aI (a:=⟨pb,2,none⟩) hn2 _,hn1,hn2,hn3,HP.out.lo,HP.out.hi,fun i=>?_⟩
    ·simp[Pool.left]at abF hlp ⊢
     omega
    ·have:=HP.out.bd i
     show 0<=(if k*64<=i/\i<k*64+64 then(0:Int)else P.D i)/\(if k*64<=i/\i<k*64+64 then(0:Int)else P.D i)<=255
     split<;>omega
   ·exact H4.out.bC _ _ _ (.inl rfl)
end Go.Proofs.YtiadbhiadhgjkaaGreatDoor
