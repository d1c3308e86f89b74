import Derived.Test.YtiadbhiadhgjkaaGreatDoorZzWoMt
import Derived.Deep.QuietTactic
import Derived.BigQuiet
import Derived.Deep.DeepCutAuto
import Derived.Deep.CutBlock
import Derived.IntWalk
import Derived.Test.YtiadbhiadhgjkaaGreatDoorZzLib
import Derived.StillTailTactics
import Derived.Deep.LoopGhost
set_option maxRecDepth 100000
set_option maxHeartbeats 1000000
namespace Go.Proofs.YtiadbhiadhgjkaaGreatDoor
open Go.RowKit
attribute [local irreducible] World.setCell World.alloc World.drew World.setRow Calls Code.wp row
def BytesIn(w:World)(a:Option Addr)(m:Nat)(B:Nat->Int):Prop :=
 m=0\/∃b o,a=some ⟨b,o,none⟩/\∀j,j<m->w.cell? ⟨b,o+j,none⟩=some (.int .u8 (B j))
theorem Mc(pb db ob:Nat)(P:Pool)(f off:Int)(a:Option Addr)(m c:Nat)(w:World)(hP:bB w pb db ob P)(hf:P.fits f off m=false) :
  Calls Tryz.prog 90 #[.pointer (some ⟨pb,0,none⟩),.int .i64 f,.int .i64 off,.slice a m c] w fun e w'=>e=.returned (.bool false)/\w=w':=by
 have HP:=ah hP;clear hP;have Hf:=ah hf;clear hf;go_enter Tryz.func90,Tryz.ntmps90
 go_wp2_with fail
 refine(nT pb db ob P _ _ _ _ HP.out).mono ?_;rintro e w' ⟨rfl,rfl⟩;rw[Hf.out];go_wp2_with fail
 go_ret;exact⟨rfl,rfl⟩
theorem zL(m:Nat)(B:Nat->Int)(i:Nat)(hi:i<((List.range m).map fun j=>Value.int .u8 (B j)).length):((List.range m).map fun j=>Value.int .u8 (B j))[i]? = some (Value.int .u8 (B i)):=by
 have h':i<m:=by simpa using hi
 simp[h']
theorem bB.bytes{w:World}{pb db ob:Nat}{P:Pool}(h:bB w pb db ob P)(o m:Nat)(B:Nat->Int)(hm:o+m<=P.n*64)(hB:∀j,j<m->0<=B j/\B j<=255) :
  bB (w.setRow db ((row (P.n*64) fun i=>.int .u8 (P.D i)).toList.take o++((List.range m).map (fun j=>Value.int .u8 (B j))++(row (P.n*64) fun i=>.int .u8 (P.D i)).toList.drop (o+m))).toArray) pb db ob
   ⟨P.n,P.O,fun j=>if o<=j/\j<o+m then B (j-o)else P.D j⟩:=by
 have hl:((List.range m).map (fun j=>Value.int .u8 (B j))).length=m:=by simp
 refine⟨h.hp.setRow_other (fun e=>h.n1 e.symm) _,?_,h.ho.setRow_other h.n3 _,h.n1,h.n2,h.n3,h.lo,h.hi,fun i=>?_⟩
 ·refine aR.cells (h.hd.setRow _) ?_
  have hsp:=Fu (P.n*64) (fun i=>.int .u8 (P.D i)) o _ (fun j=>.int .u8 (B j)) (zL m B) (by rw[hl];exact hm);rw[hl]at hsp;rw[hsp];refine jN fun j _=>?_
  by_cases e:o<=j/\j<o+m
  ·simp[aD e]
  ·simp[aA e]
 ·have:=h.bd i
  show 0<=(if o<=i/\i<o+m then B (i-o)else P.D i)/\(if o<=i/\i<o+m then B (i-o)else P.D i)<=255
  by_cases e:o<=i/\i<o+m
  ·simp only[aD e];exact hB _ (by omega)
  ·simp only[aA e];exact this
theorem yj{w:World}{b o m:Nat}{B:Nat->Int}(h:∀j,j<m->w.cell? ⟨b,o+j,none⟩=some (.int .u8 (B j))) :
  ∀(j:Nat) (v:Value),((List.range m).map fun j=>Value.int .u8 (B j))[j]? = some v->w.cell? ((⟨b,o,none⟩:Addr).add j)=some v:=by
 intro j v hv
 have hj:j<m:=by
  rcases Nat.lt_or_ge j m with h'|h'
  ·exact h'
  ·rw[List.getElem?_eq_none (by simpa using h')]at hv;cases hv
 rw[zL m B j (by simpa using hj)]at hv;rw[Addr.add_lit,h j hj];exact hv
theorem zx(pb db ob:Nat)(P:Pool)(f off:Int)(a:Option Addr)(m c:Nat)(B:Nat->Int)(w:World)(hP:bB w pb db ob P)(hf:P.fits f off m=true)(hb:BytesIn w a m B)(hB:∀j,j<m->0<=B j/\B j<=255) :
  Calls Tryz.prog 90 #[.pointer (some ⟨pb,0,none⟩),.int .i64 f,.int .i64 off,.slice a m c] w fun e w'=>e=.returned (.bool true)/\bB w' pb db ob (P.write f off m B)/\Kept (PS pb db ob) w w':=by
 obtain⟨g1,g2,g3,g4,g5⟩:=(P.nS f off m).1 hf;obtain⟨t1,t2⟩:=(P.dM f).1 (P.eZ f g1);obtain⟨k,rfl⟩:∃k:Nat,f=(k:Int)+1:=⟨(f-1).toNat,by omega⟩;obtain⟨q,rfl⟩:∃q:Nat,off=(q:Int):=⟨off.toNat,by omega⟩;have hq64:(q:Int)<=64:=by omega
 have hw:P.write ((k:Int)+1) q m B=⟨P.n,P.O,fun j=>if k*64+q<=j/\j<k*64+q+m then B (j-(k*64+q))else P.D j⟩:=by
  unfold Pool.write;rw[aD hf];have e1:((k:Int)+1).toNat-1=k:=by omega
  simp only[e1,Int.toNat_natCast]
 have hc:=hP.hp.cell;have hhi:=hP.hi;have HP:=ah hP;clear hP;have Hf:=ah hf;clear hf;have Hw:=ah hw;clear hw;have HB:=ah hB;clear hB;clear g1;by_cases hm0:m=0
 ·subst hm0
  go_enter Tryz.func90,Tryz.ntmps90
  go_wp2_with fail
  refine(nT pb db ob P _ _ _ _ HP.out).mono ?_;rintro e w' ⟨rfl,rfl⟩;rw[show(0:Int)=((0:Nat):Int)from rfl,Hf.out];go_wp2_with (refine wpList_copy_nothing rfl (.tmp 24) (.tmp 25) 63 63 rfl 5 Tryz.underlying63 (by kernel_rfl) _ _ _ _ _ _ rfl rfl (by simp) ?_)
  all_goals go_ret
  all_goals refine⟨rfl,?_,Kept.refl _ _⟩
  all_goals rw[Hw.out]
  all_goals refine⟨HP.out.hp,HP.out.hd.cells (jN fun i _=>?_),HP.out.ho,HP.out.n1,HP.out.n2,HP.out.n3,HP.out.lo,HP.out.hi,fun i=>?_⟩
  all_goals first
  | (show Value.int .u8 (P.D i)=Value.int .u8 (if k*64+q<=i/\i<k*64+q+0 then B (i-(k*64+q))else P.D i)
     rw[aA (by omega)])
  | (show 0<=(if k*64+q<=i/\i<k*64+q+0 then B (i-(k*64+q))else P.D i)/\(if k*64+q<=i/\i<k*64+q+0 then B (i-(k*64+q))else P.D i)<=255
     rw[aA (by omega)];exact HP.out.bd i)
 ·obtain⟨bb,bo,rfl,hb'⟩:=hb.resolve_left hm0
  have Hb:=ah hb';clear hb' hb;have hqs:(q:Int)<64:=by omega
  have hqn:¬(64=q):=by omega
  go_enter Tryz.func90,Tryz.ntmps90
  go_wp2_with fail
  refine(nT pb db ob P _ _ _ _ HP.out).mono ?_;rintro e w' ⟨rfl,rfl⟩;rw[Hf.out];go_wp2_with (refine wpList_copy_own rfl (.tmp 24) (.tmp 25) 63 63 rfl 5 Tryz.underlying63 (by kernel_rfl) db (k*64+q) _ _ ⟨bb,bo,none⟩ _ _ rfl rfl _ _ HP.out.hd ((List.range m).map fun j=>Value.int .u8 (B j)) (by rw[List.length_map,List.length_range];exact(Nat.min_eq_left (by omega)).symm) (yj Hb.out) (by rw[kL];simp;omega) (fun v hv=>by obtain⟨j,_,rfl⟩:=List.mem_map.1 hv;rfl) ?_)
  go_ret;refine⟨rfl,?_,(Kept.refl _ _).setRow (.inr (.inr (.inl rfl))) _⟩;rw[Hw.out];exact HP.out.bytes (k*64+q) m B (by omega) HB.out
theorem Jl(pb db ob:Nat)(P:Pool)(f off:Int)(a:Option Addr)(m c:Nat)(B:Nat->Int)(w:World)(hP:bB w pb db ob P)(hb:BytesIn w a m B)(hB:∀j,j<m->0<=B j/\B j<=255) :
  Calls Tryz.prog 90 #[.pointer (some ⟨pb,0,none⟩),.int .i64 f,.int .i64 off,.slice a m c] w fun e w'=>e=.returned (.bool (P.fits f off m))/\bB w' pb db ob (P.write f off m B)/\Kept (PS pb db ob) w w':=by
 cases hf:P.fits f off m
 ·refine(Mc pb db ob P f off a m c w hP hf).mono ?_
  rintro e w' ⟨rfl,rfl⟩;refine⟨rfl,?_,Kept.refl _ _⟩;unfold Pool.write;rw[hf];exact hP
 ·exact zx pb db ob P f off a m c B w hP hf hb hB
theorem info5:(Tryz.prog.info? 5).map (fun i=>(i.zero,i.size,i.bytes))=some (some (.int .u8 0),1,1):=by kernel_rfl
theorem QO(pb db ob:Nat)(P:Pool)(f off n:Int)(w:World)(hP:bB w pb db ob P)(hf:P.fits f off n=false) :
  Calls Tryz.prog 56 #[.pointer (some ⟨pb,0,none⟩),.int .i64 f,.int .i64 off,.int .i64 n] w fun e w'=>e=.returned (.slice none 0 0)/\w=w':=by
 have HP:=ah hP;clear hP;have Hf:=ah hf;clear hf;go_enter Tryz.func56,Tryz.ntmps56
 go_wp2_with fail
 refine(nT pb db ob P _ _ _ _ HP.out).mono ?_;rintro e w' ⟨rfl,rfl⟩;rw[Hf.out];go_wp2_with fail
 go_ret;exact⟨rfl,rfl⟩
def Pool.cells(P:Pool)(o n:Nat):List Value:=(List.range n).map fun j=>Value.int .u8 (P.D (o+j))
theorem CO(pb db ob:Nat)(P:Pool)(f off n:Int)(w:World)(hP:bB w pb db ob P)(hf:P.fits f off n=true) :
  Calls Tryz.prog 56 #[.pointer (some ⟨pb,0,none⟩),.int .i64 f,.int .i64 off,.int .i64 n] w fun e w' =>
   ∃v,e=.returned v/\w'.ownsRow w.heap.size 5 1 v n.toNat (P.cells ((f.toNat-1)*64+off.toNat) n.toNat)/\Below w.heap.size w w':=by
 obtain⟨g1,g2,g3,g4,g5⟩:=(P.nS f off n).1 hf;obtain⟨t1,t2⟩:=(P.dM f).1 (P.eZ f g1);obtain⟨k,rfl⟩:∃k:Nat,f=(k:Int)+1:=⟨(f-1).toNat,by omega⟩;obtain⟨q,rfl⟩:∃q:Nat,off=(q:Int):=⟨off.toNat,by omega⟩;obtain⟨m,rfl⟩:∃m:Nat,n=(m:Int):=⟨n.toNat,by omega⟩;have e1:((k:Int)+1).toNat-1=k:=by omega
 rw[e1,Int.toNat_natCast,Int.toNat_natCast];have hq64:(q:Int)<=64:=by omega
 have hqm:(q:Int)+m<=64:=by omega
 have hql:(q:Int)<=(q:Int)+m:=by omega
 have hc:=hP.hp.cell;have hhi:=hP.hi;have hkn:k<P.n:=by omega
 obtain⟨i0,hi,hz0,hz1,hz2⟩:=info_parts info5;have Hi:=ah hi;have lJ:=ah hz0;have lI:=ah hz1;have kT:=ah hz2;have HP:=ah hP;clear hP;have Hf:=ah hf;clear hf;clear g1 e1 hi hz0 hz1 hz2;have hsrc:∀j,j<m->w.cell? ⟨db,k*64+q+j,none⟩=some (.int .u8 (P.D (k*64+q+j))):=fun j hj=>HP.out.hd.rowAt (k*64+q+j) (by omega)
 have adk:=ah hsrc;clear hsrc;by_cases hq:q=64
 ·have hm0:m=0:=by omega
  subst hm0;subst hq;go_enter Tryz.func56,Tryz.ntmps56
  go_wp2_with fail
  refine(nT pb db ob P _ _ _ _ HP.out).mono ?_;rintro e w' ⟨rfl,rfl⟩;rw[show(64:Int)=((64:Nat):Int)from rfl,show(0:Int)=((0:Nat):Int)from rfl,Hf.out];go_wp2_with (at_builtin;refine wpList_append_own _ rfl _ _ 63 rfl w.heap.size 5 i0 (.int .u8 0) 1 1 Tryz.underlying63 Hi.out lJ.out lI.out kT.out rfl (by decide) _ _ _ rfl (cu _ _ _ _) ⟨db,k*64,none⟩ 0 _ [] rfl rfl (fun j u h=>by simp at h) (fun u hu=>by cases hu) (by unfold maxLen;omega) (by omega) (aj _) ?_;intro v' w2 hown hgrow _)
  go_ret;exact⟨_,rfl,by simpa[Pool.cells]using hown,Below.grown (aC _ _) hgrow (aj _) (fun k hk=>by cases hk)⟩
 ·have hqs:(q:Int)<64:=by omega
  have hqn:¬(64=q):=by omega
  go_enter Tryz.func56,Tryz.ntmps56
  go_wp2_with fail
  refine(nT pb db ob P _ _ _ _ HP.out).mono ?_;rintro e w' ⟨rfl,rfl⟩;rw[Hf.out];go_wp2_with (at_builtin;refine wpList_append_own _ rfl _ _ 63 rfl w.heap.size 5 i0 (.int .u8 0) 1 1 Tryz.underlying63 Hi.out lJ.out lI.out kT.out rfl (by decide) _ _ _ rfl (cu _ _ _ _) ⟨db,k*64+q,none⟩ (q+m-q) _ (P.cells (k*64+q) (q+m-q)) rfl (by simp[Pool.cells]) (yj (fun j hj=>adk.out j (by omega))) (fun v hv=>by obtain⟨j,_,rfl⟩:=List.mem_map.1 hv;rfl) (by unfold maxLen;omega) (by omega) (aj _) ?_;intro v' w2 hown hgrow _)
  go_ret;have e:q+m-q=m:=by omega
  rw[e]at hown;exact⟨_,rfl,by simpa using hown,Below.grown (aC _ _) hgrow (aj _) (fun k hk=>by cases hk)⟩
theorem kJ(w:World)(c:Array Value)(t b:Nat)(h:b=w.heap.size):aR (w.alloc (.cells c t)) b c t:=by subst h;exact aR.new w c t
def fD(n:Nat):Pool:=⟨n,fun _=>0,fun _=>0⟩
theorem qB(n:Nat):iF (fun _=>0) n=n:=by
 induction n with
 | zero=>rfl
 | succ n ih=>unfold iF;rw[ih];simp
theorem xG(z:Array Value)(v:Value)(n:Nat)(hz:0<z.size)(h:∀i,i<z.size->z[i]! = v):madeCells z n=row n (fun _=>v):=by
 refine sP (size_madeCells z n) fun i hi=>?_
 unfold madeCells;rw[Array.getElem?_map,Array.getElem?_range,aD hi];simp only[Option.map_some];rw[h _ (Nat.mod_lt _ hz)]
theorem Fh(n:Nat)(h:n<=4096)(w:World):(Instr.makeSlice 182 (.int .i64 n) (.int .i64 n)).run Tryz.prog w =
  .ok (.slice (some ⟨w.heap.size,0,none⟩) n n) (w.alloc (.cells (row (n*64) fun _=>.int .u8 0) 186)):=by
 obtain⟨i,hi,hz,hs,hb⟩:∃i,Tryz.prog.info? 186=some i/\i.zero=some (.agg (Array.replicate 64 (.int .u8 0)))/\i.size=64/\i.bytes=64 :=
  info_parts (by kernel_rfl)
 have:=run_make (P:=Tryz.prog) w 182 186 i _ Tryz.underlying182 hi hz .i64 .i64 n n (by omega) (by omega) (by rw[hb];omega) (by omega);rw[this,hs,Int.toNat_natCast]
 rw[xG _ (.int .u8 0) _ (by simp[Value.cells]) (fun i hi=>by
  simp[Value.cells]at hi ⊢;simp[hi])]
theorem Fj(n:Nat)(h:n<=4096)(w:World):(Instr.makeSlice 46 (.int .i64 n) (.int .i64 n)).run Tryz.prog w =
  .ok (.slice (some ⟨w.heap.size,0,none⟩) n n) (w.alloc (.cells (row n fun _=>.int .u64 0) 37)):=by
 obtain⟨i,hi,hz,hs,hb⟩:∃i,Tryz.prog.info? 37=some i/\i.zero=some (.int .u64 0)/\i.size=1/\i.bytes=8 :=
  info_parts (by kernel_rfl)
 have:=run_make (P:=Tryz.prog) w 46 37 i _ Tryz.underlying46 hi hz .i64 .i64 n n (by omega) (by omega) (by rw[hb];omega) (by omega);rw[this,hs,Int.toNat_natCast]
 rw[xG _ (.int .u64 0) _ (by simp[Value.cells]) (fun i hi=>by
  simp[Value.cells]at hi ⊢;subst hi;rfl),Nat.mul_one]
theorem Rj(n:Nat)(w:World)(h1:1<=n)(h2:n<=4096) :
  Calls Tryz.prog 34 #[.int .i64 n] w fun e w'=>∃pb db ob,e=.returned (.pointer (some ⟨pb,0,none⟩))/\bB w' pb db ob (fD n)/\w.heap.size<=pb/\w.heap.size<=db/\w.heap.size<=ob/\Below w.heap.size w w':=by
 have m1:=Fh n h2;have m2:=Fj n h2;have hi1:(1:Int)<=n:=by omega
 have hi2:(n:Int)<=4096:=by omega
 go_enter Tryz.func34,Tryz.ntmps34
 go_wp2
 go_region
 all_goals go_wp2
 all_goals go_ret
 ·refine⟨w.heap.size+1+1,w.heap.size,w.heap.size+1,rfl,bB.drew ⟨aR.cells (kJ _ _ _ _ (by simp)) ?_,((kJ _ _ _ _ rfl).alloc _).alloc _,(kJ _ _ _ _ (by simp)).alloc _,by omega,by omega,by omega,h1,h2,fun _=>by simp[fD]⟩,by omega,by omega,by omega,((((aC _ _).alloc (aj _) _).alloc (by simp) _).alloc (by simp;omega) _).drew⟩
  simp[fD,Pool.left,qB]
 ·refine⟨w.heap.size+1+1,w.heap.size+1,w.heap.size,rfl,bB.drew ⟨aR.cells (kJ _ _ _ _ (by simp)) ?_,(kJ _ _ _ _ (by simp)).alloc _,((kJ _ _ _ _ rfl).alloc _).alloc _,by omega,by omega,by omega,h1,h2,fun _=>by simp[fD]⟩,by omega,by omega,by omega,((((aC _ _).alloc (aj _) _).alloc (by simp) _).alloc (by simp;omega) _).drew⟩
  simp[fD,Pool.left,qB]
end Go.Proofs.YtiadbhiadhgjkaaGreatDoor
namespace Go.Proofs.YtiadbhiadhgjkaaGreatDoor
open Go.RowKit
theorem drew_eq(w:World):({ heap:=w.heap,tape:=w.tape,drawn:=w.drawn+1,os:=w.os,output:=w.output }:World)=w.drew:=rfl
theorem aR.drewN{w:World}{b t:Nat}{c:Array Value}(h:aR w b c t)(n:Nat):aR (w.drewN n) b c t:=h
theorem Kept.drewN{S:Nat->Prop}{w w1:World}(h:Kept S w w1)(n:Nat):Kept S w (w1.drewN n):=⟨h.os,h.tape,h.output,h.size,h.block⟩
theorem bB.drewN{w:World}{pb db ob:Nat}{P:Pool}(h:bB w pb db ob P)(n:Nat):bB (w.drewN n) pb db ob P :=
 ⟨h.hp,h.hd,h.ho,h.n1,h.n2,h.n3,h.lo,h.hi,h.bd⟩
theorem Aa(w:World):w.drew.heap.size=w.heap.size:=rfl
end Go.Proofs.YtiadbhiadhgjkaaGreatDoor
namespace Go.Proofs.YtiadbhiadhgjkaaGreatDoor
open Go.RowKit
attribute [local irreducible] World.setCell World.alloc World.drew World.setRow Calls Code.wp row
def vw(w:World)(rb:Nat)(a:Option Addr)(len cap at_:Nat):Prop:=aR w rb #[.slice a len cap,.int .i64 at_,.bool false] 315
theorem CS(a:Option Addr)(len cap:Nat)(w:World) :
  Calls Tryz.prog 146 #[.slice a len cap] w fun e w'=>e=.returned (.pointer (some ⟨w.heap.size,0,none⟩))/\w'=w.alloc (.cells #[.slice a len cap,.int .i64 0,.bool false] 315):=by
 go_enter Tryz.func146,Tryz.ntmps146
 go_wp2
 go_ret;exact⟨rfl,rfl⟩
theorem IW(rb:Nat)(a:Option Addr)(len cap at_:Nat)(w:World)(hR:vw w rb a len cap at_) :
  Calls Tryz.prog 231 #[.pointer (some ⟨rb,0,none⟩)] w fun e w'=>e=.returned (.bool false)/\w=w':=by
 have hc:=aR.cell hR;clear hR;go_enter Tryz.func231,Tryz.ntmps231
 go_wp2
 go_ret;exact⟨rfl,rfl⟩
theorem CF(rb:Nat)(a:Option Addr)(len cap at_:Nat)(w:World)(hR:vw w rb a len cap at_)(h:at_<=len)(hl:len<=maxLen) :
  Calls Tryz.prog 232 #[.pointer (some ⟨rb,0,none⟩)] w fun e w'=>e=.returned (.int .i64 ((len:Int)-at_))/\∃n,w'=w.drewN n:=by
 have hc:=aR.cell hR;unfold maxLen at hl;clear hR;have h1:IntKind.i64.wrap ((len:Int)-at_)=(len:Int)-at_:=aV _ (by omega);go_enter Tryz.func232,Tryz.ntmps232
 go_wp2
 go_quiet (fail)
 go_wp2
 go_ret;exact⟨rfl,_,rfl⟩
theorem MC(rb:Nat)(b o len cap at_ n:Nat)(B:Nat->Int)(w:World)(hR:vw w rb (some ⟨b,o,none⟩) len cap at_)(hb:∀j,j<len->w.cell? ⟨b,o+j,none⟩=some (.int .u8 (B j)))
  (h1:1<=n) (hn:at_+n<=len) (hl:len<=cap) (hc:cap<=maxLen) (hc47:n<=64) (hrb:b≠rb) :
  Calls Tryz.prog 193 #[.pointer (some ⟨rb,0,none⟩),.int .i64 n] w fun e w' =>
   ∃v,e=.returned v/\w'.ownsRow w.heap.size 5 1 v n ((List.range n).map fun j=>Value.int .u8 (B (at_+j)))/\vw w' rb (some ⟨b,o,none⟩) len cap (at_+n)/\Kept (fun k=>k=rb) w w':=by
 have hcc:=aR.cell hR;have hfr:=aR.free hR;have hlt:=aR.lt hR;unfold maxLen at hc;have hn1:¬((n:Int)<0):=by omega
 have hn2:(n:Int)<=(len:Int)-at_:=by omega
 obtain⟨i0,hi,hz0,hz1,hz2⟩:=info_parts info5;have Hi:=ah hi;have lJ:=ah hz0;have lI:=ah hz1;have kT:=ah hz2;have HR:=ah hR;have Hb:=ah hb;have hlm:len<=maxLen:=by unfold maxLen;omega
 clear hi hz0 hz1 hz2 hR hb;go_enter Tryz.func193,Tryz.ntmps193
 go_wp2_with fail
 refine(IW rb _ _ _ _ _ HR.out).mono ?_;rintro e w' ⟨rfl,rfl⟩;go_wp2_with fail
 refine(CF rb _ _ _ _ _ HR.out (by omega) hlm).mono ?_;rintro e w' ⟨rfl,nq,rfl⟩;have HR2:Hid (vw (w.drewN nq) rb (some ⟨b,o,none⟩) len cap at_):=HR.out;have YB:=aR.cell HR2.out;have hfr2:=aR.free HR2.out;clear hlm;go_wp2_with fail
 have YF:aR ((w.drewN nq).setCell ⟨rb,1,none⟩ (.int .i64 ((at_:Int)+n))) rb #[.slice (some ⟨b,o,none⟩) len cap,.int .i64 ((at_:Int)+n),.bool false] 315:=aR.set HR2.out 1 _;have hK3:Kept (fun k=>k=rb) w ((w.drewN nq).setCell ⟨rb,1,none⟩ (.int .i64 ((at_:Int)+n))):=((Kept.refl (fun k=>k=rb) w).drewN nq).bC rb 1 _ rfl
 have hb3:∀j,j<n->((w.drewN nq).setCell ⟨rb,1,none⟩ (.int .i64 ((at_:Int)+n))).cell? ⟨b,o+at_+j,none⟩=some (.int .u8 (B (at_+j))):=by
  intro j hj;rw[World.cell?_setCell_far _ _ _ _ (show rb≠b from fun e=>hrb e.symm),Nat.add_assoc];exact Hb.out (at_+j) (by omega)
 have Hb3:=ah hb3;have wM:=ah hK3;have HR3:=ah YF;clear hb3 hK3 YF hcc hfr YB hfr2;generalize (w.drewN nq).setCell ⟨rb,1,none⟩ (.int .i64 ((at_:Int)+n))=w3 at *;have hcc:=HR3.out.cell;have hs1:IntKind.i64.wrap ((at_:Int)+n-n)=(at_:Int):=by rw[show(at_:Int)+n-n=at_ by omega];exact aV _ (by omega)
 have hs2:IntKind.i64.wrap (at_:Int)=(at_:Int):=aV _ (by omega)
 have hsl:∀w,(Instr.slice 63 (.slice (some ⟨b,o,none⟩) len cap) (some (.int .i64 at_)) (some (.int .i64 ((at_:Int)+n))) none).run Tryz.prog w=.ok (.slice (some ⟨b,o+at_,none⟩) n (cap-at_)) w:=by
  intro w;have hq0:(0:Int)<=at_:=by omega
  have hqm:(at_:Int)<=(at_:Int)+n:=by omega
  have abP:(at_:Int)+n<=cap:=by omega
  have e1:((at_:Int)+n).toNat=at_+n:=by omega
  have e2:¬cap=at_:=by omega
  go_simp
 have EF:=ah HR3.out.drew;have HKd:=ah wM.out.drew;have wL:Hid (∀j,j<n->w3.drew.cell? ⟨b,o+at_+j,none⟩=some (.int .u8 (B (at_+j)))):=fun j hj=>by rw[World.cell?_drew];exact Hb3.out j hj
 go_wp2_with fail
 go_still_tail 15,(by kernel_rfl)
 rw[drew_eq w3];go_wp2_with (at_builtin;refine wpList_append_own _ rfl _ _ 63 rfl w.heap.size 5 i0 (.int .u8 0) 1 1 Tryz.underlying63 Hi.out lJ.out lI.out kT.out rfl (by decide) _ _ _ rfl (cu _ _ _ _) ⟨b,o+at_,none⟩ n _ ((List.range n).map fun j=>Value.int .u8 (B (at_+j))) rfl (by simp) (yj wL.out) (fun v hv=>by obtain⟨j,_,rfl⟩:=List.mem_map.1 hv;rfl) (by unfold maxLen;omega) (by omega) (by rw[Aa];exact wM.out.size) ?_;intro v' w2 hown hgrow _)
 go_ret;have hbg:Below w3.drew.heap.size w3.drew w2:=Below.grown (aC _ _) hgrow (aj _) (fun k hk=>by cases hk);refine⟨_,rfl,by simpa using hown,?_,?_⟩
 ·have:=EF.out.below hbg EF.out.lt
  unfold vw;rw[show((at_+n:Nat):Int)=(at_:Int)+n by omega];exact this
 ·exact HKd.out.trans ((Kept.of_below hbg).mono fun k _ h=>h)
theorem Rf(rb:Nat)(b o len cap at_ n:Nat)(B:Nat->Int)(w:World)(hR:vw w rb (some ⟨b,o,none⟩) len cap at_)(hb:∀j,j<len->w.cell? ⟨b,o+j,none⟩=some (.int .u8 (B j)))
  (hB:∀j,0<=B j/\B j<=255) (h1:1<=n) (h8:n<=8) (hn:at_+n<=len) (hl:len<=cap) (hc:cap<=maxLen) (hrb:b≠rb) :
  Calls Tryz.prog 147 #[.pointer (some ⟨rb,0,none⟩),.int .i64 n] w fun e w' =>
   e=.returned (.int .u64 (oh (fun j=>B (at_+j)) n))/\vw w' rb (some ⟨b,o,none⟩) len cap (at_+n)/\Kept (fun k=>k=rb) w w':=by
 have hn1:¬((n:Int)<1):=by omega
 have hn8:¬((8:Int)<n):=by omega
 have HR:=ah hR;have Hb:=ah hb;have HB:=ah hB;have Hc:=ah hc;have Hl:=ah hl;clear hR hb hB hc hl;go_enter Tryz.func147,Tryz.ntmps147
 go_wp2_with fail
 refine(MC rb b o len cap at_ n B _ HR.out Hb.out h1 hn Hl.out Hc.out (by omega) hrb).mono ?_;rintro e w2 ⟨v,rfl,hown,hR2,hK2⟩;obtain⟨C,hC⟩:∃C:Nat->Int,(fun j=>B (at_+j))=C:=⟨_,rfl⟩;have YL:∀j,0<=C j/\C j<=255:=fun j=>by rw[<-hC];exact HB.out _
 have hown':w2.ownsRow w.heap.size 5 1 v n ((List.range n).map fun j=>Value.int .u8 (C j)):=by rw[<-hC];exact hown
 have HC:=ah hC;clear hown hC;obtain⟨g,gc,cur,rfl,_,_,_⟩:=hown'.2.resolve_left (by rintro⟨_,h0⟩;omega)
 have hcell:∀j,j<n->w2.cell? ⟨g,j,none⟩=some (.int .u8 (C j)):=fun j hj=>by
  rw[hown'.cellAt j (by omega)];simp[hj]
 have qJ:=ah hcell;have HR2:=ah hR2;have WC:=ah hK2;clear hown' hcell hR2 hK2;go_wp2_with fail
 go_loop [5,7,20] (fun x _ i=>∃k:Nat,k<=n/\i=.int .i64 k/\x=.int .u64 (oh C k)) (fun _ _ i=>n-(intOf i).toNat)
 case atStart=>exact⟨0,by omega,rfl,rfl⟩
 case round =>
  obtain⟨k,hk,rfl,rfl⟩:=hrel;by_cases hlt:k<n
  ·have hcl:=qJ.out k hlt
   obtain⟨c0,c1⟩:=YL k;obtain⟨d0,d1⟩:=Px C YL k (by omega);have hor:=xA (oh C k) (C k) d0 c0 (by omega) d1;have Hs:Hid (oh C (k+1)=oh C k*256+C k):=rfl;go_wp2_with fail
   go_round
   case rel=>exact⟨k+1,by omega,by go_num,by rw[Hs.out]⟩
   case measure=>simp[intOf];omega
  ·obtain rfl:k=n:=by omega
   go_wp2_with fail
   go_ret;exact⟨by rw[HC.out];rfl,HR2.out,WC.out⟩
end Go.Proofs.YtiadbhiadhgjkaaGreatDoor
