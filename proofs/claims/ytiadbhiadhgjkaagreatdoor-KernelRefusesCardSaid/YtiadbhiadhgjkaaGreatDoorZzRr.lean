import Derived.Test.YtiadbhiadhgjkaaGreatDoorRows
import Derived.JoinedOf
import Derived.ProofKit
import Derived.Test.YtiadbhiadhgjkaaGreatDoorZzIsaR
import Derived.Test.YtiadbhiadhgjkaaGreatDoorZzLib
import Derived.Test.YtiadbhiadhgjkaaGreatDoorZzNb
import Derived.OpenShut
import Derived.Deep.Fields
import Derived.Lib.SmallJoins
set_option maxRecDepth 100000
namespace Go.Proofs.YtiadbhiadhgjkaaGreatDoor.kernelRefuses
open Go.ChangeShapes Go.WideShapes Go.ChangeAt Go.RowKit
theorem NY:(Rows.kernelRefusesRow.inPlace==Tryz.prog.inPlace 4)=true:=by kernel_rfl
theorem AU:(Rows.kernelRefusesRow.unfollowed==Tryz.prog.unfollowed 4)=true:=by kernel_rfl
theorem Dm:(Rows.kernelRefusesRow.recurses==Tryz.prog.recurses 4)=true:=by kernel_rfl
theorem EW:(Rows.kernelRefusesRow.named==Tryz.prog.varsNamed 4)=true:=by kernel_rfl
theorem facts:joinedFacts Tryz.prog 4 Tryz.f4 Rows.kernelRefusesSpec Rows.kernelRefusesRow=true:=by
 unfold joinedFacts;rw[NY,AU,Dm,EW];kernel_rfl
end Go.Proofs.YtiadbhiadhgjkaaGreatDoor.kernelRefuses
namespace Go.Proofs.YtiadbhiadhgjkaaGreatDoor
open Go.RowKit Go.ChangeShapes Go.WideShapes Go.Deep
theorem ada{x:Int}(h:(Lit.int .i32 x).wf=true):Dz x:=by
 simpa[Dz,Lit.wf,IntKind.min,IntKind.max,IntKind.signed,IntKind.bits]using h
theorem abd{H:Type}{enc:TypeId×Value->H}{w:World}{base b0:Nat}{r:Reach}{v:Value}{d:DataW H}{p:List MemPlace}
  (hv:Value.okWide Tryz.prog w r b0 24 v) (h:DataW.Trod enc Tryz.prog w base (fun _=>true) true 24 v d p) :
  ∃a b c d e:Int,v=.agg #[.int .i32 a,.int .i32 b,.int .i32 c,.int .i32 d,.int .i32 e]/\(Dz a/\Dz b/\Dz c/\Dz d/\Dz e):=by
 simp only[Value.okWide,Tryz.underlying24]at hv;obtain⟨cs,rfl,hsz,-⟩:=hv;obtain⟨l⟩:=cs;have hl:l.length=5:=hsz.trans (by kernel_rfl);obtain⟨fuel,hf⟩:=h;obtain⟨xs,m,rfl,-,-,hx,hg⟩:=DataW.trod_array Tryz.underlying24 hf;have h1:Tryz.prog.cellsOf 21=1:=by kernel_rfl
 rw[h1]at hg;match l,hl with
 | [d0,d1,d2,d3,d4],_ =>
  have k:∀(i:Nat) (c:Value),i<5->((([d0,d1,d2,d3,d4]:List Value).drop (i*1)).take 1)=[c]->∃n:Int,c=.int .i32 n/\Dz n:=fun i c hi hc=>by
   have g:=hg i hi;obtain⟨y,hy⟩:∃y,xs[i]? = some y:=⟨_,aQ (by omega)⟩;rw[hy]at g;have g2:DataW.trod enc Tryz.prog w base (fun _=>true) true m 21 ((([d0,d1,d2,d3,d4]:List Value).drop (i*1)).take 1)=some y:=g;rw[hc]at g2;obtain⟨n,q,_,wf⟩:=DataW.trod_int Tryz.underlying21 g2;simp only[List.cons.injEq,and_true]at q;exact⟨n,q,ada wf⟩
  obtain⟨n0,rfl,b0⟩:=k 0 d0 (by omega) rfl;obtain⟨n1,rfl,b1⟩:=k 1 d1 (by omega) rfl;obtain⟨n2,rfl,b2⟩:=k 2 d2 (by omega) rfl;obtain⟨n3,rfl,b3⟩:=k 3 d3 (by omega) rfl;obtain⟨n4,rfl,b4⟩:=k 4 d4 (by omega) rfl;exact⟨n0,n1,n2,n3,n4,rfl,b0,b1,b2,b3,b4⟩
end Go.Proofs.YtiadbhiadhgjkaaGreatDoor
