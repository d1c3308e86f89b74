import Derived.Test.YtiadbhiadhgjkaaGreatDoorRows
import Derived.Test.YtiadbhiadhgjkaaGreatDoorCards
import Derived.Test.YtiadbhiadhgjkaaGreatDoorTie
import Derived.Test.YtiadbhiadhgjkaaGreatDoorZzTf
import Derived.Test.YtiadbhiadhgjkaaGreatDoorZzUa
import Derived.Test.YtiadbhiadhgjkaaGreatDoorZzRr
import Derived.SevenTiedAt
import Derived.LaidMore
import Derived.Lay
import Derived.JoinedOf
import Derived.JoinedAt
import Derived.Stop.Joined
import Derived.WalkKit
import Derived.ProofKit
import Derived.OpenShut
import Derived.ShutString
import Derived.ChangeOld
import Derived.Below
set_option maxRecDepth 100000
namespace Go.Proofs.YtiadbhiadhgjkaaGreatDoor.kernelRefuses
open Go.ChangeShapes Go.WideShapes Go.ChangeAt Go.RowKit
open Go.ChangeMaps (open_string shut_string)
set_option linter.unusedVariables false
theorem own:ownKnob Tryz.prog.godebug=none:=by kernel_rfl
theorem laidOut:laidOutB Tryz.prog=true:=by kernel_rfl
theorem OT(os:Go.Os)(args:Array Value):laidMetH Tryz.prog Rows.kernelRefusesRow.laid ((World.laidAll Tryz.prog os Rows.kernelRefusesRow.laid).forCall (fun _ _=>0) ⟨#[],args,[]⟩).memory:=by
 rw[MakeChecks.laidMetH_plain _ _ _ (by kernel_rfl)];exact laidMet_laidAll _ (by kernel_rfl) (by kernel_rfl)
theorem lifted(os:Go.Os)(started:os.Started)(H:Type)(enc:TypeId×Value->H) :
  ReturnsInHanded {} Tryz.checked os 4 .any (fun w args=>(Rows.kernelRefusesSpec.pre enc Tryz.prog Tryz.f4 Rows.kernelRefusesRow.domain false w args/\laidMetH Tryz.prog Rows.kernelRefusesRow.laid w)/\sizedMet enc Tryz.prog Tryz.f4 (OpenSpec.ofChange Rows.kernelRefusesSpec) false w args)
   (Rows.kernelRefusesSpec.post enc Tryz.prog Tryz.f4 false true false false):=by
 refine tT (C:=Tryz.checked) (X:=fun w _=>laidMetH Tryz.prog Rows.kernelRefusesRow.laid w) (fun _ _ _ hh h=>h.of_heap hh) own started (by kernel_rfl) Tryz.func4
  (ChangeSpec.witness_shaped (enc:=enc) (C:=Tryz.checked) (os:=os) (X:=fun w _=>laidMetH Tryz.prog Rows.kernelRefusesRow.laid w) false (World.laidAll Tryz.prog os Rows.kernelRefusesRow.laid) #[.int .i32 0,.agg #[.int .i32 0,.int .i32 0,.int .i32 0,.int .i32 0,.int .i32 0]] 8 (World.laidAll_os _ _ _) (World.shaped_of_ZipB (by kernel_rfl) (by kernel_rfl)) (by kernel_rfl) (by kernel_rfl) (by kernel_rfl) (OT os _)) ?_
 intro W base args ds gs before hval0 hW _ _ hL0 hsh _;have hL:laidMet Tryz.prog Rows.kernelRefusesRow.laid W:=hL0;have hval:∀(j:Nat) t v,Tryz.f4.params[j]? = some t->args[j]? = some v->Value.okWide Tryz.prog W .any base t v:=hval0;have hW':=hW;obtain⟨p,q,WU,hV,rfl,hfz,hnd⟩:=hW;have hA:DataW.TrodAll enc Tryz.prog W 0 (fun _=>true) true Tryz.f4.params.toList args.toList ds p:=WU;rw[Tryz.params4]at hA hval;obtain⟨v0,vs0,d0,ds0,p0,q0,hargs,rfl,rfl,h0,r0⟩:=trodAll_cons hA;obtain⟨v1,vs1,d1,ds1,p1,q1,rfl,rfl,rfl,h1,r1⟩:=trodAll_cons r0;obtain⟨rfl,rfl,rfl⟩:=trodAll_nil r1;obtain rfl:args=#[v0,v1]:=by cases args;simp_all
 obtain⟨rfl,rfl⟩:=trodVars_none hV;obtain⟨a0,rfl,rfl,rfl,w0⟩:=open_int Tryz.underlying21 (hval 0 21 v0 rfl rfl) h0;have k1:=h1;have lt1:∀x∈p1,x.block<W.heap.size:=by obtain⟨m,hm⟩:=k1;exact DataW.trod_lt m _ _ _ hm
 obtain⟨x1,x2,x3,x4,x5,rfl,w1⟩:=abd (hval 1 24 v1 rfl rfl) h1;clear WU hval0;refine(aay a0 x1 x2 x3 x4 x5 (ada w0) w1 W (XB hL.tail.tail) (UG hsh)).mono fun e W' ⟨he,eO⟩=>?_
 subst he;exact⟨_,rfl,_,_,_,[],_,[],hW',trodAll_mk1 (shut_bool Tryz.underlying4 _),(trodAll_cons_mk (shut_int Tryz.underlying21 w0) (trodAll_cons_mk (Below.trod laidOut (by kernel_rfl) (ak (by kernel_rfl)) k1 eO lt1) trodAll_mk0)),rfl,eO.frame _,fun h=>by cases h⟩
theorem over:Rows.kernelRefusesRow.holds Tryz.pinned (OpenSpec.ofChange Rows.kernelRefusesSpec) :=
 OpenClaim.holds_of_wide 4 Tryz.f4 rfl rfl rfl rfl rfl rfl rfl ⟨rfl,rfl,rfl,rfl,rfl⟩ rfl rfl rfl rfl rfl (by kernel_rfl) Tryz.func4 facts
  (ak (by kernel_rfl)) (by unfold Func.isWrapper;first|(rw[aD (by decide +kernel)];kernel_rfl)|(rw[aA (by decide +kernel)];exact⟨rfl,rfl⟩))
  (fun os started H enc _=>lifted os started H enc)
theorem proved:Rows.KernelRefusesCardSaid :=
 Claim7.holds_tied_plain_at .later [] Rows.kernelRefusesCard.laidKinds true Rows.kernelRefusesCard.stood.harness true
  over (fun _ h=>by cases h) (by kernel_rfl) (fun _ h=>by cases h) kernelRefuses_row_tie rfl ⟨rfl,rfl⟩ (by kernel_rfl) rfl
  (fun f fn hf hfn=>by
   obtain rfl:f=4:=Option.some.inj ((show Tryz.prog.funcNamed "glacis/glacislaw22.KernelRefuses"=some 4 by kernel_rfl).symm.trans hf) |>.symm;obtain rfl:fn=Tryz.f4:=(Option.some.inj (Tryz.func4.symm.trans hfn)).symm
   exact⟨by kernel_rfl,fun j t ht=>by
    rw[Tryz.params4]at ht;have hm:t∈[21,24]:=by simpa using Array.mem_of_getElem? ht
    have hall:([21,24].all fun u=>!Tryz.prog.wantsStandIn u)=true:=by kernel_rfl
    exact(show Tryz.prog.wantsStandIn t=false by simpa using List.all_eq_true.1 hall t hm)⟩)
  (by kernel_rfl)
#print axioms proved
end Go.Proofs.YtiadbhiadhgjkaaGreatDoor.kernelRefuses
