import Derived.Test.YtiadbhiadhgjkaaGreatDoorRows
import Derived.Test.YtiadbhiadhgjkaaGreatDoorCards
import Derived.Test.YtiadbhiadhgjkaaGreatDoorTie
import Derived.Test.YtiadbhiadhgjkaaGreatDoorZzTf
import Derived.Test.YtiadbhiadhgjkaaGreatDoorZzTo
import Derived.Test.YtiadbhiadhgjkaaGreatDoorZzRk
import Derived.SevenTiedAt
import Derived.LaidMore
import Derived.Lay
import Derived.JoinedOf
import Derived.JoinedAt
import Derived.Stop.Joined
import Derived.WalkKit
import Derived.ProofKit
import Derived.OpenShut
import Derived.ShutString
import Derived.ChangeOld
import Derived.Below
set_option maxRecDepth 100000
namespace Go.Proofs.YtiadbhiadhgjkaaGreatDoor.kernelCats
open Go.ChangeShapes Go.WideShapes Go.ChangeAt Go.RowKit
open Go.ChangeMaps (open_string shut_string)
set_option linter.unusedVariables false
theorem own:ownKnob Tryz.prog.godebug=none:=by kernel_rfl
theorem laidOut:laidOutB Tryz.prog=true:=by kernel_rfl
theorem OT(os:Go.Os)(args:Array Value):laidMetH Tryz.prog Rows.kernelCatsRow.laid ((World.laidAll Tryz.prog os Rows.kernelCatsRow.laid).forCall (fun _ _=>0) ⟨#[],args,[]⟩).memory:=by
 rw[MakeChecks.laidMetH_plain _ _ _ (by kernel_rfl)];exact laidMet_laidAll _ (by kernel_rfl) (by kernel_rfl)
theorem lifted(os:Go.Os)(started:os.Started)(H:Type)(enc:TypeId×Value->H) :
  ReturnsInHanded {} Tryz.checked os 3 .any (fun w args=>(Rows.kernelCatsSpec.pre enc Tryz.prog Tryz.f3 Rows.kernelCatsRow.domain false w args/\laidMetH Tryz.prog Rows.kernelCatsRow.laid w)/\sizedMet enc Tryz.prog Tryz.f3 (OpenSpec.ofChange Rows.kernelCatsSpec) false w args)
   (Rows.kernelCatsSpec.post enc Tryz.prog Tryz.f3 false true false false):=by
 refine tT (C:=Tryz.checked) (X:=fun w _=>laidMetH Tryz.prog Rows.kernelCatsRow.laid w) (fun _ _ _ hh h=>h.of_heap hh) own started (by kernel_rfl) Tryz.func3
  (ChangeSpec.witness_shaped (enc:=enc) (C:=Tryz.checked) (os:=os) (X:=fun w _=>laidMetH Tryz.prog Rows.kernelCatsRow.laid w) false (World.laidAll Tryz.prog os Rows.kernelCatsRow.laid) #[.int .i64 0] 8 (World.laidAll_os _ _ _) (World.shaped_of_ZipB (by kernel_rfl) (by kernel_rfl)) (by kernel_rfl) (by kernel_rfl) (by kernel_rfl) (OT os _)) ?_
 intro W base args ds gs before hval0 hW _ _ hL0 hsh _;have hL:laidMet Tryz.prog Rows.kernelCatsRow.laid W:=hL0;have hval:∀(j:Nat) t v,Tryz.f3.params[j]? = some t->args[j]? = some v->Value.okWide Tryz.prog W .any base t v:=hval0;have hW':=hW;obtain⟨p,q,WU,hV,rfl,hfz,hnd⟩:=hW;have hA:DataW.TrodAll enc Tryz.prog W 0 (fun _=>true) true Tryz.f3.params.toList args.toList ds p:=WU;rw[Tryz.params3]at hA hval;obtain⟨v0,vs0,d0,ds0,p0,q0,hargs,rfl,rfl,h0,r0⟩:=trodAll_cons hA;obtain⟨rfl,rfl,rfl⟩:=trodAll_nil r0;obtain rfl:args=#[v0]:=by cases args;simp_all
 obtain⟨rfl,rfl⟩:=trodVars_none hV;obtain⟨a0,rfl,rfl,rfl,w0⟩:=open_int Tryz.underlying3 (hval 0 3 v0 rfl rfl) h0;clear WU hval0;refine(Le a0 W (XB hL.tail.tail) (UG hsh)).mono fun e W' ⟨he,eO⟩=>?_
 subst he;exact⟨_,rfl,_,_,_,[],_,[],hW',trodAll_mk1 (shut_bool Tryz.underlying4 _),(trodAll_cons_mk (shut_int Tryz.underlying3 w0) trodAll_mk0),rfl,eO.frame _,fun h=>by cases h⟩
theorem over:Rows.kernelCatsRow.holds Tryz.pinned (OpenSpec.ofChange Rows.kernelCatsSpec) :=
 OpenClaim.holds_of_wide 3 Tryz.f3 rfl rfl rfl rfl rfl rfl rfl ⟨rfl,rfl,rfl,rfl,rfl⟩ rfl rfl rfl rfl rfl (by kernel_rfl) Tryz.func3 facts
  (ak (by kernel_rfl)) (by unfold Func.isWrapper;first|(rw[aD (by decide +kernel)];kernel_rfl)|(rw[aA (by decide +kernel)];exact⟨rfl,rfl⟩))
  (fun os started H enc _=>lifted os started H enc)
theorem proved:Rows.KernelCatsCardSaid :=
 Claim7.holds_tied_plain_at .later [] Rows.kernelCatsCard.laidKinds true Rows.kernelCatsCard.stood.harness true
  over (fun _ h=>by cases h) (by kernel_rfl) (fun _ h=>by cases h) kernelCats_row_tie rfl ⟨rfl,rfl⟩ (by kernel_rfl) rfl
  (fun f fn hf hfn=>by
   obtain rfl:f=3:=Option.some.inj ((show Tryz.prog.funcNamed "glacis/glacislaw22.KernelCats"=some 3 by kernel_rfl).symm.trans hf) |>.symm;obtain rfl:fn=Tryz.f3:=(Option.some.inj (Tryz.func3.symm.trans hfn)).symm
   exact⟨by kernel_rfl,fun j t ht=>by
    rw[Tryz.params3]at ht;have hm:t∈[3]:=by simpa using Array.mem_of_getElem? ht
    have hall:([3].all fun u=>!Tryz.prog.wantsStandIn u)=true:=by kernel_rfl
    exact(show Tryz.prog.wantsStandIn t=false by simpa using List.all_eq_true.1 hall t hm)⟩)
  (by kernel_rfl)
#print axioms proved
end Go.Proofs.YtiadbhiadhgjkaaGreatDoor.kernelCats
