import Derived.Test.YtiadbhiadhgjkaaGreatDoorZzNh
import Derived.KernelRfl
namespace Go.Proofs.YtiadbhiadhgjkaaGreatDoor
def isDone(K:Km):Option Bool:=if K.nc=1 then match K.obj 6 with
 | none=>some true
 | some o=>if o.kind=3 then some (decide (o.th.state=0)&&decide (o.th.cont.phase=0))else none else none
theorem Dx{K:Km}{t:Bool}(h:isDone K=some t):K.nc=1/\((K.obj 6=none/\t=true)\/∃o,K.obj 6=some o/\o.kind=3/\t=(decide (o.th.state=0)&&decide (o.th.cont.phase=0))):=by
 unfold isDone at h;split at h
 ·rename_i hn
  refine⟨hn,?_⟩
  cases ho:K.obj 6 with
  | none=>rw[ho]at h;cases h;exact .inl ⟨rfl,rfl⟩
  | some o =>
   rw[ho]at h;simp only at h;split at h
   ·rename_i hk;cases h;exact .inr ⟨o,rfl,hk,rfl⟩
   ·cases h
 ·cases h
def rM(rE:Km->Ob->Option (Km×Int))(wt:Km->Ob->Nat->Option (Km×Int)):Nat->Km->Option (Option Km)
 | 0,_=>some none
 | m+1,K=>match K.nJ rE wt 0 with
  | none=>none
  | some p=>match isDone p.1 with
   | none=>none
   | some true=>some (some p.1)
   | some false=>rM rE wt m p.1
def jH:Line:=⟨0,0,0,0,0,0,⟨1,0,0,0,0⟩⟩
def MR(rE:Km->Ob->Option (Km×Int))(wt:Km->Ob->Nat->Option (Km×Int))(n:Nat)(p:ko)(chk:Option Km->Bool):Bool:=match tu (dX [p] 0)with
 | none=>false
 | some K0=>match rM rE wt n K0 with
  | none=>false
  | some r=>chk r
theorem Fp{rE:Km->Ob->Option (Km×Int)}{wt:Km->Ob->Nat->Option (Km×Int)}{n:Nat}{p:ko}{chk:Option Km->Bool}(h:MR rE wt n p chk=true):∃K0 r,tu (dX [p] 0)=some K0/\rM rE wt n K0=some r/\chk r=true:=by
 unfold MR at h;split at h
 ·cases h
 ·rename_i K0 hK
  split at h
  ·cases h
  ·rename_i r hr
   exact⟨K0,r,hK,hr,h⟩
def uw(p:ko):Bool:=match gF (km0 (dX [p] 0)) [1] (dX [p] 0).objs with
 | some q=>nR q.2 (dX [p] 0).objs
 | none=>false
theorem FN{c:mU}{K:Km}(h:tu c=some K)(hg:∀K1 made,gF (km0 c) [1] c.objs=some (K1,made)->nR made c.objs=true):dx K:=by
 obtain⟨hr,K1,made,K2,h1,h2,h3,rfl⟩:=nM h
 have h0:dx (km0 c):=fun n s hs=>by
  unfold km0 at hs;simp only at hs;split at hs
  ·cases hs;rfl
  ·cases hs
 have hB:dx K2:=dx.iH (h0.gF h1) (hg _ _ h1) h2;exact(show dx (rV K2 c made)from hB)
theorem Lr{p:ko}{K:Km}(h:uw p=true)(hK:tu (dX [p] 0)=some K):dx K/\K.nc=1:=by
 refine⟨FN hK (fun K1 made hb=>?_),?_⟩
 ·unfold uw at h
  rw[hb]at h;exact h
 ·obtain⟨-,K1,made,K2,-,-,-,rfl⟩:=nM hK
  rfl
end Go.Proofs.YtiadbhiadhgjkaaGreatDoor
