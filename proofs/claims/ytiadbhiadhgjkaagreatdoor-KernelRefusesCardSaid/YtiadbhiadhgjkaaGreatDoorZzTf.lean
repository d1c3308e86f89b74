import Derived.Test.YtiadbhiadhgjkaaGreatDoorZzLib
import Derived.Test.YtiadbhiadhgjkaaGreatDoorShelf
import Derived.Deep.DeepCutAuto
import Derived.Outline
import Derived.Lib.AppendIntMem
import Derived.Shelf.Vars
import Derived.Test.YtiadbhiadhgjkaaGreatDoorRows
import Derived.Lib.LaidTab
import Derived.Lib.LaidU8
import Derived.LaidMore
import Derived.ProofKit
import Derived.Stop.LaidErr
import Derived.Handed
import Derived.SizedLaws
import Derived.Test.YtiadbhiadhgjkaaGreatDoorZzKm
import Derived.Test.YtiadbhiadhgjkaaGreatDoorZzMap
import Derived.Lib.OthersKept
import Derived.Test.YtiadbhiadhgjkaaGreatDoorZzTi
import Derived.Test.YtiadbhiadhgjkaaGreatDoorZzKn
import Derived.Test.YtiadbhiadhgjkaaGreatDoorZzMp
set_option maxRecDepth 100000
set_option maxHeartbeats 4000000
namespace Go.Proofs.YtiadbhiadhgjkaaGreatDoor
open Go.RowKit
abbrev S(l:List UInt8):Value:=.string ⟨l.toArray⟩
def pF(w:World):Prop:=Lib.TabIs Tryz.prog w "strings.asciiSpace" .u8 Lib.asciiSpaceTab
theorem pF.below{w w':World}(h:pF w)(hb:Below w.heap.size w w'):pF w':=Lib.tabBelow_of_tabIs h w' hb
set_option maxRecDepth 100000
theorem XB{W:World}{l:List (String×DataW Unit)}(h:laidMet Tryz.prog (("strings.asciiSpace",Rows.laid_strings_asciiSpace)::l) W):pF W :=
 Lib.tabIs_of_head (P:=Tryz.prog) (g:=0) (t:=286) (e:=5) (n:=256) (rest:=l) (by kernel_rfl) (by kernel_rfl) Tryz.underlying286 Tryz.underlying5 (by kernel_rfl) (by kernel_rfl) h
end Go.Proofs.YtiadbhiadhgjkaaGreatDoor
namespace Go.Proofs.YtiadbhiadhgjkaaGreatDoor
open Go
variable {H:Type}{enc:TypeId×Value->H}
theorem tT{a:Assume}{C:Checked}{os:Go.Os}{f:FuncId}{fn:Func}{s:ChangeSpec}{conds:List PathCond}{apart fresh handsOn again:Bool}{X:World->Array Value->Prop}
  (hX:∀(w w':World) (args:Array Value),w.heap=w'.heap->X w args->X w' args)
  (own:ownKnob C.prog.godebug=none) (started:os.Started) (noInit:C.prog.inits.idxOf? f=none) (hfn:C.prog.funcs[f]? = some fn)
  (witness:∃(w:World) (tape:Tape) (i:Input),w.os=os/\(w.forCall tape i).Shaped C.prog/\i.vars=[]/\Input.okWide C.prog (w.forCall tape i) .any w.heap.size f i /\
   ((s.pre enc C.prog fn conds apart (w.forCall tape i).memory i.args/\X (w.forCall tape i).memory i.args)/\sizedMet enc C.prog fn (OpenSpec.ofChange s) apart (w.forCall tape i).memory i.args)/\a.holds C.prog (lone (Frame.enter C.prog f i.args .normal) [] (w.forCall tape i)))
  (contract:∀(W:World) (base:Nat) (args:Array Value) (ds gs:List (DataW H)) (before:List MemPlace),
   (∀(j:Nat) t v,fn.params[j]? = some t->args[j]? = some v->Value.okWide C.prog W .any base t v) ->
   DataW.Whole enc C.prog fn.params.toList s.vars apart W args.toList ds gs before ->
   conds.all (PathCond.test C.prog ⟨fn.params.toList,ds,s.plain.varTypes C.prog,gs⟩)=true ->
   (DataW.weightsEach C.prog (fn.params.toList++s.plain.varTypes C.prog) (ds++gs)).all (·<=reachBytes)=true->X W args->W.ShapedOpen C.prog ->
   a.holds C.prog (lone (Frame.enter C.prog f args .normal) [] W) ->
   Calls C.prog f args W fun e W'=>∃v,e=.returned v/\s.post enc C.prog fn apart fresh handsOn again W args v W') :
  ReturnsInHanded a C os f .any (fun w args=>(s.pre enc C.prog fn conds apart w args/\X w args)/\sizedMet enc C.prog fn (OpenSpec.ofChange s) apart w args) (s.post enc C.prog fn apart fresh handsOn again):=by
 refine returnsInHanded_of_calls own started noInit witness ?_;intro w tape i _ hsh _ hok hpre hholds;obtain⟨_,_,_,fn',hfn',_,_,_,_,hval⟩:=hok;have e:fn'=fn:=Option.some.inj (hfn'.symm.trans hfn);subst e;obtain⟨⟨⟨ds,gs,before,hw,hc⟩,hx⟩,hz⟩:=hpre;have hw':=DataW.Whole.of_heap (w':=w.forCall tape i) (by rfl) hw;refine(contract (w.forCall tape i) w.heap.size i.args ds gs before hval hw' hc (hz.weights hw) (hX _ _ _ (by rfl) hx) hsh hholds).mono fun e W' ⟨v,he,hp⟩=>?_
 subst he;exact ChangeSpec.post_blind hp
end Go.Proofs.YtiadbhiadhgjkaaGreatDoor
namespace Go.Proofs.YtiadbhiadhgjkaaGreatDoor
open Go.RowKit
attribute [local irreducible] World.setCell World.alloc World.drew Calls Code.wp
def BX(B:Nat)(w:World)(v:Value)(l:List Nat):Prop :=
 ∃x c,v=.slice x l.length c/\((x=none/\l=[]/\c=0)\/∃b,x=some ⟨b,0,none⟩/\B<=b/\b<w.heap.size/\∀j,j<l.length->w.cell? ⟨b,j,none⟩=some (.int .i64 (l.getD j 0)))
theorem BX.mono{B B':Nat}{w:World}{v:Value}{l:List Nat}(h:BX B w v l)(hB:B'<=B):BX B' w v l:=by
 obtain⟨x,c,rfl,h⟩:=h;exact⟨x,c,rfl,h.imp id fun⟨b,h0,h1,h2⟩=>⟨b,h0,by omega,h2⟩⟩
theorem BX.kept{S:Nat->Prop}{B:Nat}{w w':World}{v:Value}{l:List Nat}(h:BX B w v l)(k:Kept S w w')(hS:∀b,B<=b->¬S b):BX B w' v l:=by
 obtain⟨x,c,rfl,h⟩:=h;refine⟨x,c,rfl,h.imp id ?_⟩;rintro⟨b,rfl,h0,h1,h2⟩;refine⟨b,rfl,h0,bA h1 k.size,fun j hj=>?_⟩;rw[<-h2 j hj];exact World.cell?_of_block (a:=⟨b,j,none⟩) (k.block b h1 (hS b h0))
theorem BX.below{B:Nat}{w w':World}{v:Value}{l:List Nat}(h:BX B w v l)(hb:Below w.heap.size w w'):BX B w' v l :=
 h.kept (S:=fun _=>False) (Kept.of_below hb) (fun _ _ h=>h)
theorem QX{w:World}{base E:Nat}{v:Value}{l:List Nat}(h:w.ownsRow base E 1 v l.length (l.map fun x:Nat=>Value.int .i64 (x:Int))):BX base w v l:=by
 have hlt:=h.lt;rcases h.2 with⟨rfl,h0⟩|⟨g,cap,cur,rfl,_,hh,_⟩
 ·obtain rfl:l=[]:=List.eq_nil_of_length_eq_zero h0
  exact⟨_,_,rfl,.inl ⟨rfl,rfl,rfl⟩⟩
 ·refine⟨_,_,rfl,.inr ⟨g,rfl,(hlt g rfl).1,(aU.1 hh).1,fun j hj=>?_⟩⟩
  rw[h.cellAt j (by omega)];simp[hj,List.getD]
def dgt(x:Nat):UInt8:=UInt8.ofNat (48+x)
theorem YO{x:Nat}(h:x<10):(dgt x).toNat=48+x:=by
 unfold dgt;simp[UInt8.toNat_ofNat'];omega
def zi(l:List Nat):List UInt8:=l.map dgt
def It(w:World)(k:Nat)(s:ByteArray)(p:Nat):Prop:=w.heap[k]? = some (.stringIter s p)
theorem NS:(Tryz.prog.info? 3).map (fun i=>(i.zero,i.size,i.bytes))=some (some (.int .i64 0),1,8):=by kernel_rfl
theorem Nl{S:Nat->Prop}{w w':World}{base e size n:Nat}{v:Value}{xs:List Value}(h:w.ownsRow base e size v n xs)(k:Kept S w w')(hs:∀g,v.ownBlock=some g->¬S g):w'.ownsRow base e size v n xs:=by
 obtain⟨h1,h2⟩:=h;refine⟨h1,h2.imp id ?_⟩;rintro⟨g,cap,cur,hv,hg,hh,r⟩;refine⟨g,cap,cur,hv,hg,?_,r⟩;rw[k.block g (aU.1 hh).1 (hs g (by rw[hv];rfl))];exact hh
theorem Nz{w:World}{k:Nat}{s:ByteArray}{p:Nat}{x:Nat}(h:It w k s p)(hp:p<s.size)(hx:(s[p]'hp).toNat=48+x)(h10:x<10) :
  ∃w',(∀ty,(Instr.next (.pointer (some ⟨k,0,none⟩)) true ty).run Tryz.prog w=.ok (.tuple #[.bool true,.int .i64 p,.int .i32 (48+x)]) w')/\It w' k s (p+1)/\Kept (·=k) w w':=by
 refine⟨w.iterAt k s (p+1),fun ty=>?_,Lib.iterAt_heap w k s p (p+1) h,qj w k _⟩;rw[Lib.run_next_ascii_at w k s p ty h hp (by omega),hx];rfl
theorem Ri{w:World}{k:Nat}{s:ByteArray}{p:Nat}(h:It w k s p)(hp:¬p<s.size)(ty:TypeId) :
  (Instr.next (.pointer (some ⟨k,0,none⟩)) true ty).run Tryz.prog w=.ok (.tuple #[.bool false]) w:=Lib.run_next_end_at w k s p ty h hp
theorem It.grown{w w':World}{k:Nat}{s:ByteArray}{p:Nat}{row:Option Nat}(h:It w k s p)(hg:w.grownBy w' row)(hne:row=some k->False):It w' k s p:=by
 have:=hg.block k (aU.1 h).1 (fun e=>hne e.symm);unfold It at h ⊢;rw[this];exact h
theorem It.alloc{w:World}{k:Nat}{s:ByteArray}{p:Nat}(h:It w k s p)(o:Obj):It (w.alloc o) k s p:=by
 have hl:=(aU.1 h).1;unfold It at h ⊢;rw[Below.heap_alloc _ _ _ hl];exact h
theorem CG(l:List Nat)(hl:∀x∈l,x<10)(hlen:l.length<1000)(w:World) :
  Calls Tryz.prog 135 #[S (zi l)] w fun e w'=>∃v,e=.returned v/\BX w.heap.size w' v l/\Below w.heap.size w w':=by
 obtain⟨s,hs⟩:∃s:ByteArray,s=⟨(zi l).toArray⟩:=⟨_,rfl⟩;have hsz:s.size=l.length:=by rw[hs];show(zi l).toArray.size=_;simp[zi]
 have hat:∀j (h:j<s.size),(s[j]'h).toNat=48+l.getD j 0/\l.getD j 0<10:=by
  intro j h;have h':j<l.length:=by omega
  have h10:l[j]<10:=hl _ (List.getElem_mem h')
  have e:s[j]'h=dgt l[j]:=by
   subst hs;show(zi l).toArray[j]'_=_
   simp[zi]
  rw[e,YO h10];simp[List.getD,h',h10]
 have e0:S (zi l)=.string s:=by rw[hs]
 rw[e0];have Hsz:=ah hsz;have Hat:=ah hat;clear hsz hat hs e0;obtain⟨i0,hi,hz0,hz1,hz2⟩:=info_parts NS;have Hi:=ah hi;have lJ:=ah hz0;have lI:=ah hz1;have kT:=ah hz2;clear hi hz0 hz1 hz2;go_enter Tryz.func135,Tryz.ntmps135
 go_wp2_with fail
 go_loopg [3,5] l.length (fun g out _ wx=>∃j:Nat,j+g=l.length/\It wx w.heap.size s j/\wx.ownsRow (w.heap.size+1) 3 1 out (l.take j).length ((l.take j).map fun x:Nat=>Value.int .i64 (x:Int))/\Below w.heap.size w wx)
 case atStart=>exact⟨0,by omega,World.iter_heap _ _ _,cu _ _ _ _,(aC _ _).alloc (aj _) _⟩
 case round =>
  obtain⟨j,hj,hit,hown,hb⟩:=hrel;have Hit:=ah hit;have kZ:=ah hown;have Hb:=ah hb;clear hit hown hb;have hsz:=Hsz.out;by_cases hlt:j<l.length
  ·obtain⟨hx,h10⟩:=Hat.out j (by omega)
   obtain⟨x,hxe⟩:∃x,l.getD j 0=x:=⟨_,rfl⟩;rw[hxe]at hx h10;obtain⟨w5,hnx,Vg,hk5⟩:=Nz Hit.out (by omega) hx h10;have adF:=ah Vg;have uz:=ah (Nl kZ.out hk5 (fun g hg e=>by have:=(kZ.out.lt g hg).1;omega));have Hb5:=ah (Hb.out.trans (hk5.below Hb.out.size (fun i hi e=>by omega)));have hl5:w.heap.size<w5.heap.size:=(aU.1 Vg).1;have Hx:=ah hxe;clear Vg hk5 hx hxe hsz;have hlj:(l.take j).length=j:=by rw[List.length_take];omega
   have Hlj:=ah hlj;clear hlj;have h0:(0:Int)<=x:=by omega
   have h9:(x:Int)<10:=by omega
   go_wp2_with (at_builtin;refine wpList_append_own _ rfl _ _ 34 rfl (w.heap.size+1) 3 i0 (.int .i64 0) 1 8 Tryz.underlying34 Hi.out lJ.out lI.out kT.out rfl (by decide) _ _ _ rfl (uz.out.alloc _) ⟨w5.heap.size,0,none⟩ 1 1 [.int .i64 (48+(x:Int)-48)] rfl rfl (cell_one_new _ _ _) (fun u hu=>by simp at hu;subst hu;rfl) (by rw[Hlj.out];unfold maxLen;omega) (by rw[Hlj.out];omega) (by simp;omega) ?_;intro v' w6 hown6 dN _)
   rw[show(48+(x:Int)-48)=x by omega]at hown6;go_roundg (l.length-(j+1))
   case measure=>omega
   case rel =>
    have e1:l.take (j+1)=l.take j++[x]:=by
     rw[List.take_add_one];congr 1
     rw[<-Hx.out];simp[hlt,List.getD]
    refine⟨j+1,by omega,(adF.out.alloc _).grown dN (fun e=>by have:=(uz.out.lt _ e).1;omega),?_,(Hb5.out.alloc Hb5.out.size _).grown dN (by have:=Hb5.out.size;simp;omega) (fun k hk=>by have:=(uz.out.lt k hk).1;omega)⟩;rw[e1];simpa using hown6
  ·have hj2:j=l.length:=by omega
   have hnx:=Ri Hit.out (by omega);have Hd:Hid (l.take j=l):=by unfold Hid;rw[hj2];simp
   clear hsz;go_wp2_with fail
   go_ret;refine⟨_,rfl,?_,Hb.out⟩;have:=kZ.out;rw[Hd.out]at this;exact(QX this).mono (by omega)
def nY:List UInt8:=[99,97,116,110,101,119,58,58,32,115,101,108,102,108,97,98,101,108,58,58,32,115,101,108,102,99,108,101,97,114,58,58,32,115,101,108,102,58,58,32,108,97,98,101,108,111,102,58,58,49,32,99,111,110,116,110,101,119,58,49,58,32,115,101,103,110,101,119,58,49,58,32,115,112,97,99,101,110,101,119,58,49,58,32,116,104,114,101,97,100,110,101,119,58,49,58,32,103,97,116,101,110,101,119,58,49,58,32,117,110,114,101,102,58,49,50,58,32,115,116,97,116,58,58,49,32,108,105,115,116,58,58,49,32,113,117,111,116,97,58,58,49,32,109,111,118,101,58,49,50,58,32,114,101,115,105,122,101,58,49,58,32,114,101,97,100,58,58,49,32,119,114,105,116,101,58,49,58,32,99,111,112,121,58,49,58,51,32,109,97,112,58,49,58,51,32,117,110,109,97,112,58,49,58,32,117,115,101,58,58,49,32,101,110,116,101,114,58,58,49,32,104,97,108,116,58,58,32,115,116,97,114,116,58,49,58,32,119,97,105,116,58,58,49,32,119,97,107,101,58,49,58,32,97,108,101,114,116,58,49,58,32,97,108,101,114,116,103,101,116,58,58,32,100,101,118,114,101,97,100,58,49,58,32,100,101,118,119,114,105,116,101,58,49,58,32,99,108,111,99,107,58,58,32,121,105,101,108,100,58,58,32,115,101,116,105,110,102,111,58,49,58,32,105,110,102,111,58,58,49,32,109,97,112,97,116,58,58,49,32,104,111,109,101,111,102,58,58,49,32,111,119,110,101,100,58,58,32,108,101,118,101,108,58,58,49,32,114,105,103,104,116,115,58,58,49]
def nX:List (List UInt8):=[[99,97,116,110,101,119,58,58],[115,101,108,102,108,97,98,101,108,58,58],[115,101,108,102,99,108,101,97,114,58,58],[115,101,108,102,58,58],[108,97,98,101,108,111,102,58,58,49],[99,111,110,116,110,101,119,58,49,58],[115,101,103,110,101,119,58,49,58],[115,112,97,99,101,110,101,119,58,49,58],[116,104,114,101,97,100,110,101,119,58,49,58],[103,97,116,101,110,101,119,58,49,58],[117,110,114,101,102,58,49,50,58],[115,116,97,116,58,58,49],[108,105,115,116,58,58,49],[113,117,111,116,97,58,58,49],[109,111,118,101,58,49,50,58],[114,101,115,105,122,101,58,49,58],[114,101,97,100,58,58,49],[119,114,105,116,101,58,49,58],[99,111,112,121,58,49,58,51],[109,97,112,58,49,58,51],[117,110,109,97,112,58,49,58],[117,115,101,58,58,49],[101,110,116,101,114,58,58,49],[104,97,108,116,58,58],[115,116,97,114,116,58,49,58],[119,97,105,116,58,58,49],[119,97,107,101,58,49,58],[97,108,101,114,116,58,49,58],[97,108,101,114,116,103,101,116,58,58],[100,101,118,114,101,97,100,58,49,58],[100,101,118,119,114,105,116,101,58,49,58],[99,108,111,99,107,58,58],[121,105,101,108,100,58,58],[115,101,116,105,110,102,111,58,49,58],[105,110,102,111,58,58,49],[109,97,112,97,116,58,58,49],[104,111,109,101,111,102,58,58,49],[111,119,110,101,100,58,58],[108,101,118,101,108,58,58,49],[114,105,103,104,116,115,58,58,49]]
def Lj:List (List UInt8):=[[99,97,116,110,101,119],[115,101,108,102,108,97,98,101,108],[115,101,108,102,99,108,101,97,114],[115,101,108,102],[108,97,98,101,108,111,102],[99,111,110,116,110,101,119],[115,101,103,110,101,119],[115,112,97,99,101,110,101,119],[116,104,114,101,97,100,110,101,119],[103,97,116,101,110,101,119],[117,110,114,101,102],[115,116,97,116],[108,105,115,116],[113,117,111,116,97],[109,111,118,101],[114,101,115,105,122,101],[114,101,97,100],[119,114,105,116,101],[99,111,112,121],[109,97,112],[117,110,109,97,112],[117,115,101],[101,110,116,101,114],[104,97,108,116],[115,116,97,114,116],[119,97,105,116],[119,97,107,101],[97,108,101,114,116],[97,108,101,114,116,103,101,116],[100,101,118,114,101,97,100],[100,101,118,119,114,105,116,101],[99,108,111,99,107],[121,105,101,108,100],[115,101,116,105,110,102,111],[105,110,102,111],[109,97,112,97,116],[104,111,109,101,111,102],[111,119,110,101,100],[108,101,118,101,108],[114,105,103,104,116,115]]
def VR:List (List Nat):=[[],[],[],[],[],[1],[1],[1],[1],[1],[1,2],[],[],[],[1,2],[1],[],[1],[1],[1],[1],[],[],[],[1],[],[1],[1],[],[1],[1],[],[],[1],[],[],[],[],[],[]]
def VQ:List (List Nat):=[[],[],[],[],[1],[],[],[],[],[],[],[1],[1],[1],[],[],[1],[],[3],[3],[],[1],[1],[],[],[1],[],[],[],[],[],[],[],[],[1],[1],[1],[],[1],[1]]
def cW(k:Nat):List UInt8:=nX.getD k []
def cN(k:Nat):List UInt8:=Lj.getD k []
def cC(k:Nat):List Nat:=VR.getD k []
def cR(k:Nat):List Nat:=VQ.getD k []
theorem Aq:Lib.fields nY=nX:=by decide +kernel
theorem GA:∀(j:Nat) (b:UInt8),nY[j]? = some b->b.toNat<128:=by
 intro j b h;have h1:nY.all (fun b=>decide (b.toNat<128))=true:=by decide +kernel
 have:=List.all_eq_true.1 h1 b (bG h);simpa using this
def BD:Array Value:=(nX.map fun l=>S l).toArray
theorem Li(k:Nat)(h:k<40):BD[k]? = some (S (cW k)):=by
 have hl:k<nX.length:=h;unfold BD cW;simp[hl,List.getD]
theorem Bt(w:World)(hs:pF w) :
  Calls Tryz.prog 134 #[S nY] w fun e w'=>e=.returned (.slice (some ⟨w.heap.size,0,none⟩) 40 40)/\w'=w.alloc (.cells BD 9):=by
 refine(Tryz.strings_Fields_laid ⟨nY.toArray⟩ w (by decide +kernel) (by simpa using GA) hs).mono ?_;rintro e w' ⟨rfl,rfl⟩;have h:Lib.fields (ByteArray.mk nY.toArray).data.toList=nX:=by simpa using Aq
 rw[h];exact⟨rfl,rfl⟩
def lg(w:World):Prop:=∃m,w.cell? ⟨3,0,none⟩=some (.int .i64 m)
theorem lg.below{w w':World}(h:lg w)(hb:Below w.heap.size w w'):lg w':=by
 obtain⟨m,hm⟩:=h;exact⟨m,by rw[hb.cell (p:=⟨_,0,none⟩) (IJ hm)];exact hm⟩
theorem UG{w:World}(h:w.ShapedOpen Tryz.prog):lg w :=
 cell_of_shapedOpen_int (zero:=#[.int .i64 0]) (t:=3) h (ak (by kernel_rfl)) (by kernel_rfl) rfl (by kernel_rfl) (by kernel_rfl) Tryz.underlying3
theorem Cq:∀k,k<40->Lib.splitB ⟨#[58]⟩ 0 (Lib.countB ⟨(cW k).toArray⟩ ⟨#[58]⟩) ⟨(cW k).toArray⟩=[⟨(cN k).toArray⟩,⟨(zi (cC k)).toArray⟩,⟨(zi (cR k)).toArray⟩]/\Lib.countB ⟨(cW k).toArray⟩ ⟨#[58]⟩=2:=by
 decide +kernel
theorem EO:∀k,k<40->(cW k).length<100:=by decide +kernel
theorem Cr(k:Nat)(hk:k<40)(w:World)(hm:lg w) :
  Calls Tryz.prog 133 #[S (cW k),.string ⟨#[58]⟩] w fun e w'=>e=.returned (.slice (some ⟨w.heap.size,0,none⟩) 3 3)/\w'=w.alloc (.cells #[S (cN k),S (zi (cC k)),S (zi (cR k))] 9):=by
 obtain⟨m,hm⟩:=hm;have hw:=EO k hk;refine(Tryz.strings_Split ⟨(cW k).toArray⟩ ⟨#[58]⟩ m w (by show(cW k).toArray.size<_;simp;omega) hm (by decide)).mono ?_;rintro e w' ⟨rfl,rfl⟩;obtain⟨h1,h2⟩:=Cq k hk;rw[h1,h2];exact⟨rfl,rfl⟩
theorem Eo:∀k,k<40->(∀x∈cC k,x<10)/\(cC k).length<1000/\(∀x∈cR k,x<10)/\(cR k).length<1000:=by decide +kernel
end Go.Proofs.YtiadbhiadhgjkaaGreatDoor
namespace Go.Proofs.YtiadbhiadhgjkaaGreatDoor
open Go.RowKit
def Km.Cj(K:Km)(b:Bool):Km:={ K with done:=b }
theorem Inv.Cj{g:Gh}{K:Km}(h:Inv g K)(b:Bool):Inv g (K.Cj b):=⟨h.own,h.name,h.cont,h.seg,h.rD,h.yS,h.fC,h.tn,h.lD,h.room,h.yw⟩
theorem eD.QM{w0 w:World}{g0 g:Gh}{K:Km}(h:eD w0 g0 K w g)(b:Bool):eD w0 g0 (K.Cj b) (w.setCell ⟨g.kb,5,none⟩ (.bool b)) g:=by
 obtain⟨cv,sv,dv,h1,h3,h4,h6⟩:=h.kin.gZ.ex;have k:Kept (·=g.kb) w (w.setCell ⟨g.kb,5,none⟩ (.bool b)):=(Kept.refl (·=g.kb) w).bC _ _ _ rfl;have hkb:=h.kin.tags.kb;have hs:∀(j:Nat),1<=j->∀c,c=g.kb->c<w.heap.size->g.A c≠some (0,j):=fun j hj c q _ e=>by rw[q,hkb]at e;cases e;omega
 obtain⟨k1,k2⟩:=h.kin.Ma (g':=g) (slots:=K.slots) (eU:=K.eU) (done:=b) k (dS.of h3 (by decide)) (fun c q _=>.inl (by rw[q];exact hkb)) (dK.refl g) (fun n=>dO.refl g n) ⟨rfl,rfl,rfl⟩ rfl (fun _ _ e=>e) (fun c hc=>h.kin.kS c (bD k.size hc))
  ⟨cv,sv,dv,h1,(h3.set 5 _).cells rfl,Own.kept h4 k (hs 7 (by omega)) (fun _ _ e=>e),Own.kept h6 k (hs 8 (by omega)) (fun _ _ e=>e)⟩ h.kin.slot (.inl rfl)
 exact h.step k1 (h.inv.Cj b) k2
def Ic(cl:Km->Ob->Option vT):Prop:=∀(w:World) (g:Gh) (K:Km) (o:Ob) (R:vT) (db:Nat),cZ w g K->Inv g K->Qw K->K.obj o.name=some o->o.kind=3->cl K o=some R->aR w db #[.pointer (some ⟨g.kb,0,none⟩),.pointer (some ⟨g.bl o.name,0,none⟩),.pointer (some ⟨g.tl o.name,0,none⟩),.bool false] 247->g.A db=none ->
 Calls Tryz.prog 123 #[.pointer (some ⟨db,0,none⟩)] w fun e w'=>e=.returned (.tuple #[.int .i64 R.e,.int .u64 R.x,.int .u64 R.y])/\∃g',eD w g R.K w' g'/\aR w' db #[.pointer (some ⟨g.kb,0,none⟩),.pointer (some ⟨g.bl o.name,0,none⟩),.pointer (some ⟨g.tl o.name,0,none⟩),.bool R.gone] 247
attribute [local irreducible] World.setCell World.alloc World.drew World.setRow Calls Code.wp
theorem XI{w:World}{g:Gh}{K:Km}{o:Ob}(h:cZ w g K)(ho:K.obj o.name=some o)(hk:o.kind=3):g.kb≠g.bl o.name/\g.kb≠g.tl o.name:=by
 obtain⟨x,hT⟩:=h.gQ ho hk;have hp:=(h.objs _ _ ho).2.pos;have hb:=(h.objs _ _ ho).2.tag;have ht:=hT.tag;have hk0:=h.tags.kb;refine⟨fun e=>?_,fun e=>?_⟩
 ·rw[<-e,hk0]at hb;have:=congrArg (fun q:Option (Int×Nat)=>(q.getD (0,0)).1) hb;simp only[Option.getD_some]at this;omega
 ·rw[<-e,hk0]at ht;have:=congrArg (fun q:Option (Int×Nat)=>(q.getD (0,0)).1) ht;simp only[Option.getD_some]at this;omega
theorem SB{cl:Km->Ob->Option vT}(hcl:Ic cl)(w:World)(g:Gh)(K:Km)(o:Ob)(h:cZ w g K)(hI:Inv g K)(OB:Qw K)(ho:K.obj o.name=some o)(hk:o.kind=3){K':Km}{what:Int}(hres:K.SC cl o=some (K',what)) :
  Calls Tryz.prog 97 #[.pointer (some ⟨g.kb,0,none⟩),.pointer (some ⟨g.bl o.name,0,none⟩)] w fun e w'=>e=.returned (.int .i64 what)/\∃g',eD w g K' w' g':=by
 unfold Km.SC at hres;split at hres
 ·cases hres
 ·rename_i hr0
  have hr:o.th.cont.reads=[]:=Decidable.not_not.1 hr0;simp only at hres;obtain⟨o1,ho1⟩:∃o1,o1=o.dL { o.th.cont with phase:=5 }:=⟨_,rfl⟩;obtain⟨K1,hK1⟩:∃K1,K1=(K.set o1).Cj false:=⟨_,rfl⟩
  have hres2:(match cl K1 o1 with
   | none=>none
   | some c=>match c.K.obj o.name with
    | none=>none
    | some o2=>if o2.kind=3/\o2.q=[o.name]/\c.K.done=false/\c.gone=false/\(0<=c.x/\c.x<=18446744073709551615)/\(0<=c.y/\c.y<=18446744073709551615)/\(0<=c.e/\c.e<=100)then some (c.K.set (o2.eF (o2.th.ans c.e c.x c.y)),(3:Int))else none)=some (K',what):=by
   rw[hK1,ho1];exact hres
  clear hres
  cases hc:cl K1 o1 with
  | none=>rw[hc]at hres2;cases hres2
  | some R =>
   rw[hc]at hres2;simp only at hres2
   cases ho2:R.K.obj o.name with
   | none=>rw[ho2]at hres2;cases hres2
   | some o2 =>
    rw[ho2]at hres2;simp only at hres2;split at hres2
    ·rename_i hcond
     obtain⟨hk2,hq2,hdn,hgn,hx,hy,he⟩:=hcond
     cases hres2;obtain⟨lv,rv,sv,pv,hV⟩:=h.Qs ho hk;have hrd:=hV.reads;rw[hr]at hrd;obtain⟨ra,rc,rfl⟩:=xg hrd;obtain⟨n1,n2⟩:=XI h ho hk;obtain⟨cv,sv',dv,-,hKB,-,-⟩:=h.gZ.ex;have k5:w.cell? ⟨g.kb,5,none⟩=some (.bool K.done):=(hKB.cell 5).trans rfl;have k0:=h.iV.1;have fk5:=hKB.free 5
     have hM1:eD w g K1 ((w.setCell ⟨g.tl o.name,32,none⟩ (.int .i64 5)).setCell ⟨g.kb,5,none⟩ (.bool false)) g:=by
      rw[hK1,ho1];exact((eD.refl h hI).phase ho hk 5).QM false
     have KF:K1.obj o1.name=some o1:=by rw[hK1];exact Km.dz K o1
     have hn1:o1.name=o.name:=by rw[ho1];rfl
     have hk1:o1.kind=3:=by rw[ho1];exact hk
     have YJ:Qw K1:=by
      have hset:∀n s,K1.obj n=some s->∃s',K.obj n=some s'/\s.maps=s'.maps:=fun n s e=>by
       rw[hK1]at e;have e':(if n=o1.name then some o1 else K.obj n)=some s:=e;by_cases q:n=o1.name
       ·rw[aD q]at e';cases e'
        exact⟨o,by rw[q,hn1];exact ho,by rw[ho1];rfl⟩
       ·rw[aA q]at e';exact⟨s,e',rfl⟩
      refine⟨fun n s e=>?_,fun n s e=>?_⟩
      ·obtain⟨s',e1,e2⟩:=hset n s e;rw[e2];exact OB.maps n s' e1
      ·obtain⟨s',e1,e2⟩:=hset n s e;rw[e2];exact OB.lens n s' e1
     have H:=ah h;have HO:=ah ho;have LP:=ah hM1;have Zj:=ah KF;have Hn1:=ah hn1;have Xd:=ah hk1;have ZU:=ah YJ;have Hc:=ah hc;have Xb:=ah ho2;have TU:=ah hk2;have Hq2:=ah hq2;have Hdn:=ah hdn;have Hgn:=ah hgn;have Hx:=ah hx;have Hy:=ah hy;have He:=ah he;have t0:=hV.t;have c35:=hV.ct.r;have c32:=hV.ct.p;have f32:=hV.ct.f 32;have hne:=hV.ne;obtain⟨tb,htb⟩:∃tb,g.tl o.name=tb:=⟨_,rfl⟩;obtain⟨bb,hbb⟩:∃bb,g.bl o.name=bb:=⟨_,rfl⟩;have vD:=ah htb;have wm:=ah hbb;rw[htb]at t0 c35 c32 f32 n2 hne LP;rw[hbb]at t0 n1 hne;rw[hbb];clear h hI OB ho hk hV hrd hr hr0 hKB hM1 KF hn1 hk1 YJ hc ho2 hk2 hq2 hdn hgn hx hy he htb hbb ho1 hK1;go_enter Tryz.func97,Tryz.ntmps97
     go_wp2_with fail
     go_loopg [6,7,8,25] 1 (fun gg _ _ _ v25 wq=>v25=.int .i64 0/\wq=w)
     case atStart=>exact⟨rfl,rfl⟩
     case round =>
      obtain⟨rfl,rfl⟩:=hrel;obtain⟨w2,hw2⟩:∃w2,w2=((wr.setCell ⟨tb,32,none⟩ (.int .i64 5)).setCell ⟨g.kb,5,none⟩ (.bool false)).alloc (.cells #[.pointer (some ⟨g.kb,0,none⟩),.pointer (some ⟨bb,0,none⟩),.pointer (some ⟨tb,0,none⟩),.bool false] 247):=⟨_,rfl⟩;obtain⟨db,hdb⟩:∃db,db=wr.heap.size:=⟨_,rfl⟩
      have hD2:aR w2 db #[.pointer (some ⟨g.kb,0,none⟩),.pointer (some ⟨bb,0,none⟩),.pointer (some ⟨tb,0,none⟩),.bool false] 247:=by
       rw[hw2,hdb];have:=aR.new ((wr.setCell ⟨tb,32,none⟩ (.int .i64 5)).setCell ⟨g.kb,5,none⟩ (.bool false)) #[.pointer (some ⟨g.kb,0,none⟩),.pointer (some ⟨bb,0,none⟩),.pointer (some ⟨tb,0,none⟩),.bool false] 247;rw[World.size_setCell,World.size_setCell]at this;exact this
      have hM2:eD wr g K1 w2 g:=by
       rw[hw2];exact LP.out.below ((aC _ _).alloc (aj _) _)
      have hdA:g.A db=none:=by rw[hdb];exact H.out.kS _ (aj _)
      have HCl:Hid (Calls Tryz.prog 123 #[.pointer (some ⟨db,0,none⟩)] w2 fun e w'=>e=.returned (.tuple #[.int .i64 R.e,.int .u64 R.x,.int .u64 R.y])/\∃g',eD wr g R.K w' g'/\aR w' db #[.pointer (some ⟨g.kb,0,none⟩),.pointer (some ⟨bb,0,none⟩),.pointer (some ⟨tb,0,none⟩),.bool false] 247):=ah (by
       have:=hcl w2 g K1 o1 R db hM2.kin hM2.inv ZU.out Zj.out Xd.out Hc.out (by rw[Hn1.out,wm.out,vD.out];exact hD2) hdA;refine this.mono ?_;rintro e w' ⟨rfl,g',hm,hd⟩;rw[Hn1.out,wm.out,vD.out,Hgn.out]at hd;exact⟨rfl,g',hM2.from hm,hd⟩)
      go_upto_region 11 with fail
      rw[<-hw2,<-hdb];clear hw2 hdb hD2 hM2 hdA t0 c35 c32 f32 k5 k0 fk5 n1 n2 LP Zj ZU Hc Hgn;go_wp2_with fail
      refine HCl.out.mono ?_;rintro e w3 ⟨rfl,g1,Qv,hD3⟩;clear HCl;obtain⟨s1,s2⟩:=Qv.same H.out HO.out;have skb:g1.kb=g.kb:=Qv.ext.al.kb;have stb:g1.tb=g.tb:=Qv.ext.al.tb;have hn2:o2.name=o.name:=(Qv.kin.objs _ _ Xb.out).1;have ze:R.K.obj o2.name=some o2:=by rw[hn2];exact Xb.out
      obtain⟨lv2,rv2,sv2,pv2,hV2⟩:=Qv.kin.Qs ze TU.out;rw[hn2,s1,s2,wm.out,vD.out]at hV2;have m0:=hV2.nm;rw[hn2]at m0;have d3:w3.cell? ⟨db,3,none⟩=some (.bool false):=(hD3.cell 3).trans rfl;have k03:=Qv.kin.iV.1;rw[skb,stb]at k03
      have BR:Hid (Calls Tryz.prog 15 #[.pointer (some ⟨g.tb,0,none⟩),.int .u64 o.name] w3.drew fun e w'=>∃v,e=.returned v/\(v=.pointer (some ⟨bb,0,none⟩)/\w3.drew=w')):=ah (by
       have:=kK w3.drew g1 R.K.obj o.name Qv.kin.drew.tab;rw[gK Xb.out,s1,wm.out,stb]at this;exact this.mono (fun e w' q=>⟨_,q.1,rfl,q.2⟩))
      have z0:=dD k03;have z2:=dD m0;have z3:=dD d3;have uH:=ah Qv;have Jc:=ah s1;have Zh:=ah skb;have Hn2:=ah hn2;have Wn:=ah ze
      have EF:Hid (Calls Tryz.prog 124 #[.pointer (some ⟨g.kb,0,none⟩),.pointer (some ⟨bb,0,none⟩)] w3.drew fun e w'=>e=.returned (.tuple #[])/\Below w3.heap.size w3 w'):=ah (by
       have:=MV w3.drew g1 R.K o2 Qv.kin.drew ze (by rw[hn2];exact Hq2.out);rw[hn2,s1,wm.out,skb]at this;refine this.mono ?_;rintro e w' ⟨rfl,hb⟩;rw[cK]at hb;exact⟨rfl,(aC _ w3).drew.trans hb⟩)
      clear Qv hD3 s1 s2 skb stb hn2 ze hV2 m0 k03;go_wp2_with fail
      go_upto_region 12 with fail
      go_cut [94] (fun v94 wx=>v94=.bool false/\w3.drew=wx)
      case first =>
       first
       | go_region_held3 (fun W=>W.cell? ⟨g.kb,0,none⟩=some (.pointer (some ⟨g.tb,0,none⟩))/\W.cell? ⟨bb,2,none⟩=some (.int .u64 o.name)) (exact⟨z0,z2⟩)
         (first|(refine BR.out.mono ?_;rintro e w4 ⟨v,rfl,rfl,rfl⟩))
       | fail
       all_goals
        go_wp2_with fail
        go_meet;exact⟨rfl,rfl⟩
      case rest =>
       obtain⟨rfl,hw4⟩:=hcut;subst hw4;clear BR z0 z2;go_wp2_with fail
       refine EF.out.mono ?_;rintro e w5 ⟨rfl,hb5⟩;have hD5:w5.cell? ⟨db,3,none⟩=some (.bool false):=(hb5.cell (p:=⟨db,3,none⟩) (bn w3 ⟨db,3,none⟩ d3)).trans d3;have hM5:=uH.out.below hb5
       have WJ:Hid (Calls Tryz.prog 103 #[.pointer (some ⟨g.kb,0,none⟩),.pointer (some ⟨bb,0,none⟩),.int .i64 R.e,.int .u64 R.x,.int .u64 R.y] w5 fun e' w'=>e'=.returned (.tuple #[])/\eD wr g (R.K.set (o2.eF (o2.th.ans R.e R.x R.y))) w' g1):=ah (by
        have:=GQ w5 g1 R.K o2 R.e R.x R.y hM5.kin hM5.inv Wn.out TU.out He.out Hx.out Hy.out;rw[Hn2.out,Jc.out,wm.out,Zh.out]at this;refine this.mono ?_;rintro e w' ⟨rfl,hm⟩;exact⟨rfl,hM5.from hm⟩)
       clear hb5 hM5 EF z3 d3;go_wp2_with fail
       refine WJ.out.mono ?_;rintro e w6 ⟨rfl,hM6⟩
       have k56:w6.cell? ⟨g.kb,5,none⟩=some (.bool false):=by
        obtain⟨cv6,sv6,dv6,-,acM,-,-⟩:=hM6.kin.gZ.ex;have h1:=acM.cell 5;rw[Zh.out]at h1;refine h1.trans ?_;show some (Value.bool R.K.done)=_
        rw[Hdn.out]
       have BP:=ah hM6;clear hM6 WJ hD5;go_wp2_with fail
       go_ret;exact⟨rfl,g1,BP.out⟩
    ·cases hres2
end Go.Proofs.YtiadbhiadhgjkaaGreatDoor
namespace Go.Proofs.YtiadbhiadhgjkaaGreatDoor
open Go.RowKit
attribute [local irreducible] World.setCell World.alloc World.drew Calls Code.wp
def OfV(B:Nat)(w:World)(v:Value)(k:Nat):Prop:=∃a b,v=.tuple #[.agg #[S (cN k),a,b],.bool true]/\BX B w a (cC k)/\BX B w b (cR k)
def of0:Value:=.agg #[.string ⟨#[]⟩,.slice none 0 0,.slice none 0 0]
theorem MQ(w:World)(s:ByteArray)(x y:Option Addr)(n c m d:Nat) :
  (Instr.build 237 #[(0,.string s),(1,.slice x n c),(2,.slice y m d)]).run Tryz.prog w=.ok (.agg #[.string s,.slice x n c,.slice y m d]) w:=by
 simp[Instr.build,go_sem,Value.cells]
theorem KS{P:Program}{a:Act}{w w':World}{d:Option Tmp}{t T:TypeId}{p:String}{e:Array Edge}{g:Option (Nat×Bool)}{x y z:Operand}{s v u r:Value}(hx:a.eval x=s)(hy:a.eval y=v)(hz:a.eval z=u)
  (hr:(Instr.build T #[(0,s),(1,v),(2,u)]).run P w=.ok r w') :
  (execOp a.eval ⟨d,.build T #[(0,x),(1,y),(2,z)],t,p,e,g⟩).run P w=.ok (.value r) w':=by
 have h:(#[(0,x),(1,y),(2,z)]:Array (Nat×Operand)).map (fun p=>(p.1,a.eval p.2))=#[(0,s),(1,v),(2,u)]:=by
  rw[List.map_toArray];simp only[bW,List.map_nil,hx,hy,hz]
 simp only[execOp];rw[h];simp[hr,Result.andThen]
theorem KR{P:Program}{a:Act}{w w':World}{d:Option Tmp}{t:TypeId}{p:String}{e:Array Edge}{g:Option (Nat×Bool)}{T:TypeId}{x y:Operand}{u v:Value}(hx:a.eval x=u)(hy:a.eval y=v)(hr:(Instr.storeAt T u v).run P w=.ok () w') :
  (execOp a.eval ⟨d,.store T x y,t,p,e,g⟩).run P w=.ok .skip w':=by
 simp[execOp,hx,hy,hr,Result.andThen]
theorem uK{P:Program}{w:World}{b:Nat}{T:TypeId}{old cells:Array Value}(h:aR w b old T)(hi:(P.info? T).map (·.size)=some cells.size)(ho:old.size=cells.size)(h1:cells.all (·.oneCell')=true) :
  (Instr.storeAt T (.pointer (some ⟨b,0,none⟩)) (.agg cells)).run P w=.ok () (w.setRow b cells):=by
 simp only[Instr.storeAt,Instr.sureAddr,Sem.run_bind,Sem.run_pure,Result.andThen_ok,run_storeVar_row w b T T old cells h hi ho h1]
theorem BX.one{B:Nat}{w:World}{v:Value}{l:List Nat}(h:BX B w v l):v.oneCell'=true:=by
 obtain⟨x,c,rfl,_⟩:=h;rfl
theorem Zd(b:Nat)(w:World):(Instr.indexAt 262 (.slice (some ⟨b,0,none⟩) 3 3) (.int .i64 0)).run Tryz.prog w=.ok (.pointer (some ⟨b,0,none⟩)) w:=by go_simp;try rfl
theorem Zc(b:Nat)(w:World):(Instr.indexAt 262 (.slice (some ⟨b,0,none⟩) 3 3) (.int .i64 1)).run Tryz.prog w=.ok (.pointer (some ⟨b,1,none⟩)) w:=by go_simp;try rfl
theorem Zb(b:Nat)(w:World):(Instr.indexAt 262 (.slice (some ⟨b,0,none⟩) 3 3) (.int .i64 2)).run Tryz.prog w=.ok (.pointer (some ⟨b,2,none⟩)) w:=by go_simp;try rfl
theorem xH{w:World}{p:Addr}{s:ByteArray}(h:w.cell? p=some (.string s)):(Instr.loadAt 9 (.pointer (some p))).run Tryz.prog w=.ok (.string s) w:=by go_simp;try rfl
theorem acZ{s:ByteArray}{v u:Value}(h1:v.oneCell'=true)(h2:u.oneCell'=true):(#[Value.string s,v,u]:Array Value).all (·.oneCell')=true:=by
 have:(#[Value.string s,v,u]:Array Value).all (·.oneCell')=[Value.string s,v,u].all (·.oneCell'):=by simp
 rw[this];simp only[bT,List.all_nil,h1,h2];rfl
structure Yof(w0:World)(n5 k:Nat)(b6 b10 b11 b12:Option Bool)(v24 v28 v29:Value)(w:World):Prop where
 blk:aR w n5 #[S (cN k),S (zi (cC k)),S (zi (cR k))] 9
 above:w0.heap.size<n5
 eO:Below w0.heap.size w0 w
 g6:b6=some true->BX (n5+1) w v24 (cC k)
 g10:b10=some true->BX (n5+1) w v28 (cR k)
 g11:b11=some true->v29=.agg #[S (cN k),v24,v28]
 pre:b12≠some true->aR w w0.heap.size #[.string ⟨#[]⟩,.slice none 0 0,.slice none 0 0] 237
 post:b12=some true->aR w w0.heap.size #[S (cN k),v24,v28] 237
theorem UE(k:Nat)(hk:k<40)(w:World)(hs:pF w)(hm:lg w) :
  Calls Tryz.prog 111 #[.int .u64 ((k:Int)+1)] w fun e w'=>∃v,e=.returned v/\OfV w.heap.size w' v k/\Below w.heap.size w w':=by
 have Hs:=ah hs;have Hm:=ah hm;clear hs hm;have hk1:(k:Int)<40:=by omega
 have Hk:=ah hk;clear hk;go_enter Tryz.func111,Tryz.ntmps111
 go_wp2_with fail
 have hb0:Below w.heap.size w (w.alloc (.cells #[.string ⟨#[]⟩,.slice none 0 0,.slice none 0 0] 237)):=(aC _ _).alloc (aj _) _;refine(Bt _ (Hs.out.below hb0)).mono ?_;rintro e w1 ⟨he,hw1⟩;have B0:Hid (aR w1 w.heap.size #[.string ⟨#[]⟩,.slice none 0 0,.slice none 0 0] 237):=by rw[hw1];exact(aR.new w _ _).alloc _
 have hc:w1.cell? ⟨w.heap.size+1,k,none⟩=some (S (cW k)):=by
  rw[hw1];have:=(aR.new (w.alloc (.cells #[.string ⟨#[]⟩,.slice none 0 0,.slice none 0 0] 237)) BD 9).cell k;rw[Li k Hk.out]at this;simpa using this
 have hs1:w1.heap.size=w.heap.size+2:=by rw[hw1];simp
 have Hb1:Hid (Below w.heap.size w w1):=by rw[hw1];exact hb0.alloc hb0.size _
 rw[show(w.alloc (.cells #[.string ⟨#[]⟩,.slice none 0 0,.slice none 0 0] 237)).heap.size=w.heap.size+1 by simp]at he;clear hw1 hb0;subst he;go_wp2_with fail
 refine(Cr k Hk.out _ (Hm.out.below Hb1.out)).mono ?_;rintro e w2 ⟨he,hw2⟩;have B1:Hid (aR w2 w.heap.size #[.string ⟨#[]⟩,.slice none 0 0,.slice none 0 0] 237):=by rw[hw2];exact B0.out.alloc _
 have B2:Hid (aR w2 (w.heap.size+2) #[S (cN k),S (zi (cC k)),S (zi (cR k))] 9):=by rw[hw2,<-hs1];exact aR.new _ _ _
 have Hb2:Hid (Below w.heap.size w w2):=by rw[hw2];exact Hb1.out.alloc Hb1.out.size _
 rw[hs1]at he;clear hw2 hs1 hc B0 Hb1;subst he;have Hd:=ah (Eo k Hk.out);go_wp2_with fail
 refine dW (by kernel_rfl) (by kernel_rfl) (by kernel_rfl)
  (fun i v=>match i with|0=>v=(.slice (some ⟨w.heap.size+2,0,none⟩) 3 3)|1=>v=.pointer (some ⟨w.heap.size+2,0,none⟩)|2=>v=S (cN k)|3=>v=(.slice (some ⟨w.heap.size+2,0,none⟩) 3 3)|4=>v=.pointer (some ⟨w.heap.size+2,1,none⟩)|5=>v=S (zi (cC k))|7=>v=(.slice (some ⟨w.heap.size+2,0,none⟩) 3 3)|8=>v=.pointer (some ⟨w.heap.size+2,2,none⟩)|9=>v=S (zi (cR k))|13=>v=(.bool true)|_=>True)
  (fun l a wx=>Yof w (w.heap.size+2) k l[6]? l[10]? l[11]? l[12]? (a.tmps.getD 24 undef) (a.tmps.getD 28 undef) (a.tmps.getD 29 undef) wx) ?_ ?_ ?_
 ·exact⟨B2.out.drew,by omega,Hb2.out.drew,fun h=>by simp at h,fun h=>by simp at h,fun h=>by simp at h,fun _=>B1.out.drew,fun h=>by simp at h⟩
 ·intro hu i l a wx hi hl lF hd hcl hR hW
  have hi27:i=0\/i=1\/i=2\/i=3\/i=4\/i=5\/i=6\/i=7\/i=8\/i=9\/i=10\/i=11\/i=12\/i=13:=by have:i<14:=hi;omega
  rcases hi27 with rfl|rfl|rfl|rfl|rfl|rfl|rfl|rfl|rfl|rfl|rfl|rfl|rfl|rfl
  ·
   refine aK rfl (d:=18) rfl (aF rfl _) (dJ (hR.was 4 rfl)) ⟨hR.put hu (by rw[hl];decide) (d:=18) rfl (ak rfl) rfl,?_⟩;simpa only[aI,aL,bF,aB,Nat.reduceEqDiff]using hW
  ·
   refine aK rfl (d:=19) rfl (aF rfl _) (jh (hR.slot 0 18 (hd 0 rfl) rfl) rfl (Zd _ _)) ⟨hR.put hu (by rw[hl];decide) (d:=19) rfl (ak rfl) rfl,?_⟩;simpa only[aI,aL,bF,aB,Nat.reduceEqDiff]using hW
  ·
   have hc:=hW.blk.cell 0;refine aK rfl (d:=20) rfl (aF rfl _) (eu (hR.slot 1 19 (hd 1 rfl) rfl) (xH hc)) ⟨hR.put hu (by rw[hl];decide) (d:=20) rfl (ak rfl) rfl,?_⟩;clear hc;simpa only[aI,aL,bF,aB,Nat.reduceEqDiff]using hW
  ·
   refine aK rfl (d:=21) rfl (aF rfl _) (dJ (hR.was 4 rfl)) ⟨hR.put hu (by rw[hl];decide) (d:=21) rfl (ak rfl) rfl,?_⟩;simpa only[aI,aL,bF,aB,Nat.reduceEqDiff]using hW
  ·
   refine aK rfl (d:=22) rfl (aF rfl _) (jh (hR.slot 3 21 (hd 3 rfl) rfl) rfl (Zc _ _)) ⟨hR.put hu (by rw[hl];decide) (d:=22) rfl (ak rfl) rfl,?_⟩;simpa only[aI,aL,bF,aB,Nat.reduceEqDiff]using hW
  ·
   have hc:=hW.blk.cell 1;refine aK rfl (d:=23) rfl (aF rfl _) (eu (hR.slot 4 22 (hd 4 rfl) rfl) (xH hc)) ⟨hR.put hu (by rw[hl];decide) (d:=23) rfl (ak rfl) rfl,?_⟩;clear hc;simpa only[aI,aL,bF,aB,Nat.reduceEqDiff]using hW
  ·
   have hno:¬(l[6]? = some true):=by rw[lF];simp
   refine gV rfl (d:=24) rfl (aF rfl _) (bP (vs:=#[(S (zi (cC k)))]) (by rw[List.map_toArray];simp only[bW,List.map_nil,show a.eval (.tmp 23)=(S (zi (cC k)))from(hR.slot 5 23 (hd 5 rfl) rfl)]) (bE Tryz.func135 (by kernel_rfl) rfl)) (R:=fun v w'=>BX wx.heap.size w' v (cC k)/\Below wx.heap.size wx w') ((CG (cC k) Hd.out.1 Hd.out.2.1 wx).mono fun e w' ⟨v,h1,h2,h3⟩=>⟨v,h1,h2,h3⟩) ?_;rintro v w' ⟨h1,h2⟩;refine⟨hR.put hu (by rw[hl];decide) (d:=24) rfl (ak rfl) trivial,?_⟩;have hlt:=hW.blk.lt;simp only[aI,aL,bF,aB,Nat.reduceEqDiff,set_self (show 6<l.size by rw[hl];decide),eG (show 24<a.tmps.size by rw[hR.size];exact ak rfl)];exact⟨hW.blk.below h2 hW.blk.lt,hW.above,aT hW.eO h2,fun _=>h1.mono (by omega),fun h=>absurd (hcl.of 6 rfl h) hno,fun h=>absurd (hcl.of 6 rfl h) hno,fun h=>(hW.pre h).below h2 (hW.pre h).lt,fun h=>absurd (hcl.of 6 rfl h) hno⟩
  ·
   refine aK rfl (d:=25) rfl (aF rfl _) (dJ (hR.was 4 rfl)) ⟨hR.put hu (by rw[hl];decide) (d:=25) rfl (ak rfl) rfl,?_⟩;simpa only[aI,aL,bF,aB,Nat.reduceEqDiff]using hW
  ·
   refine aK rfl (d:=26) rfl (aF rfl _) (jh (hR.slot 7 25 (hd 7 rfl) rfl) rfl (Zb _ _)) ⟨hR.put hu (by rw[hl];decide) (d:=26) rfl (ak rfl) rfl,?_⟩;simpa only[aI,aL,bF,aB,Nat.reduceEqDiff]using hW
  ·
   have hc:=hW.blk.cell 2;refine aK rfl (d:=27) rfl (aF rfl _) (eu (hR.slot 8 26 (hd 8 rfl) rfl) (xH hc)) ⟨hR.put hu (by rw[hl];decide) (d:=27) rfl (ak rfl) rfl,?_⟩;clear hc;simpa only[aI,aL,bF,aB,Nat.reduceEqDiff]using hW
  ·
   have hno:¬(l[10]? = some true):=by rw[lF];simp
   refine gV rfl (d:=28) rfl (aF rfl _) (bP (vs:=#[(S (zi (cR k)))]) (by rw[List.map_toArray];simp only[bW,List.map_nil,show a.eval (.tmp 27)=(S (zi (cR k)))from(hR.slot 9 27 (hd 9 rfl) rfl)]) (bE Tryz.func135 (by kernel_rfl) rfl)) (R:=fun v w'=>BX wx.heap.size w' v (cR k)/\Below wx.heap.size wx w') ((CG (cR k) Hd.out.2.2.1 Hd.out.2.2.2 wx).mono fun e w' ⟨v,h1,h2,h3⟩=>⟨v,h1,h2,h3⟩) ?_;rintro v w' ⟨h1,h2⟩;refine⟨hR.put hu (by rw[hl];decide) (d:=28) rfl (ak rfl) trivial,?_⟩;have hlt:=hW.blk.lt;simp only[aI,aL,bF,aB,Nat.reduceEqDiff,set_self (show 10<l.size by rw[hl];decide),eG (show 28<a.tmps.size by rw[hR.size];exact ak rfl)];exact⟨hW.blk.below h2 hW.blk.lt,hW.above,aT hW.eO h2,fun h=>(hW.g6 h).below h2,fun _=>h1.mono (by omega),fun h=>absurd (hcl.of 10 rfl h) hno,fun h=>(hW.pre h).below h2 (hW.pre h).lt,fun h=>absurd (hcl.of 10 rfl h) hno⟩
  ·
   have hno:¬(l[11]? = some true):=by rw[lF];simp
   have g6:=hW.g6 (hd 6 rfl);have g10:=hW.g10 (hd 10 rfl)
   obtain⟨x,n,y,m,c,d,e24,e28⟩:∃x n y m c d,a.tmps.getD 24 undef=.slice x n c/\a.tmps.getD 28 undef=.slice y m d:=by
    obtain⟨x,c,h,_⟩:=g6;obtain⟨y,d,h',_⟩:=g10;exact⟨x,_,y,_,c,d,h,h'⟩
   refine aK rfl (d:=29) rfl (aF rfl _) (KS (hR.slot 2 20 (hd 2 rfl) rfl) e24 e28 (MQ _ _ _ _ _ _ _ _)) ⟨hR.put hu (by rw[hl];decide) (d:=29) rfl (ak rfl) trivial,?_⟩;simp only[aI,aL,bF,aB,Nat.reduceEqDiff,set_self (show 11<l.size by rw[hl];decide),eG (show 29<a.tmps.size by rw[hR.size];exact ak rfl)];exact⟨hW.blk,hW.above,hW.eO,hW.g6,hW.g10,fun _=>by rw[e24,e28],hW.pre,fun h=>absurd (hcl.of 11 rfl h) hno⟩
  ·
   have g6:=hW.g6 (hd 6 rfl);have g10:=hW.g10 (hd 10 rfl);have e29:=hW.g11 (hd 11 rfl);have hb:=hW.pre (by rw[lF];simp);have hne:w.heap.size≠w.heap.size+2:=by omega
   refine jc rfl rfl (aF rfl _) (KR (hR.was 2 rfl) e29 (uK hb (by kernel_rfl) rfl (acZ g6.one g10.one))) ⟨hR.done rfl,?_⟩;have hK:Kept (·=w.heap.size) wx (wx.setRow w.heap.size #[S (cN k),a.tmps.getD 24 undef,a.tmps.getD 28 undef]):=(Kept.refl (·=w.heap.size) wx).setRow (.inr rfl) _;simp only[aI,bF,aB,Nat.reduceEqDiff,set_self (show 12<l.size by rw[hl];decide)];exact⟨hW.blk.setRow_other hne _,hW.above,hW.eO.trans (hK.below hW.eO.size (fun i hi e=>by omega)),fun h=>(hW.g6 h).kept hK (fun b hb e=>by omega),fun h=>(hW.g10 h).kept hK (fun b hb e=>by omega),hW.g11,fun h=>absurd rfl h,fun _=>hb.setRow _⟩
  ·
   refine aK rfl (d:=3) rfl (aF rfl _) (mo rfl) ⟨hR.put hu (by rw[hl];decide) (d:=3) rfl (ak rfl) rfl,?_⟩;simpa only[aI,aL,bF,aB,Nat.reduceEqDiff]using hW
 ·intro l a wx hl hR hW
  have hg6:=hW.g6 (hl 6 (by decide));have hg10:=hW.g10 (hl 10 (by decide));have hpost:=hW.post (hl 12 (by decide));have Hb3:=ah hW.eO;obtain⟨v24,h24⟩:∃v,a.tmps.getD 24 undef=v:=⟨_,rfl⟩;obtain⟨v28,h28⟩:∃v,a.tmps.getD 28 undef=v:=⟨_,rfl⟩;rw[h24]at hg6 hpost;rw[h28]at hg10 hpost;have e3:a.tmps.getD 3 undef=.bool true:=hR.slot 13 3 (hl 13 (by decide)) rfl;rw[hR.fold [18,19,20,21,22,23,24,25,26,27,28,29,3] (by kernel_rfl)];simp only[List.foldl,e3];clear hW hR e3 hl h24 h28;generalize a.tmps.getD 18 undef=u18;generalize a.tmps.getD 19 undef=u19;generalize a.tmps.getD 20 undef=u20;generalize a.tmps.getD 21 undef=u21;generalize a.tmps.getD 22 undef=u22;generalize a.tmps.getD 23 undef=u23;generalize a.tmps.getD 24 undef=u24;generalize a.tmps.getD 25 undef=u25;generalize a.tmps.getD 26 undef=u26;generalize a.tmps.getD 27 undef=u27;generalize a.tmps.getD 28 undef=u28;generalize a.tmps.getD 29 undef=u29;generalize a.tmps.getD 3 undef=u3;go_simp
  clear a l;have Hg6:=ah hg6;have adH:=ah hg10;have hAc:∀i,wx.cell? ⟨w.heap.size,i,none⟩=(#[S (cN k),v24,v28]:Array Value)[i]?:=hpost.cell;clear hg6 hg10 hpost;go_wp2_with fail
  exact bodyPost_ret (v:=.tuple #[.agg #[S (cN k),v24,v28],.bool true]) (by simp[results,Tryz.results111,go_sem,hAc]) rfl ⟨_,rfl,⟨_,_,rfl,Hg6.out.mono (by omega),adH.out.mono (by omega)⟩,Hb3.out⟩
theorem XF(n:Int)(h:¬(1<=n/\n<=40))(w:World) :
  Calls Tryz.prog 111 #[.int .u64 n] w fun e w'=>e=.returned (.tuple #[of0,.bool false])/\Below w.heap.size w w':=by
 have hb0:Below w.heap.size w (w.alloc (.cells #[.string ⟨#[]⟩,.slice none 0 0,.slice none 0 0] 237)):=(aC _ _).alloc (aj _) _;have Hb0:=ah hb0;clear hb0;by_cases h1:n<1
 ·go_enter Tryz.func111,Tryz.ntmps111
  go_wp2_with fail
  exact bodyPost_ret (v:=.tuple #[of0,.bool false]) (by simp[results,Tryz.results111,go_sem,of0]) rfl ⟨rfl,Hb0.out⟩
 ·have h2:40<n:=by omega
  clear h;go_enter Tryz.func111,Tryz.ntmps111
  go_wp2_with fail
  exact bodyPost_ret (v:=.tuple #[of0,.bool false]) (by simp[results,Tryz.results111,go_sem,of0]) rfl ⟨rfl,Hb0.out⟩
end Go.Proofs.YtiadbhiadhgjkaaGreatDoor
