import Derived.Test.YtiadbhiadhgjkaaGreatDoorZzLib
import Derived.Test.YtiadbhiadhgjkaaGreatDoorZzKm
import Derived.Test.YtiadbhiadhgjkaaGreatDoorZzWoHm
import Derived.Test.YtiadbhiadhgjkaaGreatDoorZzSgR
import Derived.Test.YtiadbhiadhgjkaaGreatDoorZzPgD
import Derived.Test.YtiadbhiadhgjkaaGreatDoorZzTl
import Derived.Deep.AppendLies
set_option maxHeartbeats 600000
namespace Go.Proofs.YtiadbhiadhgjkaaGreatDoor
open Go.RowKit
structure MapAt(w:World)(r:Nat)(es:List (Int×Value)):Prop where
 at_:∃arr clock,w.heap[r]? = some (.map arr clock)/\arr.toList.map (fun e=>(e.key,e.val))=es.map (fun p=>(Value.int .u64 p.1,p.2))/\(∀e∈arr.toList,e.born<clock)/\(arr.toList.map (·.born)).Nodup
 nd:(es.map (·.1)).Nodup
def look(es:List (Int×Value))(k:Int):Option Value:=(es.find? (fun p=>p.1==k)).map (·.2)
def put(es:List (Int×Value))(k:Int)(v:Value):List (Int×Value):=if(look es k).isSome then es.map (fun p=>if p.1=k then(k,v)else p)else es++[(k,v)]
theorem look_nil(k:Int):look [] k=none:=rfl
theorem jg(p:Int×Value)(es:List (Int×Value))(k:Int):look (p::es) k=if p.1=k then some p.2 else look es k:=by
 unfold look;rw[List.find?_cons];by_cases h:p.1=k
 ·have:(p.1==k)=true:=by simpa using h
  rw[this,aD h];rfl
 ·have:(p.1==k)=false:=by simpa using h
  rw[this,aA h]
theorem Kq{es:List (Int×Value)}{k:Int}:look es k=none↔∀p∈es,p.1≠k:=by
 induction es with
 | nil=>simp[look_nil]
 | cons p es ih =>
  rw[jg];by_cases e:p.1=k
  ·rw[aD e];simp[e]
  ·rw[aA e,ih];simp[e]
theorem Dp(es:List (Int×Value))(p:Int×Value)(k:Int):look (es++[p]) k=(look es k).or (if p.1=k then some p.2 else none):=by
 induction es with
 | nil=>rw[List.nil_append,jg,look_nil];simp
 | cons q es ih =>
  rw[List.cons_append,jg,jg,ih];by_cases e:q.1=k
  ·rw[aD e,aD e];rfl
  ·rw[aA e,aA e]
theorem NG(es:List (Int×Value))(k:Int)(v:Value)(j:Int):look (es.map (fun p=>if p.1=k then(k,v)else p)) j=if j=k/\(look es k).isSome then some v else look es j:=by
 induction es with
 | nil=>simp[look_nil]
 | cons p es ih =>
  rw[bW,jg,jg,jg,ih];by_cases e:p.1=k
  ·rw[aD e]
   by_cases e2:k=j
   ·subst e2;simp[e]
   ·rw[aA e2,aA (fun h=>e2 h.1.symm),aA (fun h=>e2 h.1.symm),aA (by omega)]
  ·rw[aA e]
   by_cases e2:p.1=j
   ·rw[aD e2,aD e2,aA (by omega)]
   ·rw[aA e2,aA e2,aA e]
theorem ND(es:List (Int×Value))(k:Int)(v:Value)(j:Int):look (put es k v) j=if j=k then some v else look es j:=by
 unfold put;by_cases h:(look es k).isSome=true
 ·rw[aD h,NG]
  by_cases e:j=k
  ·rw[aD ⟨e,h⟩,aD e]
  ·rw[aA (fun x=>e x.1),aA e]
 ·rw[aA h,Dp]
  have hn:look es k=none:=by simpa using h
  by_cases e:k=j
  ·subst e;rw[hn,aD rfl];simp
  ·simp only[aA e];rw[aA (fun x=>e x.symm)];simp
theorem keys_map(es:List (Int×Value))(k:Int)(v:Value):(es.map (fun p=>if p.1=k then(k,v)else p)).map (·.1)=es.map (·.1):=by
 rw[List.map_map];refine List.map_congr_left fun p _=>?_
 show(if p.1=k then(k,v)else p).1=p.1
 split
 ·symm;assumption
 ·rfl
theorem zN{es:List (Int×Value)}(h:(es.map (·.1)).Nodup)(k:Int)(v:Value):((put es k v).map (·.1)).Nodup:=by
 unfold put;split
 ·rw[keys_map];exact h
 ·rename_i hn
  have hn':look es k=none:=by simpa using hn
  rw[List.map_append,List.nodup_append];refine⟨h,by simp,?_⟩;intro a ha b hb;simp at hb;subst hb;obtain⟨p,hp,rfl⟩:=List.mem_map.1 ha;exact Kq.1 hn' p hp
theorem MapAt.new(w:World):MapAt (w.alloc (.map #[] 0)) w.heap.size []:=by
 refine⟨⟨#[],0,?_,rfl,by simp,by simp⟩,by simp⟩;show(w.heap.push _)[w.heap.size]? = _
 simp
theorem MapAt.lt{w:World}{r:Nat}{es:List (Int×Value)}(h:MapAt w r es):r<w.heap.size:=by
 obtain⟨arr,clock,hh,_⟩:=h.at_;exact(aU.1 hh).1
theorem MapAt.kept{S:Nat->Prop}{w w':World}{r:Nat}{es:List (Int×Value)}(h:MapAt w r es)(k:Kept S w w')(hs:¬S r):MapAt w' r es:=by
 have hl:=h.lt;obtain⟨⟨arr,clock,hh,r1⟩,nd⟩:=h;exact⟨⟨arr,clock,by rw[k.block r hl hs];exact hh,r1⟩,nd⟩
theorem MapAt.below{B:Nat}{w w':World}{r:Nat}{es:List (Int×Value)}(h:MapAt w r es)(k:Below B w w')(hs:r<B):MapAt w' r es:=by
 obtain⟨⟨arr,clock,hh,r1⟩,nd⟩:=h;exact⟨⟨arr,clock,by rw[k.block r hs];exact hh,r1⟩,nd⟩
theorem MapAt.alloc{w:World}{r:Nat}{es:List (Int×Value)}(h:MapAt w r es)(o:Obj):MapAt (w.alloc o) r es :=
 h.kept (S:=fun _=>False) ((Kept.refl _ _).alloc o) (fun h=>h)
theorem MapAt.drew{w:World}{r:Nat}{es:List (Int×Value)}(h:MapAt w r es):MapAt w.drew r es:=⟨h.at_,h.nd⟩
section
variable {P:Program}
theorem oM(k:Int):∀(l:List MapEntry) (es:List (Int×Value)) (i:Nat),l.map (fun e=>(e.key,e.val))=es.map (fun p=>(Value.int .u64 p.1,p.2))->look es k=none ->
  Instr.findNow (.int .u64) (.int .u64 k) l i=some none
 | [],_,_,_,_=>rfl
 | e::l,[],_,h,_=>by simp at h
 | e::l,p::es,i,h,hn=>by
  simp only[bW,List.cons.injEq,Prod.mk.injEq]at h;obtain⟨⟨h1,h2⟩,h3⟩:=h;rw[jg]at hn;by_cases e1:p.1=k
  ·rw[aD e1]at hn;cases hn
  ·rw[aA e1]at hn
   have e2:(k==p.1)=false:=by simp;omega
   unfold Instr.findNow;rw[h1];simp only[Instr.sameNow,e2,if_true];exact oM k l es (i+1) h3 hn
theorem oL(k:Int)(v:Value):∀(l:List MapEntry) (es:List (Int×Value)) (i:Nat),l.map (fun e=>(e.key,e.val))=es.map (fun p=>(Value.int .u64 p.1,p.2))->look es k=some v ->
  ∃j,Instr.findNow (.int .u64) (.int .u64 k) l i=some (some (i+j,v))/\(l[j]?).map (·.key)=some (.int .u64 k)/\j<l.length
 | [],[],_,_,hn=>by cases hn
 | [],p::es,_,h,_=>by simp at h
 | e::l,[],_,h,_=>by simp at h
 | e::l,p::es,i,h,hn=>by
  simp only[bW,List.cons.injEq,Prod.mk.injEq]at h;obtain⟨⟨h1,h2⟩,h3⟩:=h;rw[jg]at hn;by_cases e1:p.1=k
  ·rw[aD e1]at hn
   cases hn;refine⟨0,?_,by simp[h1,e1],by simp⟩;unfold Instr.findNow;rw[h1,e1,h2];simp[Instr.sameNow]
  ·rw[aA e1]at hn
   have e2:(k==p.1)=false:=by simp;omega
   obtain⟨j,hj,hk,hl⟩:=oL k v l es (i+1) h3 hn;refine⟨j+1,?_,by simpa using hk,by simp;omega⟩;unfold Instr.findNow;rw[h1];simp only[Instr.sameNow,e2,if_true];rw[hj];simp[Nat.add_assoc,Nat.add_comm 1 j]
theorem jd{K:TypeId}(hK:P.underlying K=some (.int .u64))(b:Bool)(n:Nat)(k:Int)(w:World):(Instr.checkKey b (n+1) K (.int .u64 k)).run P w=.ok () w:=by
 simp[Instr.checkKey,run_underlying hK]
theorem run_findKey{K:TypeId}(hK:P.underlying K=some (.int .u64))(l:List MapEntry)(k:Int)(w:World){r:Option (Nat×Value)}(h:Instr.findNow (.int .u64) (.int .u64 k) l 0=some r) :
  (Instr.findKey K (.int .u64 k) l).run P w=.ok r w:=by
 simp[Instr.findKey,run_underlying hK,h]
theorem run_getObj_map{w:World}{r:Nat}{arr:Array MapEntry}{clock:Nat}(h:w.heap[r]? = some (.map arr clock)):(getObj r).run P w=.ok (.map arr clock) w:=by
 simp[getObj,Sem.run,h]
theorem MapAt.wY{w:World}{r:Nat}{es:List (Int×Value)}(h:MapAt w r es){T K E:TypeId}(hT:P.underlying T=some (.map K E))(hK:P.underlying K=some (.int .u64)){z:Value}(hz:∀w,(zeroValue E).run P w=.ok z w)(k:Int) :
  (Instr.lookup T (.map (some r)) (.int .u64 k) false).run P w=.ok ((look es k).getD z) w:=by
 obtain⟨⟨arr,clock,hh,hm,_⟩,_⟩:=h;unfold Instr.lookup
 cases hl:look es k with
 | none =>
  have hf:=oM k arr.toList es 0 hm hl;simp[run_underlying hT,run_getObj_map hh,jd hK,run_findKey hK _ _ _ hf,hz,Result.andThen]
 | some v =>
  obtain⟨j,hf,_⟩:=oL k v arr.toList es 0 hm hl;simp[run_underlying hT,run_getObj_map hh,jd hK,run_findKey hK _ _ _ hf,Result.andThen]
theorem run_setObj_map{w:World}{r:Nat}{arr:Array MapEntry}{clock:Nat}(h:w.heap[r]? = some (.map arr clock))(o:Obj) :
  (setObj r o).run P w=.ok () { w with heap:=w.heap.setIfInBounds r o }:=by
 simp[setObj,Sem.run,h]
theorem qj(w:World)(r:Nat)(o:Obj):Kept (·=r) w { w with heap:=w.heap.setIfInBounds r o } :=
 ⟨rfl,rfl,rfl,by simp,fun k _ hs=>by
  show(w.heap.setIfInBounds r o)[k]? = _
  rw[bX (fun e=>hs e.symm)]⟩
theorem zI{w:World}{r:Nat}{arr:Array MapEntry}{clock:Nat}(h:w.heap[r]? = some (.map arr clock))(o:Obj):({ w with heap:=w.heap.setIfInBounds r o }:World).heap[r]? = some o:=by
 show(w.heap.setIfInBounds r o)[r]? = _
 rw[Array.getElem?_setIfInBounds_self,aD (aU.1 h).1]
theorem oZ{α β:Type}(f:α->β)(g:α->α)(h:β->β):∀(l:List α) (j:Nat) (_:∀a,f (g a)=h (f a)),(l.modify j g).map f=(l.map f).modify j h
 | [],_,_=>by simp
 | a::l,0,hh=>by simp[hh]
 | a::l,j+1,hh=>by simp[oZ f g h l j hh]
theorem modify_keys(k:Int)(v:Value):∀(l:List MapEntry) (es:List (Int×Value)) (j:Nat),l.map (fun e=>(e.key,e.val))=es.map (fun p=>(Value.int .u64 p.1,p.2))->(es.map (·.1)).Nodup ->
  (l[j]?).map (·.key)=some (.int .u64 k)->(l.modify j fun e=>{ e with key:=.int .u64 k,val:=v }).map (fun e=>(e.key,e.val))=(es.map (fun p=>if p.1=k then(k,v)else p)).map (fun p=>(Value.int .u64 p.1,p.2))
 | [],es,j,_,_,h=>by simp at h
 | e::l,[],_,h,_,_=>by simp at h
 | e::l,p::es,0,h,nd,hk=>by
  simp only[bW,List.cons.injEq,Prod.mk.injEq]at h;obtain⟨⟨h1,h2⟩,h3⟩:=h;simp at hk;rw[h1]at hk;simp at hk;simp only[bW,List.nodup_cons]at nd
  have hrest:es.map (fun p=>if p.1=k then(k,v)else p)=es:=by
   have:es.map (fun p=>if p.1=k then(k,v)else p)=es.map id:=by
    refine List.map_congr_left fun q hq=>?_
    have:q.1≠k:=fun e=>nd.1 (by rw[hk,<-e];exact List.mem_map.2 ⟨q,hq,rfl⟩)
    simp[this]
   simpa using this
  simp[hk,hrest,h3]
 | e::l,p::es,j+1,h,nd,hk=>by
  simp only[bW,List.cons.injEq,Prod.mk.injEq]at h;obtain⟨⟨h1,h2⟩,h3⟩:=h;simp only[bW,List.nodup_cons]at nd;have hk':(l[j]?).map (·.key)=some (.int .u64 k):=by simpa using hk
  have hpk:p.1≠k:=by
   intro e1;apply nd.1;rw[e1]
   have hm:(Value.int .u64 k)∈l.map (·.key):=by
    cases hlj:l[j]? with
    | none=>rw[hlj]at hk';cases hk'
    | some x=>rw[hlj]at hk';simp at hk';rw[<-hk'];exact List.mem_map.2 ⟨x,bG hlj,rfl⟩
   have he:l.map (·.key)=es.map (fun p=>Value.int .u64 p.1):=by
    have:=congrArg (List.map Prod.fst) h3;simpa[List.map_map,Function.comp_def]using this
   rw[he]at hm;obtain⟨q,hq,e2⟩:=List.mem_map.1 hm;simp at e2;exact List.mem_map.2 ⟨q,hq,e2⟩
  have ih:=modify_keys k v l es j h3 nd.2 hk';simp only[List.modify_succ_cons,bW,aA hpk,h1,h2];rw[ih]
theorem MapAt.wX{w:World}{r:Nat}{es:List (Int×Value)}(h:MapAt w r es){T K E:TypeId}(hT:P.underlying T=some (.map K E))(hK:P.underlying K=some (.int .u64))(k:Int)(v:Value) :
  ∃w',(Instr.mapUpdate T (.map (some r)) (.int .u64 k) v).run P w=.ok () w'/\MapAt w' r (put es k v)/\Kept (·=r) w w':=by
 obtain⟨⟨arr,clock,hh,hm,hb,hbn⟩,nd⟩:=h;unfold Instr.mapUpdate
 cases hl:look es k with
 | none =>
  have hf:=oM k arr.toList es 0 hm hl;refine⟨{ w with heap:=w.heap.setIfInBounds r (.map (arr.push { key:=.int .u64 k,val:=v,born:=clock }) (clock+1)) },?_,⟨⟨_,_,zI hh _,?_,?_,?_⟩,zN nd k v⟩,qj _ _ _⟩
  ·simp[run_underlying hT,run_getObj_map hh,jd hK,run_findKey hK _ _ _ hf,Result.andThen,run_setObj_map hh]
  ·have:put es k v=es++[(k,v)]:=by unfold put;rw[hl];rfl
   rw[this];simp[hm]
  ·intro e he
   rw[Array.toList_push,List.mem_append]at he;rcases he with he|he
   ·have:=hb e he;omega
   ·simp at he;subst he;simp
  ·rw[Array.toList_push,List.map_append,List.nodup_append]
   refine⟨hbn,by simp,?_⟩;intro a ha b hb';simp at hb';subst hb';obtain⟨x,hx,rfl⟩:=List.mem_map.1 ha;have:=hb x hx;omega
 | some u =>
  obtain⟨j,hf,hkey,hjl⟩:=oL k u arr.toList es 0 hm hl;have hkey':(arr[j]?).map (·.key)=some (.int .u64 k):=by simpa using hkey
  have XP:∀w,(Instr.keyThatStays (.int .u64 k) (.int .u64 k)).run P w=.ok (.int .u64 k) w:=fun w=>by simp[Instr.keyThatStays,Instr.sameBits]
  have hbo:(arr.toList.modify j fun e=>{ e with key:=.int .u64 k,val:=v }).map (·.born)=arr.toList.map (·.born):=by
   rw[oZ (fun e:MapEntry=>e.born) (fun e=>{ e with key:=.int .u64 k,val:=v }) (fun x=>x) arr.toList j (fun _=>rfl)];exact List.modify_id _ _
  refine⟨{ w with heap:=w.heap.setIfInBounds r (.map (arr.modify j fun e=>{ e with key:=.int .u64 k,val:=v }) clock) },?_,⟨⟨_,_,zI hh _,?_,?_,?_⟩,zN nd k v⟩,qj _ _ _⟩
  ·simp[run_underlying hT,run_getObj_map hh,jd hK,run_findKey hK _ _ _ hf,Result.andThen,hkey',XP,run_setObj_map hh]
  ·have:put es k v=es.map (fun p=>if p.1=k then(k,v)else p):=by unfold put;rw[hl];rfl
   rw[this,Array.toList_modify];exact modify_keys k v arr.toList es j hm nd hkey
  ·intro e he
   rw[Array.toList_modify]at he;have hmem:e.born∈(arr.toList.modify j fun e=>{ e with key:=.int .u64 k,val:=v }).map (·.born):=List.mem_map.2 ⟨e,he,rfl⟩;rw[hbo]at hmem;simp at hmem;obtain⟨x,hx,e1⟩:=hmem;rw[<-e1];exact hb x (by simpa using hx)
  ·rw[Array.toList_modify,hbo]
   exact hbn
end
structure Gh where
 (kb tb mb pb db ob cb:Nat)
 (A:Nat->Option (Int×Nat)) (bl tl:Int->Nat)
 (P:Pool) (mt:Int->Int) (fr:Int->List Int) (root tabs:Int->Int) (N F:Int->Nat->Int) (Y:Int->Nat->Bool)
 (fC:Nat->Pl) (flush:Nat->Bool) (last:Nat->Int) (lD:List Int)
def dS(w:World)(S:Nat->Prop):Prop:=∀b cs ty fz,S b->w.heap[b]? = some (.cells cs ty fz)->ty≠111/\ty≠5
theorem dS.of{w:World}{b:Nat}{cs:Array Value}{ty:TypeId}(h:aR w b cs ty)(h1:ty≠111/\ty≠5):dS w (·=b):=by
 intro c ds t fz e hh
 cases e;unfold aR at h;rw[h]at hh
 cases hh;exact h1
theorem dS.none(w:World):dS w (fun _=>False):=fun _ _ _ _ e=>e.elim
theorem bg.mild{w w':World}{v:Value}{ps:List (Nat×Nat)}(h:bg w v ps){S:Nat->Prop}(k:Kept S w w')(ht:dS w S):bg w' v ps:=aJ.kept h k (fun b cs fz hs hh=>(ht b cs _ fz hs hh).1 rfl)
theorem dV.mild{w w':World}{v:Value}{ps:List UInt8}(h:dV w v ps){S:Nat->Prop}(k:Kept S w w')(ht:dS w S):dV w' v ps:=aJ.kept h k (fun b cs fz hs hh=>(ht b cs _ fz hs hh).2 rfl)
theorem bU.mild{w w':World}{v:Value}{l:dn}(h:bU w v l){S:Nat->Prop}(k:Kept S w w')(ht:dS w S):bU w' v l:=by
 obtain⟨s,rfl,h1⟩:=h;exact⟨s,rfl,h1.mild k ht⟩
structure Own(w:World)(A:Nat->Option (Int×Nat))(tg:Int×Nat)(e size:Nat)(v:Value)(n:Nat)(xs:List Value):Prop where
 row:w.ownsRow 0 e size v n xs
 tag:∀b,v.ownBlock=some b->A b=some tg
def eB(w:World)(A:Nat->Option (Int×Nat))(tg:Int×Nat)(v:Value)(l:List Int):Prop:=Own w A tg 37 1 v l.length (l.map (.int .u64))
theorem uO{w:World}{base e size n:Nat}{v:Value}{xs:List Value}(h:w.ownsRow base e size v n xs){b:Nat}(hb:v.ownBlock=some b):b<w.heap.size:=by
 obtain⟨cur,hh,-⟩:=jA h hb;exact(aU.1 hh).1
theorem Own.kept{w w':World}{A A':Nat->Option (Int×Nat)}{tg:Int×Nat}{e size n:Nat}{v:Value}{xs:List Value}(h:Own w A tg e size v n xs){S:Nat->Prop}(k:Kept S w w')(hs:∀b,S b->b<w.heap.size->A b≠some tg)(hA:∀b tg,A b=some tg->A' b=some tg):Own w' A' tg e size v n xs :=
 ⟨dA h.row k (fun b hb q=>hs b q (uO h.row hb) (h.tag b hb)),fun b hb=>hA b _ (h.tag b hb)⟩
theorem Own.nil(w:World)(A:Nat->Option (Int×Nat))(tg:Int×Nat)(e size:Nat):Own w A tg e size (.slice none 0 0) 0 []:=⟨cu _ _ _ _,fun b hb=>by cases hb⟩
structure Ts where
 (cp al bZ reads seen picks:Value)
def jw(t:Th)(x:Ts)(root tabs:Int):Array Value:=#[.int .u64 (t.r 0),.int .u64 (t.r 1),.int .u64 (t.r 2),.int .u64 (t.r 3),.int .u64 (t.r 4),.int .u64 (t.r 5),.int .u64 (t.r 6),.int .u64 (t.r 7),.int .u64 (t.r 8),.int .u64 (t.r 9),.int .u64 (t.r 10),.int .u64 (t.r 11),.int .u64 (t.r 12),.int .u64 (t.r 13),.int .u64 (t.r 14),.int .u64 (t.r 15),
 .int .u64 t.pc,.int .i64 (t.clear.d:Nat),x.cp,.int .u64 t.space,.int .i64 t.state,.int .i64 t.on,.int .i64 root,.int .i64 tabs,.int .i64 t.made,.int .i64 t.fault,
 .int .u64 t.wait.seg,.int .i64 t.wait.off,.int .u64 t.wait.val,.int .u64 t.wait.wakes,.int .u64 t.wait.Uh,x.al,
 .int .i64 t.cont.phase,x.bZ,.int .i64 t.cont.next,x.reads,x.seen,.int .i64 t.cont.tries,x.picks]
structure kY(w:World)(A:Nat->Option (Int×Nat))(n:Int)(t:Th)(x:Ts):Prop where
 gG:bg w x.cp t.clear.ps
 al:eB w A (n,11) x.al t.qF
 bZ:eB w A (n,12) x.bZ t.cont.bZ
 reads:eB w A (n,13) x.reads t.cont.reads
 seen:eB w A (n,14) x.seen t.cont.seen
 picks:eB w A (n,15) x.picks t.cont.picks
 regs:∀i,0<=t.r i/\t.r i<=18446744073709551615
 pc:0<=t.pc/\t.pc<=18446744073709551615
 VN:fV t.clear
theorem kY.kept{w w':World}{A A':Nat->Option (Int×Nat)}{n:Int}{t:Th}{x:Ts}(h:kY w A n t x){S:Nat->Prop}(k:Kept S w w')(ht:dS w S)(hs:∀b,S b->b<w.heap.size->∀i,11<=i->A b≠some (n,i))(hA:∀b tg,A b=some tg->A' b=some tg):kY w' A' n t x :=
 ⟨h.gG.mild k ht,Own.kept h.al k (fun b q l=>hs b q l _ (by omega)) hA,Own.kept h.bZ k (fun b q l=>hs b q l _ (by omega)) hA,Own.kept h.reads k (fun b q l=>hs b q l _ (by omega)) hA,Own.kept h.seen k (fun b q l=>hs b q l _ (by omega)) hA,Own.kept h.picks k (fun b q l=>hs b q l _ (by omega)) hA,h.regs,h.pc,h.VN⟩
structure vv(w:World)(A:Nat->Option (Int×Nat))(n:Int)(b:Nat)(t:Th)(root tabs:Int):Prop where
 tag:A b=some (n,10)
 ex:∃x,aR w b (jw t x root tabs) 52/\kY w A n t x
structure Os where
 (q kids fr maps lp cp out:Value) (inn:Nat->Value) (rat:Nat)
def jO(o:Ob)(s:Os)(mt:Int)(T:Value):Array Value:=#[s.q,.int .u64 o.ver,.int .u64 o.name,.int .i64 o.kind,.int .i64 (o.lab.d:Nat),s.lp,.int .u64 o.home,.int .u64 o.info,.int .i64 mt,
 .int .i64 o.purse.lim,.int .i64 o.purse.used,.int .i64 o.purse.given,.int .u64 o.names.lo,.int .u64 o.names.next,.int .u64 o.names.hi,s.kids,s.fr,.int .u64 o.wakes,s.maps,T,.int .i64 (o.clear.d:Nat),s.cp,.int .u64 o.space,.int .u64 o.pc,
 s.inn 0,s.inn 1,s.inn 2,s.inn 3,s.inn 4,s.inn 5,s.inn 6,s.inn 7,.int .i64 (s.rat:Nat),.int .i64 (o.ring.length:Nat),.int .i64 o.lost,s.out]
structure fM(w:World)(A:Nat->Option (Int×Nat))(b:Nat)(o:Ob)(s:Os)(fr:List Int):Prop where
 lab:bg w s.lp o.lab.ps
 gG:bg w s.cp o.clear.ps
 q:eB w A (o.name,1) s.q o.q
 kids:eB w A (o.name,2) s.kids o.kids
 TL:lC w (b+1) s.fr fr
 WW:∀c,s.fr.ownBlock=some c->A c=some (o.name,3)
 maps:Own w A (o.name,4) 125 5 s.maps o.maps.length (o.maps.flatMap oH)
 out:eB w A (o.name,5) s.out o.out
 rat:s.rat<8
 rn:o.ring.length<=8
 ring:∀i p,o.ring[i]? = some p->dV w (s.inn ((s.rat+i)%8)) p
 ok:fV o.lab/\fV o.clear
theorem fM.kept{w w':World}{A A':Nat->Option (Int×Nat)}{b:Nat}{o:Ob}{s:Os}{fr:List Int}(h:fM w A b o s fr){S:Nat->Prop}(k:Kept S w w')(ht:dS w S)(hs:∀c,S c->c<w.heap.size->∀i,1<=i->i<=5->A c≠some (o.name,i))(hA:∀b tg,A b=some tg->A' b=some tg):fM w' A' b o s fr :=
 ⟨h.lab.mild k ht,h.gG.mild k ht,Own.kept h.q k (fun c q l=>hs c q l _ (by omega) (by omega)) hA,Own.kept h.kids k (fun c q l=>hs c q l _ (by omega) (by omega)) hA,
  h.TL.kept k (fun c hc q=>hs c q (h.TL.lt c hc).2 3 (by omega) (by omega) (h.WW c hc)),fun c hc=>hA c _ (h.WW c hc),
  Own.kept h.maps k (fun c q l=>hs c q l _ (by omega) (by omega)) hA,Own.kept h.out k (fun c q l=>hs c q l _ (by omega) (by omega)) hA,h.rat,h.rn,fun i p hp=>(h.ring i p hp).mild k ht,h.ok⟩
section
variable {w w':World}{A A':Nat->Option (Int×Nat)}{b:Nat}{o:Ob}{s:Os}{fr:List Int}{S:Nat->Prop}
theorem fM.but(h:fM w A b o s fr)(k:Kept S w w')(ht:dS w S)(j:Nat)(hs:∀c,S c->c<w.heap.size->∀i,1<=i->i<=5->i≠j->A c≠some (o.name,i))(hA:∀b tg,A b=some tg->A' b=some tg) :
  bg w' s.lp o.lab.ps/\bg w' s.cp o.clear.ps/\(j≠1->eB w' A' (o.name,1) s.q o.q)/\(j≠2->eB w' A' (o.name,2) s.kids o.kids)/\(j≠3->lC w' (b+1) s.fr fr/\∀c,s.fr.ownBlock=some c->A' c=some (o.name,3)) /\
  (j≠4->Own w' A' (o.name,4) 125 5 s.maps o.maps.length (o.maps.flatMap oH))/\(j≠5->eB w' A' (o.name,5) s.out o.out)/\∀i p,o.ring[i]? = some p->dV w' (s.inn ((s.rat+i)%8)) p :=
 ⟨h.lab.mild k ht,h.gG.mild k ht,fun e=>Own.kept h.q k (fun c q l=>hs c q l _ (by omega) (by omega) (by omega)) hA,fun e=>Own.kept h.kids k (fun c q l=>hs c q l _ (by omega) (by omega) (by omega)) hA,
  fun e=>⟨h.TL.kept k (fun c hc q=>hs c q (h.TL.lt c hc).2 3 (by omega) (by omega) (by omega) (h.WW c hc)),fun c hc=>hA c _ (h.WW c hc)⟩,
  fun e=>Own.kept h.maps k (fun c q l=>hs c q l _ (by omega) (by omega) (by omega)) hA,fun e=>Own.kept h.out k (fun c q l=>hs c q l _ (by omega) (by omega) (by omega)) hA,fun i p hp=>(h.ring i p hp).mild k ht⟩
theorem fM.QK(h:fM w A b o s fr)(k:Kept S w w')(ht:dS w S)(hs:∀c,S c->c<w.heap.size->∀i,1<=i->i<=5->i≠2->A c≠some (o.name,i))(hA:∀b tg,A b=some tg->A' b=some tg){v:Value}{l:List Int}(hv:eB w' A' (o.name,2) v l):fM w' A' b { o with kids:=l } { s with kids:=v } fr:=by
 obtain⟨h1,h2,h3,h4,h5,h6,h7,h8⟩:=h.but k ht 2 hs hA;exact⟨h1,h2,h3 (by omega),hv,(h5 (by omega)).1,(h5 (by omega)).2,h6 (by omega),h7 (by omega),h.rat,h.rn,h8,h.ok⟩
theorem fM.abt(h:fM w A b o s fr)(k:Kept S w w')(ht:dS w S)(hs:∀c,S c->c<w.heap.size->∀i,1<=i->i<=5->i≠1->A c≠some (o.name,i))(hA:∀b tg,A b=some tg->A' b=some tg){v:Value}{l:List Int}(ver:Int)(hv:eB w' A' (o.name,1) v l):fM w' A' b { o with q:=l,ver:=ver } { s with q:=v } fr:=by
 obtain⟨h1,h2,h3,h4,h5,h6,h7,h8⟩:=h.but k ht 1 hs hA;exact⟨h1,h2,hv,h4 (by omega),(h5 (by omega)).1,(h5 (by omega)).2,h6 (by omega),h7 (by omega),h.rat,h.rn,h8,h.ok⟩
theorem fM.QJ(h:fM w A b o s fr)(k:Kept S w w')(ht:dS w S)(hs:∀c,S c->c<w.heap.size->∀i,1<=i->i<=5->i≠4->A c≠some (o.name,i))(hA:∀b tg,A b=some tg->A' b=some tg){v:Value}{l:List gy}(hv:Own w' A' (o.name,4) 125 5 v l.length (l.flatMap oH)):fM w' A' b { o with maps:=l } { s with maps:=v } fr:=by
 obtain⟨h1,h2,h3,h4,h5,h6,h7,h8⟩:=h.but k ht 4 hs hA;exact⟨h1,h2,h3 (by omega),h4 (by omega),(h5 (by omega)).1,(h5 (by omega)).2,hv,h7 (by omega),h.rat,h.rn,h8,h.ok⟩
end
theorem eB.grown{w':World}{A:Nat->Option (Int×Nat)}{tg:Int×Nat}{l:List Int}{g5 cap n:Nat}{x:Int}(hrow:w'.ownsRow 0 37 1 (.slice (some ⟨g5,0,none⟩) n cap) n (l.map (.int .u64)++[.int .u64 x]))(hn:n=l.length+1):eB w' (fun c=>if c=g5 then some tg else A c) tg (.slice (some ⟨g5,0,none⟩) n cap) (l++[x]):=by
 subst hn;refine⟨?_,fun b hb=>by cases hb;exact aD rfl⟩;rw[List.map_append,aO];exact hrow
structure vZ(w:World)(g:Gh)(o:Ob):Prop where
 pos:0<o.name
 tag:g.A (g.bl o.name)=some (o.name,0)
 late:g.pb<g.bl o.name/\g.db<g.bl o.name/\g.ob<g.bl o.name
 ex:∃s T,aR w (g.bl o.name) (jO o s (g.mt o.name) T) 68/\fM w g.A (g.bl o.name) o s (g.fr o.name) /\
  (o.kind=3->T=.pointer (some ⟨g.tl o.name,0,none⟩)/\vv w g.A o.name (g.tl o.name) o.th (g.root o.name) (g.tabs o.name))/\(o.kind≠3->T=.pointer none)
structure dO(g g':Gh)(n:Int):Prop where
 bl:g'.bl n=g.bl n
 tl:g'.tl n=g.tl n
 mt:g'.mt n=g.mt n
 fr:g'.fr n=g.fr n
 root:g'.root n=g.root n
 tabs:g'.tabs n=g.tabs n
theorem vZ.kept{w w':World}{g g':Gh}{o:Ob}(h:vZ w g o){S:Nat->Prop}(k:Kept S w w')(ht:dS w S)(hs:∀b,S b->b<w.heap.size->∀i,g.A b≠some (o.name,i))(hA:∀b tg,g.A b=some tg->g'.A b=some tg)(hl:dO g g' o.name)(hp:g'.pb=g.pb/\g'.db=g.db/\g'.ob=g.ob):vZ w' g' o:=by
 obtain⟨s,T,hB,hR,h3,hn⟩:=h.ex;have hlt:=hB.lt;refine⟨h.pos,by rw[hl.bl];exact hA _ _ h.tag,by rw[hl.bl,hp.1,hp.2.1,hp.2.2];exact h.late,s,T,?_,?_,fun e=>?_,hn⟩
 ·rw[hl.bl,hl.mt];exact k.blk hB (fun q=>hs _ q hlt 0 h.tag)
 ·rw[hl.bl,hl.fr];exact hR.kept k ht (fun c q l i _ _=>hs c q l i) hA
 ·obtain⟨e1,hT⟩:=h3 e
  obtain⟨x,hb,hr⟩:=hT.ex;refine⟨by rw[hl.tl];exact e1,?_⟩;rw[hl.tl,hl.root,hl.tabs];exact⟨hA _ _ hT.tag,x,k.blk hb (fun q=>hs _ q hb.lt 10 hT.tag),hr.kept k ht (fun c q l i _=>hs c q l i) hA⟩
def coreC(c:mZ)(t:Pl)(fl:Bool)(la:Int):List Value:=[.int .i64 c.slot,.int .i64 c.left,.int .u64 c.ticks,.int .u64 (c.turns 0),.int .u64 (c.turns 1),.int .u64 (c.turns 2),.int .u64 (c.turns 3),.int .u64 (c.turns 4),.int .u64 (c.turns 5),.int .u64 (c.turns 6),.int .u64 (c.turns 7),
 .int .i64 (t.p 0),.int .i64 (t.f 0),.bool (t.w 0),.int .i64 (t.p 1),.int .i64 (t.f 1),.bool (t.w 1),.int .i64 (t.p 2),.int .i64 (t.f 2),.bool (t.w 2),.int .i64 (t.p 3),.int .i64 (t.f 3),.bool (t.w 3),.int .i64 t.n,.bool fl,.int .u64 la,.int .u64 c.picks]
structure yR(c:mZ)(n:Nat):Prop where
 slot:0<=c.slot/\c.slot<n
 left:1<=c.left/\c.left<=16
 ticks:0<=c.ticks/\c.ticks<=18446744073709551615
 turns:∀i,0<=c.turns i/\c.turns i<=18446744073709551615
 picks:0<=c.picks/\c.picks<=18446744073709551615
structure qY(w:World)(g:Gh)(nc:Nat)(f:Nat->mZ)(ns:Nat):Prop where
 ex:0<nc->g.A g.cb=some (0,6)/\∃cs,aR w g.cb cs 162/\∀i,i<nc->In cs (i*27) (coreC (f i) (g.fC i) (g.flush i) (g.last i))
 ok:∀i,i<nc->yR (f i) ns
 nc:nc<=4
 ns:ns<=8
def pz(g:Gh)(cv sv dv:Value)(done:Bool):Array Value:=#[.pointer (some ⟨g.tb,0,none⟩),.pointer (some ⟨g.pb,0,none⟩),cv,sv,dv,.bool done]
def Jj(g:Gh)(nc:Nat)(cv:Value):Prop:=(nc=0/\cv=.slice none 0 0)\/∃cap,cv=.slice (some ⟨g.cb,0,none⟩) nc cap/\nc<=cap/\cap<=maxLen/\0<nc
structure qH(g:Gh):Prop where
 kb:g.A g.kb=some (0,0)
 tb:g.A g.tb=some (0,1)
 mb:g.A g.mb=some (0,2)
 pb:g.A g.pb=some (0,3)
 db:g.A g.db=some (0,4)
 ob:g.A g.ob=some (0,5)
structure vC(w:World)(g:Gh)(nc:Nat)(slots:List (Int×Int))(eU:List Int)(done:Bool):Prop where
 ex:∃cv sv dv,Jj g nc cv/\aR w g.kb (pz g cv sv dv done) 88/\Own w g.A (0,7) 127 2 sv slots.length (slots.flatMap jS)/\eB w g.A (0,8) dv eU
structure vQ(w:World)(g:Gh)(f:Int->Option Ob):Prop where
 tab:aR w g.tb #[.map (some g.mb)] 137
 map:∃es,MapAt w g.mb es/\∀n,look es n=(f n).map fun _=>Value.pointer (some ⟨g.bl n,0,none⟩)
structure cZ(w:World)(g:Gh)(K:Km):Prop where
 tags:qH g
 kS:∀b,w.heap.size<=b->g.A b=none
 gZ:vC w g K.nc K.slots K.eU K.done
 tab:vQ w g K.obj
 pool:bB w g.pb g.db g.ob g.P
 cores:qY w g K.nc K.cores K.slots.length
 slot:∀s∈K.slots,1<=s.2/\s.2<=16
 objs:∀n o,K.obj n=some o->o.name=n/\vZ w g o
structure dK(g g':Gh):Prop where
 kb:g'.kb=g.kb
 tb:g'.tb=g.tb
 mb:g'.mb=g.mb
 pb:g'.pb=g.pb
 db:g'.db=g.db
 ob:g'.ob=g.ob
 cb:g'.cb=g.cb
 A:∀b tg,g.A b=some tg->g'.A b=some tg
theorem dK.refl(g:Gh):dK g g:=⟨rfl,rfl,rfl,rfl,rfl,rfl,rfl,fun _ _ h=>h⟩
theorem dK.trans{g g' g'':Gh}(h:dK g g')(k:dK g' g''):dK g g'':=⟨k.kb.trans h.kb,k.tb.trans h.tb,k.mb.trans h.mb,k.pb.trans h.pb,k.db.trans h.db,k.ob.trans h.ob,k.cb.trans h.cb,fun b tg e=>k.A b tg (h.A b tg e)⟩
theorem dO.refl(g:Gh)(n:Int):dO g g n:=⟨rfl,rfl,rfl,rfl,rfl,rfl⟩
theorem dO.trans{g g' g'':Gh}{n:Int}(h:dO g g' n)(k:dO g' g'' n):dO g g'' n:=⟨k.bl.trans h.bl,k.tl.trans h.tl,k.mt.trans h.mt,k.fr.trans h.fr,k.root.trans h.root,k.tabs.trans h.tabs⟩
theorem qH.alike{g g':Gh}(h:qH g)(l:dK g g'):qH g' :=
 ⟨by rw[l.kb];exact l.A _ _ h.kb,by rw[l.tb];exact l.A _ _ h.tb,by rw[l.mb];exact l.A _ _ h.mb,by rw[l.pb];exact l.A _ _ h.pb,by rw[l.db];exact l.A _ _ h.db,by rw[l.ob];exact l.A _ _ h.ob⟩
def Free(g:Gh)(K:Km)(b:Nat):Prop:=g.A b=none\/∃n i,g.A b=some (n,i)/\n≠0/\K.obj n=none
theorem Free.zero{g:Gh}{K:Km}{b i:Nat}(h:Free g K b):g.A b≠some (0,i):=fun e=>by
 rcases h with h|⟨n,j,h,hn,-⟩
 ·rw[h]at e;cases e
 ·rw[h]at e;cases e;exact hn rfl
theorem Free.ob{g:Gh}{K:Km}{b i:Nat}{n:Int}{o:Ob}(h:Free g K b)(ho:K.obj n=some o):g.A b≠some (n,i):=fun e=>by
 rcases h with h|⟨m,j,h,hn,hm⟩
 ·rw[h]at e;cases e
 ·rw[h]at e;cases e;rw[ho]at hm;cases hm
section
variable {w w':World}{g g':Gh}{K K':Km}{S:Nat->Prop}
theorem vC.kept{nc:Nat}{slots:List (Int×Int)}{eU:List Int}{done:Bool}(h:vC w g nc slots eU done)(ht:qH g)(k:Kept S w w')(l:dK g g')(hs:∀b,S b->b<w.heap.size->g.A b≠some (0,0)/\g.A b≠some (0,7)/\g.A b≠some (0,8)):vC w' g' nc slots eU done:=by
 obtain⟨cv,sv,dv,h1,h3,h4,h6⟩:=h.ex;refine⟨cv,sv,dv,?_,?_,Own.kept h4 k (fun b q hl=>(hs b q hl).2.1) l.A,Own.kept h6 k (fun b q hl=>(hs b q hl).2.2) l.A⟩
 ·unfold Jj at h1 ⊢;rw[l.cb];exact h1
 ·unfold pz at h3 ⊢
  rw[l.kb,l.tb,l.pb];exact k.blk h3 (fun q=>(hs _ q h3.lt).1 ht.kb)
theorem vQ.kept{f:Int->Option Ob}(h:vQ w g f)(ht:qH g)(k:Kept S w w')(l:dK g g')(hs:∀b,S b->b<w.heap.size->g.A b≠some (0,1)/\g.A b≠some (0,2)){f':Int->Option Ob}(hf:∀n,(f' n).isSome=(f n).isSome)(hbl:∀n o,f n=some o->g'.bl n=g.bl n):vQ w' g' f':=by
 obtain⟨h1,es,h2,h3⟩:=h;refine⟨by rw[l.tb,l.mb];exact k.blk h1 (fun q=>(hs _ q h1.lt).1 ht.tb),es,by rw[l.mb];exact h2.kept k (fun q=>(hs _ q h2.lt).2 ht.mb),fun n=>?_⟩;rw[h3 n];have:=hf n
 cases e:f n with
 | none=>rw[e]at this;cases e':f' n with
  | none=>rfl
  | some o=>rw[e']at this;cases this
 | some o=>rw[e]at this;cases e':f' n with
  | none=>rw[e']at this;cases this
  | some o'=>simp[hbl n o e]
theorem qY.kept{nc:Nat}{f:Nat->mZ}{ns:Nat}(h:qY w g nc f ns)(k:Kept S w w')(l:dK g g')(hs:∀b,S b->b<w.heap.size->g.A b≠some (0,6))(ht2:g'.fC=g.fC/\g'.flush=g.flush/\g'.last=g.last):qY w' g' nc f ns:=by
 refine⟨fun h0=>?_,h.ok,h.nc,h.ns⟩;obtain⟨h3,cs,h1,h2⟩:=h.ex h0;refine⟨by rw[l.cb];exact l.A _ _ h3,cs,by rw[l.cb];exact k.blk h1 (fun q=>hs _ q h1.lt h3),?_⟩;rw[ht2.1,ht2.2.1,ht2.2.2];exact h2
theorem bB.tagged{P:Pool}(h:bB w g.pb g.db g.ob P)(ht:qH g)(k:Kept S w w')(l:dK g g')(hs:∀b,S b->b<w.heap.size->∀i,3<=i->i<=5->g.A b≠some (0,i)):bB w' g'.pb g'.db g'.ob P:=by
 rw[l.pb,l.db,l.ob];exact h.kept k (fun q=>hs _ q h.hp.lt 3 (by omega) (by omega) ht.pb) (fun q=>hs _ q h.hd.lt 4 (by omega) (by omega) ht.db) (fun q=>hs _ q h.ho.lt 5 (by omega) (by omega) ht.ob)
theorem cZ.kept(h:cZ w g K)(k:Kept S w w')(hm:dS w S)(hs:∀b,S b->b<w.heap.size->Free g K b):cZ w' g K:=by
 have l:=dK.refl g;have hn:∀b i,S b->b<w.heap.size->g.A b≠some (0,i):=fun b i q ql=>(hs b q ql).zero
 exact⟨h.tags,fun b hb=>h.kS b (bD k.size hb),h.gZ.kept h.tags k l (fun b q ql=>⟨hn b _ q ql,hn b _ q ql,hn b _ q ql⟩),h.tab.kept h.tags k l (fun b q ql=>⟨hn b _ q ql,hn b _ q ql⟩) (fun _=>rfl) (fun _ _ _=>rfl),
  h.pool.tagged h.tags k l (fun b q ql i _ _=>hn b _ q ql),h.cores.kept k l (fun b q ql=>hn b _ q ql) ⟨rfl,rfl,rfl⟩,h.slot,
  fun n o e=>⟨(h.objs n o e).1,(h.objs n o e).2.kept k hm (fun b q ql i=>by rw[(h.objs n o e).1];exact(hs b q ql).ob e) l.A (dO.refl _ _) ⟨rfl,rfl,rfl⟩⟩⟩
theorem cZ.below(h:cZ w g K)(k:Below w.heap.size w w'):cZ w' g K:=h.kept (S:=fun _=>False) (Kept.of_below k) (dS.none w) (fun _ q=>q.elim)
theorem cZ.alloc(h:cZ w g K)(o:Obj):cZ (w.alloc o) g K:=h.below ((aC _ _).alloc (aj _) o)
theorem cZ.drew(h:cZ w g K):cZ w.drew g K:=h.below ((aC _ _).drew)
theorem cZ.setCell(h:cZ w g K){b ty:Nat}{cs:Array Value}(hB:aR w b cs ty)(hA:Free g K b)(h1:ty≠111/\ty≠5)(i:Nat)(v:Value):cZ (w.setCell ⟨b,i,none⟩ v) g K :=
 h.kept (S:=(·=b)) ((Kept.refl _ _).bC b i v rfl) (dS.of hB h1) (fun c e _=>by cases e;exact hA)
theorem cZ.wD(h:cZ w g K)(k:Kept S w w')(hm:dS w S)(hs:∀b,S b->b<w.heap.size->Free g K b\/b=g.pb\/b=g.db\/b=g.ob){P':Pool}(hP:bB w' g.pb g.db g.ob P'):cZ w' { g with P:=P' } K:=by
 have l:dK g { g with P:=P' }:=⟨rfl,rfl,rfl,rfl,rfl,rfl,rfl,fun _ _ h=>h⟩
 have hn:∀b tg,tg≠(0,3)->tg≠(0,4)->tg≠(0,5)->(tg.1=0\/∃o,K.obj tg.1=some o)->S b->b<w.heap.size->g.A b≠some tg:=fun b tg h3 h4 h5 h6 q ql e=>by
  rcases hs b q ql with e1|e1|e1|e1
  ·obtain⟨n,i⟩:=tg
   rcases h6 with h6|⟨o,h6⟩
   ·cases h6;exact e1.zero e
   ·exact e1.ob h6 e
  ·rw[e1,h.tags.pb]at e;cases e;exact h3 rfl
  ·rw[e1,h.tags.db]at e;cases e;exact h4 rfl
  ·rw[e1,h.tags.ob]at e;cases e;exact h5 rfl
 have h0:∀b i,i<3\/5<i->S b->b<w.heap.size->g.A b≠some (0,i):=fun b i hi q ql=>hn b _ (by intro e;cases e;omega) (by intro e;cases e;omega) (by intro e;cases e;omega) (.inl rfl) q ql
 exact⟨h.tags.alike l,fun b hb=>h.kS b (bD k.size hb),h.gZ.kept h.tags k l (fun b q ql=>⟨h0 b _ (by omega) q ql,h0 b _ (by omega) q ql,h0 b _ (by omega) q ql⟩),h.tab.kept h.tags k l (fun b q ql=>⟨h0 b _ (by omega) q ql,h0 b _ (by omega) q ql⟩) (fun _=>rfl) (fun _ _ _=>rfl),
  hP,h.cores.kept k l (fun b q ql=>h0 b _ (by omega) q ql) ⟨rfl,rfl,rfl⟩,h.slot,
  fun n o e=>by
   obtain⟨e1,e2⟩:=h.objs n o e;have hp:=e2.pos;have hz1:∀i j:Nat,(o.name,i)=((0:Int),j)->False:=fun i j e=>by have:=congrArg Prod.fst e;simp only at this;omega
   exact⟨e1,e2.kept k hm (fun b q ql i=>hn b _ (fun e=>hz1 i 3 e) (fun e=>hz1 i 4 e) (fun e=>hz1 i 5 e) (.inr ⟨o,by rw[e1];exact e⟩) q ql) l.A ⟨rfl,rfl,rfl,rfl,rfl,rfl⟩ ⟨rfl,rfl,rfl⟩⟩⟩
theorem cZ.Tg(h:cZ w g K)(k:Kept S w w')(hm:dS w S){o o':Ob}(ho:K.obj o.name=some o)(hs:∀b,S b->b<w.heap.size->Free g K b\/∃i,g.A b=some (o.name,i))(l:dK g g')(hl:∀n,n≠o.name->dO g g' n)(hbl:g'.bl o.name=g.bl o.name)
  (ht2:g'.fC=g.fC/\g'.flush=g.flush/\g'.last=g.last) (hP:g'.P=g.P) (Bg:∀b,w'.heap.size<=b->g'.A b=none) (hname:o'.name=o.name) (hO:vZ w' g' o'):cZ w' g' (K.set o'):=by
 have hp:=(h.objs _ _ ho).2.pos
 have hn:∀b n i,n≠o.name->(n=0\/∃o,K.obj n=some o)->S b->b<w.heap.size->g.A b≠some (n,i):=fun b n i hne h6 q ql e=>by
  rcases hs b q ql with e1|⟨j,e1⟩
  ·rcases h6 with h6|⟨o,h6⟩
   ·cases h6;exact e1.zero e
   ·exact e1.ob h6 e
  ·rw[e1]at e;cases e;exact hne rfl
 have h0:∀b i,S b->b<w.heap.size->g.A b≠some (0,i):=fun b i q ql=>hn b 0 i (by omega) (.inl rfl) q ql
 refine⟨h.tags.alike l,Bg,h.gZ.kept h.tags k l (fun b q ql=>⟨h0 b _ q ql,h0 b _ q ql,h0 b _ q ql⟩),h.tab.kept h.tags k l (fun b q ql=>⟨h0 b _ q ql,h0 b _ q ql⟩) (fun n=>?_) (fun n o1 e=>?_),
  by rw[hP];exact h.pool.tagged h.tags k l (fun b q ql i _ _=>h0 b _ q ql),h.cores.kept k l (fun b q ql=>h0 b _ q ql) ht2,h.slot,fun n o1 e=>?_⟩
 ·show((if n=o'.name then some o' else K.obj n)).isSome=_
  by_cases e:n=o'.name
  ·rw[aD e,e,hname,ho];rfl
  ·rw[aA e]
 ·by_cases e1:n=o.name
  ·rw[e1];exact hbl
  ·exact(hl n e1).bl
 ·have e':(if n=o'.name then some o' else K.obj n)=some o1:=e
  by_cases e1:n=o'.name
  ·rw[aD e1]at e';cases e';exact⟨e1.symm,hO⟩
  ·rw[aA e1]at e'
   obtain⟨e2,e3⟩:=h.objs n o1 e';have hne:o1.name≠o.name:=by rw[e2];rw[hname]at e1;exact e1
   exact⟨e2,e3.kept k hm (fun b q ql i=>hn b _ i hne (.inr ⟨o1,by rw[e2];exact e'⟩) q ql) l.A (hl _ hne) ⟨l.pb,l.db,l.ob⟩⟩
theorem cZ.tag(h:cZ w g K)(l:dK g g')(hl:∀n o,K.obj n=some o->dO g g' n)(ht2:g'.fC=g.fC/\g'.flush=g.flush/\g'.last=g.last)(hP:g'.P=g.P)(Bg:∀b,w.heap.size<=b->g'.A b=none):cZ w g' K:=by
 have k:Kept (fun _=>False) w w:=Kept.refl _ _
 refine⟨h.tags.alike l,Bg,h.gZ.kept h.tags k l (fun b q=>q.elim),h.tab.kept h.tags k l (fun b q=>q.elim) (fun _=>rfl) (fun n o e=>(hl n o e).bl),by rw[hP];exact h.pool.tagged h.tags k l (fun b q=>q.elim),
  h.cores.kept k l (fun b q=>q.elim) ht2,h.slot,fun n o e=>⟨(h.objs n o e).1,(h.objs n o e).2.kept k (dS.none w) (fun b q=>q.elim) l.A (by rw[(h.objs n o e).1];exact hl n o e) ⟨l.pb,l.db,l.ob⟩⟩⟩
theorem cZ.enter(h:cZ w g K)(k:Kept (·=g.mb) w w'){x:Ob}(hx:vZ w g x){es:List (Int×Value)}(hes:∀n,look es n=(K.obj n).map fun _=>Value.pointer (some ⟨g.bl n,0,none⟩))(hM:MapAt w' g.mb (put es x.name (.pointer (some ⟨g.bl x.name,0,none⟩)))):cZ w' g (K.set x):=by
 have l:=dK.refl g
 have hm:dS w (·=g.mb):=fun b cs ty fz e hh=>by
  obtain⟨es1,h1,-⟩:=h.tab.map;obtain⟨⟨arr,clock,h2,-⟩,-⟩:=h1
  cases e;rw[h2]at hh;cases hh
 have hn6:∀b tg,tg≠(0,2)->b=g.mb->b<w.heap.size->g.A b≠some tg:=fun b tg ht e _ e2=>by
  rw[e,h.tags.mb]at e2;cases e2;exact ht rfl
 have hO:∀o:Ob,vZ w g o->vZ w' g o:=fun o ho=>by
  have hp:=ho.pos;exact ho.kept k hm (fun b q ql i=>hn6 b _ (fun e=>by have:=congrArg Prod.fst e;simp only at this;omega) q ql) l.A (dO.refl _ _) ⟨rfl,rfl,rfl⟩
 refine⟨h.tags,fun b hb=>h.kS b (bD k.size hb),h.gZ.kept h.tags k l (fun b q ql=>⟨hn6 b _ (by simp) q ql,hn6 b _ (by simp) q ql,hn6 b _ (by simp) q ql⟩),⟨k.blk h.tab.tab (fun q=>hn6 g.tb (0,1) (by simp) q h.tab.tab.lt h.tags.tb),_,hM,fun n=>?_⟩,
  h.pool.tagged h.tags k l (fun b q ql i h3 _=>hn6 b _ (by intro e;cases e;omega) q ql),h.cores.kept k l (fun b q ql=>hn6 b _ (by simp) q ql) ⟨rfl,rfl,rfl⟩,h.slot,fun n o e=>?_⟩
 ·rw[ND,hes n]
  show _=((if n=x.name then some x else K.obj n)).map _
  by_cases e:n=x.name
  ·rw[aD e,aD e,e];rfl
  ·rw[aA e,aA e]
 ·have e':(if n=x.name then some x else K.obj n)=some o:=e
  by_cases e1:n=x.name
  ·rw[aD e1]at e';cases e';exact⟨e1.symm,hO _ hx⟩
  ·rw[aA e1]at e';exact⟨(h.objs n o e').1,hO _ (h.objs n o e').2⟩
theorem cZ.MN(h:cZ w g K)(k:Kept S w w')(hm:dS w S)(hcb:g.A g.cb=some (0,6))(hs:∀b,S b->b<w.heap.size->Free g K b\/b=g.cb){f:Nat->mZ}{fC:Nat->Pl}{flush:Nat->Bool}{last:Nat->Int}(hC:qY w' { g with fC:=fC,flush:=flush,last:=last } K.nc f K.slots.length):cZ w' { g with fC:=fC,flush:=flush,last:=last } { K with cores:=f }:=by
 have l:dK g { g with fC:=fC,flush:=flush,last:=last }:=⟨rfl,rfl,rfl,rfl,rfl,rfl,rfl,fun _ _ h=>h⟩
 have hn:∀b tg,tg≠(0,6)->(tg.1=0\/∃o,K.obj tg.1=some o)->S b->b<w.heap.size->g.A b≠some tg:=fun b tg h3 h6 q ql e=>by
  rcases hs b q ql with e1|e1
  ·obtain⟨n,i⟩:=tg
   rcases h6 with h6|⟨o,h6⟩
   ·cases h6;exact e1.zero e
   ·exact e1.ob h6 e
  ·rw[e1,hcb]at e;cases e;exact h3 rfl
 have h0:∀b i,i≠6->S b->b<w.heap.size->g.A b≠some (0,i):=fun b i hi q ql=>hn b _ (by intro e;cases e;omega) (.inl rfl) q ql
 exact⟨h.tags.alike l,fun b hb=>h.kS b (bD k.size hb),h.gZ.kept h.tags k l (fun b q ql=>⟨h0 b _ (by omega) q ql,h0 b _ (by omega) q ql,h0 b _ (by omega) q ql⟩),h.tab.kept h.tags k l (fun b q ql=>⟨h0 b _ (by omega) q ql,h0 b _ (by omega) q ql⟩) (fun _=>rfl) (fun _ _ _=>rfl),
  h.pool.tagged h.tags k l (fun b q ql i _ _=>h0 b _ (by omega) q ql),hC,h.slot,
  fun n o e=>by
   obtain⟨e1,e2⟩:=h.objs n o e;have hp:=e2.pos;have hz1:∀i j:Nat,(o.name,i)=((0:Int),j)->False:=fun i j e=>by have:=congrArg Prod.fst e;simp only at this;omega
   exact⟨e1,e2.kept k hm (fun b q ql i=>hn b _ (fun e=>hz1 i 6 e) (.inr ⟨o,by rw[e1];exact e⟩) q ql) l.A ⟨rfl,rfl,rfl,rfl,rfl,rfl⟩ ⟨rfl,rfl,rfl⟩⟩⟩
end
structure Ext(g g':Gh)(w w':World):Prop where
 al:dK g g'
 kept:Kept (fun b=>g.A b≠none) w w'
 tag:∀b,b<w.heap.size->g.A b=none->g'.A b=none
 bl:∀n,g.A (g.bl n)=some (n,0)->g'.bl n=g.bl n/\g'.tl n=g.tl n
theorem Ext.refl(g:Gh)(w:World):Ext g g w w:=⟨dK.refl g,Kept.refl _ _,fun _ _ h=>h,fun _ _=>⟨rfl,rfl⟩⟩
theorem Ext.trans{g g1 g2:Gh}{w w1 w2:World}(h:Ext g g1 w w1)(k:Ext g1 g2 w1 w2):Ext g g2 w w2 :=
 ⟨h.al.trans k.al,h.kept.then k.kept (fun i hi hs e=>hs (h.tag i hi e)),fun b hb e=>k.tag b (bA hb h.kept.size) (h.tag b hb e),fun n e=>by
  obtain⟨e1,e2⟩:=h.bl n e;obtain⟨e3,e4⟩:=k.bl n (by rw[e1];exact h.al.A _ _ e);exact⟨e3.trans e1,e4.trans e2⟩⟩
theorem Ext.below{g:Gh}{w w':World}(h:Below w.heap.size w w'):Ext g g w w':=⟨dK.refl g,(Kept.of_below h),fun _ _ h=>h,fun _ _=>⟨rfl,rfl⟩⟩
theorem Ext.wrote{g g':Gh}{w w':World}{S:Nat->Prop}(l:dK g g')(k:Kept S w w')(hs:∀b,S b->b<w.heap.size->∃tg,g.A b=some tg)(ht:∀b,b<w.heap.size->g.A b=none->g'.A b=none)(hb:∀n,g.A (g.bl n)=some (n,0)->g'.bl n=g.bl n/\g'.tl n=g.tl n):Ext g g' w w' :=
 ⟨l,k.mono (fun b hb q e=>by obtain⟨tg,h⟩:=hs b q hb;rw[h]at e;cases e),ht,hb⟩
def Gh.own(g:Gh)(b:Nat)(tg:Int×Nat):Gh:={ g with A:=fun c=>if c=b then some tg else g.A c }
theorem Gh.jm(g:Gh)(b:Nat)(tg:Int×Nat)(c:Nat):(g.own b tg).A c=if c=b then some tg else g.A c:=rfl
theorem dK.own(g:Gh){b:Nat}{tg:Int×Nat}(h:g.A b=none\/g.A b=some tg):dK g (g.own b tg):=⟨rfl,rfl,rfl,rfl,rfl,rfl,rfl,fun c t e=>by
 rw[Gh.jm];split
 ·subst c;rcases h with h|h
  ·rw[h]at e;cases e
  ·rw[h]at e;exact e
 ·exact e⟩
theorem dO.own(g:Gh)(b:Nat)(tg:Int×Nat)(n:Int):dO g (g.own b tg) n:=⟨rfl,rfl,rfl,rfl,rfl,rfl⟩
def Sm(x:Int):Prop:=-1099511627776<=x/\x<=1099511627776
def iC.list(p:iC):List Value:=[.int .i64 p.lim,.int .i64 p.used,.int .i64 p.given]
def iC.v(p:iC):Value:=.agg #[.int .i64 p.lim,.int .i64 p.used,.int .i64 p.given]
def rT.list(r:rT):List Value:=[.int .u64 r.lo,.int .u64 r.next,.int .u64 r.hi]
def rT.v(r:rT):Value:=.agg #[.int .u64 r.lo,.int .u64 r.next,.int .u64 r.hi]
structure iC.sm(p:iC):Prop where
 lim:Sm p.lim
 used:Sm p.used
 given:Sm p.given
structure rT.ok(r:rT):Prop where
 next:0<=r.next/\r.next<=r.hi
 hi:r.hi<=4194304
attribute [local irreducible] World.setCell World.alloc World.drew World.setRow Calls Code.wp
theorem lX(p:iC)(w:World)(h:p.sm) :
  Calls Tryz.prog 61 #[p.v] w fun e w'=>e=.returned (.int .i64 p.left)/\Below w.heap.size w w':=by
 obtain⟨⟨a1,a2⟩,⟨a3,a4⟩,a5,a6⟩:=h;obtain⟨l,u,g⟩:=p;unfold iC.v iC.left;simp only at *;go_enter Tryz.func61,Tryz.ntmps61
 go_wp2
 go_ret;exact⟨rfl,(aC _ _).alloc (aj _) _⟩
theorem lW(r:rT)(w:World)(h:r.ok) :
  Calls Tryz.prog 85 #[r.v] w fun e w'=>e=.returned (.int .i64 r.left)/\Below w.heap.size w w':=by
 obtain⟨⟨a1,a2⟩,a3⟩:=h;obtain⟨l,n,g⟩:=r;unfold rT.v rT.left;simp only at *;go_enter Tryz.func85,Tryz.ntmps85
 go_wp2
 go_ret;exact⟨rfl,(aC _ _).alloc (aj _) _⟩
theorem nI(p:iC)(n:Int)(b o ty:Nat)(cs:Array Value)(w:World)(hB:aR w b cs ty)(hI:In cs o p.list)(h:p.sm)(hn:0<=n/\n<=p.left) :
  Calls Tryz.prog 37 #[.pointer (some ⟨b,o,none⟩),.int .i64 n] w fun e w'=>e=.returned (.int .i64 0)/\Piece w w' b ty o cs 3 (iC.list { p with used:=p.used+n }):=by
 have c0:w.cell? ⟨b,o,none⟩=some (.int .i64 p.lim):=hI.cell hB 0 rfl;have c1:w.cell? ⟨b,o+1,none⟩=some (.int .i64 p.used):=hI.cell hB 1 rfl;have c2:w.cell? ⟨b,o+2,none⟩=some (.int .i64 p.given):=hI.cell hB 2 rfl;have HB:=ah hB;have HI:=ah hI;have H:=ah h;have HP:=ah (show Piece w w b ty o cs 3 p.list from Piece.refl hB hI);obtain⟨⟨a1,a2⟩,⟨a3,a4⟩,a5,a6⟩:=h;obtain⟨n0,n1⟩:=hn;have hlt:=hB.lt;clear hB hI;go_enter Tryz.func37,Tryz.ntmps37
 go_wp2_with fail
 refine(lX p _ H.out).mono ?_;rintro e w1 ⟨rfl,hb⟩;have hB1:=HB.out.below hb HB.out.lt;have d1:w1.cell? ⟨b,o+1,none⟩=some (.int .i64 p.used):=HI.out.cell hB1 1 rfl;have hf:=hB1.free;have Cb:=ah (HP.out.below hb);have hl:p.left=p.lim-p.used-p.given:=rfl;have hnl:¬p.left<n:=by omega
 have hu:IntKind.i64.wrap (p.used+n)=p.used+n:=aV _ (by omega);clear hb hB1 hl n1;go_wp2_with fail
 go_ret;exact⟨rfl,Cb.out.set 1 _ (by omega)⟩
theorem qL(r:rT)(b o ty:Nat)(cs:Array Value)(w:World)(hB:aR w b cs ty)(hI:In cs o r.list)(h:r.ok)(hn:1<=r.left) :
  Calls Tryz.prog 86 #[.pointer (some ⟨b,o,none⟩)] w fun e w'=>e=.returned (.int .u64 r.next)/\Piece w w' b ty o cs 3 (rT.list { r with next:=r.next+1 }):=by
 have c0:w.cell? ⟨b,o,none⟩=some (.int .u64 r.lo):=hI.cell hB 0 rfl;have c1:w.cell? ⟨b,o+1,none⟩=some (.int .u64 r.next):=hI.cell hB 1 rfl;have c2:w.cell? ⟨b,o+2,none⟩=some (.int .u64 r.hi):=hI.cell hB 2 rfl;have HB:=ah hB;have HI:=ah hI;have H:=ah h;have HP:=ah (show Piece w w b ty o cs 3 r.list from Piece.refl hB hI);obtain⟨⟨a1,a2⟩,a3⟩:=h;have hne:(r.left==0)=false:=by simp;omega
 clear hB hI;go_enter Tryz.func86,Tryz.ntmps86
 go_wp2_with fail
 refine(lW r _ H.out).mono ?_;rintro e w1 ⟨rfl,hb⟩;have hB1:=HB.out.below hb HB.out.lt;have d1:w1.cell? ⟨b,o+1,none⟩=some (.int .u64 r.next):=HI.out.cell hB1 1 rfl;have hf:=hB1.free;have Cb:=ah (HP.out.below hb);have hl:r.left=r.hi-r.next:=rfl;have hlt:r.next+1<=4194304:=by omega
 clear hb hB1 hl;go_wp2_with fail
 go_ret;exact⟨rfl,Cb.out.set 1 _ (by omega)⟩
theorem JX(p:iC)(n:Int)(b o ty:Nat)(cs:Array Value)(w:World)(hB:aR w b cs ty)(hI:In cs o p.list)(h:p.sm)(hn:0<=n/\n<=p.left) :
  Calls Tryz.prog 87 #[.pointer (some ⟨b,o,none⟩),.int .i64 n] w fun e w'=>e=.returned (.tuple #[iC.v ⟨n,0,0⟩,.int .i64 0])/\Piece w w' b ty o cs 3 (iC.list { p with given:=p.given+n }):=by
 have c0:w.cell? ⟨b,o,none⟩=some (.int .i64 p.lim):=hI.cell hB 0 rfl;have c1:w.cell? ⟨b,o+1,none⟩=some (.int .i64 p.used):=hI.cell hB 1 rfl;have c2:w.cell? ⟨b,o+2,none⟩=some (.int .i64 p.given):=hI.cell hB 2 rfl;have HB:=ah hB;have HI:=ah hI;have H:=ah h;have HP:=ah (show Piece w w b ty o cs 3 p.list from Piece.refl hB hI);obtain⟨⟨a1,a2⟩,⟨a3,a4⟩,a5,a6⟩:=h;obtain⟨n0,n1⟩:=hn;have hlt:=hB.lt;clear hB hI;go_enter Tryz.func87,Tryz.ntmps87
 go_wp2_with fail
 refine(lX p _ H.out).mono ?_;rintro e w1 ⟨rfl,hb⟩;have hz:=hb.size;rw[au]at hz;have hB1:=(HB.out.alloc (.cells #[.int .i64 0,.int .i64 0,.int .i64 0] 56)).below hb (HB.out.alloc _).lt;have d1:w1.cell? ⟨b,o+2,none⟩=some (.int .i64 p.given):=HI.out.cell hB1 2 rfl;have hf:=hB1.free;have hR:=(aR.new w #[.int .i64 0,.int .i64 0,.int .i64 0] 56).below hb (by simp);have hRc:=hR.cell;have YE:=hR.free;have Cb:=ah ((HP.out.alloc (.cells #[.int .i64 0,.int .i64 0,.int .i64 0] 56)).below hb);have hl:p.left=p.lim-p.used-p.given:=rfl;have hnl:¬p.left<n:=by omega
 have hu:IntKind.i64.wrap (p.given+n)=p.given+n:=aV _ (by omega);have hne:b≠w.heap.size:=by omega
 clear hb hB1 hl n1 hR;go_wp2_with fail
 refine bodyPost_ret (v:=.tuple #[iC.v ⟨n,0,0⟩,.int .i64 0]) (by simp[results,Tryz.results87,go_sem,hRc,iC.v]) rfl ⟨rfl,?_⟩;exact(((Cb.out.set 2 (.int .i64 (p.given+n)) (by omega)).oz _ 0 _ (aj _) hne).oz _ 1 _ (aj _) hne).oz _ 2 _ (aj _) hne
theorem JH(r:rT)(n:Int)(b o ty:Nat)(cs:Array Value)(w:World)(hB:aR w b cs ty)(hI:In cs o r.list)(h:r.ok)(hn:0<=n/\n<=r.left) :
  Calls Tryz.prog 88 #[.pointer (some ⟨b,o,none⟩),.int .i64 n] w fun e w'=>e=.returned (.tuple #[rT.v ⟨r.hi-n,r.hi-n,r.hi⟩,.bool true])/\Piece w w' b ty o cs 3 (rT.list { r with hi:=r.hi-n }):=by
 have c0:w.cell? ⟨b,o,none⟩=some (.int .u64 r.lo):=hI.cell hB 0 rfl;have c1:w.cell? ⟨b,o+1,none⟩=some (.int .u64 r.next):=hI.cell hB 1 rfl;have c2:w.cell? ⟨b,o+2,none⟩=some (.int .u64 r.hi):=hI.cell hB 2 rfl;have HB:=ah hB;have HI:=ah hI;have H:=ah h;have HP:=ah (show Piece w w b ty o cs 3 r.list from Piece.refl hB hI);obtain⟨⟨a1,a2⟩,a3⟩:=h;obtain⟨n0,n1⟩:=hn;have hlt:=hB.lt;clear hB hI;have hn0:decide (n<0)=false:=by simp;omega
 go_enter Tryz.func88,Tryz.ntmps88
 go_wp2_with fail
 refine(lW r _ H.out).mono ?_;rintro e w1 ⟨rfl,hb⟩;have hz:=hb.size;rw[au]at hz;have hB1:=(HB.out.alloc (.cells #[.int .u64 0,.int .u64 0,.int .u64 0] 58)).below hb (HB.out.alloc _).lt;have d1:w1.cell? ⟨b,o+2,none⟩=some (.int .u64 r.hi):=HI.out.cell hB1 2 rfl;have hf:=hB1.free;have hR:=(aR.new w #[.int .u64 0,.int .u64 0,.int .u64 0] 58).below hb (by simp);have hRc:=hR.cell;have YE:=hR.free;have Cb:=ah ((HP.out.alloc (.cells #[.int .u64 0,.int .u64 0,.int .u64 0] 58)).below hb);have hl:r.left=r.hi-r.next:=rfl;have hnl:¬r.left<n:=by omega
 have hc1:IntKind.u64.wrap n=n:=IntWalk.u64_in _ (by omega);have hu:IntKind.u64.wrap (r.hi-n)=r.hi-n:=IntWalk.u64_in _ (by omega);have hu2:IntKind.u64.wrap (r.hi-n+n)=r.hi:=by rw[show r.hi-n+n=r.hi by omega];exact IntWalk.u64_in _ (by omega)
 have hne:b≠w.heap.size:=by omega
 clear hb hB1 hl n1 hR;go_wp2_with fail
 go_region
 go_wp2_with fail
 refine bodyPost_ret (v:=.tuple #[rT.v ⟨r.hi-n,r.hi-n,r.hi⟩,.bool true]) (by simp[results,Tryz.results88,go_sem,hRc,rT.v]) rfl ⟨rfl,?_⟩;exact((((Cb.out.set 2 (.int .u64 (r.hi-n)) (by omega)).oz _ 0 _ (aj _) hne).oz _ 1 _ (aj _) hne).oz _ 2 _ (aj _) hne).drew
end Go.Proofs.YtiadbhiadhgjkaaGreatDoor
namespace Go.Proofs.YtiadbhiadhgjkaaGreatDoor
open Go.RowKit
section
variable {w w5:World}{g:Gh}{K:Km}{o:Ob}{v:Value}{tg:Int×Nat}{B ty g5 ci:Nat}{cs:Array Value}
def kR(v:Value)(B:Nat):Nat->Prop:=fun b=>v.ownBlock=some b\/b=B
theorem nQ{e:TypeId}{size n base:Nat}{xs:List Value}(hB:aR w B cs ty)(hv:w.ownsRow base e size v n xs)(h1:ty≠111/\ty≠5)(h2:e≠111/\e≠5):dS w (kR v B):=by
 intro b cs' ty' fz hS hh;rcases hS with e1|e1
 ·obtain⟨cur,hc,-⟩:=jA hv e1
  rw[hc]at hh;cases hh;exact h2
 ·cases e1
  unfold aR at hB;rw[hB]at hh;cases hh;exact h1
theorem qQ(hk:Kept (fun b=>v.ownBlock=some b) w w5)(x:Value):Kept (kR v B) w (w5.setCell ⟨B,ci,none⟩ x) :=
 (hk.mono (fun _ _ q=>.inl q)).setCell (.inr (.inr rfl)) x
theorem qy{hv:∀b,v.ownBlock=some b->g.A b=some tg}(hn:∀b,w.heap.size<=b->g.A b=none)(hg5:v.ownBlock=some g5\/w.heap.size<=g5):g.A g5=none\/g.A g5=some tg:=by
 rcases hg5 with h|h
 ·exact .inr (hv _ h)
 ·exact .inl (hn _ h)
end
section
variable {w w':World}{g g':Gh}{K:Km}{o o':Ob}
theorem cZ.wrote(h:cZ w g K){S:Nat->Prop}(k:Kept S w w')(hm:dS w S)(ho:K.obj o.name=some o)(hs:∀b,S b->b<w.heap.size->∃i,g.A b=some (o.name,i))(l:dK g g')(hl:∀n,dO g g' n)(ht2:g'.fC=g.fC/\g'.flush=g.flush/\g'.last=g.last)(hP:g'.P=g.P)
  (hnew:∀b,b<w.heap.size->g.A b=none->g'.A b=none) (Bg:∀b,w'.heap.size<=b->g'.A b=none) (hname:o'.name=o.name) {s':Os} {T:Value} (hB:aR w' (g.bl o.name) (jO o' s' (g.mt o.name) T) 68) (hR:fM w' g'.A (g.bl o.name) o' s' (g.fr o.name))
  (h3:o'.kind=3->T=.pointer (some ⟨g.tl o.name,0,none⟩)/\vv w' g'.A o.name (g.tl o.name) o'.th (g.root o.name) (g.tabs o.name)) (hT:o'.kind≠3->T=.pointer none):cZ w' g' (K.set o')/\Ext g g' w w':=by
 have hx:=(h.objs _ _ ho).2;have hl1:=hl o.name;refine⟨h.Tg k hm ho (fun b q ql=>.inr (hs b q ql)) l (fun n _=>hl n) hl1.bl ht2 hP Bg hname ⟨by rw[hname];exact hx.pos,?_,?_,s',T,?_,?_,?_,hT⟩,?_⟩
 ·rw[hname,hl1.bl];exact l.A _ _ hx.tag
 ·rw[hname,hl1.bl,l.pb,l.db,l.ob];exact hx.late
 ·rw[hname,hl1.bl,hl1.mt];exact hB
 ·rw[hname,hl1.bl,hl1.fr];exact hR
 ·rw[hname,hl1.tl,hl1.root,hl1.tabs];exact h3
 ·exact Ext.wrote l k (fun b q ql=>by obtain⟨i,e⟩:=hs b q ql;exact⟨_,e⟩) hnew (fun n _=>⟨(hl n).bl,(hl n).tl⟩)
theorem vv.kept{A A':Nat->Option (Int×Nat)}{n:Int}{b:Nat}{t:Th}{root tabs:Int}(h:vv w A n b t root tabs){S:Nat->Prop}(k:Kept S w w')(hm:dS w S)(hs:∀c,S c->c<w.heap.size->∀i,10<=i->A c≠some (n,i))(hA:∀b tg,A b=some tg->A' b=some tg):vv w' A' n b t root tabs:=by
 obtain⟨x,hb,hr⟩:=h.ex;exact⟨hA _ _ h.tag,x,k.blk hb (fun q=>hs _ q hb.lt 10 (by omega) h.tag),hr.kept k hm (fun c q l i hi=>hs c q l i (by omega)) hA⟩
theorem cZ.QU(h:cZ w g K)(ho:K.obj o.name=some o){s:Os}{T:Value}(hB:aR w (g.bl o.name) (jO o s (g.mt o.name) T) 68)(hR:fM w g.A (g.bl o.name) o s (g.fr o.name))
  (h3:o.kind=3->T=.pointer (some ⟨g.tl o.name,0,none⟩)/\vv w g.A o.name (g.tl o.name) o.th (g.root o.name) (g.tabs o.name)) (hT:o.kind≠3->T=.pointer none)
  {w5:World} (hk:Kept (fun b=>s.kids.ownBlock=some b) w w5) {g5 cap n:Nat} {x:Int} (hrow:w5.ownsRow 0 37 1 (.slice (some ⟨g5,0,none⟩) n cap) n (o.kids.map (.int .u64)++[.int .u64 x])) (hn:n=o.kids.length+1) (hg5:s.kids.ownBlock=some g5\/w.heap.size<=g5) (hlt:g5<w5.heap.size) :
  cZ (w5.setCell ⟨g.bl o.name,15,none⟩ (.slice (some ⟨g5,0,none⟩) n cap)) (g.own g5 (o.name,2)) (K.set { o with kids:=o.kids++[x] })/\Ext g (g.own g5 (o.name,2)) w (w5.setCell ⟨g.bl o.name,15,none⟩ (.slice (some ⟨g5,0,none⟩) n cap)):=by
 have hx:=(h.objs _ _ ho).2;have hkk:=qQ (B:=g.bl o.name) (ci:=15) hk (.slice (some ⟨g5,0,none⟩) n cap);have hm:dS w (kR s.kids (g.bl o.name)):=nQ hB hR.kids.row (by decide) (by decide);have hold:=qy (hv:=hR.kids.tag) h.kS hg5
 have hs:∀b,kR s.kids (g.bl o.name) b->g.A b=some (o.name,2)\/g.A b=some (o.name,0):=fun b q=>by
  rcases q with q|q
  ·exact .inl (hR.kids.tag b q)
  ·rw[q];exact .inr hx.tag
 have hsz:(w5.setCell ⟨g.bl o.name,15,none⟩ (.slice (some ⟨g5,0,none⟩) n cap)).heap.size=w5.heap.size:=by simp[World.setCell]
 have ni:aR w5 (g.bl o.name) (jO o s (g.mt o.name) T) 68:=hk.blk hB (fun e=>by have:=hR.kids.tag _ e;rw[hx.tag]at this;cases this)
 have Oo:eB (w5.setCell ⟨g.bl o.name,15,none⟩ (.slice (some ⟨g5,0,none⟩) n cap)) (g.own g5 (o.name,2)).A (o.name,2) (.slice (some ⟨g5,0,none⟩) n cap) (o.kids++[x]):=by
  refine Own.kept (A:=fun c=>if c=g5 then some (o.name,2)else g.A c) (eB.grown hrow hn) (S:=(·=g.bl o.name)) ((Kept.refl _ _).bC _ _ _ rfl) (fun b q ql=>?_) (fun _ _ e=>e)
  cases q;show(if g.bl o.name=g5 then some (o.name,2)else g.A (g.bl o.name))≠_
  rw[aA]
  ·rw[hx.tag];simp
  ·intro e
   rcases hg5 with e1|e1
   ·have:=hR.kids.tag _ e1;rw[<-e,hx.tag]at this;cases this
   ·have:=hB.lt;omega
 have hl0:=dK.own g (b:=g5) (tg:=(o.name,2)) hold;refine h.wrote (o:=o) (s':={ s with kids:=.slice (some ⟨g5,0,none⟩) n cap }) (T:=T) hkk hm ho (fun b q ql=>(hs b q).elim (fun e=>⟨2,e⟩) (fun e=>⟨0,e⟩)) hl0 (fun m=>dO.own g g5 _ m) ⟨rfl,rfl,rfl⟩ rfl ?_ ?_ rfl ?_ ?_ ?_ hT
 ·intro b hb e
  rw[Gh.jm,aA];· exact e
  rintro rfl;rcases hg5 with e1|e1
  ·have:=hR.kids.tag _ e1;rw[e]at this;cases this
  ·omega
 ·intro b hb
  rw[hsz]at hb;rw[Gh.jm,aA (by omega)];exact h.kS b (bD hk.size hb)
 ·exact ni.set 15 _
 ·exact hR.QK hkk hm (fun c q ql i h1 h5 h2 e=>by rcases hs c q with e1|e1<;>· rw[e1]at e;cases e;omega) hl0.A Oo
 ·intro e
  refine⟨(h3 e).1,(h3 e).2.kept hkk hm (fun c q ql i h10 e2=>by rcases hs c q with e1|e1<;>· rw[e1]at e2;cases e2;omega) hl0.A⟩
theorem cZ.QT(h:cZ w g K)(ho:K.obj o.name=some o){s:Os}{T:Value}(hB:aR w (g.bl o.name) (jO o s (g.mt o.name) T) 68)(hR:fM w g.A (g.bl o.name) o s (g.fr o.name))
  (h3:o.kind=3->T=.pointer (some ⟨g.tl o.name,0,none⟩)/\vv w g.A o.name (g.tl o.name) o.th (g.root o.name) (g.tabs o.name)) (hT:o.kind≠3->T=.pointer none)
  {w5:World} (hk:Kept (fun b=>s.maps.ownBlock=some b) w w5) {g5 cap n:Nat} {x:gy} (hrow:w5.ownsRow 0 125 5 (.slice (some ⟨g5,0,none⟩) n cap) n (o.maps.flatMap oH++oH x)) (hn:n=o.maps.length+1) (hg5:s.maps.ownBlock=some g5\/w.heap.size<=g5) (hlt:g5<w5.heap.size) :
  cZ (w5.setCell ⟨g.bl o.name,18,none⟩ (.slice (some ⟨g5,0,none⟩) n cap)) (g.own g5 (o.name,4)) (K.set { o with maps:=o.maps++[x] })/\Ext g (g.own g5 (o.name,4)) w (w5.setCell ⟨g.bl o.name,18,none⟩ (.slice (some ⟨g5,0,none⟩) n cap)):=by
 have hx:=(h.objs _ _ ho).2;have hkk:=qQ (B:=g.bl o.name) (ci:=18) hk (.slice (some ⟨g5,0,none⟩) n cap);have hm:dS w (kR s.maps (g.bl o.name)):=nQ hB hR.maps.row (by decide) (by decide);have hold:=qy (hv:=hR.maps.tag) h.kS hg5
 have hs:∀b,kR s.maps (g.bl o.name) b->g.A b=some (o.name,4)\/g.A b=some (o.name,0):=fun b q=>by
  rcases q with q|q
  ·exact .inl (hR.maps.tag b q)
  ·rw[q];exact .inr hx.tag
 have hsz:(w5.setCell ⟨g.bl o.name,18,none⟩ (.slice (some ⟨g5,0,none⟩) n cap)).heap.size=w5.heap.size:=by simp[World.setCell]
 have ni:aR w5 (g.bl o.name) (jO o s (g.mt o.name) T) 68:=hk.blk hB (fun e=>by have:=hR.maps.tag _ e;rw[hx.tag]at this;cases this)
 have Oo:Own (w5.setCell ⟨g.bl o.name,18,none⟩ (.slice (some ⟨g5,0,none⟩) n cap)) (g.own g5 (o.name,4)).A (o.name,4) 125 5 (.slice (some ⟨g5,0,none⟩) n cap) (o.maps++[x]).length ((o.maps++[x]).flatMap oH):=by
  refine Own.kept (A:=fun c=>if c=g5 then some (o.name,4)else g.A c) ⟨?_,fun b hb=>by cases hb;exact aD rfl⟩ (S:=(·=g.bl o.name)) ((Kept.refl _ _).bC _ _ _ rfl) (fun b q ql=>?_) (fun _ _ e=>e)
  ·rw[aO,List.flatMap_append]
   subst hn;have:([x]:List gy).flatMap oH=oH x:=by simp
   rw[this];exact hrow
  cases q;show(if g.bl o.name=g5 then some (o.name,4)else g.A (g.bl o.name))≠_
  rw[aA]
  ·rw[hx.tag];simp
  ·intro e
   rcases hg5 with e1|e1
   ·have:=hR.maps.tag _ e1;rw[<-e,hx.tag]at this;cases this
   ·have:=hB.lt;omega
 have hl0:=dK.own g (b:=g5) (tg:=(o.name,4)) hold;refine h.wrote (o:=o) (s':={ s with maps:=.slice (some ⟨g5,0,none⟩) n cap }) (T:=T) hkk hm ho (fun b q ql=>(hs b q).elim (fun e=>⟨4,e⟩) (fun e=>⟨0,e⟩)) hl0 (fun m=>dO.own g g5 _ m) ⟨rfl,rfl,rfl⟩ rfl ?_ ?_ rfl ?_ ?_ ?_ hT
 ·intro b hb e
  rw[Gh.jm,aA];· exact e
  rintro rfl;rcases hg5 with e1|e1
  ·have:=hR.maps.tag _ e1;rw[e]at this;cases this
  ·omega
 ·intro b hb
  rw[hsz]at hb;rw[Gh.jm,aA (by omega)];exact h.kS b (bD hk.size hb)
 ·exact ni.set 18 _
 ·exact hR.QJ hkk hm (fun c q ql i h1 h5 h2 e=>by rcases hs c q with e1|e1<;>· rw[e1]at e;cases e;omega) hl0.A Oo
 ·intro e
  refine⟨(h3 e).1,(h3 e).2.kept hkk hm (fun c q ql i h10 e2=>by rcases hs c q with e1|e1<;>· rw[e1]at e2;cases e2;omega) hl0.A⟩
end
end Go.Proofs.YtiadbhiadhgjkaaGreatDoor
namespace Go.Proofs.YtiadbhiadhgjkaaGreatDoor
open Go.RowKit
attribute [local irreducible] World.setCell World.alloc World.drew World.setRow Calls Code.wp
def FL(g:Gh)(f:Int->Option Ob)(n:Int):Value:=((f n).map fun _=>Value.pointer (some ⟨g.bl n,0,none⟩)).getD (.pointer none)
theorem gK{g:Gh}{f:Int->Option Ob}{n:Int}{o:Ob}(h:f n=some o):FL g f n=.pointer (some ⟨g.bl n,0,none⟩):=by unfold FL;rw[h];rfl
theorem nL{g:Gh}{f:Int->Option Ob}{n:Int}(h:f n=none):FL g f n=.pointer none:=by unfold FL;rw[h];rfl
theorem vQ.lookup{w:World}{g:Gh}{f:Int->Option Ob}(h:vQ w g f)(n:Int) :
  (Instr.lookup 135 (.map (some g.mb)) (.int .u64 n) false).run Tryz.prog w=.ok (FL g f n) w:=by
 obtain⟨es,h1,h2⟩:=h.map;have:=h1.wY (P:=Tryz.prog) Tryz.underlying135 Tryz.underlying37 (z:=.pointer none) (fun w=>by kernel_rfl) n;rw[h2 n]at this;exact this
theorem kK(w:World)(g:Gh)(f:Int->Option Ob)(n:Int)(h:vQ w g f) :
  Calls Tryz.prog 15 #[.pointer (some ⟨g.tb,0,none⟩),.int .u64 n] w fun e w'=>e=.returned (FL g f n)/\w=w':=by
 have hl:=h.lookup n;have hc:=h.tab.cell;clear h;go_enter Tryz.func15,Tryz.ntmps15
 go_wp2
 go_ret;exact⟨rfl,rfl⟩
theorem Own.form{w:World}{A:Nat->Option (Int×Nat)}{tg:Int×Nat}{e size n:Nat}{v:Value}{xs:List Value}(h:Own w A tg e size v n xs):∃a c,v=.slice a n c/\n<=c/\c<=maxLen:=by
 rcases h.row.2 with⟨rfl,rfl⟩|⟨g,cap,cur,rfl,-,-,h1,h2,-⟩
 ·exact⟨_,_,rfl,aj _,Nat.zero_le _⟩
 ·exact⟨_,_,rfl,h1,h2⟩
theorem qm:(Tryz.prog.info? 37).map (fun i=>(i.zero,i.size,i.bytes))=some (some (.int .u64 0),1,8):=by kernel_rfl
theorem wK(w:World)(g:Gh)(K:Km)(h:cZ w g K)(x hm:Ob)(hx:vZ w g x)(hn:K.obj x.name=none)(hh:K.obj x.home=some hm)(hk:hm.kind=1)(hl:hm.kids.length<=1000000) :
  Calls Tryz.prog 36 #[.pointer (some ⟨g.tb,0,none⟩),.pointer (some ⟨g.bl x.name,0,none⟩)] w fun e w'=>e=.returned (.bool true) /\
   ∃b,cZ w' (g.own b (hm.name,2)) ((K.set x).set { hm with kids:=hm.kids++[x.name] })/\Ext g (g.own b (hm.name,2)) w w':=by
 obtain⟨hhn,hho⟩:=h.objs _ _ hh;obtain⟨s,T,hB,hR,h3,hT⟩:=hx.ex;obtain⟨s',T',hB',hR',h3',hT'⟩:=hho.ex;rw[hhn]at hB';have c2:w.cell? ⟨g.bl x.name,2,none⟩=some (.int .u64 x.name):=(hB.cell 2).trans rfl;have c6:w.cell? ⟨g.bl x.name,6,none⟩=some (.int .u64 x.home):=(hB.cell 6).trans rfl;have d3:w.cell? ⟨g.bl x.home,3,none⟩=some (.int .i64 1):=(hB'.cell 3).trans (by rw[<-hk];rfl);have hl1:(Instr.lookup 135 (.map (some g.mb)) (.int .u64 x.name) false).run Tryz.prog w=.ok (.pointer none) w:=by rw[h.tab.lookup,nL hn]
 have hl2:(Instr.lookup 135 (.map (some g.mb)) (.int .u64 x.home) false).run Tryz.prog w=.ok (.pointer (some ⟨g.bl x.home,0,none⟩)) w:=by rw[h.tab.lookup,gK hh]
 have Ve:(Instr.lookup 135 (.map (some g.mb)) (.int .u64 x.name) false).run Tryz.prog w.drew=.ok (.pointer none) w.drew:=by rw[h.drew.tab.lookup,nL hn]
 have Vd:(Instr.lookup 135 (.map (some g.mb)) (.int .u64 x.home) false).run Tryz.prog w.drew=.ok (.pointer (some ⟨g.bl x.home,0,none⟩)) w.drew:=by rw[h.drew.tab.lookup,gK hh]
 have acd:(Instr.lookup 135 (.map (some g.mb)) (.int .u64 x.home) false).run Tryz.prog w.drew.drew=.ok (.pointer (some ⟨g.bl x.home,0,none⟩)) w.drew.drew:=by rw[h.drew.drew.tab.lookup,gK hh]
 have ht:=h.tab.tab.cell;have H:=ah h;have HX:=ah hx;have HN:=ah hn;have HH:=ah hh;obtain⟨es,Yy,Yx⟩:=h.tab.map;obtain⟨w4,hup,hm4,hk4⟩:=(Yy.drew.drew.drew).wX (P:=Tryz.prog) Tryz.underlying135 Tryz.underlying37 x.name (.pointer (some ⟨g.bl x.name,0,none⟩));have hne:x.home≠x.name:=fun e=>by rw[e,hn]at hh;cases hh
 have Ib:=ah ((h.drew.drew.drew).enter hk4 (hx.kept (g':=g) (S:=fun _=>False) ((Kept.refl _ _).drew.drew.drew) (dS.none w) (fun b q=>q.elim) (fun _ _ h=>h) (dO.refl _ _) ⟨rfl,rfl,rfl⟩) Yx hm4);have Wq:=ah ((Kept.refl (·=g.mb) w).drew.drew.drew.trans hk4);have hh4:(K.set x).obj x.home=some hm:=by show(if x.home=x.name then some x else K.obj x.home)=_;rw[aA hne];exact hh
 have hpos:=hx.pos;have hne0:(x.name==0)=false:=by simp;omega
 go_enter Tryz.func36,Tryz.ntmps36
 go_wp2_with fail
 go_region
 go_wp2_with fail
 clear hl1 Ve;go_region
 clear hl2 Vd acd;go_wp2_with fail
 clear Yy Yx hm4 hk4 h hB' hR' h3' hT' hB hR h3 hT hx;go_region
 clear hup ht c2 c6 d3;obtain⟨RD,Yt⟩:=Ib.out.objs _ _ hh4;obtain⟨s,T,hB,hR,h3,hT⟩:=Yt.ex;have HB0:=ah hB;rw[RD]at hB;obtain⟨sq,sk,sf,sm,sl,sc,so,si,sr⟩:=s;obtain⟨ka,kc,rfl,hk1,hk2⟩:=hR.kids.form;have d15:w4.cell? ⟨g.bl x.home,15,none⟩=some (.slice ka hm.kids.length kc):=(hB.cell 15).trans rfl;have f15:w4.frozen? ⟨g.bl x.home,15,none⟩=false:=hB.free 15;have hx4:=(Ib.out.objs x.name x (by show(if x.name=x.name then some x else K.obj x.name)=_;rw[aD rfl])).2;obtain⟨sx,Tx,hBx,-⟩:=hx4.ex;have c2:w4.cell? ⟨g.bl x.name,2,none⟩=some (.int .u64 x.name):=(hBx.cell 2).trans rfl;obtain⟨i0,hi0,hz0,hz1,hz2⟩:=info_parts qm;have yM:=ah hi0;have lJ:=ah hz0;have lI:=ah hz1;have kT:=ah hz2;have kZ:=ah hR.kids;have HR:=ah hR;have H3:=ah h3;have HT:=ah hT;have HB:=ah hB;have GY:Hid (World.ownsRow (w4.alloc (.cells #[.int .u64 x.name] 37)).drew 0 37 1 (.slice ka hm.kids.length kc) hm.kids.length (hm.kids.map (.int .u64))):=dA (T:=fun _=>False) kZ.out.row ((Kept.refl _ _).alloc _).drew (fun _ _ q=>q)
 have Wu:Hid (∀w5,World.grownBy (w4.alloc (.cells #[.int .u64 x.name] 37)).drew w5 (Value.slice ka hm.kids.length kc).ownBlock->aR w5 (g.bl x.home) (jO hm ⟨sq,.slice ka hm.kids.length kc,sf,sm,sl,sc,so,si,sr⟩ (g.mt x.home) T) 68):=fun w5 hg=>(dG hg).blk ((hB.alloc _).drew) (fun e=>by
  have h1:=kZ.out.tag _ e;have h2:=(Ib.out.objs _ _ hh4).2.tag;rw[RD]at h1 h2;rw[h1]at h2;cases h2)
 have LX:Hid (∀u∈[Value.int .u64 x.name],u.oneCell'=true):=fun u hu=>by simp at hu;subst hu;rfl
 have e15:(w4.alloc (.cells #[.int .u64 x.name] 37)).cell? ⟨g.bl x.home,15,none⟩=some (.slice ka hm.kids.length kc):=((hB.alloc _).cell 15).trans rfl;have ajz:=ah hB.lt;clear hR h3 hT hB hBx hx4 hi0 hz0 hz1 hz2 Yt;go_wp2_with fail
 go_region_law (first
  | (refine step_append_lies _ (by rfl) (.tmp 74) (.tmp 79) 46 (by rfl) 0 37 i0 _ 1 8 Tryz.underlying46 yM.out lJ.out lI.out kT.out rfl (by decide) (.slice ka hm.kids.length kc) hm.kids.length (hm.kids.map (.int .u64)) (by simp[Act.eval]) GY.out ⟨w4.heap.size,0,none⟩ 1 1 [.int .u64 x.name] (by simp[Act.eval]) rfl (World.news_of_block (aR.new w4 #[.int .u64 x.name] 37).drew) LX.out (by omega) (by unfold maxLen;omega) (by omega) (by simp) _ rfl ?_;intro g5 cap w5 hown5 fI hg5 uU;have ni:=Wu.out w5 fI;have j15:w5.cell? ⟨g.bl x.home,15,none⟩=some (.slice ka hm.kids.length kc):=(ni.cell 15).trans rfl;have k15:w5.frozen? ⟨g.bl x.home,15,none⟩=false:=ni.free 15))
 all_goals
  clear j15 k15;go_wp2_with fail
  go_ret
  have hg6:(Value.slice ka hm.kids.length kc).ownBlock=some g5\/w4.heap.size<=g5:=by
   rcases hg5 with e|e
   ·exact .inl e
   ·right;rw[e];simp
  obtain⟨f1,f2⟩:=Ib.out.QU (o:=hm) (by rw[RD];exact hh4) HB0.out HR.out H3.out HT.out (((Kept.refl _ w4).alloc _).drew.trans (dG fI)) hown5 rfl hg6 uU;have e0:g.bl x.home=g.bl hm.name:=by rw[RD]
  rw[e0];exact⟨rfl,_,f1,Ext.trans (Ext.wrote (dK.refl g) Wq.out (fun b q _=>by rw[q];exact⟨_,H.out.tags.mb⟩) (fun _ _ e=>e) (fun _ _=>⟨rfl,rfl⟩)) f2⟩
end Go.Proofs.YtiadbhiadhgjkaaGreatDoor
namespace Go.Proofs.YtiadbhiadhgjkaaGreatDoor
open Go.RowKit
structure VW(o o':Ob):Prop where
 name:o'.name=o.name
 kind:o'.kind=o.kind
 lab:o'.lab=o.lab
 maps:o'.maps=o.maps
 pages:o'.pages=o.pages
 space:o'.th.space=o.th.space
theorem VW.refl(o:Ob):VW o o:=⟨rfl,rfl,rfl,rfl,rfl,rfl⟩
def IY:Option Ob->Option Ob->Prop
 | none,none=>True
 | some a,some b=>VW a b
 | _,_=>False
theorem IY.refl(x:Option Ob):IY x x:=by cases x with
 | none=>trivial
 | some a=>exact VW.refl a
theorem Ch{K K':Km}{o o':Ob}(hK:∀n,IY (K.obj n) (K'.obj n))(ho:VW o o')(va:Int):K'.bN o' va=K.bN o va:=by
 unfold Km.bN;rw[ho.space,ho.lab];have h1:=hK o.th.space
 cases e1:K.obj o.th.space with
 | none=>rw[e1]at h1;cases e2:K'.obj o.th.space with
  | none=>rfl
  | some b=>rw[e2]at h1;cases h1
 | some a=>rw[e1]at h1;cases e2:K'.obj o.th.space with
  | none=>rw[e2]at h1;cases h1
  | some b =>
   rw[e2]at h1;have h1':VW a b:=h1;simp only;rw[h1'.kind,h1'.lab,h1'.maps];split
   ·cases e3:ig a.maps (va/64)with
    | none=>rfl
    | some m =>
     simp only;have h2:=hK m.seg
     cases e4:K.obj m.seg with
     | none=>rw[e4]at h2;cases e5:K'.obj m.seg with
      | none=>rfl
      | some c=>rw[e5]at h2;cases h2
     | some c=>rw[e4]at h2;cases e5:K'.obj m.seg with
      | none=>rw[e5]at h2;cases h2
      | some d =>
       rw[e5]at h2;have h2':VW c d:=h2;simp only;rw[h2'.kind,h2'.lab,h2'.pages,h2'.name]
   ·rfl
theorem EU{K K':Km}{o:Ob}(hK:∀n a,K.obj n=some a->∃b,K'.obj n=some b/\VW a b){va:Int}{r:Int×Int×Bool}(h:K.bN o va=some r):K'.bN o va=some r:=by
 unfold Km.bN at h ⊢
 cases e1:K.obj o.th.space with
 | none=>rw[e1]at h;cases h
 | some a =>
  obtain⟨b,e2,hv⟩:=hK _ _ e1;rw[e1]at h;rw[e2];simp only at h ⊢;rw[hv.kind,hv.lab,hv.maps];split at h
  ·rw[aD (by assumption)]
   cases e3:ig a.maps (va/64)with
   | none=>rw[e3]at h;cases h
   | some m =>
    rw[e3]at h;simp only at h ⊢
    cases e4:K.obj m.seg with
    | none=>rw[e4]at h;cases h
    | some c =>
     obtain⟨d,e5,hv2⟩:=hK _ _ e4;rw[e4]at h;rw[e5];simp only at h ⊢;rw[hv2.kind,hv2.lab,hv2.pages,hv2.name];exact h
  ·cases h
theorem ES{K:Km}{o:Ob}(p off:Int)(h0:0<=off)(h1:off<64):K.bN o (p*64+off)=(K.bN o (p*64)).map fun r=>(r.1,r.2.1+off,r.2.2):=by
 unfold Km.bN;have e1:(p*64+off)/64=p:=by omega
 have e2:(p*64)/64=p:=by omega
 have e3:(p*64+off)%64=off:=by omega
 have e4:(p*64)%64=0:=by omega
 rw[e1,e2,e3,e4]
 cases K.obj o.th.space with
 | none=>rfl
 | some a =>
  simp only;split
  ·cases ig a.maps p with
   | none=>rfl
   | some m =>
    simp only
    cases K.obj m.seg with
    | none=>rfl
    | some c =>
     simp only;split
     ·simp
     ·rfl
  ·rfl
theorem kC{K:Km}{o:Ob}{va:Int}{s at_:Int}{may:Bool}(hn:∀n o,K.obj n=some o->o.name=n)(h:K.bN o va=some (s,at_,may)):∃c,K.obj s=some c/\c.kind=2/\at_/64<(c.pages:Int)/\at_%64=va%64:=by
 unfold Km.bN at h
 cases e1:K.obj o.th.space with
 | none=>rw[e1]at h;cases h
 | some a =>
  rw[e1]at h;simp only at h;split at h
  ·cases e3:ig a.maps (va/64)with
   | none=>rw[e3]at h;cases h
   | some m =>
    rw[e3]at h;simp only at h
    cases e4:K.obj m.seg with
    | none=>rw[e4]at h;cases h
    | some c =>
     rw[e4]at h;simp only at h;split at h
     ·rename_i hc
      simp only[aM,aY]at hc;simp only[Option.some.injEq,Prod.mk.injEq]at h;obtain⟨h1,h2,h3⟩:=h;have:=hn _ _ e4;refine⟨c,by rw[<-h1,this];exact e4,hc.1,by omega,by omega⟩
     ·cases h
  ·cases h
structure oW(o:Ob):Prop where
 names:o.names.ok
 next:1<=o.names.next
 used:0<=o.purse.used
 given:0<=o.purse.given
 sum:o.purse.used+o.purse.given<=o.purse.lim
 lim:o.purse.lim<=1099511627776
theorem oW.sm{o:Ob}(h:oW o):o.purse.sm:=by
 have:=h.used;have:=h.given;have:=h.sum;have:=h.lim;exact⟨⟨by omega,by omega⟩,⟨by omega,by omega⟩,by omega,by omega⟩
def iA(g:Gh)(K:Km)(o:Ob)(p f:Int)(y:Bool):Prop:=∃s at_ may,K.bN o (p*64)=some (s,at_,may)/\(g.fr s).getD (at_/64).toNat 0=f/\(y=true->may=true)
structure IX(g:Gh)(o:Ob):Prop where
 inn:iP g.P o.name (g.fr o.name)
 len:(g.fr o.name).length=o.pages
 p16:o.pages<=16
 data:∀j,j<o.pages*64->o.data j=kV g.P (g.fr o.name) j
def Es(g:Gh)(K:Km)(o:Ob):Prop :=
 (g.root o.name=0/\g.tabs o.name=0) \/
 (Tab g.P (g.root o.name) o.name (g.N o.name) (g.F o.name) (g.Y o.name)/\g.tabs o.name=(gu (g.N o.name) 585:Nat)/\g.tabs o.name<=8/\∀p,p<4096->g.F o.name p≠0->iA g K o p (g.F o.name p) (g.Y o.name p))
def TN(g:Gh)(K:Km)(i:Nat):Prop:=∀k,k<4->(g.fC i).f k≠0->∃o,K.obj (g.last i)=some o/\(0<=(g.fC i).p k/\(g.fC i).p k<4096)/\iA g K o ((g.fC i).p k) ((g.fC i).f k) ((g.fC i).w k)
def mV(g:Gh):Int:=(g.lD.map fun n=>8-g.tabs n).sum
structure Inv(g:Gh)(K:Km):Prop where
 own:∀b n i,g.A b=some (n,i)->n=0\/∃o,K.obj n=some o
 name:∀n o,K.obj n=some o->o.name=n
 cont:∀n o,K.obj n=some o->o.kind=1->oW o
 seg:∀n o,K.obj n=some o->o.kind=2->IX g o
 rD:∀n o,K.obj n=some o->o.kind≠2->g.fr n=[]
 yS:∀n o,K.obj n=some o->o.kind=3->Es g K o
 fC:∀i,i<K.nc->g.flush i=false->TN g K i
 tn:∀i,i<K.nc->0<=(g.fC i).n/\(g.fC i).n<4
 lD:g.lD.Nodup/\∀n,n∈g.lD↔∃o,K.obj n=some o/\o.kind=3
 room:0<=K.room/\(g.P.left:Int)=K.room+mV g
 yw:∀n,n≠0->K.obj n=none->bY g.P.O n g.P.n=0
section
variable {g:Gh}{K:Km}{o o':Ob}
theorem iA.mono{K':Km}{g':Gh}{p f:Int}{y:Bool}(h:iA g K o p f y)(hK:∀n a,K.obj n=some a->∃b,K'.obj n=some b/\VW a b)(hv:VW o o')(hf:∀n a,K.obj n=some a->g'.fr n=g.fr n)(hn:∀n o,K.obj n=some o->o.name=n):iA g' K' o' p f y:=by
 obtain⟨s,at_,may,h1,h2,h3⟩:=h;obtain⟨c,hc,-⟩:=kC hn h1;refine⟨s,at_,may,?_,by rw[hf _ _ hc];exact h2,h3⟩;have:=EU hK h1;rw[<-Ch (fun n=>IY.refl (K'.obj n)) hv]at this;exact this
theorem sN(h:Inv g K)(n:Int)(hn:n∈g.lD):8-g.tabs n<=mV g:=by
 have hall:∀m,m∈g.lD->0<=8-g.tabs m:=fun m hm=>by
  obtain⟨o,h1,h2⟩:=(h.lD.2 m).1 hm;have hnm:=h.name _ _ h1;rcases h.yS m o h1 h2 with e|e
  ·have:=e.2;rw[hnm]at this;omega
  ·have:=e.2.2.1;rw[hnm]at this;omega
 unfold mV;revert hall hn
 generalize g.lD=l;intro hn hall;induction l with
 | nil=>cases hn
 | cons a l ih =>
  have hs:∀l:List Int,(∀m,m∈l->0<=8-g.tabs m)->0<=(l.map fun n=>8-g.tabs n).sum:=fun l hl=>by
   induction l with
   | nil=>simp
   | cons b l ihl =>
    rw[bW,List.sum_cons];have:=hl b (by simp);have:=ihl (fun m hm=>hl m (by simp[hm]));omega
  rw[bW,List.sum_cons];rcases List.mem_cons.1 hn with e|e
  ·subst e
   have:=hs l (fun m hm=>hall m (by simp[hm]));omega
  ·have:=ih e (fun m hm=>hall m (by simp[hm]))
   have:=hall a (by simp);omega
theorem nD(h:Inv g K):0<=mV g:=by
 rcases hl:g.lD with _|⟨n,l⟩
 ·unfold mV;rw[hl];simp
 ·have h1:=sN h n (by rw[hl];simp)
  obtain⟨o,e1,e2⟩:=(h.lD.2 n).1 (by rw[hl];simp);have hnm:=h.name _ _ e1;rcases h.yS n o e1 e2 with e|e
  ·have:=e.2;rw[hnm]at this;omega
  ·have:=e.2.2.1;rw[hnm]at this;omega
theorem Inv.set(h:Inv g K)(ho:K.obj o.name=some o)(hv:VW o o')(hd:o'.data=o.data)(hc:o'.kind=1->oW o'){A':Nat->Option (Int×Nat)}(hA:∀b n i,A' b=some (n,i)->g.A b=some (n,i)\/n=o.name):Inv { g with A:=A' } (K.set o'):=by
 have hset:∀n,(K.set o').obj n=if n=o.name then some o' else K.obj n:=fun n=>by show(if n=o'.name then some o' else K.obj n)=_;rw[hv.name]
 have hK:∀n a,K.obj n=some a->∃b,(K.set o').obj n=some b/\VW a b:=fun n a e=>by
  rw[hset];by_cases e1:n=o.name
  ·rw[aD e1];rw[e1,ho]at e;cases e;exact⟨_,rfl,hv⟩
  ·rw[aA e1];exact⟨a,e,VW.refl a⟩
 have hback:∀n a,(K.set o').obj n=some a->∃b,K.obj n=some b/\VW b a/\a.data=b.data/\(a.kind=1->oW a):=fun n a e=>by
  rw[hset]at e;by_cases e1:n=o.name
  ·rw[aD e1]at e;cases e;exact⟨o,by rw[e1];exact ho,hv,hd,hc⟩
  ·rw[aA e1]at e;exact⟨a,e,VW.refl a,rfl,h.cont n a e⟩
 refine⟨fun b n i e=>?_,fun n a e=>?_,fun n a e ek=>?_,fun n a e ek=>?_,fun n a e ek=>?_,fun n a e ek=>?_,fun i hi hf k hk hk2=>?_,h.tn,⟨h.lD.1,fun n=>?_⟩,h.room,fun n h0 e=>?_⟩
 ·rcases hA b n i e with e1|e1
  ·rcases h.own b n i e1 with e2|⟨a,e2⟩
   ·exact .inl e2
   ·obtain⟨c,hc,-⟩:=hK n a e2;exact .inr ⟨c,hc⟩
  ·refine .inr ⟨o',?_⟩;rw[hset,aD e1]
 ·obtain⟨b,e1,e2,-⟩:=hback n a e
  rw[e2.name];exact h.name n b e1
 ·obtain⟨b,-,-,-,e4⟩:=hback n a e;exact e4 ek
 ·obtain⟨b,e1,e2,e3,-⟩:=hback n a e
  have:=h.seg n b e1 (by rw[<-e2.kind];exact ek);exact⟨by rw[e2.name];exact this.inn,by rw[e2.name,e2.pages];exact this.len,by rw[e2.pages];exact this.p16,fun j hj=>by rw[e2.pages]at hj;rw[e2.name,e3];exact this.data j hj⟩
 ·obtain⟨b,e1,e2,-⟩:=hback n a e
  exact h.rD n b e1 (by rw[<-e2.kind];exact ek)
 ·obtain⟨b,e1,e2,-⟩:=hback n a e
  have:=h.yS n b e1 (by rw[<-e2.kind];exact ek);unfold Es at this ⊢;rw[e2.name];rcases this with t|⟨t1,t2,t3,t4⟩
  ·exact .inl t
  ·exact .inr ⟨t1,t2,t3,fun p hp hF=>(t4 p hp hF).mono hK e2 (fun _ _ _=>rfl) h.name⟩
 ·obtain⟨b,e1,t1,t2⟩:=h.fC i hi hf k hk hk2
  obtain⟨a,e2,e3⟩:=hK _ _ e1;exact⟨a,e2,t1,t2.mono hK e3 (fun _ _ _=>rfl) h.name⟩
 ·rw[h.lD.2 n]
  constructor
  ·rintro⟨a,e1,e2⟩
   obtain⟨b,hb,hv'⟩:=hK n a e1;exact⟨b,hb,by rw[hv'.kind];exact e2⟩
  ·rintro⟨a,e1,e2⟩
   obtain⟨b,hb,hv',-⟩:=hback n a e1;exact⟨b,hb,by rw[<-hv'.kind];exact e2⟩
 ·rw[hset]at e
  by_cases e1:n=o.name
  ·rw[aD e1]at e;cases e
  ·rw[aA e1]at e;exact h.yw n h0 e
theorem Inv.cores(h:Inv g K){f:Nat->mZ}{fC:Nat->Pl}{flush:Nat->Bool}{last:Nat->Int}(h1:∀i,i<K.nc->flush i=false->TN { g with fC:=fC,flush:=flush,last:=last } K i)(h2:∀i,i<K.nc->0<=(fC i).n/\(fC i).n<4):Inv { g with fC:=fC,flush:=flush,last:=last } { K with cores:=f } :=
 ⟨h.own,h.name,h.cont,fun n o e k=>⟨(h.seg n o e k).inn,(h.seg n o e k).len,(h.seg n o e k).p16,(h.seg n o e k).data⟩,h.rD,h.yS,h1,h2,h.lD,h.room,h.yw⟩
end
def Ob.fP(o:Ob)(n:Int):Ob:={ o with name:=n }
def Ob.bR(o:Ob)(r:rT):Ob:={ o with names:=r }
def Ob.dB(o:Ob)(p:iC):Ob:={ o with purse:=p }
def Ob.Av(o:Ob)(n:Nat):Ob:={ o with pages:=n }
theorem lZ(o:Ob)(s:Os)(mt:Int)(T:Value):In (jO o s mt T) 12 o.names.list:=fun k hk=>match k,hk with
 | 0,_=>rfl
 | 1,_=>rfl
 | 2,_=>rfl
 | k+3,h=>absurd h (by show ¬k+3<3;omega)
theorem kF(o:Ob)(s:Os)(mt:Int)(T:Value):In (jO o s mt T) 9 o.purse.list:=fun k hk=>match k,hk with
 | 0,_=>rfl
 | 1,_=>rfl
 | 2,_=>rfl
 | k+3,h=>absurd h (by show ¬k+3<3;omega)
theorem Ip(o o':Ob)(s:Os)(mt:Int)(T:Value)(p n:Nat)(cs':Array Value)(l:List Value)(hi:In cs' p l)(ho:Out p n (jO o s mt T) cs')(hl:l.length=n)(h1:In (jO o' s mt T) p l)(h2:∀j,j<36->¬(p<=j/\j<p+n)->(jO o' s mt T)[j]? = (jO o s mt T)[j]?):cs'=jO o' s mt T:=by
 apply Array.ext_getElem?;intro j;by_cases hj:p<=j/\j<p+n
 ·have e1:=hi (j-p) (by omega)
  have e2:=h1 (j-p) (by omega);rw[show p+(j-p)=j by omega]at e1 e2;rw[e1,e2]
 ·rw[ho.2 j hj]
  by_cases h36:j<36
  ·exact(h2 j h36 hj).symm
  ·rw[Array.getElem?_eq_none (by show 36<=j;omega),Array.getElem?_eq_none (by show 36<=j;omega)]
theorem AQ{o:Ob}{s:Os}{mt:Int}{T:Value}{r:rT}{cs':Array Value}(hi:In cs' 12 r.list)(ho:Out 12 3 (jO o s mt T) cs'):cs'=jO (o.bR r) s mt T :=
 Ip o _ s mt T 12 3 cs' r.list hi ho rfl (lZ _ s mt T) fun j hj hn=>match j,hj,hn with
  | 0,_,h=>rfl
  | 1,_,h=>rfl
  | 2,_,h=>rfl
  | 3,_,h=>rfl
  | 4,_,h=>rfl
  | 5,_,h=>rfl
  | 6,_,h=>rfl
  | 7,_,h=>rfl
  | 8,_,h=>rfl
  | 9,_,h=>rfl
  | 10,_,h=>rfl
  | 11,_,h=>rfl
  | 12,_,h=>absurd h (by omega)
  | 13,_,h=>absurd h (by omega)
  | 14,_,h=>absurd h (by omega)
  | 15,_,h=>rfl
  | 16,_,h=>rfl
  | 17,_,h=>rfl
  | 18,_,h=>rfl
  | 19,_,h=>rfl
  | 20,_,h=>rfl
  | 21,_,h=>rfl
  | 22,_,h=>rfl
  | 23,_,h=>rfl
  | 24,_,h=>rfl
  | 25,_,h=>rfl
  | 26,_,h=>rfl
  | 27,_,h=>rfl
  | 28,_,h=>rfl
  | 29,_,h=>rfl
  | 30,_,h=>rfl
  | 31,_,h=>rfl
  | 32,_,h=>rfl
  | 33,_,h=>rfl
  | 34,_,h=>rfl
  | 35,_,h=>rfl
  | j+36,h,_=>absurd h (by omega)
theorem tq{o:Ob}{s:Os}{mt:Int}{T:Value}{r:iC}{cs':Array Value}(hi:In cs' 9 r.list)(ho:Out 9 3 (jO o s mt T) cs'):cs'=jO (o.dB r) s mt T :=
 Ip o _ s mt T 9 3 cs' r.list hi ho rfl (kF _ s mt T) fun j hj hn=>match j,hj,hn with
  | 0,_,h=>rfl
  | 1,_,h=>rfl
  | 2,_,h=>rfl
  | 3,_,h=>rfl
  | 4,_,h=>rfl
  | 5,_,h=>rfl
  | 6,_,h=>rfl
  | 7,_,h=>rfl
  | 8,_,h=>rfl
  | 9,_,h=>absurd h (by omega)
  | 10,_,h=>absurd h (by omega)
  | 11,_,h=>absurd h (by omega)
  | 12,_,h=>rfl
  | 13,_,h=>rfl
  | 14,_,h=>rfl
  | 15,_,h=>rfl
  | 16,_,h=>rfl
  | 17,_,h=>rfl
  | 18,_,h=>rfl
  | 19,_,h=>rfl
  | 20,_,h=>rfl
  | 21,_,h=>rfl
  | 22,_,h=>rfl
  | 23,_,h=>rfl
  | 24,_,h=>rfl
  | 25,_,h=>rfl
  | 26,_,h=>rfl
  | 27,_,h=>rfl
  | 28,_,h=>rfl
  | 29,_,h=>rfl
  | 30,_,h=>rfl
  | 31,_,h=>rfl
  | 32,_,h=>rfl
  | 33,_,h=>rfl
  | 34,_,h=>rfl
  | 35,_,h=>rfl
  | j+36,h,_=>absurd h (by omega)
structure sJ(w:World)(g:Gh)(o:Ob)(s:Os)(T:Value):Prop where
 blk:aR w (g.bl o.name) (jO o s (g.mt o.name) T) 68
 rows:fM w g.A (g.bl o.name) o s (g.fr o.name)
 th:o.kind=3->T=.pointer (some ⟨g.tl o.name,0,none⟩)/\vv w g.A o.name (g.tl o.name) o.th (g.root o.name) (g.tabs o.name)
 no:o.kind≠3->T=.pointer none
theorem cZ.at{w:World}{g:Gh}{K:Km}{o:Ob}{n:Int}(h:cZ w g K)(ho:K.obj n=some o):∃s T,sJ w g o s T:=by
 obtain⟨s,T,h1,h2,h3,h4⟩:=(h.objs _ _ ho).2.ex;exact⟨s,T,h1,h2,h3,h4⟩
theorem sJ.below{w w':World}{g:Gh}{o:Ob}{s:Os}{T:Value}(h:sJ w g o s T)(k:Below w.heap.size w w'):sJ w' g o s T:=by
 have k0:=Kept.of_below (S:=fun _=>False) k;exact⟨h.blk.below k h.blk.lt,h.rows.kept k0 (dS.none w) (fun _ q=>q.elim) (fun _ _ e=>e),fun e=>⟨(h.th e).1,(h.th e).2.kept k0 (dS.none w) (fun _ q=>q.elim) (fun _ _ e=>e)⟩,h.no⟩
structure Et(o o':Ob):Prop where
 name:o'.name=o.name
 lab:o'.lab=o.lab
 clear:o'.clear=o.clear
 q:o'.q=o.q
 kids:o'.kids=o.kids
 maps:o'.maps=o.maps
 out:o'.out=o.out
 ring:o'.ring=o.ring
theorem fM.same{w:World}{A:Nat->Option (Int×Nat)}{b:Nat}{o o':Ob}{s:Os}{fr:List Int}(h:fM w A b o s fr)(e:Et o o'):fM w A b o' s fr:=by
 obtain⟨e1,e2,e3,e4,e5,e6,e7,e8⟩:=e;exact⟨by rw[e2];exact h.lab,by rw[e3];exact h.gG,by rw[e1,e4];exact h.q,by rw[e1,e5];exact h.kids,h.TL,by rw[e1];exact h.WW,by rw[e1,e6];exact h.maps,by rw[e1,e7];exact h.out,h.rat,by rw[e8];exact h.rn,by rw[e8];exact h.ring,by rw[e2,e3];exact h.ok⟩
section
variable {w w':World}{g:Gh}{K:Km}{o o':Ob}
theorem cZ.nums(h:cZ w g K)(ho:K.obj o.name=some o){s:Os}{T:Value}(hO:sJ w g o s T)
  (k:Kept (·=g.bl o.name) w w') (hB':aR w' (g.bl o.name) (jO o' s (g.mt o.name) T) 68) (e:Et o o') (hkind:o'.kind=o.kind) (hth:o'.th=o.th):cZ w' g (K.set o')/\Ext g g w w':=by
 obtain⟨hB,hR,h3,hT⟩:=hO;have hx:=(h.objs _ _ ho).2;have hm:dS w (·=g.bl o.name):=dS.of hB (by decide);refine h.wrote (o:=o) (s':=s) (T:=T) k hm ho (fun b q _=>⟨0,by rw[q];exact hx.tag⟩) (dK.refl g) (fun m=>dO.refl g m) ⟨rfl,rfl,rfl⟩ rfl (fun _ _ e=>e) (fun b hb=>h.kS b (bD k.size hb)) e.name hB' ?_ ?_ ?_
 ·exact(hR.kept k hm (fun c q _ i h1 _ e2=>by rw[q,hx.tag]at e2;cases e2;omega) (fun _ _ e=>e)).same e
 ·intro e1
  rw[hkind]at e1;rw[hth];exact⟨(h3 e1).1,(h3 e1).2.kept k hm (fun c q _ i hi e2=>by rw[q,hx.tag]at e2;cases e2;omega) (fun _ _ e=>e)⟩
 ·intro e1;rw[hkind]at e1;exact hT e1
theorem cZ.MK(h:cZ w g K)(ho:K.obj o.name=some o){s:Os}{T:Value}(hO:sJ w g o s T)
  {r:rT} (hP:Piece w w' (g.bl o.name) 68 12 (jO o s (g.mt o.name) T) 3 r.list):cZ w' g (K.set (o.bR r))/\Ext g g w w':=by
 obtain⟨cs',p1,p2,p3,p4,-⟩:=hP;rw[AQ p2 p3]at p1;exact h.nums ho hO p4 p1 ⟨rfl,rfl,rfl,rfl,rfl,rfl,rfl,rfl⟩ rfl rfl
theorem cZ.MJ(h:cZ w g K)(ho:K.obj o.name=some o){s:Os}{T:Value}(hO:sJ w g o s T)
  {r:iC} (hP:Piece w w' (g.bl o.name) 68 9 (jO o s (g.mt o.name) T) 3 r.list):cZ w' g (K.set (o.dB r))/\Ext g g w w':=by
 obtain⟨cs',p1,p2,p3,p4,-⟩:=hP;rw[tq p2 p3]at p1;exact h.nums ho hO p4 p1 ⟨rfl,rfl,rfl,rfl,rfl,rfl,rfl,rfl⟩ rfl rfl
end
theorem Km.set_set(K:Km)(a b:Ob)(e:b.name=a.name):(K.set a).set b=K.set b:=by
 unfold Km.set;congr 1
 funext n
 show(if n=b.name then some b else if n=a.name then some a else K.obj n)=if n=b.name then some b else K.obj n
 by_cases h:n=b.name
 ·rw[aD h,aD h]
 ·rw[aA h,aA h,aA (by rw[<-e];exact h)]
theorem Km.dz(K:Km)(o:Ob):(K.set o).obj o.name=some o:=aD rfl
theorem Km.aI(K:Km)(o:Ob){n:Int}(h:n≠o.name):(K.set o).obj n=K.obj n:=aA h
theorem Km.set_comm(K:Km)(a b:Ob)(e:a.name≠b.name):(K.set a).set b=(K.set b).set a:=by
 unfold Km.set;congr 1
 funext n
 show(if n=b.name then some b else if n=a.name then some a else K.obj n)=if n=a.name then some a else if n=b.name then some b else K.obj n
 by_cases h:n=b.name
 ·rw[aD h,aA (by rw[h];exact fun x=>e x.symm),aD h]
 ·rw[aA h,aA h]
theorem sJ.purse{w:World}{g:Gh}{o:Ob}{s:Os}{T:Value}(h:sJ w g o s T):w.cell? ⟨g.bl o.name,9,none⟩=some (.int .i64 o.purse.lim)/\w.cell? ⟨g.bl o.name,10,none⟩=some (.int .i64 o.purse.used)/\w.cell? ⟨g.bl o.name,11,none⟩=some (.int .i64 o.purse.given) :=
 ⟨(h.blk.cell 9).trans rfl,(h.blk.cell 10).trans rfl,(h.blk.cell 11).trans rfl⟩
theorem sJ.names{w:World}{g:Gh}{o:Ob}{s:Os}{T:Value}(h:sJ w g o s T):w.cell? ⟨g.bl o.name,12,none⟩=some (.int .u64 o.names.lo)/\w.cell? ⟨g.bl o.name,13,none⟩=some (.int .u64 o.names.next)/\w.cell? ⟨g.bl o.name,14,none⟩=some (.int .u64 o.names.hi) :=
 ⟨(h.blk.cell 12).trans rfl,(h.blk.cell 13).trans rfl,(h.blk.cell 14).trans rfl⟩
theorem sJ.name{w:World}{g:Gh}{o:Ob}{s:Os}{T:Value}(h:sJ w g o s T):w.cell? ⟨g.bl o.name,2,none⟩=some (.int .u64 o.name):=(h.blk.cell 2).trans rfl
theorem cZ.iV{w:World}{g:Gh}{K:Km}(h:cZ w g K):w.cell? ⟨g.kb,0,none⟩=some (.pointer (some ⟨g.tb,0,none⟩))/\w.cell? ⟨g.kb,1,none⟩=some (.pointer (some ⟨g.pb,0,none⟩)):=by
 obtain⟨cv,sv,dv,-,hB,-⟩:=h.gZ.ex;exact⟨(hB.cell 0).trans rfl,(hB.cell 1).trans rfl⟩
theorem mq{P:Program}{f:FuncId}{args:Array Value}{W:World}{Q:Ending->World->Prop}(h:∀w2,w2=W->Calls P f args w2 Q):Calls P f args W Q:=h _ rfl
structure Mk(w0 w:World)(g0 g:Gh)(K:Km)(xb:Nat)(x:Ob)(s:Os)(mt:Int)(T:Value)(tb:Nat):Prop where
 kin:cZ w g K
 ext:Ext g0 g w0 w
 blk:aR w xb (jO x s mt T) 68
 lab:bg w s.lp x.lab.ps
 no:g.A xb=none
 th:tb≠0->aR w tb (jw th0 ⟨.slice none 0 0,.slice none 0 0,.slice none 0 0,.slice none 0 0,.slice none 0 0,.slice none 0 0⟩ 0 0) 52/\g.A tb=none/\tb≠xb/\w0.heap.size<=tb
section
variable {w0 w w':World}{g0 g g':Gh}{K:Km}{xb:Nat}{x:Ob}{s:Os}{mt:Int}{T:Value}{tb:Nat}
theorem Mk.below(h:Mk w0 w g0 g K xb x s mt T tb)(k:Below w.heap.size w w'):Mk w0 w' g0 g K xb x s mt T tb :=
 ⟨h.kin.below k,h.ext.trans (Ext.below k),h.blk.below k h.blk.lt,aJ.below h.lab k (aj _),h.no,fun e=>⟨(h.th e).1.below k (h.th e).1.lt,(h.th e).2⟩⟩
theorem Mk.sO(h:Mk w0 w g0 g K xb x s mt T tb)(i:Nat)(v:Value){x':Ob}{s':Os}{WM:Int}{T':Value}(e:(jO x s mt T).setIfInBounds i v=jO x' s' WM T')(hl:s'.lp=s.lp/\x'.lab=x.lab)(h0:w0.heap.size<=xb):Mk w0 (w.setCell ⟨xb,i,none⟩ v) g0 g K xb x' s' WM T' tb :=
 ⟨h.kin.setCell h.blk (.inl h.no) (by decide) i v,⟨h.ext.al,h.ext.kept.oz xb i v h0,h.ext.tag,h.ext.bl⟩,(h.blk.set i v).cells e,by rw[hl.1,hl.2];exact bg.mild h.lab ((Kept.refl (·=xb) w).bC xb i v rfl) (dS.of h.blk (by decide)),h.no,fun e=>⟨(h.th e).1.aI (fun q=>(h.th e).2.2.1 q.symm) v,(h.th e).2⟩⟩
theorem Mk.names(h:Mk w0 w g0 g K xb x s mt T tb){o:Ob}(ho:K.obj o.name=some o){so:Os}{To:Value}(hO:sJ w g o so To){r:rT}(hP:Piece w w' (g.bl o.name) 68 12 (jO o so (g.mt o.name) To) 3 r.list):Mk w0 w' g0 g (K.set (o.bR r)) xb x s mt T tb:=by
 obtain⟨k1,k2⟩:=h.kin.MK ho hO hP;obtain⟨cs',p1,p2,p3,p4,-⟩:=hP;have ht:=(h.kin.objs _ _ ho).2.tag;exact⟨k1,h.ext.trans k2,p4.blk h.blk (fun e=>by rw[<-e,h.no]at ht;cases ht),bg.mild h.lab p4 (dS.of hO.blk (by decide)),h.no,fun e=>⟨p4.blk (h.th e).1 (fun q=>by rw[<-q,(h.th e).2.1]at ht;cases ht),(h.th e).2⟩⟩
theorem Mk.purse(h:Mk w0 w g0 g K xb x s mt T tb){o:Ob}(ho:K.obj o.name=some o){so:Os}{To:Value}(hO:sJ w g o so To){r:iC}(hP:Piece w w' (g.bl o.name) 68 9 (jO o so (g.mt o.name) To) 3 r.list):Mk w0 w' g0 g (K.set (o.dB r)) xb x s mt T tb:=by
 obtain⟨k1,k2⟩:=h.kin.MJ ho hO hP;obtain⟨cs',p1,p2,p3,p4,-⟩:=hP;have ht:=(h.kin.objs _ _ ho).2.tag;exact⟨k1,h.ext.trans k2,p4.blk h.blk (fun e=>by rw[<-e,h.no]at ht;cases ht),bg.mild h.lab p4 (dS.of hO.blk (by decide)),h.no,fun e=>⟨p4.blk (h.th e).1 (fun q=>by rw[<-q,(h.th e).2.1]at ht;cases ht),(h.th e).2⟩⟩
theorem sU{pb db ob:Nat}{P:Pool}(h:bB w pb db ob P):dS w (PS pb db ob):=by
 intro b cs ty fz e hh;rcases e with e|e|e
 ·cases e;have:=h.hp;unfold aR at this;rw[this]at hh;cases hh;decide
 ·cases e;have:=h.hd;unfold aR at this;rw[this]at hh;cases hh;decide
 ·cases e;have:=h.ho;unfold aR at this;rw[this]at hh;cases hh;decide
theorem Mk.pool(h:Mk w0 w g0 g K xb x s mt T tb){P':Pool}(hP:bB w' g.pb g.db g.ob P')(k:Kept (PS g.pb g.db g.ob) w w'):Mk w0 w' g0 { g with P:=P' } K xb x s mt T tb:=by
 have hm:=sU h.kin.pool
 have hn:∀b,PS g.pb g.db g.ob b->∃i,g.A b=some (0,i):=fun b q=>by
  rcases q with q|q|q
  ·exact⟨3,by rw[q];exact h.kin.tags.pb⟩
  ·exact⟨4,by rw[q];exact h.kin.tags.db⟩
  ·exact⟨5,by rw[q];exact h.kin.tags.ob⟩
 have hx:¬PS g.pb g.db g.ob xb:=fun q=>by obtain⟨i,e⟩:=hn xb q;rw[h.no]at e;cases e
 have hy:tb≠0->¬PS g.pb g.db g.ob tb:=fun q1 q=>by obtain⟨i,e⟩:=hn tb q;rw[(h.th q1).2.1]at e;cases e
 exact⟨h.kin.wD k hm (fun b q _=>.inr q) hP,h.ext.trans (Ext.wrote ⟨rfl,rfl,rfl,rfl,rfl,rfl,rfl,fun _ _ e=>e⟩ k (fun b q _=>by obtain⟨i,e⟩:=hn b q;exact⟨_,e⟩) (fun _ _ e=>e) (fun _ _=>⟨rfl,rfl⟩)),k.blk h.blk hx,bg.mild h.lab k hm,h.no,fun e=>⟨k.blk (h.th e).1 (hy e),(h.th e).2⟩⟩
end
def Ob.eF(o:Ob)(t:Th):Ob:={ o with th:=t }
structure rz(w:World)(g:Gh)(n:Int)(t:Th)(x:Ts):Prop where
 blk:aR w (g.tl n) (jw t x (g.root n) (g.tabs n)) 52
 rows:kY w g.A n t x
 tag:g.A (g.tl n)=some (n,10)
section
variable {w w':World}{g g':Gh}{K:Km}{o:Ob}
theorem cZ.gQ(h:cZ w g K){n:Int}(ho:K.obj n=some o)(hk:o.kind=3):∃x,rz w g o.name o.th x:=by
 obtain⟨s,T,h1,h2,h3,h4⟩:=(h.objs _ _ ho).2.ex;obtain⟨-,e2⟩:=h3 hk;obtain⟨x,e3,e4⟩:=e2.ex;exact⟨x,e3,e4,e2.tag⟩
theorem rz.below{n:Int}{t:Th}{x:Ts}(h:rz w g n t x)(k:Below w.heap.size w w'):rz w' g n t x :=
 ⟨h.blk.below k h.blk.lt,h.rows.kept (S:=fun _=>False) (Kept.of_below k) (dS.none w) (fun _ q=>q.elim) (fun _ _ e=>e),h.tag⟩
theorem cZ.pU(h:cZ w g K){n:Int}(ho:K.obj n=some o)(hk:o.kind=3):w.cell? ⟨g.bl n,19,none⟩=some (.pointer (some ⟨g.tl n,0,none⟩)):=by
 obtain⟨e1,e2⟩:=h.objs _ _ ho;obtain⟨s,T,h1,h2,h3,h4⟩:=e2.ex;rw[e1]at h1 h3;rw[(h3 hk).1]at h1;exact(h1.cell 19).trans rfl
theorem cZ.yS(h:cZ w g K)(ho:K.obj o.name=some o)(hk:o.kind=3){S:Nat->Prop}(k:Kept S w w')(hm:dS w S)(hS:∀b,S b->b<w.heap.size->∃i,10<=i/\g.A b=some (o.name,i))(l:dK g g')(hl:∀n,n≠o.name->dO g g' n)
  (hsame:g'.bl o.name=g.bl o.name/\g'.tl o.name=g.tl o.name/\g'.mt o.name=g.mt o.name/\g'.fr o.name=g.fr o.name) (ht2:g'.fC=g.fC/\g'.flush=g.flush/\g'.last=g.last) (hP:g'.P=g.P)
  (hnew:∀b,b<w.heap.size->g.A b=none->g'.A b=none) (Bg:∀b,w'.heap.size<=b->g'.A b=none) {t:Th} {x:Ts} (hB:aR w' (g.tl o.name) (jw t x (g'.root o.name) (g'.tabs o.name)) 52) (hR:kY w' g'.A o.name t x) :
  cZ w' g' (K.set (o.eF t))/\Ext g g' w w':=by
 obtain⟨e1,e2⟩:=h.objs _ _ ho;obtain⟨s,T,h1,h2,h3,h4⟩:=e2.ex;obtain⟨e3,e4⟩:=h3 hk;obtain⟨q1,q2,q3,q4⟩:=hsame
 have hb:∀n,g'.bl n=g.bl n/\g'.tl n=g.tl n:=fun n=>by
  by_cases e:n=o.name
  ·rw[e];exact⟨q1,q2⟩
  ·exact⟨(hl n e).bl,(hl n e).tl⟩
 have hlt:=h1.lt;refine⟨h.Tg k hm ho (fun b q ql=>.inr (by obtain⟨i,-,e⟩:=hS b q ql;exact⟨i,e⟩)) l hl q1 ht2 hP Bg rfl ⟨e2.pos,?_,?_,s,T,?_,?_,fun _=>?_,fun e=>absurd hk e⟩,Ext.wrote l k (fun b q ql=>by obtain⟨i,-,e⟩:=hS b q ql;exact⟨_,e⟩) hnew (fun n _=>hb n)⟩
 ·show g'.A (g'.bl o.name)=_
  rw[q1];exact l.A _ _ e2.tag
 ·show g'.pb<g'.bl o.name/\g'.db<g'.bl o.name/\g'.ob<g'.bl o.name
  rw[q1,l.pb,l.db,l.ob];exact e2.late
 ·show aR w' (g'.bl o.name) (jO (o.eF t) s (g'.mt o.name) T) _
  rw[q1,q3];exact k.blk h1 (fun q=>by obtain⟨i,hi,e⟩:=hS _ q hlt;rw[e2.tag]at e;cases e;omega)
 ·show fM w' g'.A (g'.bl o.name) (o.eF t) s (g'.fr o.name)
  rw[q1,q4];have:=h2.kept k hm (fun c q ql i _ h5 e=>by obtain⟨j,hj,e'⟩:=hS c q ql;rw[e']at e;cases e;omega) l.A;exact this.same ⟨rfl,rfl,rfl,rfl,rfl,rfl,rfl,rfl⟩
 ·show T=.pointer (some ⟨g'.tl o.name,0,none⟩)/\vv w' g'.A o.name (g'.tl o.name) t (g'.root o.name) (g'.tabs o.name)
  rw[q2];exact⟨e3,l.A _ _ e4.tag,x,hB,hR⟩
theorem cZ.AA(h:cZ w g K)(ho:K.obj o.name=some o)(hk:o.kind=3){x x':Ts}(hT:rz w g o.name o.th x)(k:Kept (·=g.tl o.name) w w'){t:Th}(hB:aR w' (g.tl o.name) (jw t x' (g.root o.name) (g.tabs o.name)) 52)
  (hx:x'.al=x.al/\x'.bZ=x.bZ/\x'.reads=x.reads/\x'.seen=x.seen/\x'.picks=x.picks) (ht:t.qF=o.th.qF/\t.cont.bZ=o.th.cont.bZ/\t.cont.reads=o.th.cont.reads/\t.cont.seen=o.th.cont.seen/\t.cont.picks=o.th.cont.picks)
  (hcl:bg w' x'.cp t.clear.ps) (Oh:∀i,0<=t.r i/\t.r i<=18446744073709551615) (hpc:0<=t.pc/\t.pc<=18446744073709551615) (hok:fV t.clear):cZ w' g (K.set (o.eF t))/\Ext g g w w':=by
 have hm:dS w (·=g.tl o.name):=dS.of hT.blk (by decide);have hr:=hT.rows.kept k hm (A':=g.A) (fun c q _ i hi e=>by rw[q,hT.tag]at e;cases e;omega) (fun _ _ e=>e);obtain⟨a1,a2,a3,a4,a5⟩:=hx;obtain⟨b1,b2,b3,b4,b5⟩:=ht
 exact h.yS ho hk k hm (fun b q _=>⟨10,aj _,by rw[q];exact hT.tag⟩) (dK.refl g) (fun n _=>dO.refl g n) ⟨rfl,rfl,rfl,rfl⟩ ⟨rfl,rfl,rfl⟩ rfl (fun _ _ e=>e) (fun b hb=>h.kS b (bD k.size hb)) hB
  ⟨hcl,by rw[a1,b1];exact hr.al,by rw[a2,b2];exact hr.bZ,by rw[a3,b3];exact hr.reads,by rw[a4,b4];exact hr.seen,by rw[a5,b5];exact hr.picks,Oh,hpc,hok⟩
end
theorem dD{w:World}{p:Addr}{v:Value}(h:w.cell? p=some v):w.drew.cell? p=some v:=h
attribute [local irreducible] World.setCell World.alloc World.drew World.setRow Calls Code.wp
theorem FQ(n m:Int)(w:World)(hm:1<=m/\m<=1000000) :
  Calls Tryz.prog 40 #[.int .i64 n,.int .i64 m] w fun e w'=>e=.returned (.int .i64 (n%m))/\w=w':=by
 have a1:-m<n.tmod m/\n.tmod m<m:=⟨by have:=Int.lt_tmod_of_pos n (show 0<m by omega);omega,Int.tmod_lt_of_pos n (by omega)⟩
 have a2:(n.tmod m+m).tmod m=n%m:=by
  rw[bQ (by omega),Int.add_emod_right];have e:=Int.tmod_add_mul_tdiv n m;have e2:(n.tmod m+m*n.tdiv m)%m=n.tmod m%m:=Int.add_mul_emod_self_left _ _ _;rw[e]at e2;exact e2.symm
 have w1:IntKind.i64.wrap (n.tmod m)=n.tmod m:=aV _ (by omega);have w2:IntKind.i64.wrap (n.tmod m+m)=n.tmod m+m:=aV _ (by omega)
 have w3:IntKind.i64.wrap ((n.tmod m+m).tmod m)=(n.tmod m+m).tmod m:=by
  rw[a2];have b1:=Int.emod_nonneg n (show m≠0 by omega);have b2:=Int.emod_lt_of_pos n (show 0<m by omega);exact aV _ (by omega)
 have h0:(m==0)=false:=by simp;omega
 have A2:=ah a2;clear a2 a1;go_enter Tryz.func40,Tryz.ntmps40
 go_wp2_with fail
 go_ret;refine⟨?_,rfl⟩;show Ending.returned (.int .i64 ((n.tmod m+m).tmod m))=_
 rw[A2.out]
theorem KX(b o:Nat)(slot:Nat)(t n:Int)(w:World)(hs:slot<8)(h0:w.cell? ⟨b,o,none⟩=some (.int .i64 slot))(h1:w.cell? ⟨b,o+3+slot,none⟩=some (.int .u64 t))(hn:1<=n/\n<=1000000)(ht:0<=t/\t<=18446744073709551615) :
  Calls Tryz.prog 93 #[.pointer (some ⟨b,o,none⟩),.int .i64 n] w fun e w'=>e=.returned (.int .i64 (t%n))/\Below w.heap.size w w':=by
 have a2:t.tmod n=t%n:=bQ ht.1;have b1:=Int.emod_nonneg t (show n≠0 by omega);have b2:=Int.emod_lt_of_pos t (show 0<n by omega);have w1:IntKind.u64.wrap n=n:=IntWalk.u64_in _ (by omega);have w2:IntKind.u64.wrap (t%n)=t%n:=IntWalk.u64_in _ (by omega);have w3:wrap64 (t%n)=t%n:=by unfold wrap64;omega
 have hz:(n==0)=false:=by
  have:¬(n=0):=by omega
  simpa using this
 have hl:¬n<1:=by omega
 have hs2:(slot:Int)<8:=by omega
 have k0:w.drew.cell? ⟨b,o,none⟩=some (.int .i64 slot):=dD h0;have k1:w.drew.cell? ⟨b,o+3+slot,none⟩=some (.int .u64 t):=dD h1;clear a2 b1 b2;go_enter Tryz.func93,Tryz.ntmps93
 go_wp2_with fail
 go_region
 all_goals
  go_wp2_with fail
  go_ret;refine⟨?_,(aC _ w).drew⟩;show Ending.returned (.int .i64 (wrap64 (t%n)))=_
  rw[w3]
end Go.Proofs.YtiadbhiadhgjkaaGreatDoor
