import Derived.Test.YtiadbhiadhgjkaaGreatDoorZzKm
import Derived.Test.YtiadbhiadhgjkaaGreatDoorZzLib
import Derived.Deep.LoopGhost
import Derived.Deep.QuietTactic
import Derived.BigQuiet
set_option maxRecDepth 100000
set_option maxHeartbeats 40000000
namespace Go.Proofs.YtiadbhiadhgjkaaGreatDoor
open Go.RowKit
theorem KU(w:World):w.drewN 1=w.drew:=rfl
attribute [local irreducible] World.setCell World.alloc World.drew Calls Code.wp
attribute [local go_sem] Oper.semAt_some
theorem kG(da db:Nat):∀(g:Nat) (l m:List (Nat×Nat)),l.length+m.length<=g->cO da db (g+1) l m=cO da db g l m
 | 0,[],[],_=>rfl
 | 0,x::l,m,h=>by simp at h
 | 0,[],y::m,h=>by simp at h
 | g+1,[],[],_=>rfl
 | g+1,(c,x)::l,[],h=>by
  show _::cO da db (g+1) l []=_::cO da db g l []
  rw[kG da db g l [] (by simp at h ⊢;omega)]
 | g+1,[],(e,y)::m,h=>by
  show _::cO da db (g+1) [] m=_::cO da db g [] m
  rw[kG da db g [] m (by simp at h ⊢;omega)]
 | g+1,(c,x)::l,(e,y)::m,h=>by
  rw[cO,cO];simp only[aZ]at h;split
  ·rw[kG da db g l ((e,y)::m) (by simp only[aZ];omega)]
  ·split
   ·rw[kG da db g ((c,x)::l) m (by simp only[aZ];omega)]
   ·rw[kG da db g l m (by omega)]
def gM(da db:Nat)(l m:List (Nat×Nat)):List (Nat×Nat×Nat):=cO da db (l.length+m.length) l m
theorem Sz(da db:Nat)(p:Nat×Nat)(l:List (Nat×Nat)):gM da db (p::l) []=(p.1,p.2,db)::gM da db l []:=rfl
theorem Sy(da db:Nat)(q:Nat×Nat)(m:List (Nat×Nat)):gM da db [] (q::m)=(q.1,da,q.2)::gM da db [] m:=by
 unfold gM;rw[show([]:List (Nat×Nat)).length+(q::m).length=([]:List (Nat×Nat)).length+m.length+1 by simp];rfl
theorem Pp(da db:Nat)(p q:Nat×Nat)(l m:List (Nat×Nat))(h:p.1<q.1):gM da db (p::l) (q::m)=(p.1,p.2,db)::gM da db l (q::m):=by
 unfold gM;rw[show(p::l).length+(q::m).length=(l.length+(q::m).length)+1 by simp only[aZ];omega];obtain⟨c,x⟩:=p;obtain⟨e,y⟩:=q;rw[cO,aD h]
theorem Pq(da db:Nat)(p q:Nat×Nat)(l m:List (Nat×Nat))(h:q.1<p.1):gM da db (p::l) (q::m)=(q.1,da,q.2)::gM da db (p::l) m:=by
 unfold gM;rw[show(p::l).length+(q::m).length=((p::l).length+m.length)+1 by simp only[aZ];omega];obtain⟨c,x⟩:=p;obtain⟨e,y⟩:=q;rw[cO,aA (by simp only at h;omega),aD h]
theorem Pt(da db:Nat)(p q:Nat×Nat)(l m:List (Nat×Nat))(h:p.1=q.1):gM da db (p::l) (q::m)=(p.1,p.2,q.2)::gM da db l m:=by
 unfold gM;rw[show(p::l).length+(q::m).length=(l.length+m.length+1)+1 by simp only[aZ];omega];obtain⟨c,x⟩:=p;obtain⟨e,y⟩:=q;rw[cO,aA (by simp only at h;omega),aA (by simp only at h;omega),kG da db _ l m (aj _)]
def jQ(a b:dn):List (Nat×Nat×Nat):=(0,a.d,b.d)::nZ a b
def jX(w:World)(b:Nat)(l:dn):Prop:=∃s,aR w b #[.int .i64 (l.d:Nat),s] 43/\bg w s l.ps
theorem jX.open{w:World}{b:Nat}{l:dn}(h:jX w b l):∃ra ca,w.cell? ⟨b,0,none⟩=some (.int .i64 (l.d:Nat))/\w.cell? ⟨b,1,none⟩=some (.slice ra l.ps.length ca)/\l.ps.length<=ca/\bg w (.slice ra l.ps.length ca) l.ps:=by
 obtain⟨s,h1,h2⟩:=h;obtain⟨ra,ca,rfl,la1,la2⟩:=aJ.form h2;exact⟨ra,ca,by rw[h1.cell];rfl,by rw[h1.cell];rfl,la1,h2⟩
theorem IQ(a b:dn)(A B:Nat)(fid:FuncId)(caps:Array Value)(I Ix:List (Nat×Nat×Nat)->World->Prop)(w:World)
  (hE:∀args w,(callFunc fid args).run Tryz.prog w=.ok (.enter fid args) w) (hbd:a.ps.length<=1000/\b.ps.length<=1000)
  (hIL:∀pre W,I pre W->jX W A a/\jX W B b) (hId:∀pre W n,I pre W->I pre (W.drewN n))
  (hF:∀pre x W,I pre W->pre++[x] <+: jQ a b->Calls Tryz.prog fid (#[.int .u32 (x.1:Nat),.int .i64 (x.2.1:Nat),.int .i64 (x.2.2:Nat)]++caps) W fun e W' =>
   (e=.returned (.bool true)/\I (pre++[x]) W')\/(e=.returned (.bool false)/\Ix (pre++[x]) W'))
  (h0:I [] w) :
  Calls Tryz.prog 106 #[.func (.func fid) #[] caps,.pointer (some ⟨A,0,none⟩),.pointer (some ⟨B,0,none⟩)] w fun e W =>
   e=.returned (.tuple #[])/\(I (jQ a b) W\/∃pre,pre <+: jQ a b/\Ix pre W):=by
 obtain⟨b1,b2⟩:=hbd;have Qj:Hid (∀pre W,I pre W->I pre W.drew):=fun pre W h=>by rw[<-KU];exact hId pre W 1 h
 have HIL:=ah hIL;have ZW:=ah hId;have HF:=ah hF;have H0:=ah h0;obtain⟨ra,ca,x0,x1,la,-⟩:=(hIL _ _ h0).1.open;obtain⟨rb,cb,y0,y1,lb,-⟩:=(hIL _ _ h0).2.open;have Hf0:=ah (hF [] (0,a.d,b.d) w h0 ⟨nZ a b,rfl⟩);clear hIL hId hF h0;go_enter Tryz.func106,Tryz.ntmps106
 go_wp2_with fail
 refine Hf0.out.mono ?_;rintro e w1 (⟨rfl,h1⟩|⟨rfl,h1⟩);rotate_left
 ·go_wp2_with fail
  first|(refine bodyPost_end (results_none rfl _ _ _) rfl ?_)|(refine bodyPost_ret (results_none rfl _ _ _) rfl ?_)
  exact⟨rfl,.inr ⟨_,⟨nZ a b,rfl⟩,h1⟩⟩
 have H1:=ah h1;clear h1 x0 x1 y0 y1 la lb Hf0;have HA0:=ah (HIL.out _ _ H1.out).1;go_wp2_with fail
 go_loopg [4,5,6,7,8] (a.ps.length+b.ps.length) (fun g vi vk _ _ _ wx=>∃(i k:Nat) (pre:List (Nat×Nat×Nat)),i+k+g=a.ps.length+b.ps.length/\i<=a.ps.length/\k<=b.ps.length/\vi=.int .i64 i/\vk=.int .i64 k/\Hid (I pre wx)/\Hid (jQ a b=pre++gM a.d b.d (a.ps.drop i) (b.ps.drop k)))
 case atStart=>exact⟨0,0,_,by omega,by omega,by omega,rfl,rfl,H1,ah rfl⟩
 case round =>
  obtain⟨i,k,pre,hgk,hia,hkb,rfl,rfl,HI,HE⟩:=hrel;obtain⟨ra,ca,x0,x1,la,hpa⟩:=(HIL.out _ _ HI.out).1.open;obtain⟨rb,cb,y0,y1,lb,hpb⟩:=(HIL.out _ _ HI.out).2.open;have Hpa:=ah hpa;have Hpb:=ah hpb;clear hpa hpb HA0 H1;go_upto_region 2 with fail
  go_cut [27] (fun v wx=>v=.bool (decide (i<a.ps.length\/k<b.ps.length))/\wr=wx)
  case first =>
   by_cases hi:i<a.ps.length
   ·have hi':(i:Int)<a.ps.length:=by omega
    have Hd:Hid (decide (i<a.ps.length\/k<b.ps.length)=true):=bK (.inl hi);go_wp2_with fail
    go_meet;exact⟨by rw[Hd.out],rfl⟩
   ·have hi':¬(i:Int)<a.ps.length:=by omega
    by_cases hk:k<b.ps.length
    ·have hk':(k:Int)<b.ps.length:=by omega
     have Hd:Hid (decide (i<a.ps.length\/k<b.ps.length)=true):=bK (.inr hk);go_wp2_with fail
     go_meet;exact⟨by rw[Hd.out],rfl⟩
    ·have hk':¬(k:Int)<b.ps.length:=by omega
     have Hd:Hid (decide (i<a.ps.length\/k<b.ps.length)=false):=aX (fun h=>h.elim hi hk);go_wp2_with fail
     go_meet;exact⟨by rw[Hd.out],rfl⟩
  case rest =>
  obtain⟨rfl,hwc⟩:=hcut;obtain rfl:wr=wc:=hwc;by_cases hend:i<a.ps.length\/k<b.ps.length
  rotate_left
  ·have hall:jQ a b=pre:=by
    rw[HE.out,List.drop_eq_nil_of_le (by omega),List.drop_eq_nil_of_le (by omega)];exact List.append_nil _
   have Qa:=ah hall;rw[aX hend];clear hall;go_wp2_with fail
   first|(refine bodyPost_end (results_none rfl _ _ _) rfl ?_)|(refine bodyPost_ret (results_none rfl _ _ _) rfl ?_)
   exact⟨rfl,.inl (by rw[Qa.out];exact HI.out)⟩
  rw[bK hend];go_wp2_with fail
  go_quiet (fail)
  go_upto_block 2 with fail
  go_cut [4,5,6,7,8,54,96] (fun v4 v5 v6 v7 v8 _ _ wx=>∃(x:Nat×Nat×Nat) (i' k':Nat),v4=.int .i64 i'/\v5=.int .i64 k'/\v6=.int .u32 (x.1:Nat)/\v7=.int .i64 (x.2.1:Nat)/\v8=.int .i64 (x.2.2:Nat)/\i+k<i'+k'/\i'<=a.ps.length/\k'<=b.ps.length/\Hid (jQ a b=(pre++[x])++gM a.d b.d (a.ps.drop i') (b.ps.drop k'))/\Hid (I pre wx))
  case first =>
   by_cases hi:i<a.ps.length
   ·obtain⟨p,hp⟩:∃p,a.ps[i]? = some p:=⟨_,aQ hi⟩
    obtain⟨pb,rfl,-,p0,p1⟩:=bg.at Hpa.out hp;have hi':(i:Int)<a.ps.length:=by omega
    have hib:((i:Int)==(a.ps.length:Int))=false:=by simp;omega
    have hda:=drop_at hp;by_cases hk:k<b.ps.length
    ·obtain⟨q,hq⟩:∃q,b.ps[k]? = some q:=⟨_,aQ hk⟩
     obtain⟨qb,rfl,-,q0,q1⟩:=bg.at Hpb.out hq;have hk':(k:Int)<b.ps.length:=by omega
     have hkb':((k:Int)==(b.ps.length:Int))=false:=by simp;omega
     have hdb:=drop_at hq;by_cases c1:p.1<q.1
     ·have c1':(p.1:Int)<(q.1:Int):=by omega
      have hG:=(by rw[hda,hdb];exact Pp a.d b.d p q _ _ c1:gM a.d b.d (a.ps.drop i) (b.ps.drop k)=(p.1,p.2,b.d)::gM a.d b.d (a.ps.drop (i+1)) (b.ps.drop k));have hnx:jQ a b=(pre++[(p.1,p.2,b.d)])++gM a.d b.d (a.ps.drop (i+1)) (b.ps.drop k):=by rw[HE.out,hG,List.append_assoc];rfl
      have mQ:=ah hnx;clear hG hnx hda hdb hp hq;go_wp2_with fail
      go_quiet (fail)
      go_wp2_with fail
      go_quiet (fail)
      go_wp2_with fail
      go_meet;exact⟨(p.1,p.2,b.d),(i+1),k,by first|rfl|go_num,by first|rfl|go_num,rfl,rfl,rfl,by omega,by omega,by omega,mQ,ah (by repeat (first|with_reducible exact HI.out|with_reducible refine ZW.out _ _ _ ?_|with_reducible refine Qj.out _ _ ?_))⟩
     ·by_cases c2:q.1<p.1
      ·have c1':¬(p.1:Int)<(q.1:Int):=by omega
       have c2':(q.1:Int)<(p.1:Int):=by omega
       have hG:=(by rw[hda,hdb];exact Pq a.d b.d p q _ _ c2:gM a.d b.d (a.ps.drop i) (b.ps.drop k)=(q.1,a.d,q.2)::gM a.d b.d (a.ps.drop i) (b.ps.drop (k+1)));have hnx:jQ a b=(pre++[(q.1,a.d,q.2)])++gM a.d b.d (a.ps.drop i) (b.ps.drop (k+1)):=by rw[HE.out,hG,List.append_assoc];rfl
       have mQ:=ah hnx;clear hG hnx hda hdb hp hq;go_wp2_with fail
       go_quiet (fail)
       go_wp2_with fail
       go_quiet (fail)
       go_wp2_with fail
       go_quiet (fail)
       go_wp2_with fail
       go_meet;exact⟨(q.1,a.d,q.2),i,(k+1),by first|rfl|go_num,by first|rfl|go_num,rfl,rfl,rfl,by omega,by omega,by omega,mQ,ah (by repeat (first|with_reducible exact HI.out|with_reducible refine ZW.out _ _ _ ?_|with_reducible refine Qj.out _ _ ?_))⟩
      ·have c1':¬(p.1:Int)<(q.1:Int):=by omega
       have c2':¬(q.1:Int)<(p.1:Int):=by omega
       have hG:=(by rw[hda,hdb];exact Pt a.d b.d p q _ _ (by omega):gM a.d b.d (a.ps.drop i) (b.ps.drop k)=(p.1,p.2,q.2)::gM a.d b.d (a.ps.drop (i+1)) (b.ps.drop (k+1)));have hnx:jQ a b=(pre++[(p.1,p.2,q.2)])++gM a.d b.d (a.ps.drop (i+1)) (b.ps.drop (k+1)):=by rw[HE.out,hG,List.append_assoc];rfl
       have mQ:=ah hnx;clear hG hnx hda hdb hp hq;go_wp2_with fail
       go_quiet (fail)
       go_wp2_with fail
       go_quiet (fail)
       go_wp2_with fail
       go_quiet (fail)
       go_wp2_with fail
       go_meet;exact⟨(p.1,p.2,q.2),(i+1),(k+1),by first|rfl|go_num,by first|rfl|go_num,rfl,rfl,rfl,by omega,by omega,by omega,mQ,ah (by repeat (first|with_reducible exact HI.out|with_reducible refine ZW.out _ _ _ ?_|with_reducible refine Qj.out _ _ ?_))⟩
    ·obtain rfl:k=b.ps.length:=by omega
     have hdb:b.ps.drop b.ps.length=[]:=List.drop_length;have hG:=(by rw[hda,hdb];exact Sz a.d b.d p _:gM a.d b.d (a.ps.drop i) (b.ps.drop b.ps.length)=(p.1,p.2,b.d)::gM a.d b.d (a.ps.drop (i+1)) (b.ps.drop b.ps.length));have hnx:jQ a b=(pre++[(p.1,p.2,b.d)])++gM a.d b.d (a.ps.drop (i+1)) (b.ps.drop b.ps.length):=by rw[HE.out,hG,List.append_assoc];rfl
     have mQ:=ah hnx;clear hG hnx hda hdb hp;go_wp2_with fail
     go_region
     go_wp2_with fail
     go_quiet (fail)
     go_wp2_with fail
     go_meet;exact⟨(p.1,p.2,b.d),(i+1),b.ps.length,by first|rfl|go_num,by first|rfl|go_num,rfl,rfl,rfl,by omega,by omega,by omega,mQ,ah (by repeat (first|with_reducible exact HI.out|with_reducible refine ZW.out _ _ _ ?_|with_reducible refine Qj.out _ _ ?_))⟩
   ·obtain rfl:i=a.ps.length:=by omega
    have hda:a.ps.drop a.ps.length=[]:=List.drop_length;have hk:k<b.ps.length:=by omega
    obtain⟨q,hq⟩:∃q,b.ps[k]? = some q:=⟨_,aQ hk⟩;obtain⟨qb,rfl,-,q0,q1⟩:=bg.at Hpb.out hq;have hk':(k:Int)<b.ps.length:=by omega
    have hkb':((k:Int)==(b.ps.length:Int))=false:=by simp;omega
    have hdb:=drop_at hq;have hG:=(by rw[hda,hdb];exact Sy a.d b.d q _:gM a.d b.d (a.ps.drop a.ps.length) (b.ps.drop k)=(q.1,a.d,q.2)::gM a.d b.d (a.ps.drop a.ps.length) (b.ps.drop (k+1)));have hnx:jQ a b=(pre++[(q.1,a.d,q.2)])++gM a.d b.d (a.ps.drop a.ps.length) (b.ps.drop (k+1)):=by rw[HE.out,hG,List.append_assoc];rfl
    have mQ:=ah hnx;clear hG hnx hda hdb hq;go_wp2_with fail
    go_region
    go_wp2_with fail
    go_region
    go_wp2_with fail
    go_quiet (fail)
    go_wp2_with fail
    go_meet;exact⟨(q.1,a.d,q.2),a.ps.length,(k+1),by first|rfl|go_num,by first|rfl|go_num,rfl,rfl,rfl,by omega,by omega,by omega,mQ,ah (by repeat (first|with_reducible exact HI.out|with_reducible refine ZW.out _ _ _ ?_|with_reducible refine Qj.out _ _ ?_))⟩
  case rest =>
  obtain⟨x,i',k',rfl,rfl,rfl,rfl,rfl,hlt,hi2,hk2,mQ,HI2⟩:=hcut;have Hx:=ah (HF.out pre x wc HI2.out ⟨_,mQ.out.symm⟩);clear x0 x1 y0 y1 la lb Hpa Hpb;go_wp2_with fail
  refine Hx.out.mono ?_;rintro e w2 (⟨rfl,h2⟩|⟨rfl,h2⟩)
  ·have H2:=ah h2
   clear h2;go_wp2_with fail
   go_roundg (a.ps.length+b.ps.length-i'-k')
   case measure=>omega
   case rel=>exact⟨i',k',pre++[x],by omega,hi2,hk2,rfl,rfl,H2,mQ⟩
  ·have H2:=ah h2
   have Hp:=ah (show pre++[x] <+: jQ a b from⟨_,mQ.out.symm⟩);clear h2;go_wp2_with fail
   first|(refine bodyPost_end (results_none rfl _ _ _) rfl ?_)|(refine bodyPost_ret (results_none rfl _ _ _) rfl ?_)
   exact⟨rfl,.inr ⟨_,Hp.out,H2.out⟩⟩
end Go.Proofs.YtiadbhiadhgjkaaGreatDoor
