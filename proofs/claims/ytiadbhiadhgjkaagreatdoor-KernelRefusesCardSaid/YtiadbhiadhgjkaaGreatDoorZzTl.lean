import Derived.Test.YtiadbhiadhgjkaaGreatDoorZzLib
set_option maxHeartbeats 1000000
namespace Go.Proofs.YtiadbhiadhgjkaaGreatDoor
open Go.RowKit
structure Pl where
 p:Nat->Int
 f:Nat->Int
 w:Nat->Bool
 n:Int
theorem idx(t:Pl)(k:Nat)(hk:k<4)(w:World) :
  (Instr.index 158 (.agg #[.int .i64 (t.p 0),.int .i64 (t.f 0),.bool (t.w 0),.int .i64 (t.p 1),.int .i64 (t.f 1),.bool (t.w 1),.int .i64 (t.p 2),.int .i64 (t.f 2),.bool (t.w 2),.int .i64 (t.p 3),.int .i64 (t.f 3),.bool (t.w 3)]) (.int .i64 k)).run Tryz.prog w=.ok (.agg #[.int .i64 (t.p k),.int .i64 (t.f k),.bool (t.w k)]) w:=by
 obtain rfl|rfl|rfl|rfl:k=0\/k=1\/k=2\/k=3:=by omega
 all_goals kernel_rfl
def Pl.hit(t:Pl)(page:Int)(wr:Bool)(k:Nat):Bool:=(t.f k != 0)&&(t.p k==page)&&(t.w k||!wr)
def Pl.find(t:Pl)(page:Int)(wr:Bool):Int :=
 if t.hit page wr 0 then t.f 0 else if t.hit page wr 1 then t.f 1 else if t.hit page wr 2 then t.f 2 else if t.hit page wr 3 then t.f 3 else 0
theorem tY(t:Pl)(page:Int)(rw:Bool)(k:Nat)(hk:k<4)(h1:∀j,j<k->t.hit page rw j=false)(h2:t.hit page rw k=true):t.find page rw=t.f k:=by
 obtain rfl|rfl|rfl|rfl:k=0\/k=1\/k=2\/k=3:=by omega
 ·simp[Pl.find,h2]
 ·simp[Pl.find,h1 0,h2]
 ·simp[Pl.find,h1 0,h1 1,h2]
 ·simp[Pl.find,h1 0,h1 1,h1 2,h2]
def Pl.qE(t:Pl)(page:Int):Nat->Int
 | 0=>-1
 | k+1=>if(t.f k != 0)&&(t.p k==page)then(k:Int)else t.qE page k
theorem Pl.SA(t:Pl)(page:Int)(k:Nat):-1<=t.qE page k/\t.qE page k<k:=by
 induction k with
 | zero=>simp[Pl.qE]
 | succ k ih=>unfold Pl.qE;split<;>omega
def upd{α:Type}(f:Nat->α)(k:Nat)(v:α):Nat->α:=fun j=>if j=k then v else f j
def Pl.store(t:Pl)(k:Nat)(page frame:Int)(rw:Bool)(n:Int):Pl:=⟨upd t.p k page,upd t.f k frame,upd t.w k rw,n⟩
def Pl.put(t:Pl)(page frame:Int)(rw:Bool):Pl :=
 if frame<1 then t else if t.qE page 4<0 then t.store t.n.toNat page frame rw ((t.n+1)%4)else t.store (t.qE page 4).toNat page frame rw t.n
def Pl.zero:Pl:=⟨fun _=>0,fun _=>0,fun _=>false,0⟩
def Pl.list(t:Pl):List Value:=[.int .i64 (t.p 0),.int .i64 (t.f 0),.bool (t.w 0),.int .i64 (t.p 1),.int .i64 (t.f 1),.bool (t.w 1),.int .i64 (t.p 2),.int .i64 (t.f 2),.bool (t.w 2),.int .i64 (t.p 3),.int .i64 (t.f 3),.bool (t.w 3),.int .i64 t.n]
structure zn(w:World)(b o:Nat)(t:Pl):Prop where
 c0:w.cell? ⟨b,o,none⟩=some (.int .i64 (t.p 0))
 c1:w.cell? ⟨b,o+1,none⟩=some (.int .i64 (t.f 0))
 c2:w.cell? ⟨b,o+2,none⟩=some (.bool (t.w 0))
 c3:w.cell? ⟨b,o+3,none⟩=some (.int .i64 (t.p 1))
 c4:w.cell? ⟨b,o+4,none⟩=some (.int .i64 (t.f 1))
 c5:w.cell? ⟨b,o+5,none⟩=some (.bool (t.w 1))
 c6:w.cell? ⟨b,o+6,none⟩=some (.int .i64 (t.p 2))
 c7:w.cell? ⟨b,o+7,none⟩=some (.int .i64 (t.f 2))
 c8:w.cell? ⟨b,o+8,none⟩=some (.bool (t.w 2))
 c9:w.cell? ⟨b,o+9,none⟩=some (.int .i64 (t.p 3))
 c10:w.cell? ⟨b,o+10,none⟩=some (.int .i64 (t.f 3))
 c11:w.cell? ⟨b,o+11,none⟩=some (.bool (t.w 3))
 c12:w.cell? ⟨b,o+12,none⟩=some (.int .i64 t.n)
theorem zn.of{w:World}{b o ty:Nat}{t:Pl}{cs:Array Value}(h:In cs o t.list)(hB:aR w b cs ty):zn w b o t :=
 ⟨h.cell hB 0 rfl,h.cell hB 1 rfl,h.cell hB 2 rfl,h.cell hB 3 rfl,h.cell hB 4 rfl,h.cell hB 5 rfl,h.cell hB 6 rfl,h.cell hB 7 rfl,h.cell hB 8 rfl,h.cell hB 9 rfl,h.cell hB 10 rfl,h.cell hB 11 rfl,h.cell hB 12 rfl⟩
attribute [local irreducible] World.setCell World.alloc World.drew World.setRow Calls Code.wp
theorem JF(b o:Nat)(t:Pl)(page:Int)(rw:Bool)(w:World)(hB:zn w b o t) :
  Calls Tryz.prog 318 #[.pointer (some ⟨b,o,none⟩),.int .i64 page,.bool rw] w fun e w'=>e=.returned (.int .i64 (t.find page rw))/\Below w.heap.size w w':=by
 obtain⟨c0,c1,c2,c3,c4,c5,c6,c7,c8,c9,c10,c11,c12⟩:=hB;go_enter Tryz.func318,Tryz.ntmps318
 go_wp2
 go_loopw [8,15] (fun _ i wx=>∃k:Nat,k<=4/\i=.int .i64 k/\(∀j,j<k->t.hit page rw j=false)/\Below w.heap.size w wx) (fun _ i _=>4-(intOf i).toNat)
 case atStart=>exact⟨0,by omega,rfl,by omega,aC _ _⟩
 case round =>
  obtain⟨k,hk,rfl,hno,hb⟩:=hrel;by_cases hlt:k<4
  ·have hi:=idx t k hlt
   have Yh:t.hit page rw k=(((t.f k != 0)&&(t.p k==page))&&(t.w k||!rw)):=rfl;have Hno:=ah hno;clear hno;have Zl:=ah Yh;clear Yh;have Hb:=ah hb;clear hb
   cases e1:(t.f k != 0)<;>cases e2:(t.p k==page)<;>cases e3:t.w k<;>cases rw
   all_goals go_wp2
   all_goals first
    | (go_roundw
       case rel =>
        refine⟨k+1,by omega,by go_num,fun j hj=>?_,Hb.out.alloc Hb.out.size _⟩;rcases Nat.lt_or_eq_of_le (Nat.le_of_lt_succ hj)with h|h
        ·exact Hno.out j h
        ·subst h;rw[Zl.out];simp[e1,e2,e3]
       case measure=>simp[intOf];omega)
    | (go_ret
       refine⟨?_,Hb.out.alloc Hb.out.size _⟩;have h1:=Hno.out;have h2:=Zl.out;rw[tY t page _ k hlt h1 (h2.trans (by simp[e1,e2,e3]))];rfl)
  ·go_wp2
   go_ret;have:k=4:=by omega
   subst this;refine⟨?_,hb⟩;simp[Pl.find,hno 0,hno 1,hno 2,hno 3]
theorem EX(b o ty:Nat)(t:Pl)(cs:Array Value)(w:World)(hB:aR w b cs ty)(hI:In cs o t.list) :
  Calls Tryz.prog 42 #[.pointer (some ⟨b,o,none⟩)] w fun e w'=>e=.returned (.tuple #[])/\Piece w w' b ty o cs 13 Pl.zero.list:=by
 have hc:zn w b o t:=zn.of hI hB;obtain⟨c0,c1,c2,c3,c4,c5,c6,c7,c8,c9,c10,c11,c12⟩:=hc;have hf:=hB.free;have HP:=ah (show Piece w w b ty o cs 13 t.list from Piece.refl hB hI);clear hB hI;go_enter Tryz.func42,Tryz.ntmps42
 go_wp2
 go_end0
 (refine⟨rfl,?_⟩;apply Piece.to)
 case h=>((repeat (first|exact HP.out|apply Piece.set|apply Piece.set0));all_goals decide)
 case e=>rfl
theorem Mq(b o ty:Nat)(t:Pl)(cs:Array Value)(page frame:Int)(rw:Bool)(w:World)(hB:aR w b cs ty)(hI:In cs o t.list)(aci:¬frame<1)(hn0:0<=t.n)(hn3:t.n<4) :
  Calls Tryz.prog 320 #[.pointer (some ⟨b,o,none⟩),.int .i64 page,.int .i64 frame,.bool rw] w fun e w'=>e=.returned (.tuple #[])/\Piece w w' b ty o cs 13 (t.put page frame rw).list:=by
 have hc:zn w b o t:=zn.of hI hB;obtain⟨c0,c1,c2,c3,c4,c5,c6,c7,c8,c9,c10,c11,c12⟩:=hc;have hp:t.put page frame rw=if t.qE page 4<0 then t.store t.n.toNat page frame rw ((t.n+1)%4)else t.store (t.qE page 4).toNat page frame rw t.n:=aA aci
 have HP:=ah hp;clear hp;have hf:=hB.free;have HQ:=ah (show Piece w w b ty o cs 13 t.list from Piece.refl hB hI);have HB:=ah hB;have HI:=ah hI;clear hB hI;go_enter Tryz.func320,Tryz.ntmps320
 go_wp2
 go_loopw [8,9,10,21] (fun a _ _ i wx=>∃k:Nat,k<=4/\i=.int .i64 k/\a=.int .i64 (t.qE page k)/\Below w.heap.size w wx) (fun _ _ _ i _=>4-(intOf i).toNat)
 case atStart=>exact⟨0,by omega,rfl,rfl,aC _ _⟩
 case round =>
  obtain⟨k,hk,rfl,rfl,hb⟩:=hrel;by_cases hlt:k<4
  ·have hi:=idx t k hlt
   have hs:t.qE page (k+1)=if(t.f k != 0)&&(t.p k==page)then(k:Int)else t.qE page k:=rfl
   have Hs:=ah hs;clear hs;have Hb:=ah hb;clear hb
   cases e1:(t.f k != 0)<;>cases e2:(t.p k==page)
   all_goals go_wp2
   all_goals go_roundw
   case rel=>exact⟨k+1,by omega,by go_num,by rw[Hs.out,e1];simp,Hb.out.alloc Hb.out.size _⟩
   case measure=>simp[intOf];omega
   case rel=>exact⟨k+1,by omega,by go_num,by rw[Hs.out,e1];simp,Hb.out.alloc Hb.out.size _⟩
   case measure=>simp[intOf];omega
   case rel=>exact⟨k+1,by omega,by go_num,by rw[Hs.out,e1,e2];simp,Hb.out.alloc Hb.out.size _⟩
   case measure=>simp[intOf];omega
   case rel=>exact⟨k+1,by omega,by go_num,by rw[Hs.out,e1,e2];simp,Hb.out.alloc Hb.out.size _⟩
   case measure=>simp[intOf];omega
  ·obtain rfl:k=4:=by omega
   have hc:zn _ b o t:=zn.of HI.out (HB.out.below hb HB.out.lt);clear c0 c1 c2 c3 c4 c5 c6 c7 c8 c9 c10 c11 c12;obtain⟨c0,c1,c2,c3,c4,c5,c6,c7,c8,c9,c10,c11,c12⟩:=hc;have hfr:=(HB.out.below hb HB.out.lt).free;have LM:=ah (HQ.out.below hb);have Hb:=ah hb;clear hb;have hbd:=t.SA page 4;have hcase:t.qE page 4=-1\/t.qE page 4=0\/t.qE page 4=1\/t.qE page 4=2\/t.qE page 4=3:=by omega
   have hcn:t.n=0\/t.n=1\/t.n=2\/t.n=3:=by omega
   clear hbd;rcases hcase with h|h|h|h|h
   ·rcases hcn with e|e|e|e
    all_goals go_wp2
    all_goals go_end0
    all_goals (refine⟨rfl,?_⟩;(try simp only[Nat.add_assoc,Nat.reduceAdd]);apply Piece.to)
    case h=>((repeat (first|exact LM.out|apply Piece.set|apply Piece.set0));all_goals decide)
    case e=>rw[HP.out];try simp[Pl.list,Pl.store,upd,h,e]
    case h=>((repeat (first|exact LM.out|apply Piece.set|apply Piece.set0));all_goals decide)
    case e=>rw[HP.out];try simp[Pl.list,Pl.store,upd,h,e]
    case h=>((repeat (first|exact LM.out|apply Piece.set|apply Piece.set0));all_goals decide)
    case e=>rw[HP.out];try simp[Pl.list,Pl.store,upd,h,e]
    case h=>((repeat (first|exact LM.out|apply Piece.set|apply Piece.set0));all_goals decide)
    case e=>rw[HP.out];try simp[Pl.list,Pl.store,upd,h,e]
   all_goals clear hcn
   all_goals go_wp2
   all_goals go_end0
   all_goals (refine⟨rfl,?_⟩;(try simp only[Nat.add_assoc,Nat.reduceAdd]);apply Piece.to)
   case h=>((repeat (first|exact LM.out|apply Piece.set|apply Piece.set0));all_goals decide)
   case e=>rw[HP.out];try simp[Pl.list,Pl.store,upd,h]
   case h=>((repeat (first|exact LM.out|apply Piece.set|apply Piece.set0));all_goals decide)
   case e=>rw[HP.out];try simp[Pl.list,Pl.store,upd,h]
   case h=>((repeat (first|exact LM.out|apply Piece.set|apply Piece.set0));all_goals decide)
   case e=>rw[HP.out];try simp[Pl.list,Pl.store,upd,h]
   case h=>((repeat (first|exact LM.out|apply Piece.set|apply Piece.set0));all_goals decide)
   case e=>rw[HP.out];try simp[Pl.list,Pl.store,upd,h]
end Go.Proofs.YtiadbhiadhgjkaaGreatDoor
