import Derived.Test.YtiadbhiadhgjkaaGreatDoorZzLib
import Derived.LoopN
import Derived.BigQuiet
set_option maxHeartbeats 1000000
namespace Go.Proofs.YtiadbhiadhgjkaaGreatDoor
open Go.RowKit
attribute [local irreducible] World.setCell World.alloc World.drew Calls Code.wp
structure Ins where
 op:Int
 a:Int
 b:Int
 c:Int
 bf:Int
def Ins.v(x:Ins):Value:=.agg #[.int .i64 x.op,.int .i64 x.a,.int .i64 x.b,.int .i64 x.c,.int .i32 x.bf]
def uM(r:Int):Bool:=decide (0<=r)&&decide (r<16)
def Ins.right(x:Ins):Bool:=(decide (1<=x.op)&&decide (x.op<=43))&&(uM x.a&&(uM x.b&&uM x.c))
theorem AL{r:Int}(h:uM r=false):r<0\/16<=r:=by
 unfold uM at h;simp at h;omega
theorem iJ{r:Int}(h:uM r=true):0<=r/\r<16:=by
 unfold uM at h;simpa using h
theorem Ins.gJ{x:Ins}(h:x.right=true):(1<=x.op/\x.op<=43)/\(0<=x.a/\x.a<16)/\(0<=x.b/\x.b<16)/\(0<=x.c/\x.c<16):=by
 unfold Ins.right at h;simp only[aM,aY]at h;exact⟨h.1,iJ h.2.1,iJ h.2.2.1,iJ h.2.2.2⟩
theorem JO(op a b c bf:Int)(w:World) :
  Calls Tryz.prog 148 #[.agg #[.int .i64 op,.int .i64 a,.int .i64 b,.int .i64 c,.int .i32 bf]] w fun e w'=>e=.returned (.bool (Ins.right ⟨op,a,b,c,bf⟩))/\Below w.heap.size w w':=by
 have hx:Ins.right ⟨op,a,b,c,bf⟩=((decide (1<=op)&&decide (op<=43))&&(uM a&&(uM b&&uM c))):=rfl;have Hx:=ah hx;clear hx;have i0:∀w,(Instr.index 317 (.agg #[.int .i64 a,.int .i64 b,.int .i64 c]) (.int .i64 0)).run Tryz.prog w=.ok (.int .i64 a) w:=fun _=>by kernel_rfl
 have i1:∀w,(Instr.index 317 (.agg #[.int .i64 a,.int .i64 b,.int .i64 c]) (.int .i64 1)).run Tryz.prog w=.ok (.int .i64 b) w:=fun _=>by kernel_rfl
 have i2:∀w,(Instr.index 317 (.agg #[.int .i64 a,.int .i64 b,.int .i64 c]) (.int .i64 2)).run Tryz.prog w=.ok (.int .i64 c) w:=fun _=>by kernel_rfl
 have hb:=(aC w.heap.size w).alloc (aj _) (.cells #[.int .i64 op,.int .i64 a,.int .i64 b,.int .i64 c,.int .i32 bf] 26);have Hb:=ah hb;clear hb
 cases ha:uM a
 ·have Ha:=ah ha
  rcases AL ha with h|h
  all_goals clear ha
  all_goals go_enter Tryz.func148,Tryz.ntmps148
  all_goals go_wp2_with fail
  all_goals refine wp_loop_rounds 1 ?_
  all_goals rw[rounds_succ]
  all_goals go_wp2_with fail
  all_goals go_ret
  all_goals exact⟨by rw[Hx.out,Ha.out];simp,Hb.out⟩
 cases hb:uM b
 ·have wm:=ah hb
  obtain⟨a0,a1⟩:=iJ ha;rcases AL hb with h|h
  all_goals clear ha hb
  all_goals go_enter Tryz.func148,Tryz.ntmps148
  all_goals go_wp2_with fail
  all_goals refine wp_loop_rounds 2 ?_
  all_goals rw[rounds_succ]
  all_goals go_wp2_with fail
  all_goals rw[rounds_succ]
  all_goals go_wp2_with fail
  all_goals go_ret
  all_goals exact⟨by rw[Hx.out,wm.out];simp,Hb.out⟩
 cases hc:uM c
 ·have Jf:=ah hc
  obtain⟨a0,a1⟩:=iJ ha;obtain⟨b0,b1⟩:=iJ hb;rcases AL hc with h|h
  all_goals clear ha hb hc
  all_goals go_enter Tryz.func148,Tryz.ntmps148
  all_goals go_wp2_with fail
  all_goals refine wp_loop_rounds 3 ?_
  all_goals rw[rounds_succ]
  all_goals go_wp2_with fail
  all_goals rw[rounds_succ]
  all_goals go_wp2_with fail
  all_goals rw[rounds_succ]
  all_goals go_wp2_with fail
  all_goals go_ret
  all_goals exact⟨by rw[Hx.out,Jf.out];simp,Hb.out⟩
 obtain⟨a0,a1⟩:=iJ ha;obtain⟨b0,b1⟩:=iJ hb;obtain⟨c0,c1⟩:=iJ hc;have Ha:=ah ha;have wm:=ah hb;have Jf:=ah hc;clear ha hb hc;by_cases h1:1<=op
 all_goals go_enter Tryz.func148,Tryz.ntmps148
 all_goals go_wp2_with fail
 all_goals refine wp_loop_rounds 4 ?_
 all_goals rw[rounds_succ]
 all_goals go_wp2_with fail
 all_goals rw[rounds_succ]
 all_goals go_wp2_with fail
 all_goals rw[rounds_succ]
 all_goals go_wp2_with fail
 all_goals rw[rounds_succ]
 all_goals go_wp2_with fail
 all_goals go_ret
 ·refine⟨?_,Hb.out⟩
  rw[Hx.out,Ha.out,wm.out,Jf.out];simp[h1];omega
 ·refine⟨?_,Hb.out⟩
  rw[Hx.out,Ha.out,wm.out,Jf.out];simp;omega
end Go.Proofs.YtiadbhiadhgjkaaGreatDoor
namespace Go.Proofs.YtiadbhiadhgjkaaGreatDoor
open Go.RowKit
def yH(w:World)(v:Value)(l:List Int):Prop :=
 ∃x c,v=.slice x l.length c/\(l=[]\/∃b o,x=some ⟨b,o,none⟩/\b<w.heap.size/\∀j,j<l.length->w.cell? ⟨b,o+j,none⟩=some (.int .u8 (l.getD j 0)))
theorem yH.UF{w:World}{b t c:Nat}{l:List Int}{cs:Array Value}(h:aR w b cs t)(hc:∀j,j<l.length->cs[j]? = some (.int .u8 (l.getD j 0))):yH w (.slice (some ⟨b,0,none⟩) l.length c) l :=
 ⟨_,c,rfl,.inr ⟨b,0,rfl,h.lt,fun j hj=>by rw[Nat.zero_add,h.cell,hc j hj]⟩⟩
end Go.Proofs.YtiadbhiadhgjkaaGreatDoor
namespace Go.Proofs.YtiadbhiadhgjkaaGreatDoor
open Go.RowKit
attribute [local irreducible] World.setCell World.alloc World.drew Calls Code.wp
def Jy(n:Int):Int:=n%4294967296
def Ins.enc(x:Ins):List Int:=[x.op,x.a,x.b,x.c,Jy x.bf/16777216,Jy x.bf/65536%256,Jy x.bf/256%256,Jy x.bf%256]
theorem Sb(op a b c bf:Int)(w:World)(h:Ins.right ⟨op,a,b,c,bf⟩=true)(hi:-2147483648<=bf/\bf<=2147483647) :
  Calls Tryz.prog 54 #[.agg #[.int .i64 op,.int .i64 a,.int .i64 b,.int .i64 c,.int .i32 bf]] w fun e w'=>∃v,e=.returned v/\yH w' v (Ins.enc ⟨op,a,b,c,bf⟩)/\Below w.heap.size w w':=by
 obtain⟨⟨o0,o1⟩,⟨a0,a1⟩,⟨b0,b1⟩,⟨c0,c1⟩⟩:=Ins.gJ h;clear h;simp only at o0 o1 a0 a1 b0 b1 c0 c1;obtain⟨i0,i1⟩:=hi;obtain⟨u,hu⟩:∃u:Int,Jy bf=u:=⟨_,rfl⟩;have hw:IntKind.u32.wrap bf=u:=by rw[<-hu];simp[IntKind.wrap_u32,Jy]
 have u0:0<=u:=by rw[<-hu];unfold Jy;omega
 have u1:u<=4294967295:=by rw[<-hu];unfold Jy;omega
 have Hu:=ah hu;clear hu;go_enter Tryz.func54,Tryz.ntmps54
 go_wp2_with fail
 go_ret;refine⟨_,rfl,?_,((aC _ _).alloc (aj _) _).alloc (by simp) _⟩;have hB:=aR.new (w.alloc (.cells #[.int .i64 op,.int .i64 a,.int .i64 b,.int .i64 c,.int .i32 bf] 26)) #[.int .u8 op,.int .u8 a,.int .u8 b,.int .u8 c,.int .u8 (u/16777216),.int .u8 (u/65536%256),.int .u8 (u/256%256),.int .u8 (u%256)] 5;rw[au]at hB;refine yH.UF (l:=Ins.enc ⟨op,a,b,c,bf⟩) (c:=8) hB fun j hj=>?_
 have hj:j<8:=hj;unfold Ins.enc;simp only[Hu.out];obtain rfl|rfl|rfl|rfl|rfl|rfl|rfl|rfl:j=0\/j=1\/j=2\/j=3\/j=4\/j=5\/j=6\/j=7:=by omega
 all_goals rfl
end Go.Proofs.YtiadbhiadhgjkaaGreatDoor
