import Derived.Test.YtiadbhiadhgjkaaGreatDoorZzIsaR
import Derived.Test.YtiadbhiadhgjkaaGreatDoorZzLib
import Derived.Deep.RegionHeld3
set_option maxRecDepth 100000
set_option maxHeartbeats 1000000
namespace Go.Proofs.YtiadbhiadhgjkaaGreatDoor
open Go.RowKit
attribute [local irreducible] World.setCell World.alloc World.drew Calls Code.wp
theorem FJ(a b:Int)(i:Nat)(h0:0<=a)(h1:0<=b)(h2:b<2^i)(h3:a*2^i+b<4294967296):bits .or .u32 (a*2^i) b=a*2^i+b:=by
 obtain⟨a,rfl⟩:=Int.eq_ofNat_of_zero_le h0;obtain⟨b,rfl⟩:=Int.eq_ofNat_of_zero_le h1;have e1:((a:Int)*2^i)=((2^i*a:Nat):Int):=by rw[Int.natCast_mul,Int.natCast_pow,Int.mul_comm];rfl
 rw[e1]at h3 ⊢
 have h2':b<2^i:=by
  have:((b:Int))<((2^i:Nat):Int):=by rw[Int.natCast_pow];exact h2
  omega
 show IntKind.u32.wrap ((BitVec.ofInt 32 ((2^i*a:Nat):Int) ||| BitVec.ofInt 32 (b:Int)).toNat:Int)=_
 rw[BitVec.toNat_or,dw,dw,BitVec.toNat_ofNat,BitVec.toNat_ofNat,Nat.mod_eq_of_lt (by omega),Nat.mod_eq_of_lt (by omega),<-Nat.two_pow_add_eq_or_of_lt h2',IntKind.wrap_u32];omega
def Um(u:Int):Int:=if u<2147483648 then u else u-4294967296
theorem MI(u:Int)(h0:0<=u)(h1:u<4294967296):IntKind.i32.wrap u=Um u:=by
 rw[IntKind.wrap_i32];unfold Um;split<;>omega
theorem Ul(u:Int)(h0:0<=u)(h1:u<4294967296):-2147483648<=Um u/\Um u<=2147483647:=by
 unfold Um;split<;>omega
def yY(B:Nat->Int):Int:=B 4*16777216+B 5*65536+B 6*256+B 7
def nu(B:Nat->Int):Ins:=⟨B 0,B 1,B 2,B 3,Um (yY B)⟩
def KA:Value:=.agg #[.int .i64 0,.int .i64 0,.int .i64 0,.int .i64 0,.int .i32 0]
def Ins.dec(x:Ins):Value:=if x.right then x.v else KA
theorem acW(b o c:Nat)(B:Nat->Int)(w:World)(hB:∀j,0<=B j/\B j<=255)(h:∀j,j<8->w.cell? ⟨b,o+j,none⟩=some (.int .u8 (B j))) :
  Calls Tryz.prog 129 #[.slice (some ⟨b,o,none⟩) 8 c] w fun e w'=>e=.returned (.tuple #[(nu B).dec,.bool (nu B).right])/\Below w.heap.size w w':=by
 have h0:=h 0 (by omega);have h1:=h 1 (by omega);have h2:=h 2 (by omega);have h3:=h 3 (by omega);have h4:=h 4 (by omega);have h5:=h 5 (by omega);have h6:=h 6 (by omega);have h7:=h 7 (by omega);rw[Nat.add_zero]at h0;have n0:=World.new_ne w _ h0;have n1:=World.new_ne w _ h1;have n2:=World.new_ne w _ h2;have n3:=World.new_ne w _ h3;have n4:=World.new_ne w _ h4;have n5:=World.new_ne w _ h5;have n6:=World.new_ne w _ h6;have n7:=World.new_ne w _ h7;clear h;obtain⟨b0l,b0u⟩:=hB 0;obtain⟨b1l,b1u⟩:=hB 1;obtain⟨b2l,b2u⟩:=hB 2;obtain⟨b3l,b3u⟩:=hB 3;obtain⟨b4l,b4u⟩:=hB 4;obtain⟨b5l,b5u⟩:=hB 5;obtain⟨b6l,b6u⟩:=hB 6;obtain⟨b7l,b7u⟩:=hB 7;have c0:IntKind.i64.wrap (B 0)=B 0:=aV _ (by omega);have c1:IntKind.i64.wrap (B 1)=B 1:=aV _ (by omega);have c2:IntKind.i64.wrap (B 2)=B 2:=aV _ (by omega);have c3:IntKind.i64.wrap (B 3)=B 3:=aV _ (by omega);have c4:IntKind.u32.wrap (B 4)=B 4:=IntWalk.u32_in _ (by omega);have c5:IntKind.u32.wrap (B 5)=B 5:=IntWalk.u32_in _ (by omega);have c6:IntKind.u32.wrap (B 6)=B 6:=IntWalk.u32_in _ (by omega);have c7:IntKind.u32.wrap (B 7)=B 7:=IntWalk.u32_in _ (by omega);clear hB;obtain⟨n,hn⟩:∃n,Um (yY B)=n:=⟨_,rfl⟩;have e4:IntKind.u32.wrap (B 4*16777216)=B 4*16777216:=IntWalk.u32_in _ (by omega);have e5:IntKind.u32.wrap (B 5*65536)=B 5*65536:=IntWalk.u32_in _ (by omega)
 have e6:IntKind.u32.wrap (B 6*256)=B 6*256:=IntWalk.u32_in _ (by omega);have o1:bits .or .u32 (B 4*16777216) (B 5*65536)=B 4*16777216+B 5*65536:=FJ (B 4) (B 5*65536) 24 (by omega) (by omega) (by omega) (by omega)
 have o2:bits .or .u32 (B 4*16777216+B 5*65536) (B 6*256)=B 4*16777216+B 5*65536+B 6*256:=by
  have:=FJ (B 4*256+B 5) (B 6*256) 16 (by omega) (by omega) (by omega) (by omega);have e:(B 4*256+B 5)*2^16=B 4*16777216+B 5*65536:=by omega
  rwa [e]at this
 have o3:bits .or .u32 (B 4*16777216+B 5*65536+B 6*256) (B 7)=yY B:=by
  have:=FJ (B 4*65536+B 5*256+B 6) (B 7) 8 (by omega) (by omega) (by omega) (by omega);have e:(B 4*65536+B 5*256+B 6)*2^8=B 4*16777216+B 5*65536+B 6*256:=by omega
  rw[e]at this;exact this
 have en:IntKind.i32.wrap (yY B)=n:=by rw[MI _ (by unfold yY;omega) (by unfold yY;omega)];exact hn
 have hr:nu B=⟨B 0,B 1,B 2,B 3,n⟩:=by unfold nu;rw[hn]
 rw[hr];clear hr hn;have hb0:=Below.alloc (aC w.heap.size w) (aj _) (.cells #[.int .i64 0,.int .i64 0,.int .i64 0,.int .i64 0,.int .i32 0] 26);have Hb0:=ah hb0;clear hb0;go_enter Tryz.func129,Tryz.ntmps129
 go_wp2_with fail
 go_region_held3 (fun w'=>w'.cell? ⟨b,o,none⟩=some (.int .u8 (B 0))/\w'.cell? ⟨b,o+1,none⟩=some (.int .u8 (B 1))/\w'.cell? ⟨b,o+2,none⟩=some (.int .u8 (B 2))/\w'.cell? ⟨b,o+3,none⟩=some (.int .u8 (B 3))/\w'.cell? ⟨b,o+4,none⟩=some (.int .u8 (B 4))/\w'.cell? ⟨b,o+5,none⟩=some (.int .u8 (B 5))/\w'.cell? ⟨b,o+6,none⟩=some (.int .u8 (B 6))/\w'.cell? ⟨b,o+7,none⟩=some (.int .u8 (B 7))) (go_keep) (fail)
 clear n0 n1 n2 n3 n4 n5 n6 n7 h0 h1 h2 h3 h4 h5 h6 h7 c0 c1 c2 c3 c4 c5 c6 c7 e4 e5 e6 o1 o2 o3 en;go_wp2_with fail
 refine(JO _ _ _ _ _ _).mono ?_;rintro e w1 ⟨rfl,hb1⟩;have hA:=(((aR.new w #[.int .i64 0,.int .i64 0,.int .i64 0,.int .i64 0,.int .i32 0] 26).alloc (.cells #[.int .i64 (B 0),.int .i64 (B 1),.int .i64 (B 2),.int .i64 (B 3),.int .i32 n] 26)).drew.below hb1 (by simp;omega));have hN:=(aR.new (w.alloc (.cells #[.int .i64 0,.int .i64 0,.int .i64 0,.int .i64 0,.int .i32 0] 26)) #[.int .i64 (B 0),.int .i64 (B 1),.int .i64 (B 2),.int .i64 (B 3),.int .i32 n] 26).drew;rw[au]at hN;have hN:=hN.below hb1 (by simp);have Hb1:=ah (((Hb0.out.alloc (by simp) _).drew).trans (hb1.mono (by simp;omega)));clear hb1;have hAc:=hA.cell;have hAf:=hA.free;have hNc:=hN.cell;have HA:=ah hA;clear hA hN
 cases hr:Ins.right ⟨B 0,B 1,B 2,B 3,n⟩
 ·have hd:Hid (Ins.dec ⟨B 0,B 1,B 2,B 3,n⟩=KA):=by unfold Hid Ins.dec;rw[hr];rfl
  go_wp2_with fail
  exact bodyPost_ret (v:=.tuple #[KA,.bool false]) (by simp[results,Tryz.results129,go_sem,hAc,KA]) rfl ⟨by rw[hd.out,hr],(((((Hb1.out.setCell (by simp) _).setCell (by simp) _).setCell (by simp) _).setCell (by simp) _).setCell (by simp) _)⟩
 ·have hd:Hid (Ins.dec ⟨B 0,B 1,B 2,B 3,n⟩=Ins.v ⟨B 0,B 1,B 2,B 3,n⟩):=by unfold Hid Ins.dec;rw[hr];rfl
  go_wp2_with fail
  exact bodyPost_ret (v:=.tuple #[Ins.v ⟨B 0,B 1,B 2,B 3,n⟩,.bool true]) (by simp[results,Tryz.results129,go_sem,hAc,Ins.v]) rfl ⟨by rw[hd.out,hr],(((((Hb1.out.setCell (by simp) _).setCell (by simp) _).setCell (by simp) _).setCell (by simp) _).setCell (by simp) _)⟩
end Go.Proofs.YtiadbhiadhgjkaaGreatDoor
