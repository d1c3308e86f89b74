import Derived.Test.YtiadbhiadhgjkaaGreatDoorZzSgR
set_option maxRecDepth 100000
set_option maxHeartbeats 1000000
namespace Go.Proofs.YtiadbhiadhgjkaaGreatDoor
open Go.RowKit
attribute [local irreducible] World.setCell World.alloc World.drew World.setRow Calls Code.wp row
theorem OM(rb:Nat)(a:Option Addr)(len cap at_:Nat)(w:World)(hR:vw w rb a len cap at_) :
  Calls Tryz.prog 192 #[.pointer (some ⟨rb,0,none⟩)] w fun e w'=>e=.returned (.tuple #[])/\w'=w.setCell ⟨rb,2,none⟩ (.bool true):=by
 have hcc:=aR.cell hR;have hfr:=aR.free hR;clear hR;go_enter Tryz.func192,Tryz.ntmps192
 go_wp2_with fail
 go_end0
 exact⟨rfl,rfl⟩
theorem JG(rb:Nat)(n:Int)(w:World)(hR:vw w rb none 0 0 0)(hn:1<=n/\n<=8) :
  Calls Tryz.prog 193 #[.pointer (some ⟨rb,0,none⟩),.int .i64 n] w fun e w'=>e=.returned (.slice none 0 0)/\Kept (fun k=>k=rb) w w':=by
 have HR:=ah hR;have hn0:¬n<0:=by omega
 have hn1:(0:Int)<n:=by omega
 have hcc:=aR.cell hR;have hfr:=aR.free hR;clear hR;go_enter Tryz.func193,Tryz.ntmps193
 go_wp2_with fail
 refine(IW rb none 0 0 0 _ HR.out).mono ?_;rintro e w' ⟨rfl,rfl⟩;go_wp2_with fail
 refine(CF rb none 0 0 0 _ HR.out (aj _) (Nat.zero_le _)).mono ?_;rintro e w' ⟨rfl,k,rfl⟩;go_wp2_with fail
 refine(OM rb none 0 0 0 _ (aR.drewN HR.out k)).mono ?_;rintro e w' ⟨rfl,rfl⟩;go_wp2_with fail
 go_ret;exact⟨rfl,((Kept.refl _ w).drewN k).bC _ _ _ rfl⟩
theorem Nv(rb:Nat)(w:World)(hR:vw w rb none 0 0 0) :
  Calls Tryz.prog 147 #[.pointer (some ⟨rb,0,none⟩),.int .i64 8] w fun e w'=>e=.returned (.int .u64 0)/\Kept (fun k=>k=rb) w w':=by
 have HR:=ah hR;clear hR;go_enter Tryz.func147,Tryz.ntmps147
 go_wp2_with fail
 refine(JG rb 8 _ HR.out ⟨by omega,by omega⟩).mono ?_;rintro e w1 ⟨rfl,hk⟩;have Hk:=ah hk;clear hk;go_wp2_with fail
 go_loopg [5,7,20] 0 (fun g x _ i wx=>x=.int .u64 0/\i=.int .i64 0/\wx=w1)
 case atStart=>exact⟨rfl,rfl,rfl⟩
 case round =>
  obtain⟨rfl,rfl,rfl⟩:=hrel;go_wp2_with fail
  go_ret;exact⟨rfl,Hk.out⟩
theorem Gt(pb db ob:Nat)(P:Pool)(t:Int)(i:Nat)(w:World)(hP:bB w pb db ob P)(ho:P.owner t=0)(hi:i<8) :
  Calls Tryz.prog 280 #[.pointer (some ⟨pb,0,none⟩),.int .i64 t,.int .i64 i] w fun e w'=>e=.returned (.int .u64 0)/\Below w.heap.size w w':=by
 have hfit:P.fits t ((i:Int)*8) 8=false:=by
  cases e:P.fits t ((i:Int)*8) 8 with
  | false=>rfl
  | true=>exact absurd ho ((P.nS _ _ _).1 e).1
 have HP:=ah hP;have BL:=ah hfit;have hi8:(i:Int)<8:=by omega
 clear hP hfit ho;go_enter Tryz.func280,Tryz.ntmps280
 go_wp2_with fail
 refine(QO pb db ob P t ((i:Int)*8) 8 _ HP.out BL.out).mono ?_;rintro e w2 ⟨rfl,rfl⟩;go_wp2_with fail
 refine(CS _ _ _ _).mono ?_;rintro e w3 ⟨rfl,hw3⟩;have hR:vw w3 w.heap.size none 0 0 0:=by rw[hw3];exact aR.new _ _ _
 have Hb3:Hid (Below w.heap.size w w3):=by unfold Hid;rw[hw3];exact(aC _ w).alloc (aj _) _
 have HR:=ah hR;clear hR hw3;go_wp2_with fail
 refine(Nv _ _ HR.out).mono ?_;rintro e w4 ⟨rfl,hK4⟩;have Hb4:Hid (Below w.heap.size w w4):=Hb3.out.trans (hK4.below Hb3.out.size (fun i hi e=>by omega));clear hK4;go_wp2_with fail
 go_ret;exact⟨rfl,Hb4.out⟩
theorem Ju(pb db ob:Nat)(P:Pool)(r:Int)(p:Nat)(w:World)(hP:bB w pb db ob P)(ho:P.owner r=0)(hp:p<4096) :
  Calls Tryz.prog 319 #[.pointer (some ⟨pb,0,none⟩),.int .i64 r,.int .i64 p] w fun e w'=>e=.returned (.tuple #[.int .i64 0,.bool false,.bool false])/\Below w.heap.size w w':=by
 have HP:=ah hP;have Ho:=ah ho;have hpi:(p:Int)<4096:=by omega
 clear hP ho;go_enter Tryz.func319,Tryz.ntmps319
 go_wp2_with fail
 go_loopg [9,10,11,19] 0 (fun g at_ _ _ i wx=>at_=.int .i64 r/\i=.int .i64 0/\wx=w)
 case atStart=>exact⟨rfl,rfl,rfl⟩
 case round =>
  obtain⟨rfl,rfl,rfl⟩:=hrel;go_wp2_with fail
  refine(mh 0 p _ (by omega) hp).mono ?_;rintro e w' ⟨rfl,rfl⟩;obtain⟨i,hi⟩:∃i,p/8^(3-0)%8=i:=⟨_,rfl⟩;have hi8:i<8:=by omega
  rw[hi];go_wp2_with fail
  refine(Gt pb db ob P r i _ HP.out Ho.out hi8).mono ?_;rintro e w' ⟨rfl,hb⟩;have hand:bits .and .u64 0 1=0:=by decide
  have Hb:=ah hb;clear hb;go_wp2_with fail
  go_ret3
  exact⟨rfl,Hb.out⟩
end Go.Proofs.YtiadbhiadhgjkaaGreatDoor
