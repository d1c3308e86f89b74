/- Of the proof of this claim: a joined text. -/
import Derived.Test.YtmlcgebahdcmaaaGreatDoorZzWoMr
import Derived.Deep.QuietTactic
import Derived.BigQuiet
import Derived.Deep.DeepCutAuto
import Derived.Deep.CutBlock
import Derived.IntWalk
import Derived.Test.YtmlcgebahdcmaaaGreatDoorZzPkA
import Derived.Test.YtmlcgebahdcmaaaGreatDoorZzFrA
import Derived.StillTailTactics
import Derived.Deep.LoopGhost
import Derived.Test.YtmlcgebahdcmaaaGreatDoorZzWoL
set_option maxRecDepth 100000
set_option maxHeartbeats 4000000
namespace Go.Proofs.YtmlcgebahdcmaaaGreatDoor
open Go.RowKit
theorem drew_eq (w : World) : ({ heap := w.heap, tape := w.tape, drawn := w.drawn + 1, os := w.os, output := w.output } : World) = w.drew := rfl
theorem Blk.drewN {w : World} {b t : Nat} {c : Array Value} (h : Blk w b c t) (n : Nat) : Blk (w.drewN n) b c t := h
theorem Kept.drewN {S : Nat -> Prop} {w w1 : World} (h : Kept S w w1) (n : Nat) : Kept S w (w1.drewN n) := ⟨h.os, h.tape, h.output, h.size, h.block⟩
theorem PoolAt.drewN {w : World} {pb db ob : Nat} {P : Pool} (h : PoolAt w pb db ob P) (n : Nat) : PoolAt (w.drewN n) pb db ob P :=
 ⟨h.hp, h.hd, h.ho, h.n1, h.n2, h.n3, h.lo, h.hi, h.bd⟩
theorem drew_size (w : World) : w.drew.heap.size = w.heap.size := rfl
end Go.Proofs.YtmlcgebahdcmaaaGreatDoor
namespace Go.Proofs.YtmlcgebahdcmaaaGreatDoor
open Go.RowKit
attribute [local irreducible] World.setCell World.alloc World.drew World.setRow Calls Code.wp row
def RdAt (w : World) (rb : Nat) (a : Option Addr) (len cap at_ : Nat) : Prop := Blk w rb #[.slice a len cap, .int .i64 at_, .bool false] 302
theorem pnew_any (a : Option Addr) (len cap : Nat) (w : World) :
  Calls Tryz.prog 142 #[.slice a len cap] w fun e w' => e = .returned (.pointer (some ⟨w.heap.size, 0, none⟩)) /\ w' = w.alloc (.cells #[.slice a len cap, .int .i64 0, .bool false] 302) := by
 go_enter Tryz.func142, Tryz.ntmps142
 go_wp2
 go_ret
 exact ⟨rfl, rfl⟩
theorem bad_any (rb : Nat) (a : Option Addr) (len cap at_ : Nat) (w : World) (hR : RdAt w rb a len cap at_) :
  Calls Tryz.prog 227 #[.pointer (some ⟨rb, 0, none⟩)] w fun e w' => e = .returned (.bool false) /\ w = w' := by
 have hc := Blk.cell hR
 clear hR
 go_enter Tryz.func227, Tryz.ntmps227
 go_wp2
 go_ret
 exact ⟨rfl, rfl⟩
theorem rest_any (rb : Nat) (a : Option Addr) (len cap at_ : Nat) (w : World) (hR : RdAt w rb a len cap at_) (h : at_ <= len) (hl : len <= maxLen) :
  Calls Tryz.prog 228 #[.pointer (some ⟨rb, 0, none⟩)] w fun e w' => e = .returned (.int .i64 ((len : Int) - at_)) /\ ∃ n, w' = w.drewN n := by
 have hc := Blk.cell hR
 unfold maxLen at hl
 clear hR
 have h1 : IntKind.i64.wrap ((len : Int) - at_) = (len : Int) - at_ := IntWalk.i64_in _ (by omega)
 go_enter Tryz.func228, Tryz.ntmps228
 go_wp2
 go_quiet (fail)
 go_wp2
 go_ret
 exact ⟨rfl, _, rfl⟩
theorem take_any (rb : Nat) (b o len cap at_ n : Nat) (B : Nat -> Int) (w : World) (hR : RdAt w rb (some ⟨b, o, none⟩) len cap at_) (hb : ∀ j, j < len -> w.cell? ⟨b, o + j, none⟩ = some (.int .u8 (B j)))
  (h1 : 1 <= n) (hn : at_ + n <= len) (hl : len <= cap) (hc : cap <= maxLen) (hc47 : n <= 64) (hrb : b ≠ rb) :
  Calls Tryz.prog 189 #[.pointer (some ⟨rb, 0, none⟩), .int .i64 n] w fun e w' =>
   ∃ v, e = .returned v /\ w'.ownsRow w.heap.size 5 1 v n ((List.range n).map fun j => Value.int .u8 (B (at_ + j))) /\ RdAt w' rb (some ⟨b, o, none⟩) len cap (at_ + n) /\ Kept (fun k => k = rb) w w' := by
 have hcc := Blk.cell hR
 have hfr := Blk.free hR
 have hlt := Blk.lt hR
 unfold maxLen at hc
 have hn1 : ¬ ((n : Int) < 0) := by omega
 have hn2 : (n : Int) <= (len : Int) - at_ := by omega
 obtain ⟨i0, hi, hz0, hz1, hz2⟩ := info_parts info5
 have Hi := Lib.hid hi; have Hz0 := Lib.hid hz0; have Hz1 := Lib.hid hz1; have Hz2 := Lib.hid hz2
 have HR := Lib.hid hR
 have Hb := Lib.hid hb
 have hlm : len <= maxLen := by unfold maxLen; omega
 clear hi hz0 hz1 hz2 hR hb
 go_enter Tryz.func189, Tryz.ntmps189
 go_wp2_with fail
 refine (bad_any rb _ _ _ _ _ HR.out).mono ?_
 rintro e w' ⟨rfl, rfl⟩
 go_wp2_with fail
 refine (rest_any rb _ _ _ _ _ HR.out (by omega) hlm).mono ?_
 rintro e w' ⟨rfl, nq, rfl⟩
 have HR2 : Hid (RdAt (w.drewN nq) rb (some ⟨b, o, none⟩) len cap at_) := HR.out
 have hcc2 := Blk.cell HR2.out
 have hfr2 := Blk.free HR2.out
 clear hlm
 go_wp2_with fail
 have hR3 : Blk ((w.drewN nq).setCell ⟨rb, 1, none⟩ (.int .i64 ((at_ : Int) + n))) rb #[.slice (some ⟨b, o, none⟩) len cap, .int .i64 ((at_ : Int) + n), .bool false] 302 := Blk.set HR2.out 1 _
 have hK3 : Kept (fun k => k = rb) w ((w.drewN nq).setCell ⟨rb, 1, none⟩ (.int .i64 ((at_ : Int) + n))) := ((Kept.refl (fun k => k = rb) w).drewN nq).setIn rb 1 _ rfl
 have hb3 : ∀ j, j < n -> ((w.drewN nq).setCell ⟨rb, 1, none⟩ (.int .i64 ((at_ : Int) + n))).cell? ⟨b, o + at_ + j, none⟩ = some (.int .u8 (B (at_ + j))) := by
  intro j hj
  rw [World.cell?_setCell_far _ _ _ _ (show rb ≠ b from fun e => hrb e.symm), Nat.add_assoc]
  exact Hb.out (at_ + j) (by omega)
 have Hb3 := Lib.hid hb3; have HK3 := Lib.hid hK3; have HR3 := Lib.hid hR3
 clear hb3 hK3 hR3 hcc hfr hcc2 hfr2
 generalize (w.drewN nq).setCell ⟨rb, 1, none⟩ (.int .i64 ((at_ : Int) + n)) = w3 at *
 have hcc := HR3.out.cell
 have hs1 : IntKind.i64.wrap ((at_ : Int) + n - n) = (at_ : Int) := by rw [show (at_ : Int) + n - n = at_ by omega]; exact IntWalk.i64_in _ (by omega)
 have hs2 : IntKind.i64.wrap (at_ : Int) = (at_ : Int) := IntWalk.i64_in _ (by omega)
 have hsl : ∀ w, (Instr.slice 44 (.slice (some ⟨b, o, none⟩) len cap) (some (.int .i64 at_)) (some (.int .i64 ((at_ : Int) + n))) none).run Tryz.prog w = .ok (.slice (some ⟨b, o + at_, none⟩) n (cap - at_)) w := by
  intro w
  have hq0 : (0 : Int) <= at_ := by omega
  have hqm : (at_ : Int) <= (at_ : Int) + n := by omega
  have hqm2 : (at_ : Int) + n <= cap := by omega
  have e1 : ((at_ : Int) + n).toNat = at_ + n := by omega
  have e2 : ¬ cap = at_ := by omega
  go_simp
 have HRd := Lib.hid HR3.out.drew
 have HKd := Lib.hid HK3.out.drew
 have Hbd : Hid (∀ j, j < n -> w3.drew.cell? ⟨b, o + at_ + j, none⟩ = some (.int .u8 (B (at_ + j)))) := fun j hj => by rw [World.cell?_drew]; exact Hb3.out j hj
 go_wp2_with fail
 go_still_tail 15, (by kernel_rfl)
 rw [drew_eq w3]
 go_wp2_with (at_builtin; refine wpList_append_own _ rfl _ _ 44 rfl w.heap.size 5 i0 (.int .u8 0) 1 1 Tryz.underlying44 Hi.out Hz0.out Hz1.out Hz2.out rfl (by decide) _ _ _ rfl (World.ownsRow_nil _ _ _ _) ⟨b, o + at_, none⟩ n _ ((List.range n).map fun j => Value.int .u8 (B (at_ + j))) rfl (by simp) (copy_src Hbd.out) (fun v hv => by obtain ⟨j, _, rfl⟩ := List.mem_map.1 hv; rfl) (by unfold maxLen; omega) (by omega) (by rw [drew_size]; exact HK3.out.size) ?_; intro v' w2 hown hgrow _)
 go_ret
 have hbg : Below w3.drew.heap.size w3.drew w2 := Below.grown (Below.refl _ _) hgrow (Nat.le_refl _) (fun k hk => by cases hk)
 refine ⟨_, rfl, by simpa using hown, ?_, ?_⟩
 ·have := HRd.out.below hbg HRd.out.lt
  unfold RdAt; rw [show ((at_ + n : Nat) : Int) = (at_ : Int) + n by omega]; exact this
 ·exact HKd.out.trans ((Kept.of_below hbg).mono fun k _ h => h)
theorem num_any (rb : Nat) (b o len cap at_ n : Nat) (B : Nat -> Int) (w : World) (hR : RdAt w rb (some ⟨b, o, none⟩) len cap at_) (hb : ∀ j, j < len -> w.cell? ⟨b, o + j, none⟩ = some (.int .u8 (B j)))
  (hB : ∀ j, 0 <= B j /\ B j <= 255) (h1 : 1 <= n) (h8 : n <= 8) (hn : at_ + n <= len) (hl : len <= cap) (hc : cap <= maxLen) (hrb : b ≠ rb) :
  Calls Tryz.prog 143 #[.pointer (some ⟨rb, 0, none⟩), .int .i64 n] w fun e w' =>
   e = .returned (.int .u64 (beN (fun j => B (at_ + j)) n)) /\ RdAt w' rb (some ⟨b, o, none⟩) len cap (at_ + n) /\ Kept (fun k => k = rb) w w' := by
 have hn1 : ¬ ((n : Int) < 1) := by omega
 have hn8 : ¬ ((8 : Int) < n) := by omega
 have HR := Lib.hid hR; have Hb := Lib.hid hb; have HB := Lib.hid hB; have Hc := Lib.hid hc; have Hl := Lib.hid hl
 clear hR hb hB hc hl
 go_enter Tryz.func143, Tryz.ntmps143
 go_wp2_with fail
 refine (take_any rb b o len cap at_ n B _ HR.out Hb.out h1 hn Hl.out Hc.out (by omega) hrb).mono ?_
 rintro e w2 ⟨v, rfl, hown, hR2, hK2⟩
 obtain ⟨C, hC⟩ : ∃ C : Nat -> Int, (fun j => B (at_ + j)) = C := ⟨_, rfl⟩
 have hCb : ∀ j, 0 <= C j /\ C j <= 255 := fun j => by rw [<- hC]; exact HB.out _
 have hown' : w2.ownsRow w.heap.size 5 1 v n ((List.range n).map fun j => Value.int .u8 (C j)) := by rw [<- hC]; exact hown
 have HC := Lib.hid hC
 clear hown hC
 obtain ⟨g, gc, cur, rfl, _, _, _⟩ := hown'.2.resolve_left (by rintro ⟨_, h0⟩; omega)
 have hcell : ∀ j, j < n -> w2.cell? ⟨g, j, none⟩ = some (.int .u8 (C j)) := fun j hj => by
  rw [hown'.cellAt j (by omega)]; simp [hj]
 have Hcell := Lib.hid hcell; have HR2 := Lib.hid hR2; have HK2 := Lib.hid hK2
 clear hown' hcell hR2 hK2
 go_wp2_with fail
 go_loop [5, 7, 20] (fun x _ i => ∃ k : Nat, k <= n /\ i = .int .i64 k /\ x = .int .u64 (beN C k)) (fun _ _ i => n - (intOf i).toNat)
 case atStart => exact ⟨0, by omega, rfl, rfl⟩
 case round =>
  obtain ⟨k, hk, rfl, rfl⟩ := hrel
  by_cases hlt : k < n
  ·have hcl := Hcell.out k hlt
   obtain ⟨c0, c1⟩ := hCb k
   obtain ⟨d0, d1⟩ := beN_bd C hCb k (by omega)
   have hor := or_u64 (beN C k) (C k) d0 c0 (by omega) d1
   have Hs : Hid (beN C (k + 1) = beN C k * 256 + C k) := rfl
   go_wp2_with fail
   go_round
   case rel => exact ⟨k + 1, by omega, by go_num, by rw [Hs.out]⟩
   case measure => simp [intOf]; omega
  ·obtain rfl : k = n := by omega
   go_wp2_with fail
   go_ret
   exact ⟨by rw [HC.out]; rfl, HR2.out, HK2.out⟩
end Go.Proofs.YtmlcgebahdcmaaaGreatDoor
namespace Go.Proofs.YtmlcgebahdcmaaaGreatDoor
open Go.RowKit
attribute [local irreducible] World.setCell World.alloc World.drew World.setRow Calls Code.wp
attribute [local go_sem] Oper.semAt_some
theorem results_ct {fn : Func} {t p : Tmp} {ty : TypeId} (h : fn.results = #[.cell p ty, .tmp t]) (tmps : Array Value) (w : World) (ad : Addr) (v : Value)
  (hp : tmps.getD p undef = .pointer (some ad)) (hL : (loadVar ty ad).run Tryz.prog w = .ok v w) :
  (results fn tmps).run Tryz.prog w = .ok (.tuple #[v, tmps.getD t undef]) w := by
 have hp' : tmps[p]?.getD undef = .pointer (some ad) := by simpa using hp
 simp [results, h, hp', asAddr, hL, Result.andThen]
theorem load_label (w : World) (lb : Nat) (cs : Array Value) (hs : cs.size = 2) (h : Blk w lb cs 72) : (loadVar 72 ⟨lb, 0, none⟩).run Tryz.prog w = .ok (.agg cs) w :=
 run_loadVar_row w lb 72 72 cs (0, 0) _ h Tryz.underlying72 rfl (by rw [hs]; kernel_rfl)
theorem ObjsIn.at {w : World} {a : Option Addr} {c : Nat} {os : List WObj} (h : ObjsIn w (.slice a os.length c) os) {k : Nat} {o : WObj} (hk : os[k]? = some o) :
  ∃ (b : Nat) (s : OSl), a = some ⟨b, 0, none⟩ /\ b < w.heap.size /\ ObjV w o s.ls s.lc s.vd s.vm /\ ∀ i, i < 12 -> w.cell? ⟨b, k * 12 + i, none⟩ = (objC o s.ls s.lc s.vd s.vm)[i]? := by
 obtain ⟨ss, h1, h2, h3⟩ := h
 have hlt := (List.getElem?_eq_some_iff.1 hk).1
 obtain ⟨s, hs⟩ : ∃ s, ss[k]? = some s := ⟨_, List.getElem?_eq_getElem (by omega)⟩
 obtain ⟨b, rfl, hb, hc⟩ := RowAt.cells h3 (by omega)
 refine ⟨b, s, rfl, hb, h2 k o s hk hs, fun i hi => ?_⟩
 have e := objsC_at os ss h1 k o s hk hs i hi
 have hl : i < (objC o s.ls s.lc s.vd s.vm).length := hi
 rw [List.getElem?_eq_getElem hl] at e ⊢
 exact hc _ _ e
structure WObj.bd (o : WObj) : Prop where
 k : I64 o.kind
 p : I64 o.parent
 pg : I64 o.pages
 nm : I64 o.names
 sp : I64 o.space
 pc : I64 o.pc
 ms : ∀ m ∈ o.maps, m.bd
 lab : o.lab.d <= 1000 /\ o.lab.ps.length <= 1000 /\ ∀ q ∈ o.lab.ps, q.1 < 4294967296 /\ q.2 <= 1000
 clr : o.clr.d <= 1000 /\ o.clr.ps.length <= 1000 /\ ∀ q ∈ o.clr.ps, q.1 < 4294967296 /\ q.2 <= 1000
 ln : o.data.length <= 100000 /\ o.maps.length <= 100000
theorem segs_any (x y z : Int) (sv : Value) (oa : Option Addr) (n oc : Nat) (hn : n <= 100000) (ms : List WMap) (v : Value) (w : World) (h : MapsIn w v ms) (hb : ∀ m ∈ ms, m.bd) (hl : ms.length <= 100000) :
  Calls Tryz.prog 73 #[.agg #[.int .i64 x, .int .i64 y, .int .i64 z, sv, .slice oa n oc], v] w fun e w' => e = .returned (.bool (ms.all fun m => decide (m.seg <= (n : Int)))) /\ Below w.heap.size w w' := by
 obtain ⟨a, c, rfl, hc1, hc2⟩ := RowAt.form h
 obtain ⟨wa, hwa⟩ : ∃ wa : World, wa = w.alloc (.cells #[.int .i64 x, .int .i64 y, .int .i64 z, sv, .slice oa n oc] 38) := ⟨_, rfl⟩
 obtain ⟨xb, hxb⟩ : ∃ xb, xb = w.heap.size := ⟨_, rfl⟩
 have HX : Hid (Blk wa xb #[.int .i64 x, .int .i64 y, .int .i64 z, sv, .slice oa n oc] 38) := by rw [hwa, hxb]; exact Blk.new _ _ _
 have HBa : Hid (Below w.heap.size w wa) := by rw [hwa]; exact (Below.refl _ w).alloc (Nat.le_refl _) _
 have HS := Lib.hid (fun w' (k : Below w.heap.size w w') => (RowAt.below h k (Nat.le_refl _) : MapsIn w' _ ms))
 have Hb := Lib.hid hb
 have Hxb := Lib.hid hxb
 have hw : IntKind.u64.wrap (n : Int) = n := IntWalk.u64_in _ (by omega)
 clear h hb
 go_enter Tryz.func73, Tryz.ntmps73
 go_wp2_with fail
 rw [<- hwa, <- hxb]
 clear hwa hxb
 go_loopg [6, 9] ms.length (fun g _ vi wx => ∃ k : Nat, k + g = ms.length /\ vi = .int .i64 k /\ Hid (Below w.heap.size w wx) /\ Hid (Blk wx xb #[.int .i64 x, .int .i64 y, .int .i64 z, sv, .slice oa n oc] 38) /\ Hid ((ms.take k).all (fun m => decide (m.seg <= (n : Int))) = true))
 case atStart => exact ⟨0, by omega, rfl, HBa, HX, Lib.hid rfl⟩
 case round =>
  obtain ⟨k, hk, rfl, HB, HX, HA⟩ := hrel
  by_cases hlt : k < ms.length
  ·have hlt' : (k : Int) < ms.length := by omega
   obtain ⟨m, hm⟩ : ∃ m, ms[k]? = some m := ⟨_, List.getElem?_eq_getElem hlt⟩
   obtain ⟨b, rfl, -, m0, m1, m2, m3, m4⟩ := MapsIn.at (HS.out _ HB.out) hm
   have hbd := (Hb.out m (List.mem_of_getElem? hm)).s
   have HBn : Hid (Below w.heap.size w (wr.alloc (.cells #[.int .i64 m.at_, .int .u64 m.seg, .int .i64 m.from_, .int .i64 m.n, .bool m.wr] 137))) := HB.out.alloc HB.out.size _
   have HXn : Hid (Blk (wr.alloc (.cells #[.int .i64 m.at_, .int .u64 m.seg, .int .i64 m.from_, .int .i64 m.n, .bool m.wr] 137)) xb #[.int .i64 x, .int .i64 y, .int .i64 z, sv, .slice oa n oc] 38) := HX.out.alloc _
   have hcx := HXn.out.cell
   have hcz := (Blk.new wr #[.int .i64 m.at_, .int .u64 m.seg, .int .i64 m.from_, .int .i64 m.n, .bool m.wr] 137).cell
   by_cases c1 : (n : Int) < m.seg
   ·have Hd : Hid ((ms.all fun m => decide (m.seg <= (n : Int))) = false) := all_not (fun m : WMap => decide (m.seg <= (n : Int))) hm (decide_eq_false (by omega))
    clear hm
    go_wp2_with fail
    go_ret
    exact ⟨by rw [Hd.out]; rfl, HBn.out⟩
   ·have HA2 := Lib.hid (take_all (fun m : WMap => decide (m.seg <= (n : Int))) hm HA.out (decide_eq_true (by omega)))
    clear hm
    go_wp2_with fail
    go_roundg (ms.length - (k + 1))
    case measure => omega
    case rel => exact ⟨k + 1, by omega, by go_num, HBn, HXn, HA2⟩
  ·obtain rfl : k = ms.length := by omega
   rw [List.take_length] at HA
   go_wp2_with fail
   go_ret
   exact ⟨by rw [HA.out]; rfl, HB.out⟩
theorem lab_of_any (d : Nat) (w : World) :
  Calls Tryz.prog 24 #[.int .i64 (d : Int)] w fun e w' => e = .returned (.agg #[.int .i64 (d : Int), .slice none 0 0]) /\ Below w.heap.size w w' := by
 have HB : Hid (Below w.heap.size w (w.alloc (.cells #[.int .i64 (d : Int), .slice none 0 0] 72))) := (Below.refl _ w).alloc (Nat.le_refl _) _
 have HF : Hid (Blk (w.alloc (.cells #[.int .i64 (d : Int), .slice none 0 0] 72)) w.heap.size #[.int .i64 (d : Int), .slice none 0 0] 72) := Blk.new _ _ _
 go_enter Tryz.func24, Tryz.ntmps24
 go_wp2_with fail
 refine bodyPost_ret (results_cell_row rfl _ _ w.heap.size _ _ (0, 0) _ rfl HF.out Tryz.underlying72 rfl (by kernel_rfl)) rfl ?_
 exact ⟨rfl, HB.out⟩
theorem merge_any (f : Nat -> Nat -> Nat) (a b : Lab) (va vb lv : Value) (w : World) (ha : LabOk a) (hb : LabOk b) (hA : LabIn w va a) (hB : LabIn w vb b) (hlv : ∃ lid caps, lv = .func (.func lid) #[] caps) (hF : ∀ W', Below w.heap.size w W' -> LevF lv f W') :
  Calls Tryz.prog 86 #[va, vb, lv] w fun e w' => ∃ v, e = .returned v /\ LabIn w' v (Lab.merge f a b) /\ Below w.heap.size w w' := by
 obtain ⟨lid, caps, rfl⟩ := hlv
 obtain ⟨sa, rfl, ha1⟩ := hA
 obtain ⟨sb, rfl, hb1⟩ := hB
 obtain ⟨ra, ca, rfl, -, -⟩ := RowAt.form ha1
 obtain ⟨rb, cb, rfl, -, -⟩ := RowAt.form hb1
 obtain ⟨h0, hh0⟩ : ∃ h0, h0 = w.heap.size := ⟨_, rfl⟩
 obtain ⟨wa, hwa⟩ : ∃ wa : World, wa = ((w.alloc (.cells #[.int .i64 (a.d : Nat), .slice ra a.ps.length ca] 72)).alloc (.cells #[.int .i64 (b.d : Nat), .slice rb b.ps.length cb] 72)).alloc (.cells #[.func (.func lid) #[] caps] 139) := ⟨_, rfl⟩
 obtain ⟨wb, hwb⟩ : ∃ wb : World, wb = wa.alloc (.cells #[.int .i64 0, .slice none 0 0] 72) := ⟨_, rfl⟩
 obtain ⟨w5, hw5⟩ : ∃ w5 : World, w5 = wb.alloc (.cells #[.int .i64 0, .slice none 0 0] 72) := ⟨_, rfl⟩
 have hza : wa.heap.size = h0 + 1 + 1 + 1 := by rw [hwa, hh0]; simp
 have hzb : wb.heap.size = h0 + 1 + 1 + 1 + 1 := by rw [hwb, World.size_alloc, hza]
 have hz5 : w5.heap.size = h0 + 1 + 1 + 1 + 1 + 1 := by rw [hw5, World.size_alloc, hzb]
 have hBa : Below w.heap.size w wa := by rw [hwa]; exact (((Below.refl _ w).alloc (Nat.le_refl _) _).alloc (by simp) _).alloc (by simp; omega) _
 have hBb : Below w.heap.size w wb := by rw [hwb]; exact hBa.alloc hBa.size _
 have hB5 : Below w.heap.size w w5 := by rw [hw5]; exact hBb.alloc hBb.size _
 have hXl : Blk w5 (h0 + 1 + 1) #[.func (.func lid) #[] caps] 139 := by
  rw [hw5, hwb]
  refine Blk.alloc (Blk.alloc ?_ _) _
  rw [hwa, hh0]
  have := Blk.new ((w.alloc (.cells #[.int .i64 (a.d : Nat), .slice ra a.ps.length ca] 72)).alloc (.cells #[.int .i64 (b.d : Nat), .slice rb b.ps.length cb] 72)) #[.func (.func lid) #[] caps] 139
  rw [World.size_alloc, World.size_alloc] at this
  exact this
 have hXr : Blk w5 (h0 + 1 + 1 + 1) #[.int .i64 0, .slice none 0 0] 72 := by
  rw [hw5, hwb, <- hza]; exact (Blk.new _ _ _).alloc _
 have hXo : Blk w5 (h0 + 1 + 1 + 1 + 1) #[.int .i64 0, .slice none 0 0] 72 := by
  rw [hw5, <- hzb]; exact Blk.new _ _ _
 have hA0 : Blk w5 h0 #[.int .i64 (a.d : Nat), .slice ra a.ps.length ca] 72 := by
  rw [hw5, hwb, hwa, hh0]; exact ((((Blk.new _ _ _).alloc _).alloc _).alloc _).alloc _
 have hB0 : Blk w5 (h0 + 1) #[.int .i64 (b.d : Nat), .slice rb b.ps.length cb] 72 := by
  rw [hw5, hwb, hwa, hh0]
  refine Blk.alloc (Blk.alloc (Blk.alloc ?_ _) _) _
  have := Blk.new (w.alloc (.cells #[.int .i64 (a.d : Nat), .slice ra a.ps.length ca] 72)) #[.int .i64 (b.d : Nat), .slice rb b.ps.length cb] 72
  rw [World.size_alloc] at this
  exact this
 have Hm := Lib.hid (both_made a.d b.d (.slice ra a.ps.length ca) (.slice rb b.ps.length cb) w5)
 have htwo := labBox_two a.d b.d (.slice ra a.ps.length ca) (.slice rb b.ps.length cb) w5 a b ⟨_, rfl, RowAt.below ha1 hB5 (Nat.le_refl _)⟩ ⟨_, rfl, RowAt.below hb1 hB5 (Nat.le_refl _)⟩
 obtain ⟨W2, hW2⟩ : ∃ W2 : World, W2 = (w5.alloc (labBoxV a.d (.slice ra a.ps.length ca))).alloc (labBoxV b.d (.slice rb b.ps.length cb)) := ⟨_, rfl⟩
 rw [<- hW2] at htwo
 have hb2 : Below w5.heap.size w5 W2 := by rw [hW2]; exact ((Below.refl _ w5).alloc (Nat.le_refl _) _).alloc (by simp) _
 have hz2 : w5.heap.size <= W2.heap.size := hb2.size
 have hb02 : Below w.heap.size w W2 := bel_from hB5 hb2
 have Hmb := Lib.hid (merge_both f a b w5.heap.size (w5.heap.size + 1) (h0 + 1 + 1) (h0 + 1 + 1 + 1 + 1) W2.heap.size 139 (.func (.func lid) #[] caps) W2 ha hb htwo.1 htwo.2
  (Blk.below hXl hb2 hXl.lt) rfl (Blk.below hXo hb2 hXo.lt) (by rw [hz5]; omega) (fun W' k => hF W' (hb02.trans (k.below hb02.size (fun i hi e => by rcases e with e | e <;> omega)))))
 have HXr2 := Lib.hid (Blk.below hXr hb2 hXr.lt)
 have Hfin : Hid (∀ W3, Kept (fun b => b = h0 + 1 + 1 + 1 + 1 \/ W2.heap.size <= b) W2 W3 -> Below w.heap.size w W3 /\ Blk W3 (h0 + 1 + 1 + 1) #[.int .i64 0, .slice none 0 0] 72) := fun W3 k =>
  ⟨hb02.trans (k.below hb02.size (fun i hi e => by rcases e with e | e <;> omega)), HXr2.out.below' k (fun e => by have := HXr2.out.lt; rcases e with e | e <;> omega)⟩
 have ca0 : w5.cell? ⟨h0, 0, none⟩ = some (.int .i64 (a.d : Nat)) := by rw [hA0.cell]; rfl
 have ca1 : w5.cell? ⟨h0, 1, none⟩ = some (.slice ra a.ps.length ca) := by rw [hA0.cell]; rfl
 have cb0 : w5.cell? ⟨h0 + 1, 0, none⟩ = some (.int .i64 (b.d : Nat)) := by rw [hB0.cell]; rfl
 have cb1 : w5.cell? ⟨h0 + 1, 1, none⟩ = some (.slice rb b.ps.length cb) := by rw [hB0.cell]; rfl
 have HW2 := Lib.hid hW2; have Hh0 := Lib.hid hh0
 have HW5 : Hid (w5 = ((((w.alloc (.cells #[.int .i64 (a.d : Nat), .slice ra a.ps.length ca] 72)).alloc (.cells #[.int .i64 (b.d : Nat), .slice rb b.ps.length cb] 72)).alloc (.cells #[.func (.func lid) #[] caps] 139)).alloc (.cells #[.int .i64 0, .slice none 0 0] 72)).alloc (.cells #[.int .i64 0, .slice none 0 0] 72)) := by show _ = _; rw [hw5, hwb, hwa]
 clear ha1 hb1 hF hwa hwb hw5 hza hzb hz5 hBa hBb hB5 hXl hXr hXo hA0 hB0 htwo hW2 hb2 hb02 hh0
 go_enter Tryz.func86, Tryz.ntmps86
 go_upto_region 2 with fail
 rw [<- HW5.out, <- Hh0.out]
 go_wp2_with fail
 refine Hm.out.mono ?_
 rintro e W2' ⟨rfl, rfl⟩
 rw [<- HW2.out]
 clear ca0 ca1 cb0 cb1
 go_wp2_with fail
 refine Hmb.out.mono ?_
 rintro e W3 ⟨rfl, ho, hk⟩
 obtain ⟨s, h1, h2⟩ := ho.row
 obtain ⟨av, cv, rfl, -, -⟩ := RowAt.form (RowAt.own h2)
 obtain ⟨hb3, hr3⟩ := Hfin.out W3 hk
 have hc1 := h1.cell
 have hcr := hr3.cell
 have hfr := hr3.free
 have HR := Lib.hid (show LabIn ((W3.setCell ⟨h0 + 1 + 1 + 1, 0, none⟩ (.int .i64 ((Lab.merge f a b).d : Nat))).setCell ⟨h0 + 1 + 1 + 1, 1, none⟩ (.slice av (Lab.merge f a b).ps.length cv)) (.agg #[.int .i64 ((Lab.merge f a b).d : Nat), .slice av (Lab.merge f a b).ps.length cv]) (Lab.merge f a b) from
  ⟨_, rfl, RowAt.kept (RowAt.own h2) (((Kept.refl (· = h0 + 1 + 1 + 1) W3).setIn (h0 + 1 + 1 + 1) 0 _ rfl).setIn (h0 + 1 + 1 + 1) 1 _ rfl) (fun b cs fz e hh => by
   unfold Blk at hr3
   rw [e, hr3] at hh
   simp at hh)⟩)
 have HX : Hid (Blk ((W3.setCell ⟨h0 + 1 + 1 + 1, 0, none⟩ (.int .i64 ((Lab.merge f a b).d : Nat))).setCell ⟨h0 + 1 + 1 + 1, 1, none⟩ (.slice av (Lab.merge f a b).ps.length cv)) (h0 + 1 + 1 + 1) #[.int .i64 ((Lab.merge f a b).d : Nat), .slice av (Lab.merge f a b).ps.length cv] 72) := ((hr3.set 0 _).set 1 _).cells rfl
 have HB : Hid (Below w.heap.size w ((W3.setCell ⟨h0 + 1 + 1 + 1, 0, none⟩ (.int .i64 ((Lab.merge f a b).d : Nat))).setCell ⟨h0 + 1 + 1 + 1, 1, none⟩ (.slice av (Lab.merge f a b).ps.length cv))) := (hb3.setCell (p := ⟨h0 + 1 + 1 + 1, 0, none⟩) (by have := Hh0.out; show w.heap.size <= h0 + 1 + 1 + 1; omega) _).setCell (p := ⟨h0 + 1 + 1 + 1, 1, none⟩) (by have := Hh0.out; show w.heap.size <= h0 + 1 + 1 + 1; omega) _
 clear ho hk h1 h2 hb3 hr3
 go_wp2_with fail
 refine bodyPost_ret (results_cell_row rfl _ _ (h0 + 1 + 1 + 1) _ _ (0, 0) _ rfl HX.out Tryz.underlying72 rfl (by kernel_rfl)) rfl ?_
 exact ⟨_, rfl, HR.out, HB.out⟩
def turnF (fr tv x _y : Nat) : Nat := if x = fr then tv else x
theorem turn1_any (fb tb fr tv x y : Nat) (W : World) (hf : W.cell? ⟨fb, 0, none⟩ = some (.int .i64 (fr : Nat))) (ht : W.cell? ⟨tb, 0, none⟩ = some (.int .i64 (tv : Nat))) :
  Calls Tryz.prog 87 #[.int .i64 (x : Nat), .int .i64 (y : Nat), .pointer (some ⟨fb, 0, none⟩), .pointer (some ⟨tb, 0, none⟩)] W fun e W' => e = .returned (.int .i64 (turnF fr tv x y : Nat)) /\ W' = W := by
 by_cases h : x = fr
 ·have hb : ((x : Int) == fr) = true := by simp [h]
  have hT : Hid (turnF fr tv x y = tv) := by show _ = _; unfold turnF; rw [if_pos h]
  clear h
  go_enter Tryz.func87, Tryz.ntmps87
  go_wp2_with fail
  go_ret
  exact ⟨by rw [hT.out]; rfl, rfl⟩
 ·have hb : ((x : Int) == fr) = false := by simp; omega
  have hT : Hid (turnF fr tv x y = x) := by show _ = _; unfold turnF; rw [if_neg h]
  clear h
  go_enter Tryz.func87, Tryz.ntmps87
  go_wp2_with fail
  go_ret
  exact ⟨by rw [hT.out]; rfl, rfl⟩
theorem turned_any (l : Lab) (fr tv : Nat) (v : Value) (w : World) (hok : LabOk l) (h : LabIn w v l) :
  Calls Tryz.prog 56 #[v, .int .i64 (fr : Nat), .int .i64 (tv : Nat)] w fun e w' => ∃ v, e = .returned v /\ LabIn w' v (Lab.merge (turnF fr tv) l l) /\ Below w.heap.size w w' := by
 obtain ⟨s, rfl, h1⟩ := h
 obtain ⟨a, c, rfl, -, -⟩ := RowAt.form h1
 obtain ⟨h0, hh0⟩ : ∃ h0, h0 = w.heap.size := ⟨_, rfl⟩
 obtain ⟨w4, hw4⟩ : ∃ w4 : World, w4 = (((w.alloc (.cells #[.int .i64 (l.d : Nat), .slice a l.ps.length c] 72)).alloc (.cells #[.int .i64 (fr : Nat)] 3)).alloc (.cells #[.int .i64 (tv : Nat)] 3)).alloc (.cells #[.int .i64 0, .slice none 0 0] 72) := ⟨_, rfl⟩
 have hB4 : Below w.heap.size w w4 := by rw [hw4]; exact ((((Below.refl _ w).alloc (Nat.le_refl _) _).alloc (by simp) _).alloc (by simp; omega) _).alloc (by simp; omega) _
 have hL : Blk w4 h0 #[.int .i64 (l.d : Nat), .slice a l.ps.length c] 72 := by rw [hw4, hh0]; exact (((Blk.new _ _ _).alloc _).alloc _).alloc _
 have hFb : Blk w4 (h0 + 1) #[.int .i64 (fr : Nat)] 3 := by
  rw [hw4, hh0]
  refine Blk.alloc (Blk.alloc ?_ _) _
  have := Blk.new (w.alloc (.cells #[.int .i64 (l.d : Nat), .slice a l.ps.length c] 72)) #[.int .i64 (fr : Nat)] 3
  rw [World.size_alloc] at this; exact this
 have hTb : Blk w4 (h0 + 1 + 1) #[.int .i64 (tv : Nat)] 3 := by
  rw [hw4, hh0]
  refine Blk.alloc ?_ _
  have := Blk.new ((w.alloc (.cells #[.int .i64 (l.d : Nat), .slice a l.ps.length c] 72)).alloc (.cells #[.int .i64 (fr : Nat)] 3)) #[.int .i64 (tv : Nat)] 3
  rw [World.size_alloc, World.size_alloc] at this; exact this
 have hRb : Blk w4 (h0 + 1 + 1 + 1) #[.int .i64 0, .slice none 0 0] 72 := by
  rw [hw4, hh0]
  have := Blk.new (((w.alloc (.cells #[.int .i64 (l.d : Nat), .slice a l.ps.length c] 72)).alloc (.cells #[.int .i64 (fr : Nat)] 3)).alloc (.cells #[.int .i64 (tv : Nat)] 3)) #[.int .i64 0, .slice none 0 0] 72
  rw [World.size_alloc, World.size_alloc, World.size_alloc] at this; exact this
 have hLi : LabIn w4 (.agg #[.int .i64 (l.d : Nat), .slice a l.ps.length c]) l := ⟨_, rfl, RowAt.below h1 hB4 (Nat.le_refl _)⟩
 have Hm := Lib.hid (merge_any (turnF fr tv) l l _ _ (.func (.func 87) #[] #[.pointer (some ⟨h0 + 1, 0, none⟩), .pointer (some ⟨h0 + 1 + 1, 0, none⟩)]) w4 hok hok hLi hLi ⟨_, _, rfl⟩ (fun W' k =>
  ⟨_, _, rfl, enters_of Tryz.func87 (by kernel_rfl) rfl, fun x y _ _ => turn1_any (h0 + 1) (h0 + 1 + 1) fr tv x y W' (by rw [(Blk.below hFb k hFb.lt).cell]; rfl) (by rw [(Blk.below hTb k hTb.lt).cell]; rfl)⟩))
 have HR := Lib.hid hRb
 have HB4 := Lib.hid hB4
 have HW4 := Lib.hid hw4; have Hh0 := Lib.hid hh0
 have cl0 : w4.cell? ⟨h0, 0, none⟩ = some (.int .i64 (l.d : Nat)) := by rw [hL.cell]; rfl
 have cl1 : w4.cell? ⟨h0, 1, none⟩ = some (.slice a l.ps.length c) := by rw [hL.cell]; rfl
 clear h1 hw4 hh0 hB4 hL hFb hTb hRb hLi
 go_enter Tryz.func56, Tryz.ntmps56
 go_upto_region 1 with fail
 rw [<- HW4.out, <- Hh0.out]
 go_wp2_with fail
 refine Hm.out.mono ?_
 rintro e W3 ⟨v, rfl, hv, hb⟩
 obtain ⟨s, rfl, hs⟩ := hv
 obtain ⟨av, cv, rfl, -, -⟩ := RowAt.form hs
 have hr3 := Blk.below HR.out hb HR.out.lt
 have hcr := hr3.cell
 have hfr := hr3.free
 have HRf := Lib.hid (show LabIn ((W3.setCell ⟨h0 + 1 + 1 + 1, 0, none⟩ (.int .i64 ((Lab.merge (turnF fr tv) l l).d : Nat))).setCell ⟨h0 + 1 + 1 + 1, 1, none⟩ (.slice av (Lab.merge (turnF fr tv) l l).ps.length cv)) (.agg #[.int .i64 ((Lab.merge (turnF fr tv) l l).d : Nat), .slice av (Lab.merge (turnF fr tv) l l).ps.length cv]) (Lab.merge (turnF fr tv) l l) from
  ⟨_, rfl, RowAt.kept hs (((Kept.refl (· = h0 + 1 + 1 + 1) W3).setIn (h0 + 1 + 1 + 1) 0 _ rfl).setIn (h0 + 1 + 1 + 1) 1 _ rfl) (fun b cs fz e hh => by
   unfold Blk at hr3
   rw [e, hr3] at hh
   simp at hh)⟩)
 have HX : Hid (Blk ((W3.setCell ⟨h0 + 1 + 1 + 1, 0, none⟩ (.int .i64 ((Lab.merge (turnF fr tv) l l).d : Nat))).setCell ⟨h0 + 1 + 1 + 1, 1, none⟩ (.slice av (Lab.merge (turnF fr tv) l l).ps.length cv)) (h0 + 1 + 1 + 1) #[.int .i64 ((Lab.merge (turnF fr tv) l l).d : Nat), .slice av (Lab.merge (turnF fr tv) l l).ps.length cv] 72) := ((hr3.set 0 _).set 1 _).cells rfl
 have HB : Hid (Below w.heap.size w ((W3.setCell ⟨h0 + 1 + 1 + 1, 0, none⟩ (.int .i64 ((Lab.merge (turnF fr tv) l l).d : Nat))).setCell ⟨h0 + 1 + 1 + 1, 1, none⟩ (.slice av (Lab.merge (turnF fr tv) l l).ps.length cv))) := ((bel_from HB4.out hb).setCell (p := ⟨h0 + 1 + 1 + 1, 0, none⟩) (by have := Hh0.out; show w.heap.size <= h0 + 1 + 1 + 1; omega) _).setCell (p := ⟨h0 + 1 + 1 + 1, 1, none⟩) (by have := Hh0.out; show w.heap.size <= h0 + 1 + 1 + 1; omega) _
 clear hs hb hr3 cl0 cl1
 go_wp2_with fail
 refine bodyPost_ret (results_cell_row rfl _ _ (h0 + 1 + 1 + 1) _ _ (0, 0) _ rfl HX.out Tryz.underlying72 rfl (by kernel_rfl)) rfl ?_
 exact ⟨_, rfl, HRf.out, HB.out⟩
theorem rest_lab_any (l : Lab) (v : Value) (w : World) (hok : LabOk l) (h : LabIn w v l) :
  Calls Tryz.prog 33 #[v] w fun e w' => ∃ v, e = .returned v /\ LabIn w' v l.rest /\ Below w.heap.size w w' := by
 obtain ⟨s, rfl, h1⟩ := h
 obtain ⟨a, c, rfl, -, -⟩ := RowAt.form h1
 obtain ⟨h0, hh0⟩ : ∃ h0, h0 = w.heap.size := ⟨_, rfl⟩
 obtain ⟨w2, hw2⟩ : ∃ w2 : World, w2 = (w.alloc (.cells #[.int .i64 (l.d : Nat), .slice a l.ps.length c] 72)).alloc (.cells #[.int .i64 0, .slice none 0 0] 72) := ⟨_, rfl⟩
 have hB2 : Below w.heap.size w w2 := by rw [hw2]; exact ((Below.refl _ w).alloc (Nat.le_refl _) _).alloc (by simp) _
 have hL : Blk w2 h0 #[.int .i64 (l.d : Nat), .slice a l.ps.length c] 72 := by rw [hw2, hh0]; exact (Blk.new _ _ _).alloc _
 have hRb : Blk w2 (h0 + 1) #[.int .i64 0, .slice none 0 0] 72 := by
  rw [hw2, hh0]
  have := Blk.new (w.alloc (.cells #[.int .i64 (l.d : Nat), .slice a l.ps.length c] 72)) #[.int .i64 0, .slice none 0 0] 72
  rw [World.size_alloc] at this; exact this
 have Hm := Lib.hid (turned_any l 0 2 (.agg #[.int .i64 (l.d : Nat), .slice a l.ps.length c]) w2 hok ⟨_, rfl, RowAt.below h1 hB2 (Nat.le_refl _)⟩)
 have hrest : Lab.merge (turnF 0 2) l l = l.rest := rfl
 rw [hrest] at Hm
 obtain ⟨L, hLr⟩ : ∃ L, l.rest = L := ⟨_, rfl⟩
 rw [hLr] at Hm ⊢
 have HR := Lib.hid hRb
 have HB2 := Lib.hid hB2
 have HW2 := Lib.hid hw2; have Hh0 := Lib.hid hh0
 have cl0 : w2.cell? ⟨h0, 0, none⟩ = some (.int .i64 (l.d : Nat)) := by rw [hL.cell]; rfl
 have cl1 : w2.cell? ⟨h0, 1, none⟩ = some (.slice a l.ps.length c) := by rw [hL.cell]; rfl
 clear h1 hw2 hh0 hB2 hL hRb hrest hLr
 go_enter Tryz.func33, Tryz.ntmps33
 go_upto_region 1 with fail
 rw [<- HW2.out, <- Hh0.out]
 go_wp2_with fail
 refine Hm.out.mono ?_
 rintro e W3 ⟨v, rfl, hv, hb⟩
 obtain ⟨s, rfl, hs⟩ := hv
 obtain ⟨av, cv, rfl, -, -⟩ := RowAt.form hs
 have hr3 := Blk.below HR.out hb HR.out.lt
 have hcr := hr3.cell
 have hfr := hr3.free
 have HRf := Lib.hid (show LabIn ((W3.setCell ⟨h0 + 1, 0, none⟩ (.int .i64 (L.d : Nat))).setCell ⟨h0 + 1, 1, none⟩ (.slice av L.ps.length cv)) (.agg #[.int .i64 (L.d : Nat), .slice av L.ps.length cv]) L from
  ⟨_, rfl, RowAt.kept hs (((Kept.refl (· = h0 + 1) W3).setIn (h0 + 1) 0 _ rfl).setIn (h0 + 1) 1 _ rfl) (fun b cs fz e hh => by
   unfold Blk at hr3
   rw [e, hr3] at hh
   simp at hh)⟩)
 have HX : Hid (Blk ((W3.setCell ⟨h0 + 1, 0, none⟩ (.int .i64 (L.d : Nat))).setCell ⟨h0 + 1, 1, none⟩ (.slice av L.ps.length cv)) (h0 + 1) #[.int .i64 (L.d : Nat), .slice av L.ps.length cv] 72) := ((hr3.set 0 _).set 1 _).cells rfl
 have HB : Hid (Below w.heap.size w ((W3.setCell ⟨h0 + 1, 0, none⟩ (.int .i64 (L.d : Nat))).setCell ⟨h0 + 1, 1, none⟩ (.slice av L.ps.length cv))) := ((bel_from HB2.out hb).setCell (p := ⟨h0 + 1, 0, none⟩) (by have := Hh0.out; show w.heap.size <= h0 + 1; omega) _).setCell (p := ⟨h0 + 1, 1, none⟩) (by have := Hh0.out; show w.heap.size <= h0 + 1; omega) _
 clear hs hb hr3 cl0 cl1
 go_wp2_with fail
 refine bodyPost_ret (results_cell_row rfl _ _ (h0 + 1) _ _ (0, 0) _ rfl HX.out Tryz.underlying72 rfl (by kernel_rfl)) rfl ?_
 exact ⟨_, rfl, HRf.out, HB.out⟩
end Go.Proofs.YtmlcgebahdcmaaaGreatDoor
