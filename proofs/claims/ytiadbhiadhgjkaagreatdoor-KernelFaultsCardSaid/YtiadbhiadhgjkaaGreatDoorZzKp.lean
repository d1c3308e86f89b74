/- Of the proof of this claim: a joined text. -/
import Derived.Test.YtiadbhiadhgjkaaGreatDoorZzKb
import Derived.Test.YtiadbhiadhgjkaaGreatDoorZzKe
set_option maxRecDepth 100000
set_option maxHeartbeats 2000000
namespace Go.Proofs.YtiadbhiadhgjkaaGreatDoor
open Go.RowKit
attribute [local irreducible] World.setCell World.alloc World.drew World.setRow Calls Code.wp
def wobjV (o : WObj) (ls lc vd vm : Value) : Value := .agg #[.int .i64 o.kind, .int .i64 o.parent, .int .i64 (o.lab.d : Nat), ls, .int .i64 (o.clr.d : Nat), lc, .int .i64 o.pages, .int .i64 o.names, vd, vm, .int .i64 o.space, .int .i64 o.pc]
def MadeIn (w : World) (v : Value) (l : List Int) : Prop := RowAt w 37 v l.length (l.map (Value.int .u64))
theorem fill_plain (kv xv : Value) (o : WObj) (ls lc vd vm mv : Value) (cores : Int) (w : World) (hv : ObjV w o ls lc vd vm) (h3 : o.kind ≠ 3) (h4 : o.kind ≠ 4) (h5 : o.kind ≠ 5) (hs : o.space = 0) :
  Calls Tryz.prog 65 #[kv, xv, wobjV o ls lc vd vm, mv, .int .i64 cores] w fun e w' => e = .returned (.tuple #[]) /\ Below w.heap.size w w' := by
 have b3 : (o.kind == 3) = false := by simpa using h3
 have b4 : (o.kind == 4) = false := by simpa using h4
 have b5 : (o.kind == 5) = false := by simpa using h5
 obtain ⟨la, lc1, rfl, -, -⟩ := RowAt.form hv.lab;obtain ⟨ca, cc1, rfl, -, -⟩ := RowAt.form hv.clr;obtain ⟨da, dc1, rfl, -, -⟩ := RowAt.form hv.data;obtain ⟨ma, mc1, rfl, -, -⟩ := RowAt.form hv.maps;clear hv;unfold wobjV;rw [hs];go_enter Tryz.func65, Tryz.ntmps65
 go_wp2
 go_end0
 exact ⟨rfl, (Below.refl _ w).alloc (Nat.le_refl _) _⟩
def thFill (x : Ob) (o : WObj) (made : List Int) (cores : Int) : Th := { x.th with clear := o.clr, space := if 0 < o.space then made.getD o.space.toNat 0 else 0, pc := o.pc, state := 1, on := x.name % cores }
theorem fill_thread (w : World) (g : Gh) (K : Km) (h : KIn w g K) (x : Ob) (hx : K.obj x.name = some x) (hk : x.kind = 3) (o : WObj) (ls lc vd vm mv : Value) (made : List Int) (cores : Int) (hv : ObjV w o ls lc vd vm) (ho : o.kind = 3) (hmade : MadeIn w mv made)
  (hs : 0 < o.space /\ o.space < made.length) (hpc : 0 <= o.pc /\ o.pc < 262144) (hc : 1 <= cores /\ cores <= 4) (hn : x.name <= 4194304) (hcok : LabOk o.clr) :
  Calls Tryz.prog 65 #[.pointer (some ⟨g.kb, 0, none⟩), .pointer (some ⟨g.bl x.name, 0, none⟩), wobjV o ls lc vd vm, mv, .int .i64 cores] w fun e w' =>
   e = .returned (.tuple #[]) /\ KIn w' g (K.set (x.wTh (thFill x o made cores))) /\ Ext g g w w' := by
 obtain ⟨xt, hT⟩ := h.thAt hx hk;have t19 := h.tcell hx hk;obtain ⟨s, T, hO⟩ := h.at hx;have c2 := hO.name;have hpos := (h.objs _ _ hx).2.pos;have hlt := hO.blk.lt;have hlt2 := hT.blk.lt
 have hbt : g.bl x.name ≠ g.tl x.name := fun e => by
  have e1 := (h.objs _ _ hx).2.tag;rw [e, hT.tag] at e1; cases e1
 have c17 : w.cell? ⟨g.tl x.name, 17, none⟩ = some (.int .i64 (x.th.clear.d : Nat)) := (hT.blk.cell 17).trans rfl;have c18 : w.cell? ⟨g.tl x.name, 18, none⟩ = some xt.cp := (hT.blk.cell 18).trans rfl;have c19 : w.cell? ⟨g.tl x.name, 19, none⟩ = some (.int .u64 x.th.space) := (hT.blk.cell 19).trans rfl;have c16 : w.cell? ⟨g.tl x.name, 16, none⟩ = some (.int .u64 x.th.pc) := (hT.blk.cell 16).trans rfl;have c20 : w.cell? ⟨g.tl x.name, 20, none⟩ = some (.int .i64 x.th.state) := (hT.blk.cell 20).trans rfl;have c21 : w.cell? ⟨g.tl x.name, 21, none⟩ = some (.int .i64 x.th.on) := (hT.blk.cell 21).trans rfl;have hf := hT.blk.free;obtain ⟨la, lc1, rfl, -, -⟩ := RowAt.form hv.lab;obtain ⟨ca, cc1, rfl, -, -⟩ := RowAt.form hv.clr;obtain ⟨da, dc1, rfl, -, -⟩ := RowAt.form hv.data;obtain ⟨ma, mc1, rfl, -, -⟩ := RowAt.form hv.maps;obtain ⟨mr, mrc, rfl, hm1, hm2⟩ := RowAt.form hmade;obtain ⟨sp, hsp⟩ : ∃ sp : Nat, o.space = (sp : Int) := ⟨o.space.toNat, by omega⟩;obtain ⟨mg, rfl, hmlt, hmc⟩ := RowAt.cells hmade (by omega);have hspl : sp < made.length := by omega
 have hms : w.cell? ⟨mg, sp, none⟩ = some (.int .u64 (made.getD sp 0)) := hmc sp _ (by rw [List.getElem?_map]; simp [List.getD, hspl]);have hclr := hv.clr;have H := Lib.hid h; have HX := Lib.hid hx; have HT := Lib.hid hT; have HC := Lib.hid hclr;have hgd : made.getD o.space.toNat 0 = made.getD sp 0 := by rw [hsp]; rfl
 have Hgd := Lib.hid hgd;generalize hgv : made.getD sp 0 = gv at *;clear hmc hmade hv h hx hT hO hclr hgv hgd;have q1 : (0 : Int) < sp := by omega
 have q2 : (sp : Int) < made.length := by omega
 have q3 : IntKind.i64.wrap x.name = x.name := IntWalk.i64_in _ (by omega);have q4 : IntKind.u64.wrap o.pc = o.pc := IntWalk.u64_in _ (by omega);have q5 : x.name.tmod cores = x.name % cores := Int.tmod_eq_emod_of_nonneg (by omega);have q6 : (cores == 0) = false := by simp; omega
 unfold wobjV;rw [ho, hsp];go_enter Tryz.func65, Tryz.ntmps65
 go_wp2_with fail
 go_region
 go_wp2_with fail
 go_region
 go_wp2_with fail
 go_end0
 have hfl : thFill x o made cores = { x.th with clear := o.clr, space := gv, pc := o.pc, state := 1, on := x.name % cores } := by
  unfold thFill;rw [if_pos (by omega), Hgd.out]
 rw [hfl]
 refine And.intro rfl (H.out.thNums HX.out hk HT.out (x' := { xt with cp := .slice ca o.clr.ps.length cc1 }) (t := { x.th with clear := o.clr, space := gv, pc := o.pc, state := 1, on := x.name % cores })
  ((((((((((Kept.refl (· = g.tl x.name) w).setIn _ 17 (.int .i64 (o.clr.d : Nat)) rfl).setIn _ 18 (.slice ca o.clr.ps.length cc1) rfl).setIn _ 19 (.int .u64 gv) rfl).setIn _ 16 (.int .u64 o.pc) rfl).setIn _ 20 (.int .i64 1) rfl).setIn _ 21 (.int .i64 (x.name % cores)) rfl).alloc _).drew).drew)
  ((((((((((HT.out.blk.set 17 (.int .i64 (o.clr.d : Nat))).set 18 (.slice ca o.clr.ps.length cc1)).set 19 (.int .u64 gv)).set 16 (.int .u64 o.pc)).set 20 (.int .i64 1)).set 21 (.int .i64 (x.name % cores))).alloc _).drew).drew).cells rfl)
  ⟨rfl, rfl, rfl, rfl, rfl⟩ ⟨rfl, rfl, rfl, rfl, rfl⟩ (PairsIn.mild HC.out ((((((((((Kept.refl (· = g.tl x.name) w).setIn _ 17 (.int .i64 (o.clr.d : Nat)) rfl).setIn _ 18 (.slice ca o.clr.ps.length cc1) rfl).setIn _ 19 (.int .u64 gv) rfl).setIn _ 16 (.int .u64 o.pc) rfl).setIn _ 20 (.int .i64 1) rfl).setIn _ 21 (.int .i64 (x.name % cores)) rfl).alloc _).drew).drew) (Mild.of HT.out.blk (by decide)))
  HT.out.rows.regs ⟨by show 0 <= o.pc; omega, by show o.pc <= _; omega⟩ hcok)
end Go.Proofs.YtiadbhiadhgjkaaGreatDoor
