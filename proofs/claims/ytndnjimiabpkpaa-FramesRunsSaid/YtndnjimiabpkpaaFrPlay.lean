/- The walk of glacislaw06's play: the pool and the list model answer alike, call by call. -/
import Derived.Test.YtndnjimiabpkpaaFrM
import Derived.Test.YtndnjimiabpkpaaCut
import Derived.Test.YtndnjimiabpkpaaReg
import Derived.BigRegion
import Derived.Deep.LoopGhost
import Derived.Deep.DeepCutAuto
import Derived.Deep.CutBlock
import Derived.Deep.QuietTactic
import Derived.BigQuiet
import Derived.Deep.RegionHeld3
import Derived.Deep.MidRow
import Derived.StillTailTactics
import Derived.IntWalk
namespace Go.Proofs.Ytndnjimiabpkpaa
open Go.RowKit
theorem ModAt.drewN {w : World} {lo mb dm om : Nat} {P : Pool} (h : ModAt w lo mb dm om P) (n : Nat) : ModAt (w.drewN n) lo mb dm om P :=
  h.kept (S := fun _ => False) ((Kept.refl _ _).drewN n) (fun h => h) (fun h => h) (fun h => h) (fun _ _ h => h)
attribute [local irreducible] World.setCell World.alloc World.drew World.setRow Calls Code.wp row

/-- What the charge's stores lean on. -/
def ChS (w : World) (mb dm om c n z : Nat) (ow : Int) : Prop :=
  w.cell? ⟨mb, 0, none⟩ = some (.slice (some ⟨dm, 0, none⟩) n n) ∧ w.cell? ⟨mb, 1, none⟩ = some (.slice (some ⟨om, 0, none⟩) n n) ∧ w.cell? ⟨c, 4, none⟩ = some (.int .u64 ow) ∧ w.there om z 1 ∧ w.there dm z 1
theorem ChS.alloc {w : World} {mb dm om c n z : Nat} {ow : Int} (h : ChS w mb dm om c n z ow) (o : Obj) : ChS (w.alloc o) mb dm om c n z ow :=
  ⟨by rw [World.cell?_alloc_some _ _ _ (by rw [h.1]; rfl)]; exact h.1, by rw [World.cell?_alloc_some _ _ _ (by rw [h.2.1]; rfl)]; exact h.2.1, by rw [World.cell?_alloc_some _ _ _ (by rw [h.2.2.1]; rfl)]; exact h.2.2.1, World.there_alloc h.2.2.2.1 o, World.there_alloc h.2.2.2.2 o⟩
theorem ChS.set {w : World} {mb dm om c n z : Nat} {ow : Int} (h : ChS w mb dm om c n z ow) (b i : Nat) (v : Value) (h1 : b ≠ mb) (h2 : b ≠ c) : ChS (w.setCell ⟨b, i, none⟩ v) mb dm om c n z ow :=
  ⟨by rw [World.cell?_setCell_far _ _ _ _ h1]; exact h.1, by rw [World.cell?_setCell_far _ _ _ _ h1]; exact h.2.1, by rw [World.cell?_setCell_far _ _ _ _ h2]; exact h.2.2.1, there_set h.2.2.2.1 _ _, there_set h.2.2.2.2 _ _⟩
theorem ChS.drew {w : World} {mb dm om c n z : Nat} {ow : Int} (h : ChS w mb dm om c n z ow) : ChS w.drew mb dm om c n z ow :=
  ⟨by rw [World.cell?_drew]; exact h.1, by rw [World.cell?_drew]; exact h.2.1, by rw [World.cell?_drew]; exact h.2.2.1, (World.there_drew _ _ _ _).2 h.2.2.2.1, (World.there_drew _ _ _ _).2 h.2.2.2.2⟩

theorem run_make64 (w : World) : (Instr.makeSlice 32 (.int .i64 64) (.int .i64 64)).run Try.prog w =
    .ok (.slice (some ⟨w.heap.size, 0, none⟩) 64 64) (w.alloc (.cells (row 64 fun _ => .int .u8 0) 5)) := by
  obtain ⟨i, hi, hz, hs, hb⟩ : ∃ i, Try.prog.info? 5 = some i ∧ i.zero = some (.int .u8 0) ∧ i.size = 1 ∧ i.bytes = 1 :=
    info_parts (by kernel_rfl)
  have := run_make (P := Try.prog) w 32 5 i _ Try.underlying32 hi hz .i64 .i64 64 64 (by omega) (by omega) (by rw [hb]; omega) (by omega)
  rw [this, hs]
  rw [made_row _ (.int .u8 0) _ (by simp [Value.cells]) (fun i hi => by
    simp [Value.cells] at hi ⊢; subst hi; rfl)]
  rfl

section
variable {P : Program} {a : Act} {w w' : World} {d : Option Tmp} {t : TypeId} {p : String} {e : Array Edge} {g : Option (Nat × Bool)} {x y : Operand} {u v : Value}
theorem ex_store {T : TypeId} (hx : a.eval x = u) (hy : a.eval y = v) (hr : (Instr.storeAt T u v).run P w = .ok () w') : (execOp a.eval ⟨d, .store T x y, t, p, e, g⟩).run P w = .ok .skip w' := by
  simp [execOp, hx, hy, hr, Result.andThen]
theorem ex_nilCheck {q : Addr} (hx : a.eval x = u) (hu : u = .pointer (some q)) : (execOp a.eval ⟨d, .nilCheck x, t, p, e, g⟩).run P w = .ok (.value (.pointer (some q))) w := by
  subst hu
  simp [execOp, hx]
end
theorem mod_0 (b : Nat) (w : World) : (Instr.fieldAt 47 (.pointer (some ⟨b, 0, none⟩)) 0).run Try.prog w = .ok (.pointer (some ⟨b, 0, none⟩)) w := by go_simp; try rfl
theorem mod_1 (b : Nat) (w : World) : (Instr.fieldAt 47 (.pointer (some ⟨b, 0, none⟩)) 1).run Try.prog w = .ok (.pointer (some ⟨b, 1, none⟩)) w := by go_simp; try rfl
theorem call_4 (b : Nat) (w : World) : (Instr.fieldAt 49 (.pointer (some ⟨b, 0, none⟩)) 4).run Try.prog w = .ok (.pointer (some ⟨b, 4, none⟩)) w := by go_simp; try rfl
theorem ld_u64s {w : World} {q : Addr} {x : Option Addr} {n c : Nat} (h : w.cell? q = some (.slice x n c)) : (Instr.loadAt 45 (.pointer (some q))).run Try.prog w = .ok (.slice x n c) w := by go_simp; try rfl
theorem ld_rows {w : World} {q : Addr} {x : Option Addr} {n c : Nat} (h : w.cell? q = some (.slice x n c)) : (Instr.loadAt 44 (.pointer (some q))).run Try.prog w = .ok (.slice x n c) w := by go_simp; try rfl
theorem ld_u64 {w : World} {q : Addr} {n : Int} (h : w.cell? q = some (.int .u64 n)) : (Instr.loadAt 27 (.pointer (some q))).run Try.prog w = .ok (.int .u64 n) w := by go_simp; try rfl
theorem sub_one (z : Nat) (h : z < 4611686018427387904) (w : World) : (binOp .sub 3 (.int .i64 ((z : Int) + 1)) (.int .i64 1)).run Try.prog w = .ok (.int .i64 (z : Int)) w := by
  have h' : (z : Int) < 4611686018427387904 := by omega
  go_simp
  try simp [IntKind.wrap, IntKind.bits, IntKind.signed]
  try omega
theorem ix_u64 (b z n : Nat) (h : z < n) (w : World) : (Instr.indexAt 45 (.slice (some ⟨b, 0, none⟩) n n) (.int .i64 (z : Int))).run Try.prog w = .ok (.pointer (some ⟨b, z, none⟩)) w := by
  have h' : (z : Int) < n := by omega
  go_simp
  try rfl
theorem ix_rows (b z n : Nat) (h : z < n) (w : World) : (Instr.indexAt 44 (.slice (some ⟨b, 0, none⟩) n n) (.int .i64 (z : Int))).run Try.prog w = .ok (.pointer (some ⟨b, z, none⟩)) w := by
  have h' : (z : Int) < n := by omega
  go_simp
  try rfl
theorem st_u64 {w : World} {q : Addr} {v0 : Value} {n : Int} (h : w.cell? q = some v0) (hf : w.frozen? q = false) : (Instr.storeAt 27 (.pointer (some q)) (.int .u64 n)).run Try.prog w = .ok () (w.setCell q (.int .u64 n)) := by go_simp; try rfl
theorem st_row {w : World} {q : Addr} {v0 : Value} {x : Option Addr} {n c : Nat} (h : w.cell? q = some v0) (hf : w.frozen? q = false) : (Instr.storeAt 32 (.pointer (some q)) (.slice x n c)).run Try.prog w = .ok () (w.setCell q (.slice x n c)) := by go_simp; try rfl
theorem alloc_setCell (w : World) (n i : Nat) (v : Value) (o : Obj) (h : n < w.heap.size) : (w.setCell ⟨n, i, none⟩ v).alloc o = (w.alloc o).setCell ⟨n, i, none⟩ v :=
  (World.setCell_alloc_past (w := w) o n i v h).symm
/-- In the midst of the two stores of a charged frame. -/
structure Y13 (w6 : World) (om dm z : Nat) (ow : Int) (b14 b16 b18 : Option Bool) (w : World) : Prop where
  s0 : b14 ≠ some true → b16 ≠ some true → w = w6
  s1 : b14 = some true → b16 ≠ some true → w = w6.alloc (.cells (row 64 fun _ => .int .u8 0) 5)
  t1 : b14 ≠ some true → b16 = some true → w = w6.setCell ⟨om, z, none⟩ (.int .u64 ow)
  s2 : b14 = some true → b16 = some true → b18 ≠ some true → w = (w6.alloc (.cells (row 64 fun _ => .int .u8 0) 5)).setCell ⟨om, z, none⟩ (.int .u64 ow)
  s3 : b18 = some true → w = ((w6.alloc (.cells (row 64 fun _ => .int .u8 0) 5)).setCell ⟨om, z, none⟩ (.int .u64 ow)).setCell ⟨dm, z, none⟩ (.slice (some ⟨w6.heap.size, 0, none⟩) 64 64)
theorem Y13.load {w6 w : World} {om dm z : Nat} {ow : Int} {b14 b16 b18 : Option Bool} (h : Y13 w6 om dm z ow b14 b16 b18 w) (h16 : b16 ≠ some true) {q : Addr} {v : Value} (hv : w6.cell? q = some v) : w.cell? q = some v := by
  by_cases h14 : b14 = some true
  · rw [h.s1 h14 h16]
    rw [Below.cell ((Below.refl w6.heap.size w6).alloc (Nat.le_refl _) _) (cell_lt hv)]
    exact hv
  · rw [h.s0 h14 h16]; exact hv

set_option maxRecDepth 100000 in
set_option maxHeartbeats 8000000 in
theorem play_any (pb db ob lo mb dm om base : Nat) (P : Pool) (kd f off nn ow : Int) (a : Option Addr) (len cap : Nat) (B : Nat → Int) (w0 w : World)
    (hP : PoolAt w pb db ob P) (hM : ModAt w lo mb dm om P) (hlo : lo ≤ w.heap.size) (hl : pb < lo ∧ db < lo ∧ ob < lo) (n1 : ¬ PS pb db ob mb) (n2 : ¬ PS pb db ob dm) (n3 : ¬ PS pb db ob om)
    (hb1 : base ≤ pb ∧ base ≤ db ∧ base ≤ ob) (hb2 : base ≤ mb ∧ base ≤ dm ∧ base ≤ om) (hbel : Below base w0 w)
    (hB : ∀ w', Below base w0 w' → BytesIn w' a len B) (hBd : ∀ j, j < len → 0 ≤ B j ∧ B j ≤ 255) (hlen : len ≤ 200)
    (hk : (Lit.int .i64 kd).wf = true) (hf : (Lit.int .i64 f).wf = true) (ho : (Lit.int .i64 off).wf = true) (hn : (Lit.int .i64 nn).wf = true) (hw : (Lit.int .u64 ow).wf = true) :
    Calls Try.prog 25 #[.pointer (some ⟨mb, 0, none⟩), .pointer (some ⟨pb, 0, none⟩), .agg #[.int .i64 kd, .int .i64 f, .int .i64 off, .int .i64 nn, .int .u64 ow, .slice a len cap]] w fun e w' =>
      e = .returned (.bool true) ∧ Below base w0 w' ∧ ∃ P', P'.n = P.n ∧ PoolAt w' pb db ob P' ∧ ModAt w' lo mb dm om P' := by
  have Hl := Lib.hid hl; clear hl
  have Hb1 := Lib.hid hb1; clear hb1
  have Hb2 := Lib.hid hb2; clear hb2
  have HB := Lib.hid hB; clear hB
  have HBd := Lib.hid hBd; clear hBd
  have hk := wf_i64 hk; have hf := wf_i64 hf; have ho := wf_i64 ho; have hn := wf_i64 hn; have hw := wf_u64 hw
  have Hk := Lib.hid hk; clear hk
  have Ho := Lib.hid ho; clear ho
  have Hn := Lib.hid hn; clear hn
  have Hw := Lib.hid hw; clear hw
  have hhi := hP.hi
  go_enter Try.func25, Try.ntmps25
  go_wp2_with fail
  obtain ⟨w1, hw1⟩ : ∃ w1 : World, w1 = w.alloc (.cells #[.int .i64 kd, .int .i64 f, .int .i64 off, .int .i64 nn, .int .u64 ow, .slice a len cap] 49) := ⟨_, rfl⟩
  rw [← hw1]
  have HC : Hid (Blk w1 w.heap.size #[.int .i64 kd, .int .i64 f, .int .i64 off, .int .i64 nn, .int .u64 ow, .slice a len cap] 49) := by rw [hw1]; exact Blk.new _ _ _
  have HP1 : Hid (PoolAt w1 pb db ob P) := by rw [hw1]; exact hP.alloc _
  have HM1 : Hid (ModAt w1 lo mb dm om P) := by rw [hw1]; exact hM.alloc _
  have hbs := hbel.size
  have Hbel : Hid (Below base w0 w1) := by rw [hw1]; exact hbel.alloc (by have := Hb1.out; have := Hl.out; omega) _
  have hsz1 : w1.heap.size = w.heap.size + 1 := by rw [hw1]; simp
  generalize (Value.agg #[.int .i64 kd, .int .i64 f, .int .i64 off, .int .i64 nn, .int .u64 ow, .slice a len cap]) = vagg
  clear hw1 hP hM hbel hbs
  obtain ⟨th, hth⟩ : ∃ th, (P.owner f != 0) = th := ⟨_, rfl⟩
  have Hth := Lib.hid hth; clear hth
  refine cut_in (fun _ wx => wx = w1.drew) (fun f => [.pointer (some ⟨mb, 0, none⟩), .pointer (some ⟨pb, 0, none⟩), vagg, undef, undef, .pointer (some ⟨w.heap.size, 0, none⟩), .bool false, .bool th, undef, undef, undef, undef, undef, undef, undef, undef, undef, undef, f 18, f 19, f 20, f 21, f 22, f 23, f 24, f 25, f 26, f 27, f 28, f 29, f 30, f 31, f 32, f 33, f 34, f 35, f 36, f 37, f 38, f 39, f 40, f 41, f 42, undef, undef, undef, undef, undef, undef, undef, undef, undef, undef, undef, undef, undef, undef, undef, undef, undef, undef, undef, undef, undef, undef, undef, undef, undef, undef, undef, undef, undef, undef, undef, undef, undef, undef, undef, undef, undef, undef, undef, undef, undef, undef, undef, undef, undef, undef, undef, undef, undef, undef, undef, undef, undef, undef, undef, undef, undef, undef, undef, undef, undef, undef, undef, undef, undef, undef, undef, undef, undef, undef, undef, undef, undef, undef, undef, undef, undef, undef, undef, undef, undef, undef, undef, undef, undef, undef, undef, undef, undef, undef, undef, undef, undef, undef, undef, undef, undef, undef, undef, undef, undef, undef, undef, undef, undef, undef, undef, undef, undef, undef, undef, undef, undef, undef, undef, undef, undef, undef, undef, undef, undef, undef, undef, undef, undef, undef, undef, undef, undef, undef, undef, undef, undef, undef, undef, undef, undef, undef, undef, undef, undef, undef, undef, undef, undef, undef, undef, undef, undef, undef, undef, undef, undef, undef, undef, undef, undef, undef, undef, undef, undef, undef, undef, undef, undef, undef, undef, undef, undef, undef, undef, undef, undef, undef, undef, undef, undef, undef, undef, undef, undef, undef, undef, undef, undef, undef, undef, undef, undef, undef, undef, undef, undef, undef, undef, undef, undef, undef, undef, undef, undef, undef, undef, undef, undef, undef, undef, undef, undef, undef, undef, undef, undef, undef, undef, undef, undef, undef, undef, undef, undef, undef, undef, undef, undef, undef, undef, undef, undef, undef, undef, undef, undef, undef, undef, undef, undef, undef, undef, undef, undef, undef, undef, undef, undef, undef, undef, undef, undef, undef, undef, undef]) ?first1 ?rest1
  case first1 =>
    intro J K' hJ hK
    have HJ := Lib.hid hJ; clear hJ
    have hcc := HC.out.cell
    have hmc := HM1.out.hm.cell
    have how : P.owner f = if P.there f then P.O (f.toNat - 1) else 0 := rfl
    by_cases h1 : 1 ≤ f
    · by_cases h2 : f ≤ P.n
      · obtain ⟨k, rfl⟩ : ∃ k : Nat, f = (k : Int) + 1 := ⟨(f - 1).toNat, by omega⟩
        have hkn : k < P.n := by omega
        have hro := HM1.out.ho.rowAt k hkn
        have e : ((k : Int) + 1).toNat - 1 = k := by omega
        rw [if_pos ((P.there_iff _).2 ⟨h1, h2⟩), e] at how
        have How := Lib.hid how; clear how e
        cases e1 : (P.O k != 0)
        · have e1' : P.O k = 0 := by simpa using e1
          obtain rfl : th = false := by rw [← Hth.out, How.out, e1]
          go_region
          go_wp2_with fail
          exact meet_in HJ.out (by kernel_rfl) rfl
        · have e1' : P.O k ≠ 0 := by simpa using e1
          obtain rfl : th = true := by rw [← Hth.out, How.out, e1]
          go_region
          go_wp2_with fail
          exact meet_in HJ.out (by kernel_rfl) rfl
      · have hno : P.owner f = 0 := by rw [how, if_neg]; rw [P.there_iff]; omega
        obtain rfl : th = false := by rw [← Hth.out, hno]; rfl
        clear how hno
        go_region
        go_wp2_with fail
        exact meet_in HJ.out (by kernel_rfl) rfl
    · have hno : P.owner f = 0 := by rw [how, if_neg]; rw [P.there_iff]; omega
      obtain rfl : th = false := by rw [← Hth.out, hno]; rfl
      clear how hno
      go_region
      go_wp2_with fail
      exact meet_in HJ.out (by kernel_rfl) rfl
  case rest1 =>
  intro f7 wc hcut
  dsimp only
  subst hcut
  have HC2 := Lib.hid HC.out.drew
  have HP2 := Lib.hid HP1.out.drew
  have HM2 := Lib.hid HM1.out.drew
  have Hbel2 := Lib.hid Hbel.out.drew
  clear HC HP1 HM1 Hbel hsz1
  generalize w1.drew = w2 at *
  have hkb := Hk.out
  have hcc := HC2.out.cell
  obtain ⟨q0, q1⟩ := tmod_bd kd 5 (by omega)
  obtain ⟨kk, hkk, hk5⟩ : ∃ kk : Int, (kd.tmod 5 + 5) % 5 = kk ∧ (kk = 0 ∨ kk = 1 ∨ kk = 2 ∨ kk = 3 ∨ kk = 4) := ⟨_, rfl, by omega⟩
  have hkk' : kd.tmod 5 % 5 = kk := by omega
  have Hk5 := Lib.hid hk5; clear hk5
  clear hkb
  go_upto_block 0 with fail
  refine cut_in (fun _ wx => ∃ P' : Pool, P'.n = P.n ∧ PoolAt wx pb db ob P' ∧ ModAt wx lo mb dm om P' ∧ Blk wx w.heap.size #[.int .i64 kd, .int .i64 f, .int .i64 off, .int .i64 nn, .int .u64 ow, .slice a len cap] 49 ∧ Below base w0 wx) (fun f => [.pointer (some ⟨mb, 0, none⟩), .pointer (some ⟨pb, 0, none⟩), vagg, undef, undef, .pointer (some ⟨w.heap.size, 0, none⟩), .bool false, .bool th, f 8, f 9, f 10, f 11, f 12, undef, undef, undef, undef, undef, f 18, f 19, f 20, f 21, f 22, f 23, f 24, f 25, f 26, f 27, f 28, f 29, f 30, f 31, f 32, f 33, f 34, f 35, f 36, f 37, f 38, f 39, f 40, f 41, f 42, f 43, f 44, f 45, f 46, f 47, f 48, f 49, f 50, f 51, f 52, f 53, f 54, f 55, f 56, f 57, f 58, f 59, f 60, f 61, f 62, f 63, f 64, f 65, f 66, f 67, f 68, f 69, f 70, f 71, f 72, f 73, f 74, f 75, f 76, f 77, f 78, f 79, f 80, f 81, f 82, f 83, f 84, f 85, f 86, f 87, f 88, f 89, f 90, f 91, f 92, f 93, f 94, f 95, f 96, f 97, f 98, f 99, f 100, f 101, f 102, f 103, f 104, f 105, f 106, f 107, f 108, f 109, f 110, f 111, f 112, f 113, f 114, f 115, f 116, f 117, f 118, f 119, f 120, f 121, f 122, f 123, f 124, f 125, f 126, f 127, f 128, f 129, f 130, f 131, f 132, f 133, f 134, f 135, f 136, f 137, f 138, f 139, f 140, f 141, f 142, f 143, f 144, f 145, f 146, f 147, f 148, f 149, f 150, f 151, f 152, f 153, f 154, f 155, f 156, f 157, f 158, f 159, f 160, f 161, f 162, f 163, f 164, f 165, f 166, f 167, f 168, f 169, f 170, f 171, f 172, f 173, f 174, f 175, f 176, f 177, f 178, f 179, f 180, f 181, f 182, f 183, f 184, f 185, f 186, f 187, f 188, f 189, f 190, f 191, f 192, f 193, f 194, f 195, f 196, f 197, f 198, f 199, f 200, f 201, f 202, f 203, f 204, f 205, f 206, f 207, f 208, f 209, f 210, f 211, f 212, f 213, f 214, f 215, f 216, f 217, f 218, f 219, f 220, f 221, f 222, undef, undef, undef, undef, undef, undef, undef, undef, undef, undef, undef, undef, undef, undef, undef, undef, undef, undef, undef, undef, undef, undef, undef, undef, undef, undef, undef, undef, undef, undef, undef, undef, undef, undef, undef, undef, undef, undef, undef, undef, undef, undef, undef, undef, undef, undef, undef, undef, undef, undef, undef, undef, undef, undef, undef, undef, undef, undef, undef, undef, undef, undef, undef, undef, undef, undef, undef, undef, undef, undef, undef, undef]) ?first2 ?rest2
  case first2 =>
    intro J K' hJ hK
    have HJ := Lib.hid hJ; clear hJ
    have hcl := HC2.out.lt
    have hbs2 := Hbel2.out.size
    have hmc := HM2.out.hm.cell
    rcases Hk5.out with rfl | rfl | rfl | rfl | rfl
    · go_wp2_with fail
      go_loopg [8, 9] P.n (fun g s i wx => ∃ (k : Nat) (x : Int), k = g ∧ k ≤ P.n ∧ i = .int .i64 ((k : Int) - 1) ∧ s = .int .i64 x ∧ wx = w2 ∧ (ow = 0 → k = P.n) ∧
        ((x = 0 ∧ ∀ j, k ≤ j → j < P.n → P.O j ≠ 0) ∨ ∃ m : Nat, x = (m : Int) + 1 ∧ k ≤ m ∧ m < P.n ∧ P.O m = 0 ∧ ∀ j, k ≤ j → j < m → P.O j ≠ 0))
      case atStart => exact ⟨P.n, 0, rfl, Nat.le_refl _, rfl, rfl, rfl, fun _ => rfl, .inl ⟨rfl, fun j h1 h2 => by omega⟩⟩
      case round =>
        obtain ⟨k, x, rfl, hkn, rfl, rfl, rfl, hk0, hx⟩ := hrel
        have hx' := Lib.hid hx; clear hx
        by_cases hex : k = 0 ∨ ow = 0
        · have hret : x = P.allocRet ow := by
            unfold Pool.allocRet
            rcases hx'.out with ⟨rfl, hall⟩ | ⟨m, rfl, g1, g2, g3, g4⟩
            · rw [if_neg]
              rintro ⟨g1, g2⟩
              obtain rfl : k = 0 := hex.resolve_right g1
              have := firstFree_eq P.O P.n P.n (Nat.le_refl _) (fun j hj => hall j (by omega) hj) (fun h => absurd h (Nat.lt_irrefl _))
              omega
            · have how : ow ≠ 0 := fun e => by have := hk0 e; omega
              obtain rfl : k = 0 := hex.resolve_right how
              have := firstFree_eq P.O P.n m (by omega) (fun j hj => g4 j (by omega) hj) (fun _ => g3)
              rw [if_pos ⟨how, by omega⟩, this]
          subst hret
          clear hx'
          have Hmk : Hid (∀ w, (Instr.makeSlice 32 (.int .i64 64) (.int .i64 64)).run Try.prog w = .ok (.slice (some ⟨w.heap.size, 0, none⟩) 64 64) (w.alloc (.cells (row 64 fun _ => .int .u8 0) 5))) := run_make64
          by_cases hc : ow ≠ 0 ∧ firstFree P.O P.n < P.n
          · obtain ⟨z, hz, hzn⟩ : ∃ z, firstFree P.O P.n = z ∧ z < P.n := ⟨_, rfl, hc.2⟩
            have har : P.allocRet ow = (z : Int) + 1 := by unfold Pool.allocRet; rw [if_pos hc, hz]
            have hal : P.alloc ow = ⟨P.n, updI P.O z ow, fun j => if z * 64 ≤ j ∧ j < z * 64 + 64 then 0 else P.D j⟩ := by unfold Pool.alloc; rw [if_pos hc, hz]
            have Hal := Lib.hid hal; clear hal
            have how : (ow != 0) = true := by simpa using hc.1
            obtain rfl : k = 0 := hex.resolve_right hc.1
            clear hex hc hz hk0
            rw [har]
            go_wp2_with fail
            refine (alloc_any pb db ob P _ _ HP2.out).mono ?_
            rintro e w5 ⟨rfl, hP5, hK5⟩
            rw [har]
            have hM5 := HM2.out.kept hK5 n1 n2 n3 (fun g hg => by have := Hl.out; rintro (e | e | e) <;> omega)
            have hC5 := hK5.blk HC2.out (by have := Hl.out; rintro (e | e | e) <;> omega)
            have hb5 := Hbel2.out.trans (hK5.below (B := base) (by have := Hb1.out; have := Hl.out; omega) (fun i hi e => by have := Hb1.out; rcases e with e | e | e <;> omega))
            have HM5 := Lib.hid hM5; have HC5 := Lib.hid hC5; have Hb5 := Lib.hid hb5; have HP5 := Lib.hid hP5
            have hs5 := hK5.size
            clear hM5 hC5 hb5 hP5 hK5
            obtain ⟨V, G, hv, _, _⟩ := HM5.out.hd
            obtain ⟨w6, hw6⟩ : ∃ w6, w5.drew = w6 := ⟨_, rfl⟩
            have HM6 : Hid (ModAt w6 lo mb dm om P) := by rw [← hw6]; exact HM5.out.drew
            have HC6 : Hid (Blk w6 w.heap.size #[.int .i64 kd, .int .i64 f, .int .i64 off, .int .i64 nn, .int .u64 ow, .slice a len cap] 49) := by rw [← hw6]; exact HC5.out.drew
            have HP6 := Lib.hid HP5.out.drew
            have Hb6 := Lib.hid Hb5.out.drew
            rw [hw6] at HP6 Hb6
            have Hm0 := Lib.hid (HM6.out.hm.cell 0); have Hm1 := Lib.hid (HM6.out.hm.cell 1); have Hc4 := Lib.hid (HC6.out.cell 4)
            have Hzn : Hid (z < P.n) := hzn
            have Hz62 : Hid (z < 4611686018427387904) := by have := HP6.out.hi; unfold Hid; omega
            have Hol : Hid ((⟨om, z, none⟩ : Addr).block < w6.heap.size) := HM6.out.ho.lt
            have Ho6 : Hid (w6.cell? ⟨om, z, none⟩ = some (.int .u64 (P.O z)) ∧ w6.frozen? ⟨om, z, none⟩ = false) := ⟨HM6.out.ho.rowAt z hzn, HM6.out.ho.free z⟩
            obtain ⟨V, G, hv, _, _⟩ := HM6.out.hd
            have Ho7 : Hid ((w6.alloc (.cells (row 64 fun _ => .int .u8 0) 5)).cell? ⟨om, z, none⟩ = some (.int .u64 (P.O z)) ∧ (w6.alloc (.cells (row 64 fun _ => .int .u8 0) 5)).frozen? ⟨om, z, none⟩ = false) :=
              ⟨(HM6.out.ho.alloc _).rowAt z hzn, (HM6.out.ho.alloc _).free z⟩
            have Hd8 : Hid (((w6.alloc (.cells (row 64 fun _ => .int .u8 0) 5)).setCell ⟨om, z, none⟩ (.int .u64 ow)).cell? ⟨dm, z, none⟩ = some (V z) ∧ ((w6.alloc (.cells (row 64 fun _ => .int .u8 0) 5)).setCell ⟨om, z, none⟩ (.int .u64 ow)).frozen? ⟨dm, z, none⟩ = false) :=
              ⟨((hv.alloc _).set_other (a := ⟨om, z, none⟩) (fun e => HM6.out.n3 e.symm) _).rowAt z hzn, ((hv.alloc _).set_other (a := ⟨om, z, none⟩) (fun e => HM6.out.n3 e.symm) _).free z⟩
            clear hv
            go_wp2_with fail
            refine wp_region_rinv (by kernel_rfl) (by kernel_rfl) (by kernel_rfl)
              (fun i v => match i with | 0 => v = (.pointer (some ⟨mb, 0, none⟩)) | 1 => v = .pointer (some ⟨mb, 0, none⟩) | 2 => v = .pointer (some ⟨mb, 1, none⟩) | 3 => v = .slice (some ⟨om, 0, none⟩) P.n P.n | 4 => v = (.int .i64 ((z : Int) + 1)) | 5 => v = .int .i64 (z : Int) | 6 => v = (.pointer (some ⟨mb, 0, none⟩)) | 7 => v = .pointer (some ⟨mb, 0, none⟩) | 8 => v = .pointer (some ⟨mb, 0, none⟩) | 9 => v = .slice (some ⟨dm, 0, none⟩) P.n P.n | 10 => v = (.int .i64 ((z : Int) + 1)) | 11 => v = .int .i64 (z : Int) | 12 => v = .pointer (some ⟨w.heap.size, 4, none⟩) | 13 => v = .int .u64 ow | 14 => v = .slice (some ⟨w6.heap.size, 0, none⟩) 64 64 | 15 => v = .pointer (some ⟨om, z, none⟩) | 17 => v = .pointer (some ⟨dm, z, none⟩) | _ => True)
              (fun l _ wx => Y13 w6 om dm z ow l[14]? l[16]? l[18]? wx) ?_ ?_ ?_
            · rw [hw6]; exact ⟨fun _ _ => rfl, fun h => by simp at h, fun _ h => by simp at h, fun h => by simp at h, fun h => by simp at h⟩
            · intro hu i l a wx hi hl hli hd hcl hR hW
              have hi27 : i = 0 ∨ i = 1 ∨ i = 2 ∨ i = 3 ∨ i = 4 ∨ i = 5 ∨ i = 6 ∨ i = 7 ∨ i = 8 ∨ i = 9 ∨ i = 10 ∨ i = 11 ∨ i = 12 ∨ i = 13 ∨ i = 14 ∨ i = 15 ∨ i = 16 ∨ i = 17 ∨ i = 18 := by have : i < 19 := hi; omega
              rcases hi27 with rfl | rfl | rfl | rfl | rfl | rfl | rfl | rfl | rfl | rfl | rfl | rfl | rfl | rfl | rfl | rfl | rfl | rfl | rfl
              · -- [0] move [t0]
                refine wpOp_val rfl (d := 83) rfl (wanted_plain rfl _) (ex_move (hR.was 0 rfl)) ⟨hR.put hu (by rw [hl]; decide) (d := 83) rfl (of_decide_eq_true rfl) rfl, ?_⟩
                simpa only [set_other, ne_eq, not_false_eq_true, Nat.reduceEqDiff] using hW
              · -- [1] nilCheck [t83]
                refine wpOp_val rfl (d := 84) rfl (wanted_plain rfl _) (ex_nilCheck (hR.slot 0 83 (hd 0 rfl) rfl) rfl) ⟨hR.put hu (by rw [hl]; decide) (d := 84) rfl (of_decide_eq_true rfl) rfl, ?_⟩
                simpa only [set_other, ne_eq, not_false_eq_true, Nat.reduceEqDiff] using hW
              · -- [2] fieldAddr 47 t84 1
                refine wpOp_val rfl (d := 85) rfl (wanted_plain rfl _) (ex_fieldAddr (hR.slot 1 84 (hd 1 rfl) rfl) (mod_1 _ _)) ⟨hR.put hu (by rw [hl]; decide) (d := 85) rfl (of_decide_eq_true rfl) rfl, ?_⟩
                simpa only [set_other, ne_eq, not_false_eq_true, Nat.reduceEqDiff] using hW
              · -- [3] load 45 t85
                have h16 : l[16]? ≠ some true := fun h => by have := hcl.of 3 rfl h; rw [hli] at this; cases this
                refine wpOp_val rfl (d := 86) rfl (wanted_plain rfl _) (ex_load (hR.slot 2 85 (hd 2 rfl) rfl) (ld_u64s (hW.load h16 Hm1.out))) ⟨hR.put hu (by rw [hl]; decide) (d := 86) rfl (of_decide_eq_true rfl) rfl, ?_⟩
                simpa only [set_other, ne_eq, not_false_eq_true, Nat.reduceEqDiff] using hW
              · -- [4] move [t8]
                refine wpOp_val rfl (d := 87) rfl (wanted_plain rfl _) (ex_move (hR.was 8 rfl)) ⟨hR.put hu (by rw [hl]; decide) (d := 87) rfl (of_decide_eq_true rfl) rfl, ?_⟩
                simpa only [set_other, ne_eq, not_false_eq_true, Nat.reduceEqDiff] using hW
              · -- [5] binOp sub 3 t87 (.int .i64 1) 3
                refine wpOp_val rfl (d := 88) rfl (wanted_plain rfl _) (ex_bin (hR.slot 4 87 (hd 4 rfl) rfl) rfl (fun w => by simp [eqGuard]) (sub_one z Hz62.out _)) ⟨hR.put hu (by rw [hl]; decide) (d := 88) rfl (of_decide_eq_true rfl) rfl, ?_⟩
                simpa only [set_other, ne_eq, not_false_eq_true, Nat.reduceEqDiff] using hW
              · -- [6] move [t0]
                refine wpOp_val rfl (d := 89) rfl (wanted_plain rfl _) (ex_move (hR.was 0 rfl)) ⟨hR.put hu (by rw [hl]; decide) (d := 89) rfl (of_decide_eq_true rfl) rfl, ?_⟩
                simpa only [set_other, ne_eq, not_false_eq_true, Nat.reduceEqDiff] using hW
              · -- [7] nilCheck [t89]
                refine wpOp_val rfl (d := 90) rfl (wanted_plain rfl _) (ex_nilCheck (hR.slot 6 89 (hd 6 rfl) rfl) rfl) ⟨hR.put hu (by rw [hl]; decide) (d := 90) rfl (of_decide_eq_true rfl) rfl, ?_⟩
                simpa only [set_other, ne_eq, not_false_eq_true, Nat.reduceEqDiff] using hW
              · -- [8] fieldAddr 47 t90 0
                refine wpOp_val rfl (d := 91) rfl (wanted_plain rfl _) (ex_fieldAddr (hR.slot 7 90 (hd 7 rfl) rfl) (mod_0 _ _)) ⟨hR.put hu (by rw [hl]; decide) (d := 91) rfl (of_decide_eq_true rfl) rfl, ?_⟩
                simpa only [set_other, ne_eq, not_false_eq_true, Nat.reduceEqDiff] using hW
              · -- [9] load 44 t91
                have h16 : l[16]? ≠ some true := fun h => by have := hcl.of 9 rfl h; rw [hli] at this; cases this
                refine wpOp_val rfl (d := 92) rfl (wanted_plain rfl _) (ex_load (hR.slot 8 91 (hd 8 rfl) rfl) (ld_rows (hW.load h16 Hm0.out))) ⟨hR.put hu (by rw [hl]; decide) (d := 92) rfl (of_decide_eq_true rfl) rfl, ?_⟩
                simpa only [set_other, ne_eq, not_false_eq_true, Nat.reduceEqDiff] using hW
              · -- [10] move [t8]
                refine wpOp_val rfl (d := 93) rfl (wanted_plain rfl _) (ex_move (hR.was 8 rfl)) ⟨hR.put hu (by rw [hl]; decide) (d := 93) rfl (of_decide_eq_true rfl) rfl, ?_⟩
                simpa only [set_other, ne_eq, not_false_eq_true, Nat.reduceEqDiff] using hW
              · -- [11] binOp sub 3 t93 (.int .i64 1) 3
                refine wpOp_val rfl (d := 94) rfl (wanted_plain rfl _) (ex_bin (hR.slot 10 93 (hd 10 rfl) rfl) rfl (fun w => by simp [eqGuard]) (sub_one z Hz62.out _)) ⟨hR.put hu (by rw [hl]; decide) (d := 94) rfl (of_decide_eq_true rfl) rfl, ?_⟩
                simpa only [set_other, ne_eq, not_false_eq_true, Nat.reduceEqDiff] using hW
              · -- [12] fieldAddr 49 t5 4
                refine wpOp_val rfl (d := 95) rfl (wanted_plain rfl _) (ex_fieldAddr (hR.was 5 rfl) (call_4 _ _)) ⟨hR.put hu (by rw [hl]; decide) (d := 95) rfl (of_decide_eq_true rfl) rfl, ?_⟩
                simpa only [set_other, ne_eq, not_false_eq_true, Nat.reduceEqDiff] using hW
              · -- [13] load 27 t95
                have h16 : l[16]? ≠ some true := fun h => by have := hcl.of 13 rfl h; rw [hli] at this; cases this
                refine wpOp_val rfl (d := 96) rfl (wanted_plain rfl _) (ex_load (hR.slot 12 95 (hd 12 rfl) rfl) (ld_u64 (hW.load h16 Hc4.out))) ⟨hR.put hu (by rw [hl]; decide) (d := 96) rfl (of_decide_eq_true rfl) rfl, ?_⟩
                simpa only [set_other, ne_eq, not_false_eq_true, Nat.reduceEqDiff] using hW
              · -- [14] makeSlice [(.int .i64 64), (.int .i64 64)]
                have h14 : l[14]? ≠ some true := by rw [hli]; simp
                have h18 : l[18]? ≠ some true := fun h => h14 (hcl.of 14 rfl h)
                by_cases h16 : l[16]? = some true
                · have e := hW.t1 h14 h16
                  subst e
                  have hr := run_make64 (w6.setCell ⟨om, z, none⟩ (.int .u64 ow))
                  rw [alloc_setCell _ _ _ _ _ Hol.out, show (w6.setCell ⟨om, z, none⟩ (.int .u64 ow)).heap.size = w6.heap.size by simp [World.setCell]] at hr
                  refine wpOp_val rfl (d := 97) rfl (wanted_plain rfl _) (ex_makeSlice rfl rfl hr) ⟨hR.put hu (by rw [hl]; decide) (d := 97) rfl (of_decide_eq_true rfl) rfl, ?_⟩
                  rw [set_self (show 14 < l.size by rw [hl]; decide)]
                  simp only [set_other, ne_eq, not_false_eq_true, Nat.reduceEqDiff]
                  exact ⟨fun h => absurd rfl h, fun _ h => absurd h16 h, fun h => absurd rfl h, fun _ _ _ => rfl, fun h => absurd h h18⟩
                · obtain rfl : wx = w6 := hW.s0 h14 h16
                  refine wpOp_val rfl (d := 97) rfl (wanted_plain rfl _) (ex_makeSlice rfl rfl (run_make64 _)) ⟨hR.put hu (by rw [hl]; decide) (d := 97) rfl (of_decide_eq_true rfl) rfl, ?_⟩
                  rw [set_self (show 14 < l.size by rw [hl]; decide)]
                  simp only [set_other, ne_eq, not_false_eq_true, Nat.reduceEqDiff]
                  exact ⟨fun h => absurd rfl h, fun _ _ => rfl, fun h => absurd rfl h, fun _ h => absurd h h16, fun h => absurd h h18⟩
              · -- [15] indexAddr 45 t86 t88
                refine wpOp_val rfl (d := 98) rfl (wanted_plain rfl _) (ex_indexAddr (hR.slot 3 86 (hd 3 rfl) rfl) (hR.slot 5 88 (hd 5 rfl) rfl) (ix_u64 om z P.n Hzn.out _)) ⟨hR.put hu (by rw [hl]; decide) (d := 98) rfl (of_decide_eq_true rfl) rfl, ?_⟩
                simpa only [set_other, ne_eq, not_false_eq_true, Nat.reduceEqDiff] using hW
              · -- [16] store 27 t98 t96
                have h16 : l[16]? ≠ some true := by rw [hli]; simp
                have h18 : l[18]? ≠ some true := fun h => h16 (hcl.of 16 rfl h)
                by_cases h14 : l[14]? = some true
                · have e := hW.s1 h14 h16
                  subst e
                  refine wpOp_unit rfl rfl (wanted_plain rfl _) (ex_store (hR.slot 15 98 (hd 15 rfl) rfl) (hR.slot 13 96 (hd 13 rfl) rfl) (st_u64 Ho7.out.1 Ho7.out.2)) ⟨hR.done rfl, ?_⟩
                  rw [set_self (show 16 < l.size by rw [hl]; decide)]
                  simp only [set_other, ne_eq, not_false_eq_true, Nat.reduceEqDiff]
                  exact ⟨fun h => absurd h14 h, fun _ h => absurd rfl h, fun h => absurd h14 h, fun _ _ _ => rfl, fun h => absurd h h18⟩
                · obtain rfl : wx = w6 := hW.s0 h14 h16
                  refine wpOp_unit rfl rfl (wanted_plain rfl _) (ex_store (hR.slot 15 98 (hd 15 rfl) rfl) (hR.slot 13 96 (hd 13 rfl) rfl) (st_u64 Ho6.out.1 Ho6.out.2)) ⟨hR.done rfl, ?_⟩
                  rw [set_self (show 16 < l.size by rw [hl]; decide)]
                  simp only [set_other, ne_eq, not_false_eq_true, Nat.reduceEqDiff]
                  exact ⟨fun _ h => absurd rfl h, fun h => absurd h h14, fun _ _ => rfl, fun h => absurd h h14, fun h => absurd h h18⟩
              · -- [17] indexAddr 44 t92 t94
                refine wpOp_val rfl (d := 99) rfl (wanted_plain rfl _) (ex_indexAddr (hR.slot 9 92 (hd 9 rfl) rfl) (hR.slot 11 94 (hd 11 rfl) rfl) (ix_rows dm z P.n Hzn.out _)) ⟨hR.put hu (by rw [hl]; decide) (d := 99) rfl (of_decide_eq_true rfl) rfl, ?_⟩
                simpa only [set_other, ne_eq, not_false_eq_true, Nat.reduceEqDiff] using hW
              · -- [18] store 32 t99 t97
                have h18 : l[18]? ≠ some true := by rw [hli]; simp
                have e := hW.s2 (hd 14 rfl) (hd 16 rfl) h18
                subst e
                refine wpOp_unit rfl rfl (wanted_plain rfl _) (ex_store (hR.slot 17 99 (hd 17 rfl) rfl) (hR.slot 14 97 (hd 14 rfl) rfl) (st_row Hd8.out.1 Hd8.out.2)) ⟨hR.done rfl, ?_⟩
                rw [set_self (show 18 < l.size by rw [hl]; decide)]
                simp only [set_other, ne_eq, not_false_eq_true, Nat.reduceEqDiff]
                exact ⟨fun h => absurd (hd 14 rfl) h, fun _ h => absurd (hd 16 rfl) h, fun h => absurd (hd 14 rfl) h, fun _ _ h => absurd rfl h, fun _ => rfl⟩
-- ENDR13
            · intro l a wx hl hR hW
              have e := hW.s3 (hl 18 (by decide))
              subst e
              rw [hR.fold [83, 84, 85, 86, 87, 88, 89, 90, 91, 92, 93, 94, 95, 96, 97, 98, 99] (by kernel_rfl)]
              simp only [List.foldl]
              clear hW hR hl
              generalize a.tmps.getD 83 undef = u83
              generalize a.tmps.getD 84 undef = u84
              generalize a.tmps.getD 85 undef = u85
              generalize a.tmps.getD 86 undef = u86
              generalize a.tmps.getD 87 undef = u87
              generalize a.tmps.getD 88 undef = u88
              generalize a.tmps.getD 89 undef = u89
              generalize a.tmps.getD 90 undef = u90
              generalize a.tmps.getD 91 undef = u91
              generalize a.tmps.getD 92 undef = u92
              generalize a.tmps.getD 93 undef = u93
              generalize a.tmps.getD 94 undef = u94
              generalize a.tmps.getD 95 undef = u95
              generalize a.tmps.getD 96 undef = u96
              generalize a.tmps.getD 97 undef = u97
              generalize a.tmps.getD 98 undef = u98
              generalize a.tmps.getD 99 undef = u99
              go_simp
              clear a l
              have HMc : Hid (ModAt (((w6.alloc (.cells (row 64 fun _ => .int .u8 0) 5)).setCell ⟨om, z, none⟩ (.int .u64 ow)).setCell ⟨dm, z, none⟩ (.slice (some ⟨w6.heap.size, 0, none⟩) 64 64)) lo mb dm om ⟨P.n, updI P.O z ow, fun j => if z * 64 ≤ j ∧ j < z * 64 + 64 then 0 else P.D j⟩) := HM6.out.charge (by have := HC6.out.lt; omega) z ow _ rfl
              have HKf : Kept (fun i => i = om ∨ i = dm) w6 (((w6.alloc (.cells (row 64 fun _ => .int .u8 0) 5)).setCell ⟨om, z, none⟩ (.int .u64 ow)).setCell ⟨dm, z, none⟩ (.slice (some ⟨w6.heap.size, 0, none⟩) 64 64)) := (((Kept.refl _ w6).alloc _).setIn om z _ (.inl rfl)).setIn dm z _ (.inr rfl)
              go_wp2_with fail
              refine meet_in HJ.out (by kernel_rfl) ⟨⟨P.n, updI P.O z ow, fun j => if z * 64 ≤ j ∧ j < z * 64 + 64 then 0 else P.D j⟩, rfl, ?_, HMc.out, ?_, ?_⟩
              · have := HP6.out
                rw [Hal.out] at this
                exact this.kept HKf (by rintro (e | e); exact n3 (.inl e.symm); exact n2 (.inl e.symm)) (by rintro (e | e); exact n3 (.inr (.inl e.symm)); exact n2 (.inr (.inl e.symm))) (by rintro (e | e); exact n3 (.inr (.inr e.symm)); exact n2 (.inr (.inr e.symm)))
              · exact HKf.blk HC6.out (by have := HM6.out.l2; have := HM6.out.l3; rintro (e | e) <;> omega)
              · exact Hb6.out.trans (HKf.below (B := base) (by have := Hb2.out; have := HM6.out.ho.lt; omega) (fun i hi e => by have := Hb2.out; rcases e with e | e <;> omega))
          · have har : P.allocRet ow = 0 := by unfold Pool.allocRet; rw [if_neg hc]
            have hal : P.alloc ow = P := by unfold Pool.alloc; rw [if_neg hc]
            have Hal := Lib.hid hal; clear hal hc
            rw [har]
            have Har := Lib.hid har; clear har
            have Hk0 := Lib.hid hk0; clear hk0
            have Hex := Lib.hid hex; clear hex
            by_cases hkz : k = 0
            · subst hkz
              go_wp2_with fail
              refine (alloc_any pb db ob P _ _ HP2.out).mono ?_
              rintro e w5 ⟨rfl, hP5, hK5⟩
              rw [Har.out]
              have hM5 := HM2.out.kept hK5 n1 n2 n3 (fun g hg => by have := Hl.out; rintro (e | e | e) <;> omega)
              have hC5 := hK5.blk HC2.out (by have := Hl.out; rintro (e | e | e) <;> omega)
              have hb5 := Hbel2.out.trans (hK5.below (B := base) (by have := Hb1.out; have := Hl.out; omega) (fun i hi e => by have := Hb1.out; rcases e with e | e | e <;> omega))
              rw [Hal.out] at hP5
              have HM5 := Lib.hid hM5; have HC5 := Lib.hid hC5; have Hb5 := Lib.hid hb5; have HP5 := Lib.hid hP5
              clear hM5 hC5 hb5 hP5 hK5
              go_wp2_with fail
              exact meet_in HJ.out (by kernel_rfl) ⟨P, rfl, HP5.out, HM5.out, HC5.out, Hb5.out⟩
            · have how : (ow != 0) = false := by have := Hex.out.resolve_left hkz; simp [this]
              obtain ⟨i, rfl⟩ : ∃ i, k = i + 1 := ⟨k - 1, by omega⟩
              have ei : ((i + 1 : Nat) : Int) - 1 = (i : Int) := by omega
              rw [ei]
              clear ei
              go_wp2_with fail
              refine (alloc_any pb db ob P _ _ HP2.out).mono ?_
              rintro e w5 ⟨rfl, hP5, hK5⟩
              rw [Har.out]
              have hM5 := HM2.out.kept hK5 n1 n2 n3 (fun g hg => by have := Hl.out; rintro (e | e | e) <;> omega)
              have hC5 := hK5.blk HC2.out (by have := Hl.out; rintro (e | e | e) <;> omega)
              have hb5 := Hbel2.out.trans (hK5.below (B := base) (by have := Hb1.out; have := Hl.out; omega) (fun i hi e => by have := Hb1.out; rcases e with e | e | e <;> omega))
              rw [Hal.out] at hP5
              have HM5 := Lib.hid hM5; have HC5 := Lib.hid hC5; have Hb5 := Lib.hid hb5; have HP5 := Lib.hid hP5
              clear hM5 hC5 hb5 hP5 hK5
              go_wp2_with fail
              exact meet_in HJ.out (by kernel_rfl) ⟨P, rfl, HP5.out, HM5.out, HC5.out, Hb5.out⟩
        · have how : (ow != 0) = true := by simp at hex; simp [hex.2]
          obtain ⟨i, rfl⟩ : ∃ i, k = i + 1 := ⟨k - 1, by omega⟩
          have ei : ((i + 1 : Nat) : Int) - 1 = (i : Int) := by omega
          rw [ei]
          have hin : i < P.n := by omega
          have hro := HM2.out.ho.rowAt i hin
          cases e1 : (P.O i == 0)
          · have e1' : P.O i ≠ 0 := by simpa using e1
            go_wp2_with fail
            go_roundg i
            case measure => omega
            case rel =>
              refine ⟨i, x, rfl, by omega, by go_num, rfl, rfl, fun e => by simp [e] at how, ?_⟩
              rcases hx'.out with ⟨g0, hall⟩ | ⟨m, g0, g1, g2, g3, g4⟩
              · exact .inl ⟨g0, fun j g1 g2 => by
                  by_cases e : j = i
                  · subst e; exact e1'
                  · exact hall j (by omega) g2⟩
              · exact .inr ⟨m, g0, by omega, g2, g3, fun j g5 g6 => by
                  by_cases e : j = i
                  · subst e; exact e1'
                  · exact g4 j (by omega) g6⟩
          · have e1' : P.O i = 0 := by simpa using e1
            go_wp2_with fail
            go_roundg i
            case measure => omega
            case rel =>
              exact ⟨i, _, rfl, by omega, by go_num, by go_num, rfl, fun e => by simp [e] at how, .inr ⟨i, rfl, Nat.le_refl _, hin, e1', fun j g1 g2 => by omega⟩⟩
    · go_wp2_with fail
      refine (free_any pb db ob P _ _ HP2.out).mono ?_
      rintro e w5 ⟨rfl, hP5, hK5⟩
      have hM5 := HM2.out.kept hK5 n1 n2 n3 (fun g hg => by have := Hl.out; rintro (e | e | e) <;> omega)
      have hC5 := hK5.blk HC2.out (by have := Hl.out; rintro (e | e | e) <;> omega)
      have hb5 := Hbel2.out.trans (hK5.below (B := base) (by have := Hb1.out; have := Hl.out; omega) (fun i hi e => by have := Hb1.out; rcases e with e | e | e <;> omega))
      have HM5 := Lib.hid hM5; have HC5 := Lib.hid hC5; have Hb5 := Lib.hid hb5; have HP5 := Lib.hid hP5
      clear hM5 hC5 hb5 hP5 hK5 hcc hmc
      cases th
      · have hfr : P.free f = P := by have := Hth.out; unfold Pool.free; rw [if_neg (by simpa using this)]
        have Hfr := Lib.hid hfr; clear hfr
        have HP6 : Hid (PoolAt w5 pb db ob P) := by have := HP5.out; rw [Hfr.out] at this; exact this
        go_wp2_with fail
        exact meet_in HJ.out (by kernel_rfl) ⟨P, rfl, HP6.out, HM5.out, HC5.out, Hb5.out⟩
      · have hno : P.owner f ≠ 0 := by have := Hth.out; simpa using this
        have hfr : P.free f = ⟨P.n, updI P.O (f.toNat - 1) 0, P.D⟩ := by unfold Pool.free; rw [if_pos hno]
        obtain ⟨t1, t2⟩ := (P.there_iff f).1 (P.owner_there f hno)
        obtain ⟨k, rfl⟩ : ∃ k : Nat, f = (k : Int) + 1 := ⟨(f - 1).toNat, by omega⟩
        have e : ((k : Int) + 1).toNat - 1 = k := by omega
        rw [e] at hfr
        have HP6 : Hid (PoolAt w5 pb db ob ⟨P.n, updI P.O k 0, P.D⟩) := by have := HP5.out; rw [hfr] at this; exact this
        have hcc := HC5.out.cell
        have hmc := HM5.out.hm.cell
        have hro := HM5.out.ho.rowAt k (by omega)
        have hof := HM5.out.ho.free
        have H6M := Lib.hid (HM5.out.free k)
        have HKf : Hid (Kept (fun i => i = om) w5 (w5.setCell ⟨om, k, none⟩ (.int .u64 0))) := (Kept.refl _ w5).setIn om k _ rfl
        clear hfr e hno
        go_wp2_with fail
        have hkw1 : IntKind.i64.wrap ((k : Int) + 1 - 1) = (k : Int) := by rw [show (k : Int) + 1 - 1 = (k : Int) by omega]; exact IntWalk.i64_in _ (by omega)
        have hkw2 : IntKind.i64.wrap (k : Int) = (k : Int) := IntWalk.i64_in _ (by omega)
        have hki : (k : Int) < P.n := by omega
        have hk00 : (0 : Int) ≤ (k : Int) := by omega
        go_still_tail 8, (by kernel_rfl)
        rw [drew_eq w5]
        have HP7 := Lib.hid HP6.out.drew; have HM7 := Lib.hid HM5.out.drew; have HC7 := Lib.hid HC5.out.drew; have Hb7 := Lib.hid Hb5.out.drew
        clear HP6 HM5 HC5 Hb5 HKf H6M hcc hmc hro hof HP5
        generalize w5.drew = w7 at *
        have hro := HM7.out.ho.rowAt k (by omega)
        have hof := HM7.out.ho.free
        go_wp2_with fail
        refine meet_in HJ.out (by kernel_rfl) ⟨⟨P.n, updI P.O k 0, P.D⟩, rfl, ?_, HM7.out.free k, ?_, ?_⟩
        · exact HP7.out.kept (S := fun i => i = om) ((Kept.refl _ w7).setIn om k _ rfl) (fun e => n3 (.inl e.symm)) (fun e => n3 (.inr (.inl e.symm))) (fun e => n3 (.inr (.inr e.symm)))
        · exact HC7.out.set_other (a := ⟨om, k, none⟩) (by have := HM7.out.l3; show om ≠ _; omega) _
        · exact Hb7.out.trans (((Kept.refl (fun i => i = om) w7).setIn om k _ rfl).below (B := base) (by have := Hb2.out; have := HM7.out.ho.lt; omega) (fun i hi e => by have := Hb2.out; omega))
    · have HBy : Hid (BytesIn w2 a len B) := HB.out _ Hbel2.out
      have hlen' : (len : Int) ≤ 200 := by omega
      cases hfit : P.fits f off len
      · have hor : th = false ∨ (th = true ∧ ¬ 0 ≤ off) ∨ (th = true ∧ 0 ≤ off ∧ ¬ off ≤ 64) ∨ (th = true ∧ 0 ≤ off ∧ off ≤ 64 ∧ ¬ (len : Int) ≤ 64 - off) := by
          have h1 := mt (P.fits_iff f off len).2 (by rw [hfit]; simp)
          have h2 := Hth.out
          cases th
          · exact .inl rfl
          · have h3 : P.owner f ≠ 0 := by simpa using h2
            by_cases g1 : 0 ≤ off
            · by_cases g2 : off ≤ 64
              · exact .inr (.inr (.inr ⟨rfl, g1, g2, fun g3 => h1 ⟨h3, by omega, by omega, g1, by omega⟩⟩))
              · exact .inr (.inr (.inl ⟨rfl, g1, g2⟩))
            · exact .inr (.inl ⟨rfl, g1⟩)
        have Hfit := Lib.hid hfit; clear hfit
        rcases hor with rfl | ⟨rfl, g1⟩ | ⟨rfl, g1, g2⟩ | ⟨rfl, g1, g2, g3⟩
        all_goals
          go_wp2_with fail
          refine (write_no pb db ob P _ _ _ _ _ _ HP2.out Hfit.out).mono ?_
          rintro e w' ⟨rfl, rfl⟩
          go_wp2_with fail
          exact meet_in HJ.out (by kernel_rfl) ⟨P, rfl, HP2.out, HM2.out, HC2.out, Hbel2.out⟩
      · obtain ⟨g1, g2, g3, g4, g5⟩ := (P.fits_iff f off len).1 hfit
        obtain ⟨t1, t2⟩ := (P.there_iff f).1 (P.owner_there f g1)
        have how : P.owner f = P.O (f.toNat - 1) := by unfold Pool.owner; rw [if_pos (P.owner_there f g1)]
        obtain rfl : th = true := by have := Hth.out; rw [← this]; simpa using g1
        obtain ⟨k, rfl⟩ : ∃ k : Nat, f = (k : Int) + 1 := ⟨(f - 1).toNat, by omega⟩
        obtain ⟨q, rfl⟩ : ∃ q : Nat, off = (q : Int) := ⟨off.toNat, by omega⟩
        have e : ((k : Int) + 1).toNat - 1 = k := by omega
        rw [e] at how
        have hkn : k < P.n := by omega
        have hO : P.O k ≠ 0 := by rw [← how]; exact g1
        have hw : P.write ((k : Int) + 1) q len B = ⟨P.n, P.O, fun j => if k * 64 + q ≤ j ∧ j < k * 64 + q + len then B (j - (k * 64 + q)) else P.D j⟩ := by
          unfold Pool.write
          rw [if_pos hfit, e]
          simp only [Int.toNat_natCast]
        have Hfit := Lib.hid hfit; have HO := Lib.hid hO; have HW := Lib.hid hw
        clear hfit hO how e hw g1
        have hq64 : (q : Int) ≤ 64 := by omega
        have hl64 : (len : Int) ≤ 64 - q := by omega
        go_wp2_with fail
        refine (write_yes pb db ob P _ _ _ _ _ B _ HP2.out Hfit.out HBy.out HBd.out).mono ?_
        rintro e w5 ⟨rfl, hP5, hK5⟩
        have hM5 := HM2.out.kept hK5 n1 n2 n3 (fun g hg => by have := Hl.out; rintro (e | e | e) <;> omega)
        have hC5 := hK5.blk HC2.out (by have := Hl.out; rintro (e | e | e) <;> omega)
        have hb5 := Hbel2.out.trans (hK5.below (B := base) (by have := Hb1.out; have := Hl.out; omega) (fun i hi e => by have := Hb1.out; rcases e with e | e | e <;> omega))
        rw [HW.out] at hP5
        have HM5 := Lib.hid hM5; have HC5 := Lib.hid hC5; have Hb5 := Lib.hid hb5; have HP5 := Lib.hid hP5
        clear hM5 hC5 hb5 hP5 hK5 HW
        have HBy5 : Hid (BytesIn w5.drew a len B) := HB.out _ Hb5.out.drew
        clear hcc hmc HP2 HM2 HC2 Hbel2 HBy
        have hcc := HC5.out.cell
        have hmc := HM5.out.hm.cell
        obtain ⟨V, G, hv, hG, -⟩ := HM5.out.hd
        obtain ⟨v1, v2, v3⟩ := hG k hkn HO.out
        have hvc := hv.rowAt k hkn
        rw [v1] at hvc
        have Hvc : Hid (w5.drew.cell? ⟨dm, k, none⟩ = some (.slice (some ⟨G k, 0, none⟩) 64 64)) := by show w5.drew.cell? _ = _; rw [World.cell?_drew]; exact hvc
        have HG : Hid (Blk w5.drew (G k) (row 64 fun j => .int .u8 (P.D (k * 64 + j))) 5) := v2.drew
        have hGl : lo ≤ G k := v3
        have hGl' : G k ≠ w.heap.size := by
          intro e
          have h1 := HC5.out; have h2 := v2
          rw [e] at h2
          unfold Blk at h1 h2
          rw [h1] at h2; injection h2 with h2; injection h2 with _ h3 _; exact absurd h3 (by decide)
        clear hv hG v1 v2 v3
        generalize G k = gk at *
        clear G V
        by_cases hm0 : len = 0
        · have Hm0 := Lib.hid hm0
          have hP6 : Hid (PoolAt w5.drew pb db ob P) := by
            have := HP5.out.drew
            refine ⟨this.hp, this.hd.cells (row_congr fun i _ => ?_), this.ho, this.n1, this.n2, this.n3, this.lo, this.hi, fun i => ?_⟩
            · show Value.int .u8 (if _ then _ else _) = _
              rw [if_neg (by omega)]
            · have h := this.bd i
              simp only at h
              rwa [if_neg (by omega)] at h
          clear hm0
          obtain ⟨o, ho⟩ : ∃ o : Nat, (if 64 = q then 0 else q) = o := ⟨_, rfl⟩
          have hsl : ∀ w, (Instr.slice 32 (.slice (some ⟨gk, 0, none⟩) 64 64) (some (.int .i64 q)) none none).run Try.prog w = .ok (.slice (some ⟨gk, o, none⟩) (64 - q) (64 - q)) w := by
            intro w
            have hq0 : (0 : Int) ≤ q := by omega
            go_simp
            rw [← ho]; split <;> rfl
          clear ho
          go_wp2_with fail
          have hkw1 : IntKind.i64.wrap ((k : Int) + 1 - 1) = (k : Int) := by rw [show (k : Int) + 1 - 1 = (k : Int) by omega]; exact IntWalk.i64_in _ (by omega)
          have hkw2 : IntKind.i64.wrap (k : Int) = (k : Int) := IntWalk.i64_in _ (by omega)
          have hki : (k : Int) < P.n := by omega
          have hk00 : (0 : Int) ≤ (k : Int) := by omega
          go_still_tail 14, (by kernel_rfl)
          rw [drew_eq w5]
          go_wp2_with (refine wpList_copy_nothing rfl (.tmp 159) (.tmp 161) 32 32 rfl 5 Try.underlying32 (by kernel_rfl) _ _ _ _ _ _ rfl rfl (by rw [Hm0.out]; simp) ?_)
          exact meet_in HJ.out (by kernel_rfl) ⟨P, rfl, hP6.out, HM5.out.drew, HC5.out.drew, Hb5.out.drew⟩
        · obtain ⟨bb, bo, ha, hb'⟩ := HBy5.out.resolve_left hm0
          have Ha := Lib.hid ha; clear ha
          have Hbb := Lib.hid hb'; clear hb' HBy5
          have hqs : (q : Int) < 64 := by omega
          have hqn : ¬ (64 = q) := by omega
          go_wp2_with fail
          have hkw1 : IntKind.i64.wrap ((k : Int) + 1 - 1) = (k : Int) := by rw [show (k : Int) + 1 - 1 = (k : Int) by omega]; exact IntWalk.i64_in _ (by omega)
          have hkw2 : IntKind.i64.wrap (k : Int) = (k : Int) := IntWalk.i64_in _ (by omega)
          have hki : (k : Int) < P.n := by omega
          have hk00 : (0 : Int) ≤ (k : Int) := by omega
          go_still_tail 14, (by kernel_rfl)
          rw [drew_eq w5]
          go_wp2_with (refine wpList_copy_own rfl (.tmp 159) (.tmp 161) 32 32 rfl 5 Try.underlying32 (by kernel_rfl) gk q _ _ ⟨bb, bo, none⟩ _ _ rfl (congrArg (fun x => Value.slice x len cap) Ha.out) _ _ HG.out ((List.range len).map fun j => Value.int .u8 (B j)) (by rw [List.length_map, List.length_range]; exact (Nat.min_eq_left (by omega)).symm) (copy_src Hbb.out) (by rw [row_size]; simp; omega) (fun v hv => by obtain ⟨j, _, rfl⟩ := List.mem_map.1 hv; rfl) ?_)
          have hK : Kept (fun b => b = gk) w5.drew (w5.drew.setRow gk ((row 64 fun j => .int .u8 (P.D (k * 64 + j))).toList.take q ++ ((List.range len).map (fun j => Value.int .u8 (B j)) ++ (row 64 fun j => .int .u8 (P.D (k * 64 + j))).toList.drop (q + ((List.range len).map fun j => Value.int .u8 (B j)).length))).toArray) := (Kept.refl (fun b => b = gk) w5.drew).setRow (.inr rfl) _
          refine meet_in HJ.out (by kernel_rfl) ⟨⟨P.n, P.O, fun j => if k * 64 + q ≤ j ∧ j < k * 64 + q + len then B (j - (k * 64 + q)) else P.D j⟩, rfl, ?_, ?_, ?_, ?_⟩
          · exact HP5.out.drew.kept hK (by have := Hl.out; omega) (by have := Hl.out; omega) (by have := Hl.out; omega)
          · refine HM5.out.drew.write k q len hkn HO.out (by omega) B gk Hvc.out hK ?_
            refine Blk.cells (HG.out.setRow _) ?_
            have hl : ((List.range len).map (fun j => Value.int .u8 (B j))).length = len := by simp
            rw [row_splice 64 _ q _ (fun j => .int .u8 (B j)) (range_get len B) (by rw [hl]; omega), hl]
            refine row_congr fun j _ => ?_
            by_cases c : q ≤ j ∧ j < q + len
            · simp [if_pos c]
            · simp [if_neg c]
          · exact hK.blk HC5.out.drew (fun e => hGl' e.symm)
          · exact Hb5.out.drew.trans (hK.below (B := base) (by have := Hb2.out; have := HM5.out.ho.lt; have e1 : w5.drew.heap.size = w5.heap.size := drew_size w5; omega) (fun i hi e => by have := Hb2.out; have := Hl.out; have := Hb1.out; omega))
    · have hn0 := Hn.out
      cases hfit : P.fits f off nn
      · have hor : th = false ∨ (th = true ∧ ¬ 0 ≤ off) ∨ (th = true ∧ 0 ≤ off ∧ ¬ off ≤ 64) ∨ (th = true ∧ 0 ≤ off ∧ off ≤ 64 ∧ ¬ 0 ≤ nn) ∨ (th = true ∧ 0 ≤ off ∧ off ≤ 64 ∧ 0 ≤ nn ∧ ¬ nn ≤ 64 - off) := by
          have h1 := mt (P.fits_iff f off nn).2 (by rw [hfit]; simp)
          have h2 := Hth.out
          cases th
          · exact .inl rfl
          · have h3 : P.owner f ≠ 0 := by simpa using h2
            by_cases g1 : 0 ≤ off
            · by_cases g2 : off ≤ 64
              · by_cases g4 : 0 ≤ nn
                · exact .inr (.inr (.inr (.inr ⟨rfl, g1, g2, g4, fun g3 => h1 ⟨h3, g4, by omega, g1, by omega⟩⟩)))
                · exact .inr (.inr (.inr (.inl ⟨rfl, g1, g2, g4⟩)))
              · exact .inr (.inr (.inl ⟨rfl, g1, g2⟩))
            · exact .inr (.inl ⟨rfl, g1⟩)
        have Hfit := Lib.hid hfit; clear hfit
        rcases hor with rfl | ⟨rfl, g1⟩ | ⟨rfl, g1, g2⟩ | ⟨rfl, g1, g2, g3⟩ | ⟨rfl, g1, g2, g3, g4⟩
        all_goals
          go_wp2_with fail
          refine (read_no pb db ob P _ _ _ _ HP2.out Hfit.out).mono ?_
          rintro e w' ⟨rfl, rfl⟩
          go_wp2_with fail
          go_ret
          exact ⟨rfl, Hbel2.out, P, rfl, HP2.out, HM2.out⟩
      · obtain ⟨g1, g2, g3, g4, g5⟩ := (P.fits_iff f off nn).1 hfit
        obtain ⟨t1, t2⟩ := (P.there_iff f).1 (P.owner_there f g1)
        have how : P.owner f = P.O (f.toNat - 1) := by unfold Pool.owner; rw [if_pos (P.owner_there f g1)]
        obtain rfl : th = true := by have := Hth.out; rw [← this]; simpa using g1
        obtain ⟨k, rfl⟩ : ∃ k : Nat, f = (k : Int) + 1 := ⟨(f - 1).toNat, by omega⟩
        obtain ⟨q, rfl⟩ : ∃ q : Nat, off = (q : Int) := ⟨off.toNat, by omega⟩
        obtain ⟨m, rfl⟩ : ∃ m : Nat, nn = (m : Int) := ⟨nn.toNat, by omega⟩
        have e : ((k : Int) + 1).toNat - 1 = k := by omega
        rw [e] at how
        have hkn : k < P.n := by omega
        have hO : P.O k ≠ 0 := by rw [← how]; exact g1
        have Hfit := Lib.hid hfit; have HO := Lib.hid hO
        clear hfit hO how e g1 hn0
        have hq64 : (q : Int) ≤ 64 := by omega
        have hm64 : (m : Int) ≤ 64 - q := by omega
        go_wp2_with fail
        refine (read_yes pb db ob P _ _ _ _ HP2.out Hfit.out).mono ?_
        rintro e w5 ⟨v, rfl, hown, hb5⟩
        have HP5 := Lib.hid (HP2.out.below hb5); have HM5 := Lib.hid (HM2.out.below hb5)
        have HC5 := Lib.hid (HC2.out.below hb5 HC2.out.lt)
        have Hb5 := Lib.hid (Hbel2.out.trans (hb5.mono (by have := Hb2.out; have := HM2.out.ho.lt; omega)))
        clear hb5 hcc hmc
        have hcc := HC5.out.cell
        have hmc := HM5.out.hm.cell
        obtain ⟨V, G, hv, hG, -⟩ := HM5.out.hd
        obtain ⟨v1, v2, v3⟩ := hG k hkn HO.out
        have hvc := hv.rowAt k hkn
        rw [v1] at hvc
        obtain ⟨l, hl⟩ : ∃ l : List Int, (List.range m).map (fun j => P.D (k * 64 + q + j)) = l := ⟨_, rfl⟩
        have hll : l.length = m := by rw [← hl]; simp
        have hown : w5.ownsRow w2.heap.size 5 1 v l.length (bytesV l) := by
          have e : P.cells ((((k : Int) + 1).toNat - 1) * 64 + (q : Int).toNat) (m : Int).toNat = bytesV l := by
            rw [← hl]; simp only [Pool.cells, bytesV, List.map_map]
            refine List.map_congr_left fun j hj => ?_
            have e : (((k : Int) + 1).toNat - 1) * 64 + (q : Int).toNat = k * 64 + q := by omega
            rw [e]; rfl
          rw [hll]; rw [e, Int.toNat_natCast] at hown; exact hown
        have hs1 : ∀ w', (∃ n, w' = w5.drewN n) → (convert 32 9 v).run Try.prog w' = .ok (.string (bs l)) w' := fun w' hw' => by
          have hown' : w'.ownsRow w2.heap.size 5 1 v l.length (bytesV l) := by
            obtain ⟨n, rfl⟩ := hw'
            exact hown
          exact run_str_own Try.underlying32 Try.underlying5 Try.underlying9 hown'
        have hs2 : ∀ o w', (∃ n, w' = w5.drewN n) → (o = q ∨ m = 0) → (convert 32 9 (.slice (some ⟨G k, o, none⟩) m (64 - q))).run Try.prog w' = .ok (.string (bs l)) w' := fun o w' hw' ho => by
          have e : m = l.length := by omega
          have HM' : Blk w' (G k) (row 64 fun j => .int .u8 (P.D (k * 64 + j))) 5 := by
            obtain ⟨n, rfl⟩ := hw'
            exact v2.drewN n
          have := run_str (P := Try.prog) (w := w') Try.underlying32 Try.underlying5 Try.underlying9 ⟨G k, o, none⟩ l (64 - q) fun j hj => ?_
          · rw [← e] at this; exact this
          obtain rfl : o = q := ho.resolve_right (by omega)
          rw [Addr.add_lit, HM'.rowAt (o + j) (by omega), ← hl]
          simp [List.getD, show j < m by omega, Nat.add_assoc]
        have Hs1 := Lib.hid hs1
        have hqq : q = 64 ∨ ¬ 64 = q := by omega
        have Hs2 := Lib.hid hs2
        clear hs1 hown hl hv hG v1 v2 v3 hs2
        generalize G k = gk at *
        have hq0 : (0 : Int) ≤ q := by omega
        have hqm : (q : Int) ≤ q + m := by omega
        have hqm2 : (q : Int) + m ≤ 64 := by omega
        have HP6 := Lib.hid HP5.out; have HM6 := Lib.hid HM5.out; have HC6 := Lib.hid HC5.out; have Hb6 := Lib.hid Hb5.out
        have hmw : IntKind.i64.wrap ((q : Int) + m) = (q : Int) + m := IntWalk.i64_in _ (by omega)
        clear HP2 HM2 HC2 Hbel2 HP5 HM5
        obtain ⟨o, ho⟩ : ∃ o : Nat, (if 64 = q then 0 else q) = o := ⟨_, rfl⟩
        have Hs2' := Lib.hid (fun w' h => Hs2.out o w' h (by
          rcases hqq with rfl | h
          · exact .inr (by omega)
          · left; rw [← ho, if_neg h]))
        clear Hs2
        have hsl : ∀ w, (Instr.slice 32 (.slice (some ⟨gk, 0, none⟩) 64 64) (some (.int .i64 q)) (some (.int .i64 ((q : Int) + m))) none).run Try.prog w = .ok (.slice (some ⟨gk, o, none⟩) m (64 - q)) w := by
          intro w
          have hq0 : (0 : Int) ≤ q := by omega
          have hqm : (q : Int) ≤ (q : Int) + m := by omega
          have hqm2 : (q : Int) + m ≤ 64 := by omega
          have e1 : ((q : Int) + m).toNat = q + m := by omega
          rw [← ho]
          go_simp
          rw [← ho]; split <;> rfl
        go_wp2_with fail
        have hkw1 : IntKind.i64.wrap ((k : Int) + 1 - 1) = (k : Int) := by rw [show (k : Int) + 1 - 1 = (k : Int) by omega]; exact IntWalk.i64_in _ (by omega)
        have hkw2 : IntKind.i64.wrap (k : Int) = (k : Int) := IntWalk.i64_in _ (by omega)
        have hki : (k : Int) < P.n := by omega
        have hk00 : (0 : Int) ≤ (k : Int) := by omega
        refine wp_region_quiet_lit (by kernel_rfl) (by kernel_rfl) ?_
        repeat (first
          | (refine BigFrame.wpQuiet_want rfl (fun K hK => quiet_conv 32 9 (.tmp 202) _ _ rfl rfl Hs1.out (hK _ ?_)); clear hK K; go_simp)
          | (refine BigFrame.wpQuiet_want rfl (fun K hK => quiet_conv 32 9 (.tmp 220) _ _ rfl rfl Hs2'.out (hK _ ?_)); clear hK K; go_simp)
          | go_big_quiet_step (fail))
        refine wpQuiet_nil ?_
        intro nq
        go_wp2_with fail
        go_ret
        exact ⟨by simp, below_drewN Hb6.out _, P, rfl, HP6.out.drewN _, HM6.out.drewN _⟩
    · go_wp2_with fail
      exact meet_in HJ.out (by kernel_rfl) ⟨P, rfl, HP2.out, HM2.out, HC2.out, Hbel2.out⟩
  case rest2 =>
  intro fs wc hcut
  dsimp only
  obtain ⟨P', hPn, hP', hM', hC', hb'⟩ := hcut
  have HP3 := Lib.hid hP'; have HM3 := Lib.hid hM'; have HC3 := Lib.hid hC'; have Hb3 := Lib.hid hb'
  have HPn := Lib.hid hPn; clear hPn
  have hn4 := hP'.hi
  have hlo' := hP'.lo
  clear hP' hM' hC' hb' HP2 HM2 HC2 Hbel2 hcc hkk hkk' Hk5 q0 q1 Hth HB HBd
  go_wp2_with fail
  obtain ⟨tf, htf⟩ : ∃ tf, P'.there f = tf := ⟨_, rfl⟩
  have how : P'.owner f = if tf then P'.O (f.toNat - 1) else 0 := by rw [← htf]; rfl
  obtain ⟨vo, hvo⟩ : ∃ vo, P'.owner f = vo := ⟨_, rfl⟩
  have Hvo := Lib.hid hvo
  rw [hvo] at how
  have How := Lib.hid how; clear how hvo
  have htf' : tf = true ↔ 1 ≤ f ∧ f ≤ P'.n := by rw [← htf]; exact P'.there_iff f
  have Htf := Lib.hid htf'; clear htf htf'
  refine cut_in (fun _ wx => ∃ n, wx = wc.drewN n) (fun f => [.pointer (some ⟨mb, 0, none⟩), .pointer (some ⟨pb, 0, none⟩), vagg, undef, undef, .pointer (some ⟨w.heap.size, 0, none⟩), .bool false, .bool th, f 8, f 9, f 10, f 11, f 12, .int .u64 0, undef, undef, undef, undef, f 18, f 19, f 20, f 21, f 22, f 23, f 24, f 25, f 26, f 27, f 28, f 29, f 30, f 31, f 32, f 33, f 34, f 35, f 36, f 37, f 38, f 39, f 40, f 41, f 42, f 43, f 44, f 45, f 46, f 47, f 48, f 49, f 50, f 51, f 52, f 53, f 54, f 55, f 56, f 57, f 58, f 59, f 60, f 61, f 62, f 63, f 64, f 65, f 66, f 67, f 68, f 69, f 70, f 71, f 72, f 73, f 74, f 75, f 76, f 77, f 78, f 79, f 80, f 81, f 82, f 83, f 84, f 85, f 86, f 87, f 88, f 89, f 90, f 91, f 92, f 93, f 94, f 95, f 96, f 97, f 98, f 99, f 100, f 101, f 102, f 103, f 104, f 105, f 106, f 107, f 108, f 109, f 110, f 111, f 112, f 113, f 114, f 115, f 116, f 117, f 118, f 119, f 120, f 121, f 122, f 123, f 124, f 125, f 126, f 127, f 128, f 129, f 130, f 131, f 132, f 133, f 134, f 135, f 136, f 137, f 138, f 139, f 140, f 141, f 142, f 143, f 144, f 145, f 146, f 147, f 148, f 149, f 150, f 151, f 152, f 153, f 154, f 155, f 156, f 157, f 158, f 159, f 160, f 161, f 162, f 163, f 164, f 165, f 166, f 167, f 168, f 169, f 170, f 171, f 172, f 173, f 174, f 175, f 176, f 177, f 178, f 179, f 180, f 181, f 182, f 183, f 184, f 185, f 186, f 187, f 188, f 189, f 190, f 191, f 192, f 193, f 194, f 195, f 196, f 197, f 198, f 199, f 200, f 201, f 202, f 203, f 204, f 205, f 206, f 207, f 208, f 209, f 210, f 211, f 212, f 213, f 214, f 215, f 216, f 217, f 218, f 219, f 220, f 221, f 222, f 223, f 224, f 225, f 226, f 227, f 228, f 229, f 230, f 231, f 232, f 233, f 234, .bool tf, undef, undef, undef, undef, undef, undef, undef, undef, undef, undef, undef, undef, undef, undef, undef, undef, undef, undef, undef, undef, undef, undef, undef, undef, undef, undef, undef, undef, undef, undef, undef, undef, undef, undef, undef, undef, undef, undef, undef, undef, undef, undef, undef, undef, undef, undef, undef, undef, undef, undef, undef, undef, undef, undef, undef, undef, undef, undef, undef]) ?first3 ?rest3
  case first3 =>
    intro J K' hJ hK
    have HJ := Lib.hid hJ; clear hJ
    have hcc := HC3.out.cell
    have hmc := HM3.out.hm.cell
    by_cases h1 : 1 ≤ f
    · by_cases h2 : f ≤ P'.n
      · obtain rfl : tf = true := Htf.out.2 ⟨h1, h2⟩
        go_quiet (fail)
        go_wp2_with fail
        exact meet_in HJ.out (by kernel_rfl) ⟨_, rfl⟩
      · obtain rfl : tf = false := by
          cases tf
          · rfl
          · exact absurd (Htf.out.1 rfl).2 h2
        have h2d : decide (f ≤ P'.n) = false := by simpa using h2
        go_quiet (fail)
        go_wp2_with fail
        exact meet_in HJ.out (by kernel_rfl) ⟨_, rfl⟩
    · obtain rfl : tf = false := by
        cases tf
        · rfl
        · exact absurd (Htf.out.1 rfl).1 h1
      have h1d : decide (1 ≤ f) = false := by simpa using h1
      go_quiet (fail)
      go_wp2_with fail
      exact meet_in HJ.out (by kernel_rfl) ⟨_, rfl⟩
  case rest3 =>
  intro ft wc' hcut
  dsimp only
  obtain ⟨nq, rfl⟩ := hcut
  have HP4 := Lib.hid (HP3.out.drewN nq); have HM4 := Lib.hid (HM3.out.drewN nq); have HC4 := Lib.hid (HC3.out.drewN nq); have Hb4 := Lib.hid (below_drewN Hb3.out nq)
  clear HP3 HM3 HC3 Hb3
  generalize wc.drewN nq = wd at *
  go_upto_if 235 with fail
  refine cut_in (fun _ wx => PoolAt wx pb db ob P' ∧ ModAt wx lo mb dm om P' ∧ Blk wx w.heap.size #[.int .i64 kd, .int .i64 f, .int .i64 off, .int .i64 nn, .int .u64 ow, .slice a len cap] 49 ∧ Below base w0 wx) (fun f => [.pointer (some ⟨mb, 0, none⟩), .pointer (some ⟨pb, 0, none⟩), vagg, undef, undef, .pointer (some ⟨w.heap.size, 0, none⟩), .bool false, .bool th, f 8, f 9, f 10, f 11, f 12, .int .u64 vo, undef, undef, undef, undef, f 18, f 19, f 20, f 21, f 22, f 23, f 24, f 25, f 26, f 27, f 28, f 29, f 30, f 31, f 32, f 33, f 34, f 35, f 36, f 37, f 38, f 39, f 40, f 41, f 42, f 43, f 44, f 45, f 46, f 47, f 48, f 49, f 50, f 51, f 52, f 53, f 54, f 55, f 56, f 57, f 58, f 59, f 60, f 61, f 62, f 63, f 64, f 65, f 66, f 67, f 68, f 69, f 70, f 71, f 72, f 73, f 74, f 75, f 76, f 77, f 78, f 79, f 80, f 81, f 82, f 83, f 84, f 85, f 86, f 87, f 88, f 89, f 90, f 91, f 92, f 93, f 94, f 95, f 96, f 97, f 98, f 99, f 100, f 101, f 102, f 103, f 104, f 105, f 106, f 107, f 108, f 109, f 110, f 111, f 112, f 113, f 114, f 115, f 116, f 117, f 118, f 119, f 120, f 121, f 122, f 123, f 124, f 125, f 126, f 127, f 128, f 129, f 130, f 131, f 132, f 133, f 134, f 135, f 136, f 137, f 138, f 139, f 140, f 141, f 142, f 143, f 144, f 145, f 146, f 147, f 148, f 149, f 150, f 151, f 152, f 153, f 154, f 155, f 156, f 157, f 158, f 159, f 160, f 161, f 162, f 163, f 164, f 165, f 166, f 167, f 168, f 169, f 170, f 171, f 172, f 173, f 174, f 175, f 176, f 177, f 178, f 179, f 180, f 181, f 182, f 183, f 184, f 185, f 186, f 187, f 188, f 189, f 190, f 191, f 192, f 193, f 194, f 195, f 196, f 197, f 198, f 199, f 200, f 201, f 202, f 203, f 204, f 205, f 206, f 207, f 208, f 209, f 210, f 211, f 212, f 213, f 214, f 215, f 216, f 217, f 218, f 219, f 220, f 221, f 222, f 223, f 224, f 225, f 226, f 227, f 228, f 229, f 230, f 231, f 232, f 233, f 234, f 235, f 236, f 237, f 238, f 239, f 240, f 241, f 242, f 243, f 244, undef, undef, undef, undef, undef, undef, undef, undef, undef, undef, undef, undef, undef, undef, undef, undef, undef, undef, undef, undef, undef, undef, undef, undef, undef, undef, undef, undef, undef, undef, undef, undef, undef, undef, undef, undef, undef, undef, undef, undef, undef, undef, undef, undef, undef, undef, undef, undef, undef, undef]) ?first4 ?rest4
  case first4 =>
    intro J K' hJ hK
    have HJ := Lib.hid hJ; clear hJ
    have hcc := HC4.out.cell
    have hmc := HM4.out.hm.cell
    cases tf
    · obtain rfl : vo = 0 := How.out
      go_wp2_with fail
      exact meet_in HJ.out (by kernel_rfl) ⟨HP4.out, HM4.out, HC4.out, Hb4.out⟩
    · obtain ⟨h1, h2⟩ := Htf.out.1 rfl
      obtain ⟨k, rfl⟩ : ∃ k : Nat, f = (k : Int) + 1 := ⟨(f - 1).toNat, by omega⟩
      have hkn : k < P'.n := by omega
      have hro := HM4.out.ho.rowAt k hkn
      have e : ((k : Int) + 1).toNat - 1 = k := by omega
      have hvk : vo = P'.O k := by have := How.out; rw [if_pos rfl, e] at this; exact this
      rw [← hvk] at hro
      clear e hvk
      go_wp2_with fail
      have hkw1 : IntKind.i64.wrap ((k : Int) + 1 - 1) = (k : Int) := by rw [show (k : Int) + 1 - 1 = (k : Int) by omega]; exact IntWalk.i64_in _ (by omega)
      have hkw2 : IntKind.i64.wrap (k : Int) = (k : Int) := IntWalk.i64_in _ (by omega)
      have hki : (k : Int) < P'.n := by omega
      have hk00 : (0 : Int) ≤ (k : Int) := by omega
      go_quiet (fail)
      clear hkw1 hkw2
      go_wp2_with fail
      exact meet_in HJ.out (by kernel_rfl) ⟨HP4.out.drewN _, HM4.out.drewN _, HC4.out.drewN _, below_drewN Hb4.out _⟩
  case rest4 =>
  clear HP4 HM4 HC4 Hb4
  intro fu wc hcut
  dsimp only
  obtain ⟨hP', hM', hC', hb'⟩ := hcut
  have HP3 := Lib.hid hP'; have HM3 := Lib.hid hM'; have HC3 := Lib.hid hC'; have Hb3 := Lib.hid hb'
  clear hP' hM' hC' hb'
  have hcc := HC3.out.cell
  have hmc := HM3.out.hm.cell
  go_wp2_with fail
  go_loop [14, 15, 17, 250] (fun l c _ i => ∃ k : Nat, k ≤ P'.n ∧ i = .int .i64 k ∧ l = .int .i64 (freeTo P'.O k : Nat) ∧ c = .int .i64 ((if ow = 0 then 0 else countTo P'.O ow k : Nat) : Int)) (fun _ _ _ i => P'.n - (intOf i).toNat)
  case atStart => exact ⟨0, by omega, rfl, rfl, by split <;> rfl⟩
  case round =>
    obtain ⟨k, hk, rfl, rfl, rfl⟩ := hrel
    by_cases hlt : k < P'.n
    · have hro := HM3.out.ho.rowAt k hlt
      have hfl := freeTo_le P'.O k
      have hcl := countTo_le P'.O ow k
      have hcl' : (if ow = 0 then 0 else countTo P'.O ow k : Nat) ≤ k := by split <;> omega
      have Hfs : Hid (freeTo P'.O (k + 1) = freeTo P'.O k + (if P'.O k = 0 then 1 else 0)) := rfl
      have Hcs : Hid ((if ow = 0 then 0 else countTo P'.O ow (k + 1) : Nat) = (if ow = 0 then 0 else countTo P'.O ow k : Nat) + (if ow ≠ 0 ∧ P'.O k = ow then 1 else 0)) := by
        show _ = _
        by_cases e : ow = 0
        · simp [e]
        · simp [e, countTo]
      generalize (if ow = 0 then 0 else countTo P'.O ow k : Nat) = ck at *
      cases e1 : (P'.O k == 0)
      · cases e2 : (P'.O k == ow)
        · go_wp2_with fail
          go_round
          case rel => exact ⟨k + 1, by omega, by go_num, by rw [Hfs.out, if_neg (by simpa using e1)]; simp, by rw [Hcs.out, if_neg (fun h => (by simpa using e2 : ¬ P'.O k = ow) h.2)]; simp⟩
          case measure => simp [intOf]; omega
        · have e3 : P'.O k = ow := by simpa using e2
          have e4 : ¬ P'.O k = 0 := by simpa using e1
          have E3 := Lib.hid e3; have E4 := Lib.hid e4; clear e3 e4
          go_wp2_with fail
          go_round
          case rel => exact ⟨k + 1, by omega, by go_num, by rw [Hfs.out, if_neg E4.out]; simp, by rw [Hcs.out, if_pos ⟨by rw [← E3.out]; exact E4.out, E3.out⟩]; go_num⟩
          case measure => simp [intOf]; omega
      · have e3 : P'.O k = 0 := by simpa using e1
        have E3 := Lib.hid e3; clear e3
        go_wp2_with fail
        go_round
        case rel => exact ⟨k + 1, by omega, by go_num, by rw [Hfs.out, if_pos E3.out]; go_num, by rw [Hcs.out, if_neg (by rintro ⟨h1, h2⟩; exact h1 (by rw [← h2, E3.out]))]; simp⟩
        case measure => simp [intOf]; omega
    · obtain rfl : k = P'.n := by omega
      have Hle : Hid (freeTo P'.O P'.n = P'.left) := rfl
      have hnat : (((if ow = 0 then 0 else countTo P'.O ow P'.n : Nat) : Int)) = (if ow = 0 then 0 else (countTo P'.O ow P'.n : Nat) : Int) := by split <;> rfl
      obtain ⟨cc, hcc2⟩ : ∃ cc : Int, (if ow = 0 then 0 else (countTo P'.O ow P'.n : Nat) : Int) = cc := ⟨_, rfl⟩
      rw [Hle.out, hnat, hcc2]
      clear Hle hnat
      obtain ⟨lf, hlf⟩ : ∃ lf : Int, (P'.left : Int) = lf := ⟨_, rfl⟩
      rw [hlf]
      have Kow : ∀ n, Calls Try.prog 24 #[.pointer (some ⟨pb, 0, none⟩), .int .i64 f] (wc.drewN n) fun e w'' => e = .returned (.int .u64 vo) ∧ w'' = wc.drewN n := fun n => by
        have := owner_any pb db ob P' f _ (HP3.out.drewN n); rw [Hvo.out] at this; exact this.mono fun _ _ ⟨h1, h2⟩ => ⟨h1, h2.symm⟩
      have Klf : ∀ n, Calls Try.prog 20 #[.pointer (some ⟨pb, 0, none⟩)] (wc.drewN n) fun e w'' => e = .returned (.int .i64 lf) ∧ w'' = wc.drewN n := fun n => by
        have := left_any pb db ob P' _ (HP3.out.drewN n); rw [hlf] at this; exact this.mono fun _ _ ⟨h1, h2⟩ => ⟨h1, h2.symm⟩
      have Kct : ∀ n, Calls Try.prog 21 #[.pointer (some ⟨pb, 0, none⟩), .int .u64 ow] (wc.drewN n) fun e w'' => e = .returned (.int .i64 cc) ∧ w'' = wc.drewN n := fun n => by
        have := count_any pb db ob P' ow _ (HP3.out.drewN n); rw [hcc2] at this; exact this.mono fun _ _ ⟨h1, h2⟩ => ⟨h1, h2.symm⟩
      have Kln : ∀ n, Calls Try.prog 26 #[.pointer (some ⟨pb, 0, none⟩)] (wc.drewN n) fun e w'' => e = .returned (.int .i64 P'.n) ∧ w'' = wc.drewN n := fun n =>
        (plen_any pb db ob P' _ (HP3.out.drewN n)).mono fun _ _ ⟨h1, h2⟩ => ⟨h1, h2.symm⟩
      clear hlf hcc2 Hvo
      have Kow := Lib.hid Kow; have Klf := Lib.hid Klf; have Kct := Lib.hid Kct; have Kln := Lib.hid Kln
      go_wp2_with fail
      go_quiet ((first | (go_at_call 24; exact Calls.quiet_of_same (Kow.out _)) | (go_at_call 20; exact Calls.quiet_of_same (Klf.out _)) | (go_at_call 21; exact Calls.quiet_of_same (Kct.out _)) | (go_at_call 26; exact Calls.quiet_of_same (Kln.out _))))
      go_wp2_with fail
      go_ret
      exact ⟨by simp, below_drewN Hb3.out _, P', HPn.out, HP3.out.drewN _, HM3.out.drewN _⟩
end Go.Proofs.Ytndnjimiabpkpaa
