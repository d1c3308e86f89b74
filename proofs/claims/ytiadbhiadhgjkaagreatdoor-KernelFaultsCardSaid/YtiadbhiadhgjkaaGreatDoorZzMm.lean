/- Of the proof of this claim: a joined text. -/
import Derived.Test.YtiadbhiadhgjkaaGreatDoorZzMl
set_option maxRecDepth 100000
set_option maxHeartbeats 4000000
namespace Go.Proofs.YtiadbhiadhgjkaaGreatDoor
open Go.RowKit
attribute [local irreducible] World.setCell World.alloc World.drew World.setRow Calls Code.wp
theorem ins_nx {K : Km} {o : Ob} {op : Int} {a b c : Nat} {imm : Int} {r' : Nat -> Int} {nx en : Int} (hop : op = 19 \/ op = 20 \/ op = 21 \/ op = 22 \/ op = 23 \/ op = 24) (h : insOne K o ⟨op, a, b, c, imm⟩ = some (r', nx, en)) : nx = wu (o.th.pc + 8) := by
 by_cases h3 : op = 19 \/ op = 20 \/ op = 21
 ·rw [ins_load K o op a b c imm h3] at h
  split at h
  ·cases h; rfl
  ·split at h
   ·cases h; rfl
   ·cases h; rfl
 ·rw [ins_store K o op a b c imm (by omega)] at h
  split at h
  ·cases h; rfl
  ·split at h
   ·cases h
   ·cases h; rfl
theorem UsAt.insAt {w0 w : World} {g0 g : Gh} {K : Km} {o : Ob} {i mb : Nat} (h : UsAt w0 g0 K o i mb w g) (op a b c imm : Int) :
  InsAt (w.alloc (.cells #[.int .i64 op, .int .i64 a, .int .i64 b, .int .i64 c, .int .i32 imm] 26)) (g.tl o.name) w.heap.size o.th op a b c imm /\ UsAt w0 g0 K o i mb (w.alloc (.cells #[.int .i64 op, .int .i64 a, .int .i64 b, .int .i64 c, .int .i32 imm] 26)) g /\ g.tl o.name < w.heap.size /\ (0 <= o.th.pc /\ o.th.pc <= 18446744073709551615) /\ ∀ j, 0 <= o.th.r j /\ o.th.r j <= 18446744073709551615 := by
 obtain ⟨h1, -, h3, h4, h5⟩ := h.st.insAt h.ob h.kind op a b c imm;exact ⟨h1, h.below ((Below.refl _ w).alloc (Nat.le_refl _) _), h3, h4, h5⟩
theorem one_ld {w0 w : World} {g0 g : Gh} {K : Km} {o : Ob} {i mb : Nat} (h : UsAt w0 g0 K o i mb w g) (a b c : Nat) (imm : Int) (ha : a < 16) (hb : b < 16) (hm0 : -2147483648 <= imm) (hm1 : imm <= 2147483647) {r' : Nat -> Int} {nx en : Int} (hres : insOne K o ⟨19, a, b, c, imm⟩ = some (r', nx, en)) :
  Calls Tryz.prog 130 #[.pointer (some ⟨g.tl o.name, 0, none⟩), .agg #[.int .i64 19, .int .i64 a, .int .i64 b, .int .i64 c, .int .i32 imm], memV mb] w fun e w' =>
   e = .returned (.tuple #[.int .u64 nx, .int .i64 en]) /\ ∃ g', EnSt w0 g0 (K.set (o.wTh { o.th with r := r' })) (o.wTh { o.th with r := r' }) w' g' := by
 obtain ⟨hA, hE, hlt, hpc, hrg⟩ := h.insAt 19 a b c imm;have HR := Lib.hid hres;have Hnx := Lib.hid (ins_nx (by omega) hres);obtain ⟨xb, hxb⟩ : ∃ xb, w.heap.size = xb := ⟨_, rfl⟩;have htl1 : Hid (g.tl o.name < (w.alloc (.cells #[.int .i64 19, .int .i64 a, .int .i64 b, .int .i64 c, .int .i32 imm] 26)).heap.size) := Lib.hid (by rw [World.size_alloc]; omega);rw [hxb] at hA;have ra := hA.reg a ha; have rb := hA.reg b hb;have pc := hA.pc;have x0 : (w.alloc (.cells #[.int .i64 19, .int .i64 a, .int .i64 b, .int .i64 c, .int .i32 imm] 26)).cell? ⟨xb, 0, none⟩ = some (.int .i64 19) := (hA.ins.cell 0).trans rfl;have x1 : (w.alloc (.cells #[.int .i64 19, .int .i64 a, .int .i64 b, .int .i64 c, .int .i32 imm] 26)).cell? ⟨xb, 1, none⟩ = some (.int .i64 a) := (hA.ins.cell 1).trans rfl;have x2 : (w.alloc (.cells #[.int .i64 19, .int .i64 a, .int .i64 b, .int .i64 c, .int .i32 imm] 26)).cell? ⟨xb, 2, none⟩ = some (.int .i64 b) := (hA.ins.cell 2).trans rfl;have hai : (a : Int) < 16 := by omega
 have hbi : (b : Int) < 16 := by omega
 have HA := Lib.hid hA; have HE := Lib.hid hE;clear h hA hE hpc hrg hres;go_enter Tryz.func130, Tryz.ntmps130
 go_upto_region 2 with fail
 go_cut [9, 10] (fun u v wx => u = .int .u64 (o.th.r a) /\ v = .int .u64 (o.th.r b) /\ Hid (UsAt w0 g0 K o i mb wx g) /\ Hid (InsAt wx (g.tl o.name) xb o.th 19 a b c imm))
 case first =>
  go_quiet (fail)
  go_wp2_with fail
  go_meet;exact ⟨rfl, rfl, HE.out.below (below_dr _ _), HA.out.below htl1.out (below_dr _ _)⟩
 case rest =>
  rename World => w2
  clear ra rb pc x0 x1 x2 HA HE;obtain ⟨rfl, rfl, HE, HA⟩ := hcut;have x0 : w2.cell? ⟨xb, 0, none⟩ = some (.int .i64 19) := (HA.out.ins.cell 0).trans rfl;have x1 : w2.cell? ⟨xb, 1, none⟩ = some (.int .i64 a) := (HA.out.ins.cell 1).trans rfl;have x2 : w2.cell? ⟨xb, 2, none⟩ = some (.int .i64 b) := (HA.out.ins.cell 2).trans rfl;have x3 : w2.cell? ⟨xb, 3, none⟩ = some (.int .i64 c) := (HA.out.ins.cell 3).trans rfl;have x4 : w2.cell? ⟨xb, 4, none⟩ = some (.int .i32 imm) := (HA.out.ins.cell 4).trans rfl;have Hmv := Lib.hid (move_ld HE.out a b c imm ha hb hm0 hm1 HR.out);go_wp2_with fail
  refine Hmv.out.mono ?_;rintro e w3 ⟨rfl, g3, hE3⟩;have HE3 := Lib.hid hE3;clear hE3 Hmv;go_wp2_with fail
  go_ret2
  exact ⟨by rw [Hnx.out]; rfl, g3, HE3.out⟩
theorem one_lw {w0 w : World} {g0 g : Gh} {K : Km} {o : Ob} {i mb : Nat} (h : UsAt w0 g0 K o i mb w g) (a b c : Nat) (imm : Int) (ha : a < 16) (hb : b < 16) (hm0 : -2147483648 <= imm) (hm1 : imm <= 2147483647) {r' : Nat -> Int} {nx en : Int} (hres : insOne K o ⟨20, a, b, c, imm⟩ = some (r', nx, en)) :
  Calls Tryz.prog 130 #[.pointer (some ⟨g.tl o.name, 0, none⟩), .agg #[.int .i64 20, .int .i64 a, .int .i64 b, .int .i64 c, .int .i32 imm], memV mb] w fun e w' =>
   e = .returned (.tuple #[.int .u64 nx, .int .i64 en]) /\ ∃ g', EnSt w0 g0 (K.set (o.wTh { o.th with r := r' })) (o.wTh { o.th with r := r' }) w' g' := by
 obtain ⟨hA, hE, hlt, hpc, hrg⟩ := h.insAt 20 a b c imm;have HR := Lib.hid hres;have Hnx := Lib.hid (ins_nx (by omega) hres);obtain ⟨xb, hxb⟩ : ∃ xb, w.heap.size = xb := ⟨_, rfl⟩;have htl1 : Hid (g.tl o.name < (w.alloc (.cells #[.int .i64 20, .int .i64 a, .int .i64 b, .int .i64 c, .int .i32 imm] 26)).heap.size) := Lib.hid (by rw [World.size_alloc]; omega);rw [hxb] at hA;have ra := hA.reg a ha; have rb := hA.reg b hb;have pc := hA.pc;have x0 : (w.alloc (.cells #[.int .i64 20, .int .i64 a, .int .i64 b, .int .i64 c, .int .i32 imm] 26)).cell? ⟨xb, 0, none⟩ = some (.int .i64 20) := (hA.ins.cell 0).trans rfl;have x1 : (w.alloc (.cells #[.int .i64 20, .int .i64 a, .int .i64 b, .int .i64 c, .int .i32 imm] 26)).cell? ⟨xb, 1, none⟩ = some (.int .i64 a) := (hA.ins.cell 1).trans rfl;have x2 : (w.alloc (.cells #[.int .i64 20, .int .i64 a, .int .i64 b, .int .i64 c, .int .i32 imm] 26)).cell? ⟨xb, 2, none⟩ = some (.int .i64 b) := (hA.ins.cell 2).trans rfl;have hai : (a : Int) < 16 := by omega
 have hbi : (b : Int) < 16 := by omega
 have HA := Lib.hid hA; have HE := Lib.hid hE;clear h hA hE hpc hrg hres;go_enter Tryz.func130, Tryz.ntmps130
 go_upto_region 2 with fail
 go_cut [9, 10] (fun u v wx => u = .int .u64 (o.th.r a) /\ v = .int .u64 (o.th.r b) /\ Hid (UsAt w0 g0 K o i mb wx g) /\ Hid (InsAt wx (g.tl o.name) xb o.th 20 a b c imm))
 case first =>
  go_quiet (fail)
  go_wp2_with fail
  go_meet;exact ⟨rfl, rfl, HE.out.below (below_dr _ _), HA.out.below htl1.out (below_dr _ _)⟩
 case rest =>
  rename World => w2
  clear ra rb pc x0 x1 x2 HA HE;obtain ⟨rfl, rfl, HE, HA⟩ := hcut;have x0 : w2.cell? ⟨xb, 0, none⟩ = some (.int .i64 20) := (HA.out.ins.cell 0).trans rfl;have x1 : w2.cell? ⟨xb, 1, none⟩ = some (.int .i64 a) := (HA.out.ins.cell 1).trans rfl;have x2 : w2.cell? ⟨xb, 2, none⟩ = some (.int .i64 b) := (HA.out.ins.cell 2).trans rfl;have x3 : w2.cell? ⟨xb, 3, none⟩ = some (.int .i64 c) := (HA.out.ins.cell 3).trans rfl;have x4 : w2.cell? ⟨xb, 4, none⟩ = some (.int .i32 imm) := (HA.out.ins.cell 4).trans rfl;have Hmv := Lib.hid (move_lw HE.out a b c imm ha hb hm0 hm1 HR.out);go_wp2_with fail
  refine Hmv.out.mono ?_;rintro e w3 ⟨rfl, g3, hE3⟩;have HE3 := Lib.hid hE3;clear hE3 Hmv;go_wp2_with fail
  go_ret2
  exact ⟨by rw [Hnx.out]; rfl, g3, HE3.out⟩
theorem one_lb {w0 w : World} {g0 g : Gh} {K : Km} {o : Ob} {i mb : Nat} (h : UsAt w0 g0 K o i mb w g) (a b c : Nat) (imm : Int) (ha : a < 16) (hb : b < 16) (hm0 : -2147483648 <= imm) (hm1 : imm <= 2147483647) {r' : Nat -> Int} {nx en : Int} (hres : insOne K o ⟨21, a, b, c, imm⟩ = some (r', nx, en)) :
  Calls Tryz.prog 130 #[.pointer (some ⟨g.tl o.name, 0, none⟩), .agg #[.int .i64 21, .int .i64 a, .int .i64 b, .int .i64 c, .int .i32 imm], memV mb] w fun e w' =>
   e = .returned (.tuple #[.int .u64 nx, .int .i64 en]) /\ ∃ g', EnSt w0 g0 (K.set (o.wTh { o.th with r := r' })) (o.wTh { o.th with r := r' }) w' g' := by
 obtain ⟨hA, hE, hlt, hpc, hrg⟩ := h.insAt 21 a b c imm;have HR := Lib.hid hres;have Hnx := Lib.hid (ins_nx (by omega) hres);obtain ⟨xb, hxb⟩ : ∃ xb, w.heap.size = xb := ⟨_, rfl⟩;have htl1 : Hid (g.tl o.name < (w.alloc (.cells #[.int .i64 21, .int .i64 a, .int .i64 b, .int .i64 c, .int .i32 imm] 26)).heap.size) := Lib.hid (by rw [World.size_alloc]; omega);rw [hxb] at hA;have ra := hA.reg a ha; have rb := hA.reg b hb;have pc := hA.pc;have x0 : (w.alloc (.cells #[.int .i64 21, .int .i64 a, .int .i64 b, .int .i64 c, .int .i32 imm] 26)).cell? ⟨xb, 0, none⟩ = some (.int .i64 21) := (hA.ins.cell 0).trans rfl;have x1 : (w.alloc (.cells #[.int .i64 21, .int .i64 a, .int .i64 b, .int .i64 c, .int .i32 imm] 26)).cell? ⟨xb, 1, none⟩ = some (.int .i64 a) := (hA.ins.cell 1).trans rfl;have x2 : (w.alloc (.cells #[.int .i64 21, .int .i64 a, .int .i64 b, .int .i64 c, .int .i32 imm] 26)).cell? ⟨xb, 2, none⟩ = some (.int .i64 b) := (hA.ins.cell 2).trans rfl;have hai : (a : Int) < 16 := by omega
 have hbi : (b : Int) < 16 := by omega
 have HA := Lib.hid hA; have HE := Lib.hid hE;clear h hA hE hpc hrg hres;go_enter Tryz.func130, Tryz.ntmps130
 go_upto_region 2 with fail
 go_cut [9, 10] (fun u v wx => u = .int .u64 (o.th.r a) /\ v = .int .u64 (o.th.r b) /\ Hid (UsAt w0 g0 K o i mb wx g) /\ Hid (InsAt wx (g.tl o.name) xb o.th 21 a b c imm))
 case first =>
  go_quiet (fail)
  go_wp2_with fail
  go_meet;exact ⟨rfl, rfl, HE.out.below (below_dr _ _), HA.out.below htl1.out (below_dr _ _)⟩
 case rest =>
  rename World => w2
  clear ra rb pc x0 x1 x2 HA HE;obtain ⟨rfl, rfl, HE, HA⟩ := hcut;have x0 : w2.cell? ⟨xb, 0, none⟩ = some (.int .i64 21) := (HA.out.ins.cell 0).trans rfl;have x1 : w2.cell? ⟨xb, 1, none⟩ = some (.int .i64 a) := (HA.out.ins.cell 1).trans rfl;have x2 : w2.cell? ⟨xb, 2, none⟩ = some (.int .i64 b) := (HA.out.ins.cell 2).trans rfl;have x3 : w2.cell? ⟨xb, 3, none⟩ = some (.int .i64 c) := (HA.out.ins.cell 3).trans rfl;have x4 : w2.cell? ⟨xb, 4, none⟩ = some (.int .i32 imm) := (HA.out.ins.cell 4).trans rfl;have Hmv := Lib.hid (move_lb HE.out a b c imm ha hb hm0 hm1 HR.out);go_wp2_with fail
  refine Hmv.out.mono ?_;rintro e w3 ⟨rfl, g3, hE3⟩;have HE3 := Lib.hid hE3;clear hE3 Hmv;go_wp2_with fail
  go_ret2
  exact ⟨by rw [Hnx.out]; rfl, g3, HE3.out⟩
theorem one_st {w0 w : World} {g0 g : Gh} {K : Km} {o : Ob} {i mb : Nat} (h : UsAt w0 g0 K o i mb w g) (a b c : Nat) (imm : Int) (ha : a < 16) (hb : b < 16) (hm0 : -2147483648 <= imm) (hm1 : imm <= 2147483647) {r' : Nat -> Int} {nx en : Int} (hres : insOne K o ⟨22, a, b, c, imm⟩ = some (r', nx, en)) :
  Calls Tryz.prog 130 #[.pointer (some ⟨g.tl o.name, 0, none⟩), .agg #[.int .i64 22, .int .i64 a, .int .i64 b, .int .i64 c, .int .i32 imm], memV mb] w fun e w' =>
   e = .returned (.tuple #[.int .u64 nx, .int .i64 en]) /\ ∃ g', EnSt w0 g0 (K.set (o.wTh { o.th with r := r' })) (o.wTh { o.th with r := r' }) w' g' := by
 obtain ⟨hA, hE, hlt, hpc, hrg⟩ := h.insAt 22 a b c imm;have HR := Lib.hid hres;have Hnx := Lib.hid (ins_nx (by omega) hres);obtain ⟨xb, hxb⟩ : ∃ xb, w.heap.size = xb := ⟨_, rfl⟩;have htl1 : Hid (g.tl o.name < (w.alloc (.cells #[.int .i64 22, .int .i64 a, .int .i64 b, .int .i64 c, .int .i32 imm] 26)).heap.size) := Lib.hid (by rw [World.size_alloc]; omega);rw [hxb] at hA;have ra := hA.reg a ha; have rb := hA.reg b hb;have pc := hA.pc;have x0 : (w.alloc (.cells #[.int .i64 22, .int .i64 a, .int .i64 b, .int .i64 c, .int .i32 imm] 26)).cell? ⟨xb, 0, none⟩ = some (.int .i64 22) := (hA.ins.cell 0).trans rfl;have x1 : (w.alloc (.cells #[.int .i64 22, .int .i64 a, .int .i64 b, .int .i64 c, .int .i32 imm] 26)).cell? ⟨xb, 1, none⟩ = some (.int .i64 a) := (hA.ins.cell 1).trans rfl;have x2 : (w.alloc (.cells #[.int .i64 22, .int .i64 a, .int .i64 b, .int .i64 c, .int .i32 imm] 26)).cell? ⟨xb, 2, none⟩ = some (.int .i64 b) := (hA.ins.cell 2).trans rfl;have hai : (a : Int) < 16 := by omega
 have hbi : (b : Int) < 16 := by omega
 have HA := Lib.hid hA; have HE := Lib.hid hE;clear h hA hE hpc hrg hres;go_enter Tryz.func130, Tryz.ntmps130
 go_upto_region 2 with fail
 go_cut [9, 10] (fun u v wx => u = .int .u64 (o.th.r a) /\ v = .int .u64 (o.th.r b) /\ Hid (UsAt w0 g0 K o i mb wx g) /\ Hid (InsAt wx (g.tl o.name) xb o.th 22 a b c imm))
 case first =>
  go_quiet (fail)
  go_wp2_with fail
  go_meet;exact ⟨rfl, rfl, HE.out.below (below_dr _ _), HA.out.below htl1.out (below_dr _ _)⟩
 case rest =>
  rename World => w2
  clear ra rb pc x0 x1 x2 HA HE;obtain ⟨rfl, rfl, HE, HA⟩ := hcut;have x0 : w2.cell? ⟨xb, 0, none⟩ = some (.int .i64 22) := (HA.out.ins.cell 0).trans rfl;have x1 : w2.cell? ⟨xb, 1, none⟩ = some (.int .i64 a) := (HA.out.ins.cell 1).trans rfl;have x2 : w2.cell? ⟨xb, 2, none⟩ = some (.int .i64 b) := (HA.out.ins.cell 2).trans rfl;have x3 : w2.cell? ⟨xb, 3, none⟩ = some (.int .i64 c) := (HA.out.ins.cell 3).trans rfl;have x4 : w2.cell? ⟨xb, 4, none⟩ = some (.int .i32 imm) := (HA.out.ins.cell 4).trans rfl;have Hmv := Lib.hid (move_st HE.out a b c imm ha hb hm0 hm1 HR.out);go_wp2_with fail
  refine Hmv.out.mono ?_;rintro e w3 ⟨rfl, g3, hE3⟩;have HE3 := Lib.hid hE3;clear hE3 Hmv;go_wp2_with fail
  go_ret2
  exact ⟨by rw [Hnx.out]; rfl, g3, HE3.out⟩
theorem one_sw {w0 w : World} {g0 g : Gh} {K : Km} {o : Ob} {i mb : Nat} (h : UsAt w0 g0 K o i mb w g) (a b c : Nat) (imm : Int) (ha : a < 16) (hb : b < 16) (hm0 : -2147483648 <= imm) (hm1 : imm <= 2147483647) {r' : Nat -> Int} {nx en : Int} (hres : insOne K o ⟨23, a, b, c, imm⟩ = some (r', nx, en)) :
  Calls Tryz.prog 130 #[.pointer (some ⟨g.tl o.name, 0, none⟩), .agg #[.int .i64 23, .int .i64 a, .int .i64 b, .int .i64 c, .int .i32 imm], memV mb] w fun e w' =>
   e = .returned (.tuple #[.int .u64 nx, .int .i64 en]) /\ ∃ g', EnSt w0 g0 (K.set (o.wTh { o.th with r := r' })) (o.wTh { o.th with r := r' }) w' g' := by
 obtain ⟨hA, hE, hlt, hpc, hrg⟩ := h.insAt 23 a b c imm;have HR := Lib.hid hres;have Hnx := Lib.hid (ins_nx (by omega) hres);obtain ⟨xb, hxb⟩ : ∃ xb, w.heap.size = xb := ⟨_, rfl⟩;have htl1 : Hid (g.tl o.name < (w.alloc (.cells #[.int .i64 23, .int .i64 a, .int .i64 b, .int .i64 c, .int .i32 imm] 26)).heap.size) := Lib.hid (by rw [World.size_alloc]; omega);rw [hxb] at hA;have ra := hA.reg a ha; have rb := hA.reg b hb;have pc := hA.pc;have x0 : (w.alloc (.cells #[.int .i64 23, .int .i64 a, .int .i64 b, .int .i64 c, .int .i32 imm] 26)).cell? ⟨xb, 0, none⟩ = some (.int .i64 23) := (hA.ins.cell 0).trans rfl;have x1 : (w.alloc (.cells #[.int .i64 23, .int .i64 a, .int .i64 b, .int .i64 c, .int .i32 imm] 26)).cell? ⟨xb, 1, none⟩ = some (.int .i64 a) := (hA.ins.cell 1).trans rfl;have x2 : (w.alloc (.cells #[.int .i64 23, .int .i64 a, .int .i64 b, .int .i64 c, .int .i32 imm] 26)).cell? ⟨xb, 2, none⟩ = some (.int .i64 b) := (hA.ins.cell 2).trans rfl;have hai : (a : Int) < 16 := by omega
 have hbi : (b : Int) < 16 := by omega
 have HA := Lib.hid hA; have HE := Lib.hid hE;clear h hA hE hpc hrg hres;go_enter Tryz.func130, Tryz.ntmps130
 go_upto_region 2 with fail
 go_cut [9, 10] (fun u v wx => u = .int .u64 (o.th.r a) /\ v = .int .u64 (o.th.r b) /\ Hid (UsAt w0 g0 K o i mb wx g) /\ Hid (InsAt wx (g.tl o.name) xb o.th 23 a b c imm))
 case first =>
  go_quiet (fail)
  go_wp2_with fail
  go_meet;exact ⟨rfl, rfl, HE.out.below (below_dr _ _), HA.out.below htl1.out (below_dr _ _)⟩
 case rest =>
  rename World => w2
  clear ra rb pc x0 x1 x2 HA HE;obtain ⟨rfl, rfl, HE, HA⟩ := hcut;have x0 : w2.cell? ⟨xb, 0, none⟩ = some (.int .i64 23) := (HA.out.ins.cell 0).trans rfl;have x1 : w2.cell? ⟨xb, 1, none⟩ = some (.int .i64 a) := (HA.out.ins.cell 1).trans rfl;have x2 : w2.cell? ⟨xb, 2, none⟩ = some (.int .i64 b) := (HA.out.ins.cell 2).trans rfl;have x3 : w2.cell? ⟨xb, 3, none⟩ = some (.int .i64 c) := (HA.out.ins.cell 3).trans rfl;have x4 : w2.cell? ⟨xb, 4, none⟩ = some (.int .i32 imm) := (HA.out.ins.cell 4).trans rfl;have Hmv := Lib.hid (move_sw HE.out a b c imm ha hb hm0 hm1 HR.out);go_wp2_with fail
  refine Hmv.out.mono ?_;rintro e w3 ⟨rfl, g3, hE3⟩;have HE3 := Lib.hid hE3;clear hE3 Hmv;go_wp2_with fail
  go_ret2
  exact ⟨by rw [Hnx.out]; rfl, g3, HE3.out⟩
theorem one_sb {w0 w : World} {g0 g : Gh} {K : Km} {o : Ob} {i mb : Nat} (h : UsAt w0 g0 K o i mb w g) (a b c : Nat) (imm : Int) (ha : a < 16) (hb : b < 16) (hm0 : -2147483648 <= imm) (hm1 : imm <= 2147483647) {r' : Nat -> Int} {nx en : Int} (hres : insOne K o ⟨24, a, b, c, imm⟩ = some (r', nx, en)) :
  Calls Tryz.prog 130 #[.pointer (some ⟨g.tl o.name, 0, none⟩), .agg #[.int .i64 24, .int .i64 a, .int .i64 b, .int .i64 c, .int .i32 imm], memV mb] w fun e w' =>
   e = .returned (.tuple #[.int .u64 nx, .int .i64 en]) /\ ∃ g', EnSt w0 g0 (K.set (o.wTh { o.th with r := r' })) (o.wTh { o.th with r := r' }) w' g' := by
 obtain ⟨hA, hE, hlt, hpc, hrg⟩ := h.insAt 24 a b c imm;have HR := Lib.hid hres;have Hnx := Lib.hid (ins_nx (by omega) hres);obtain ⟨xb, hxb⟩ : ∃ xb, w.heap.size = xb := ⟨_, rfl⟩;have htl1 : Hid (g.tl o.name < (w.alloc (.cells #[.int .i64 24, .int .i64 a, .int .i64 b, .int .i64 c, .int .i32 imm] 26)).heap.size) := Lib.hid (by rw [World.size_alloc]; omega);rw [hxb] at hA;have ra := hA.reg a ha; have rb := hA.reg b hb;have pc := hA.pc;have x0 : (w.alloc (.cells #[.int .i64 24, .int .i64 a, .int .i64 b, .int .i64 c, .int .i32 imm] 26)).cell? ⟨xb, 0, none⟩ = some (.int .i64 24) := (hA.ins.cell 0).trans rfl;have x1 : (w.alloc (.cells #[.int .i64 24, .int .i64 a, .int .i64 b, .int .i64 c, .int .i32 imm] 26)).cell? ⟨xb, 1, none⟩ = some (.int .i64 a) := (hA.ins.cell 1).trans rfl;have x2 : (w.alloc (.cells #[.int .i64 24, .int .i64 a, .int .i64 b, .int .i64 c, .int .i32 imm] 26)).cell? ⟨xb, 2, none⟩ = some (.int .i64 b) := (hA.ins.cell 2).trans rfl;have hai : (a : Int) < 16 := by omega
 have hbi : (b : Int) < 16 := by omega
 have HA := Lib.hid hA; have HE := Lib.hid hE;clear h hA hE hpc hrg hres;go_enter Tryz.func130, Tryz.ntmps130
 go_upto_region 2 with fail
 go_cut [9, 10] (fun u v wx => u = .int .u64 (o.th.r a) /\ v = .int .u64 (o.th.r b) /\ Hid (UsAt w0 g0 K o i mb wx g) /\ Hid (InsAt wx (g.tl o.name) xb o.th 24 a b c imm))
 case first =>
  go_quiet (fail)
  go_wp2_with fail
  go_meet;exact ⟨rfl, rfl, HE.out.below (below_dr _ _), HA.out.below htl1.out (below_dr _ _)⟩
 case rest =>
  rename World => w2
  clear ra rb pc x0 x1 x2 HA HE;obtain ⟨rfl, rfl, HE, HA⟩ := hcut;have x0 : w2.cell? ⟨xb, 0, none⟩ = some (.int .i64 24) := (HA.out.ins.cell 0).trans rfl;have x1 : w2.cell? ⟨xb, 1, none⟩ = some (.int .i64 a) := (HA.out.ins.cell 1).trans rfl;have x2 : w2.cell? ⟨xb, 2, none⟩ = some (.int .i64 b) := (HA.out.ins.cell 2).trans rfl;have x3 : w2.cell? ⟨xb, 3, none⟩ = some (.int .i64 c) := (HA.out.ins.cell 3).trans rfl;have x4 : w2.cell? ⟨xb, 4, none⟩ = some (.int .i32 imm) := (HA.out.ins.cell 4).trans rfl;have Hmv := Lib.hid (move_sb HE.out a b c imm ha hb hm0 hm1 HR.out);go_wp2_with fail
  refine Hmv.out.mono ?_;rintro e w3 ⟨rfl, g3, hE3⟩;have HE3 := Lib.hid hE3;clear hE3 Hmv;go_wp2_with fail
  go_ret2
  exact ⟨by rw [Hnx.out]; rfl, g3, HE3.out⟩
end Go.Proofs.YtiadbhiadhgjkaaGreatDoor
