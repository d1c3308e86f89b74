/- Of the proof of this claim: a joined text. -/
import Derived.Test.YtiadbhiadhgjkaaGreatDoorZzMk
set_option maxRecDepth 100000
set_option maxHeartbeats 4000000
namespace Go.Proofs.YtiadbhiadhgjkaaGreatDoor
open Go.RowKit
attribute [local irreducible] World.setCell World.alloc World.drew World.setRow Calls Code.wp
theorem width_any (op : Int) (w : World) (h : op = 19 \/ op = 20 \/ op = 21 \/ op = 22 \/ op = 23 \/ op = 24) :
  Calls Tryz.prog 194 #[.int .i64 op] w fun e w' => e = .returned (.tuple #[.int .i64 (widthOf op : Nat), .bool (decide (22 <= op))]) /\ w = w' := by
 rcases h with rfl | rfl | rfl | rfl | rfl | rfl
 all_goals
  go_enter Tryz.func194, Tryz.ntmps194
  go_wp2_with fail
  go_ret2
  exact ⟨rfl, rfl⟩
def placeV (x : Int) (n : Nat) : Value := if x > 262144 - (n : Int) \/ x % (n : Int) ≠ 0 then .tuple #[.int .i64 0, .bool false] else .tuple #[.int .i64 x, .bool true]
theorem place_any (b imm : Int) (n : Nat) (w : World) (hn : n = 1 \/ n = 4 \/ n = 8) (hm0 : -2147483648 <= imm) (hm1 : imm <= 2147483647) :
  Calls Tryz.prog 195 #[.int .u64 b, .int .i32 imm, .int .i64 n] w fun e w' => e = .returned (placeV (wu (b + imm)) n) /\ w = w' := by
 have hv : IntKind.u64.wrap (b + IntKind.u64.wrap imm) = wu (b + imm) := by show (b + imm % 18446744073709551616) % 18446744073709551616 = (b + imm) % 18446744073709551616; omega
 obtain ⟨w0, w1⟩ := wu_bd (b + imm);generalize wu (b + imm) = x at hv w0 w1 ⊢;have hx : Hid (placeV x n = if x > 262144 - (n : Int) \/ x % (n : Int) ≠ 0 then .tuple #[.int .i64 0, .bool false] else .tuple #[.int .i64 x, .bool true]) := Lib.hid rfl;rcases hn with rfl | rfl | rfl
 ·by_cases h1 : (262143 : Int) < x
  ·have hV : Hid (placeV x 1 = .tuple #[.int .i64 0, .bool false]) := Lib.hid (by rw [hx.out]; exact if_pos (.inl (by show x > 262144 - ((1 : Nat) : Int); omega)))
   have q1 : decide ((262143 : Int) < x) = true := decide_eq_true h1;clear hx h1;go_enter Tryz.func195, Tryz.ntmps195
   go_wp2_with fail
   go_ret2
   exact ⟨by rw [hV.out]; rfl, rfl⟩
  ·have q1 : decide ((262143 : Int) < x) = false := decide_eq_false h1
   by_cases h2 : x % 1 = 0
   ·have hV : Hid (placeV x 1 = .tuple #[.int .i64 x, .bool true]) := Lib.hid (by rw [hx.out]; exact if_neg (by rintro (e | e); exact h1 (by have : x > 262144 - ((1 : Nat) : Int) := e; omega); exact e h2))
    have q2 : x.tmod 1 = x % 1 := Int.tmod_eq_emod_of_nonneg w0;clear hx;go_enter Tryz.func195, Tryz.ntmps195
    go_wp2_with fail
    go_ret2
    exact ⟨by rw [hV.out]; rfl, rfl⟩
   ·exact absurd (by omega) h2
 ·by_cases h1 : (262140 : Int) < x
  ·have hV : Hid (placeV x 4 = .tuple #[.int .i64 0, .bool false]) := Lib.hid (by rw [hx.out]; exact if_pos (.inl (by show x > 262144 - ((4 : Nat) : Int); omega)))
   have q1 : decide ((262140 : Int) < x) = true := decide_eq_true h1;clear hx h1;go_enter Tryz.func195, Tryz.ntmps195
   go_wp2_with fail
   go_ret2
   exact ⟨by rw [hV.out]; rfl, rfl⟩
  ·have q1 : decide ((262140 : Int) < x) = false := decide_eq_false h1
   by_cases h2 : x % 4 = 0
   ·have hV : Hid (placeV x 4 = .tuple #[.int .i64 x, .bool true]) := Lib.hid (by rw [hx.out]; exact if_neg (by rintro (e | e); exact h1 (by have : x > 262144 - ((4 : Nat) : Int) := e; omega); exact e h2))
    have q2 : x.tmod 4 = x % 4 := Int.tmod_eq_emod_of_nonneg w0;clear hx;go_enter Tryz.func195, Tryz.ntmps195
    go_wp2_with fail
    go_ret2
    exact ⟨by rw [hV.out]; rfl, rfl⟩
   ·have hV : Hid (placeV x 4 = .tuple #[.int .i64 0, .bool false]) := Lib.hid (by rw [hx.out]; exact if_pos (.inr h2))
    have q2 : x.tmod 4 = x % 4 := Int.tmod_eq_emod_of_nonneg w0;have q3 : (x % 4 == 0) = false := by simpa using h2
    have q4 : (x % 4 != 0) = true := by simpa using h2
    clear hx h2;go_enter Tryz.func195, Tryz.ntmps195
    go_wp2_with fail
    go_ret2
    exact ⟨by rw [hV.out]; rfl, rfl⟩
 ·by_cases h1 : (262136 : Int) < x
  ·have hV : Hid (placeV x 8 = .tuple #[.int .i64 0, .bool false]) := Lib.hid (by rw [hx.out]; exact if_pos (.inl (by show x > 262144 - ((8 : Nat) : Int); omega)))
   have q1 : decide ((262136 : Int) < x) = true := decide_eq_true h1;clear hx h1;go_enter Tryz.func195, Tryz.ntmps195
   go_wp2_with fail
   go_ret2
   exact ⟨by rw [hV.out]; rfl, rfl⟩
  ·have q1 : decide ((262136 : Int) < x) = false := decide_eq_false h1
   by_cases h2 : x % 8 = 0
   ·have hV : Hid (placeV x 8 = .tuple #[.int .i64 x, .bool true]) := Lib.hid (by rw [hx.out]; exact if_neg (by rintro (e | e); exact h1 (by have : x > 262144 - ((8 : Nat) : Int) := e; omega); exact e h2))
    have q2 : x.tmod 8 = x % 8 := Int.tmod_eq_emod_of_nonneg w0;clear hx;go_enter Tryz.func195, Tryz.ntmps195
    go_wp2_with fail
    go_ret2
    exact ⟨by rw [hV.out]; rfl, rfl⟩
   ·have hV : Hid (placeV x 8 = .tuple #[.int .i64 0, .bool false]) := Lib.hid (by rw [hx.out]; exact if_pos (.inr h2))
    have q2 : x.tmod 8 = x % 8 := Int.tmod_eq_emod_of_nonneg w0;have q3 : (x % 8 == 0) = false := by simpa using h2
    have q4 : (x % 8 != 0) = true := by simpa using h2
    clear hx h2;go_enter Tryz.func195, Tryz.ntmps195
    go_wp2_with fail
    go_ret2
    exact ⟨by rw [hV.out]; rfl, rfl⟩
structure UsAt (w0 : World) (g0 : Gh) (K : Km) (o : Ob) (i mb : Nat) (w : World) (g : Gh) : Prop where
 st : EnSt w0 g0 K o w g
 maps : MapsOk K
 ob : K.obj o.name = some o
 kind : o.kind = 3
 lens : ∀ n s, K.obj n = some s -> s.maps.length <= 1000000
 core : i < K.nc
 flush : g.flush i = false
 last : g.last i = o.name
 mem : MemAt w g o i mb
theorem UsAt.below {w0 w w' : World} {g0 g : Gh} {K : Km} {o : Ob} {i mb : Nat} (h : UsAt w0 g0 K o i mb w g) (k : Below w.heap.size w w') : UsAt w0 g0 K o i mb w' g :=
 ⟨h.st.below k, h.maps, h.ob, h.kind, h.lens, h.core, h.flush, h.last, h.mem.below k⟩
theorem UsAt.load {w0 w : World} {g0 g : Gh} {K : Km} {o : Ob} {i mb : Nat} (h : UsAt w0 g0 K o i mb w g) (va : Int) (n : Nat) (h0 : 0 <= va) (h1 : va <= 262143) (hn1 : 1 <= n) (hn8 : n <= 8) (hn : va % 64 + (n : Int) <= 64) :
  Calls Tryz.prog 315 #[.pointer (some ⟨mb, 0, none⟩), .int .i64 va, .int .i64 n] w fun e w' => e = .returned (loadV (K.bytes o va) n) /\ ∃ g', EnSt w g K o w' g' :=
 load_any w g K o i mb va n h.st.kin h.st.inv h.maps h.ob h.kind h.lens h.core h.flush h.last h.mem h0 h1 hn1 hn8 hn
theorem EnSt.from {w0 w w' : World} {g0 g g' : Gh} {K : Km} {o : Ob} (h : EnSt w0 g0 K o w g) (k : EnSt w g K o w' g') : EnSt w0 g0 K o w' g' := ⟨k.kin, k.inv, h.ext.trans k.ext, h.same.trans k.same⟩
theorem nil_ahead (mb : Nat) (w : World) : ∀ k : Nat, (nilAhead (k + 1) 229 (.pointer (some ⟨mb, 0, none⟩)) "Store").run Tryz.prog w = .ok (some false) w := fun k => by kernel_rfl
@[reducible] def memV (mb : Nat) : Value := .iface 229 (.pointer (some ⟨mb, 0, none⟩))
theorem ins_load (K : Km) (o : Ob) (op : Int) (a b c : Nat) (imm : Int) (h : op = 19 \/ op = 20 \/ op = 21) : insOne K o ⟨op, a, b, c, imm⟩ = (if wu (o.th.r b + imm) > 262144 - (widthOf op : Int) \/ wu (o.th.r b + imm) % (widthOf op : Int) ≠ 0 then some (o.th.r, wu (o.th.pc + 8), (6 : Int)) else match K.bytes o (wu (o.th.r b + imm)) with
  | some B => some (upd o.th.r a (beN B (widthOf op)), wu (o.th.pc + 8), (0 : Int))
  | none => some (o.th.r, wu (o.th.pc + 8), (3 : Int))) := by
 rcases h with rfl | rfl | rfl <;> rfl
theorem ins_store (K : Km) (o : Ob) (op : Int) (a b c : Nat) (imm : Int) (h : op = 22 \/ op = 23 \/ op = 24) : insOne K o ⟨op, a, b, c, imm⟩ = (if wu (o.th.r b + imm) > 262144 - (widthOf op : Int) \/ wu (o.th.r b + imm) % (widthOf op : Int) ≠ 0 then some (o.th.r, wu (o.th.pc + 8), (6 : Int)) else match K.whereTo o (wu (o.th.r b + imm)) with
  | some (_, _, true) => none
  | _ => some (o.th.r, wu (o.th.pc + 8), (3 : Int))) := by
 rcases h with rfl | rfl | rfl <;> rfl
theorem beN_le {B : Nat -> Int} {m : Nat} (h : ∀ j, j < m -> 0 <= B j /\ B j <= 255) (n : Nat) (hn : n <= m) (h8 : n <= 8) : 0 <= beN B n /\ beN B n <= 18446744073709551615 := by
 have hC : ∀ j, 0 <= (fun j => if j < m then B j else 0) j /\ (fun j => if j < m then B j else 0) j <= 255 := fun j => by
  by_cases q : j < m
  ·simp only [if_pos q]; exact h j q
  ·simp only [if_neg q]; omega
 have := beN_bd8 _ hC n h8;rw [beN_congr _ B n (fun j hj => if_pos (by omega))] at this;exact this
theorem bytes_bd {w : World} {g : Gh} {K : Km} {o : Ob} {va : Int} {B : Nat -> Int} (h : KIn w g K) (hI : Inv g K) (hM : MapsOk K) (hB : K.bytes o va = some B) (n : Nat) (hn : va % 64 + (n : Int) <= 64) : ∀ j, j < n -> 0 <= B j /\ B j <= 255 := by
 cases hw : K.whereTo o va with
 | none => unfold Km.bytes at hB; rw [hw] at hB; cases hB
 | some r =>
  obtain ⟨s, a, may⟩ := r;have ha0 := where_nonneg hM hw;obtain ⟨an, rfl⟩ : ∃ an : Nat, a = (an : Int) := ⟨a.toNat, by omega⟩;obtain ⟨c, -, -, hby, hdat, -⟩ := bytes_at hI hM hw n hn;rw [hby] at hB
  cases hB;intro j hj;simp only;rw [hdat j hj];exact h.pool.bd _
theorem EnSt.none {w0 w : World} {g0 g : Gh} {K : Km} {o : Ob} (h : EnSt w0 g0 K o w g) (ho : K.obj o.name = some o) : EnSt w0 g0 (K.set (o.wTh { o.th with r := o.th.r })) (o.wTh { o.th with r := o.th.r }) w g := by
 have e : o.wTh { o.th with r := o.th.r } = o := rfl;rw [e, Km.set_self ho]; exact h
theorem move_ld {w0 w : World} {g0 g : Gh} {K : Km} {o : Ob} {i mb : Nat} (h : UsAt w0 g0 K o i mb w g) (a b c : Nat) (imm : Int) (ha : a < 16) (hb : b < 16) (hm0 : -2147483648 <= imm) (hm1 : imm <= 2147483647) {r' : Nat -> Int} {nx en : Int} (hres : insOne K o ⟨19, a, b, c, imm⟩ = some (r', nx, en)) :
  Calls Tryz.prog 151 #[.pointer (some ⟨g.tl o.name, 0, none⟩), .agg #[.int .i64 19, .int .i64 a, .int .i64 b, .int .i64 c, .int .i32 imm], memV mb] w fun e w' =>
   e = .returned (.int .i64 en) /\ ∃ g', EnSt w0 g0 (K.set (o.wTh { o.th with r := r' })) (o.wTh { o.th with r := r' }) w' g' := by
 obtain ⟨hA, hE, hlt, hpc, hrg⟩ := h.st.insAt h.ob h.kind 19 a b c imm;have HU := Lib.hid h;rw [ins_load K o 19 a b c imm (by omega)] at hres;have HR := Lib.hid hres;obtain ⟨xb, hxb⟩ : ∃ xb, w.heap.size = xb := ⟨_, rfl⟩;have htl1 : Hid (g.tl o.name < (w.alloc (.cells #[.int .i64 19, .int .i64 a, .int .i64 b, .int .i64 c, .int .i32 imm] 26)).heap.size) := Lib.hid (by rw [World.size_alloc]; omega);have HxA := Lib.hid (h.st.kin.nrm _ (Nat.le_refl _));rw [hxb] at hA HxA;have rb := hA.reg b hb;have x0 : (w.alloc (.cells #[.int .i64 19, .int .i64 a, .int .i64 b, .int .i64 c, .int .i32 imm] 26)).cell? ⟨xb, 0, none⟩ = some (.int .i64 19) := (hA.ins.cell 0).trans rfl;have x2 : (w.alloc (.cells #[.int .i64 19, .int .i64 a, .int .i64 b, .int .i64 c, .int .i32 imm] 26)).cell? ⟨xb, 2, none⟩ = some (.int .i64 b) := (hA.ins.cell 2).trans rfl;have x4 : (w.alloc (.cells #[.int .i64 19, .int .i64 a, .int .i64 b, .int .i64 c, .int .i32 imm] 26)).cell? ⟨xb, 4, none⟩ = some (.int .i32 imm) := (hA.ins.cell 4).trans rfl;have hai : (a : Int) < 16 := by omega
 have hbi : (b : Int) < 16 := by omega
 have HA := Lib.hid hA;have HU1 := Lib.hid (h.below ((Below.refl _ w).alloc (Nat.le_refl _) (.cells #[.int .i64 19, .int .i64 a, .int .i64 b, .int .i64 c, .int .i32 imm] 26)));have HPl : Hid (∀ k, Calls Tryz.prog 195 #[.int .u64 (o.th.r b), .int .i32 imm, .int .i64 (8 : Nat)] ((w.alloc (.cells #[.int .i64 19, .int .i64 a, .int .i64 b, .int .i64 c, .int .i32 imm] 26)).drewN k) fun e w' => e = .returned (placeV (wu (o.th.r b + imm)) 8) /\ w' = (w.alloc (.cells #[.int .i64 19, .int .i64 a, .int .i64 b, .int .i64 c, .int .i32 imm] 26)).drewN k) := Lib.hid (fun k => (place_any (o.th.r b) imm 8 _ (by omega) hm0 hm1).mono fun e w' (q : e = _ /\ _ = w') => ⟨q.1, q.2.symm⟩);have hw : widthOf 19 = 8 := rfl;rw [hw] at HR;have Hva := Lib.hid (wu_bd (o.th.r b + imm));obtain ⟨va, hva⟩ : ∃ va, wu (o.th.r b + imm) = va := ⟨_, rfl⟩;rw [hva] at HR HPl Hva;clear h hA hE hpc hrg hres hw hva;by_cases hq : va > 262144 - ((8 : Nat) : Int) \/ va % ((8 : Nat) : Int) ≠ 0
 ·have hpv : placeV va 8 = .tuple #[.int .i64 0, .bool false] := if_pos hq
  have HR2 : Hid (some (o.th.r, wu (o.th.pc + 8), (6 : Int)) = some (r', nx, en)) := Lib.hid (by have := HR.out; rw [if_pos hq] at this; exact this);rw [hpv] at HPl;clear hq hpv HR;go_enter Tryz.func151, Tryz.ntmps151
  go_wp2_with fail
  refine (width_any 19 _ (by omega)).mono ?_;rintro e w' ⟨rfl, rfl⟩;go_wp2_with fail
  go_quiet ((go_at_call 195; exact Calls.quiet_of_same (HPl.out _)))
  go_wp2_with fail
  go_ret;have h2 := HR2.out
  cases h2;exact ⟨rfl, g, (HU1.out.st.drewN _).none HU.out.ob⟩
 ·have hpv : placeV va 8 = .tuple #[.int .i64 va, .bool true] := if_neg hq
  have hq2 : ¬ (va > 262144 - ((8 : Nat) : Int)) := fun e => hq (.inl e)
  have hq3 : va % ((8 : Nat) : Int) = 0 := by
   by_cases e : va % ((8 : Nat) : Int) = 0
   ·exact e
   ·exact absurd (.inr e) hq
  have HR2 : Hid ((match K.bytes o va with
   | some B => some (upd o.th.r a (beN B 8), wu (o.th.pc + 8), (0 : Int))
   | none => some (o.th.r, wu (o.th.pc + 8), 3)) = some (r', nx, en)) := Lib.hid (by have := HR.out; rw [if_neg hq] at this; exact this)
  have Hq := Lib.hid (show va <= 262143 /\ va % 64 + ((8 : Nat) : Int) <= 64 from ⟨by omega, by omega⟩);rw [hpv] at HPl;clear hq hpv HR hq2 hq3;go_enter Tryz.func151, Tryz.ntmps151
  go_wp2_with fail
  refine (width_any 19 _ (by omega)).mono ?_;rintro e w' ⟨rfl, rfl⟩;go_upto_region 2 with fail
  go_cut [9, 10] (fun u v wx => u = .int .i64 va /\ v = .bool true /\ Hid (UsAt w0 g0 K o i mb wx g) /\ Hid (InsAt wx (g.tl o.name) xb o.th 19 a b c imm))
  case first =>
   go_wp2_with fail
   go_quiet ((go_at_call 195; exact Calls.quiet_of_same (HPl.out _)))
   go_wp2_with fail
   go_meet;exact ⟨rfl, rfl, HU1.out.below (below_dr _ _), HA.out.below htl1.out (below_dr _ _)⟩
  case rest =>
   rename World => w2
   clear rb x0 x2 x4 HA HU1 HPl htl1;obtain ⟨rfl, rfl, HU2, HA⟩ := hcut;have Hld := Lib.hid (HU2.out.load va 8 Hva.out.1 Hq.out.1 (by omega) (by omega) Hq.out.2)
   cases hB : K.bytes o va with
   | none =>
    rw [hB] at Hld HR2;unfold loadV at Hld;clear hB;go_wp2_with fail
    refine Hld.out.mono ?_;rintro e w3 ⟨rfl, g3, hE3⟩;have HE3 := Lib.hid (HU2.out.st.from hE3);clear hE3;go_wp2_with fail
    go_ret;have h2 := HR2.out
    cases h2;exact ⟨rfl, g3, HE3.out.none HU.out.ob⟩
   | some B =>
    have HB := Lib.hid hB;rw [hB] at Hld HR2;unfold loadV at Hld;clear hB;go_wp2_with fail
    refine Hld.out.mono ?_;rintro e w3 ⟨rfl, g3, hE3⟩;have HE3 := Lib.hid (HU2.out.st.from hE3);have hB3 := hE3.ext.kept.blk HA.out.ins (fun q => q HxA.out);have x1 : w3.cell? ⟨xb, 1, none⟩ = some (.int .i64 a) := (hB3.cell 1).trans rfl;have htl3 : g3.tl = g.tl := hE3.same.tl;obtain ⟨x3, hT3⟩ := HE3.out.kin.thAt HU.out.ob HU.out.kind;have ra := hT3.reg ha;have hfr := hT3.blk.free;rw [htl3] at ra hfr;have h2 := HR2.out
    cases h2;have hbd := beN_le (bytes_bd HE3.out.kin HE3.out.inv HU.out.maps HB.out 8 Hq.out.2) 8 (Nat.le_refl _) (by omega);have HF := Lib.hid ((HE3.out.reg HU.out.ob HU.out.kind ha hbd).below ((Below.refl _ _).drew));rw [htl3] at HF;clear htl3 hT3 hB3 hE3 HR2 hbd;go_wp2_with fail
    go_region
    all_goals
     go_wp2_with fail
     go_ret;exact ⟨rfl, g3, HF.out⟩
theorem move_lw {w0 w : World} {g0 g : Gh} {K : Km} {o : Ob} {i mb : Nat} (h : UsAt w0 g0 K o i mb w g) (a b c : Nat) (imm : Int) (ha : a < 16) (hb : b < 16) (hm0 : -2147483648 <= imm) (hm1 : imm <= 2147483647) {r' : Nat -> Int} {nx en : Int} (hres : insOne K o ⟨20, a, b, c, imm⟩ = some (r', nx, en)) :
  Calls Tryz.prog 151 #[.pointer (some ⟨g.tl o.name, 0, none⟩), .agg #[.int .i64 20, .int .i64 a, .int .i64 b, .int .i64 c, .int .i32 imm], memV mb] w fun e w' =>
   e = .returned (.int .i64 en) /\ ∃ g', EnSt w0 g0 (K.set (o.wTh { o.th with r := r' })) (o.wTh { o.th with r := r' }) w' g' := by
 obtain ⟨hA, hE, hlt, hpc, hrg⟩ := h.st.insAt h.ob h.kind 20 a b c imm;have HU := Lib.hid h;rw [ins_load K o 20 a b c imm (by omega)] at hres;have HR := Lib.hid hres;obtain ⟨xb, hxb⟩ : ∃ xb, w.heap.size = xb := ⟨_, rfl⟩;have htl1 : Hid (g.tl o.name < (w.alloc (.cells #[.int .i64 20, .int .i64 a, .int .i64 b, .int .i64 c, .int .i32 imm] 26)).heap.size) := Lib.hid (by rw [World.size_alloc]; omega);have HxA := Lib.hid (h.st.kin.nrm _ (Nat.le_refl _));rw [hxb] at hA HxA;have rb := hA.reg b hb;have x0 : (w.alloc (.cells #[.int .i64 20, .int .i64 a, .int .i64 b, .int .i64 c, .int .i32 imm] 26)).cell? ⟨xb, 0, none⟩ = some (.int .i64 20) := (hA.ins.cell 0).trans rfl;have x2 : (w.alloc (.cells #[.int .i64 20, .int .i64 a, .int .i64 b, .int .i64 c, .int .i32 imm] 26)).cell? ⟨xb, 2, none⟩ = some (.int .i64 b) := (hA.ins.cell 2).trans rfl;have x4 : (w.alloc (.cells #[.int .i64 20, .int .i64 a, .int .i64 b, .int .i64 c, .int .i32 imm] 26)).cell? ⟨xb, 4, none⟩ = some (.int .i32 imm) := (hA.ins.cell 4).trans rfl;have hai : (a : Int) < 16 := by omega
 have hbi : (b : Int) < 16 := by omega
 have HA := Lib.hid hA;have HU1 := Lib.hid (h.below ((Below.refl _ w).alloc (Nat.le_refl _) (.cells #[.int .i64 20, .int .i64 a, .int .i64 b, .int .i64 c, .int .i32 imm] 26)));have HPl : Hid (∀ k, Calls Tryz.prog 195 #[.int .u64 (o.th.r b), .int .i32 imm, .int .i64 (4 : Nat)] ((w.alloc (.cells #[.int .i64 20, .int .i64 a, .int .i64 b, .int .i64 c, .int .i32 imm] 26)).drewN k) fun e w' => e = .returned (placeV (wu (o.th.r b + imm)) 4) /\ w' = (w.alloc (.cells #[.int .i64 20, .int .i64 a, .int .i64 b, .int .i64 c, .int .i32 imm] 26)).drewN k) := Lib.hid (fun k => (place_any (o.th.r b) imm 4 _ (by omega) hm0 hm1).mono fun e w' (q : e = _ /\ _ = w') => ⟨q.1, q.2.symm⟩);have hw : widthOf 20 = 4 := rfl;rw [hw] at HR;have Hva := Lib.hid (wu_bd (o.th.r b + imm));obtain ⟨va, hva⟩ : ∃ va, wu (o.th.r b + imm) = va := ⟨_, rfl⟩;rw [hva] at HR HPl Hva;clear h hA hE hpc hrg hres hw hva;by_cases hq : va > 262144 - ((4 : Nat) : Int) \/ va % ((4 : Nat) : Int) ≠ 0
 ·have hpv : placeV va 4 = .tuple #[.int .i64 0, .bool false] := if_pos hq
  have HR2 : Hid (some (o.th.r, wu (o.th.pc + 8), (6 : Int)) = some (r', nx, en)) := Lib.hid (by have := HR.out; rw [if_pos hq] at this; exact this);rw [hpv] at HPl;clear hq hpv HR;go_enter Tryz.func151, Tryz.ntmps151
  go_wp2_with fail
  refine (width_any 20 _ (by omega)).mono ?_;rintro e w' ⟨rfl, rfl⟩;go_wp2_with fail
  go_quiet ((go_at_call 195; exact Calls.quiet_of_same (HPl.out _)))
  go_wp2_with fail
  go_ret;have h2 := HR2.out
  cases h2;exact ⟨rfl, g, (HU1.out.st.drewN _).none HU.out.ob⟩
 ·have hpv : placeV va 4 = .tuple #[.int .i64 va, .bool true] := if_neg hq
  have hq2 : ¬ (va > 262144 - ((4 : Nat) : Int)) := fun e => hq (.inl e)
  have hq3 : va % ((4 : Nat) : Int) = 0 := by
   by_cases e : va % ((4 : Nat) : Int) = 0
   ·exact e
   ·exact absurd (.inr e) hq
  have HR2 : Hid ((match K.bytes o va with
   | some B => some (upd o.th.r a (beN B 4), wu (o.th.pc + 8), (0 : Int))
   | none => some (o.th.r, wu (o.th.pc + 8), 3)) = some (r', nx, en)) := Lib.hid (by have := HR.out; rw [if_neg hq] at this; exact this)
  have Hq := Lib.hid (show va <= 262143 /\ va % 64 + ((4 : Nat) : Int) <= 64 from ⟨by omega, by omega⟩);rw [hpv] at HPl;clear hq hpv HR hq2 hq3;go_enter Tryz.func151, Tryz.ntmps151
  go_wp2_with fail
  refine (width_any 20 _ (by omega)).mono ?_;rintro e w' ⟨rfl, rfl⟩;go_upto_region 2 with fail
  go_cut [9, 10] (fun u v wx => u = .int .i64 va /\ v = .bool true /\ Hid (UsAt w0 g0 K o i mb wx g) /\ Hid (InsAt wx (g.tl o.name) xb o.th 20 a b c imm))
  case first =>
   go_wp2_with fail
   go_quiet ((go_at_call 195; exact Calls.quiet_of_same (HPl.out _)))
   go_wp2_with fail
   go_meet;exact ⟨rfl, rfl, HU1.out.below (below_dr _ _), HA.out.below htl1.out (below_dr _ _)⟩
  case rest =>
   rename World => w2
   clear rb x0 x2 x4 HA HU1 HPl htl1;obtain ⟨rfl, rfl, HU2, HA⟩ := hcut;have Hld := Lib.hid (HU2.out.load va 4 Hva.out.1 Hq.out.1 (by omega) (by omega) Hq.out.2)
   cases hB : K.bytes o va with
   | none =>
    rw [hB] at Hld HR2;unfold loadV at Hld;clear hB;go_wp2_with fail
    refine Hld.out.mono ?_;rintro e w3 ⟨rfl, g3, hE3⟩;have HE3 := Lib.hid (HU2.out.st.from hE3);clear hE3;go_wp2_with fail
    go_ret;have h2 := HR2.out
    cases h2;exact ⟨rfl, g3, HE3.out.none HU.out.ob⟩
   | some B =>
    have HB := Lib.hid hB;rw [hB] at Hld HR2;unfold loadV at Hld;clear hB;go_wp2_with fail
    refine Hld.out.mono ?_;rintro e w3 ⟨rfl, g3, hE3⟩;have HE3 := Lib.hid (HU2.out.st.from hE3);have hB3 := hE3.ext.kept.blk HA.out.ins (fun q => q HxA.out);have x1 : w3.cell? ⟨xb, 1, none⟩ = some (.int .i64 a) := (hB3.cell 1).trans rfl;have htl3 : g3.tl = g.tl := hE3.same.tl;obtain ⟨x3, hT3⟩ := HE3.out.kin.thAt HU.out.ob HU.out.kind;have ra := hT3.reg ha;have hfr := hT3.blk.free;rw [htl3] at ra hfr;have h2 := HR2.out
    cases h2;have hbd := beN_le (bytes_bd HE3.out.kin HE3.out.inv HU.out.maps HB.out 4 Hq.out.2) 4 (Nat.le_refl _) (by omega);have HF := Lib.hid ((HE3.out.reg HU.out.ob HU.out.kind ha hbd).below ((Below.refl _ _).drew));rw [htl3] at HF;clear htl3 hT3 hB3 hE3 HR2 hbd;go_wp2_with fail
    go_region
    all_goals
     go_wp2_with fail
     go_ret;exact ⟨rfl, g3, HF.out⟩
theorem move_lb {w0 w : World} {g0 g : Gh} {K : Km} {o : Ob} {i mb : Nat} (h : UsAt w0 g0 K o i mb w g) (a b c : Nat) (imm : Int) (ha : a < 16) (hb : b < 16) (hm0 : -2147483648 <= imm) (hm1 : imm <= 2147483647) {r' : Nat -> Int} {nx en : Int} (hres : insOne K o ⟨21, a, b, c, imm⟩ = some (r', nx, en)) :
  Calls Tryz.prog 151 #[.pointer (some ⟨g.tl o.name, 0, none⟩), .agg #[.int .i64 21, .int .i64 a, .int .i64 b, .int .i64 c, .int .i32 imm], memV mb] w fun e w' =>
   e = .returned (.int .i64 en) /\ ∃ g', EnSt w0 g0 (K.set (o.wTh { o.th with r := r' })) (o.wTh { o.th with r := r' }) w' g' := by
 obtain ⟨hA, hE, hlt, hpc, hrg⟩ := h.st.insAt h.ob h.kind 21 a b c imm;have HU := Lib.hid h;rw [ins_load K o 21 a b c imm (by omega)] at hres;have HR := Lib.hid hres;obtain ⟨xb, hxb⟩ : ∃ xb, w.heap.size = xb := ⟨_, rfl⟩;have htl1 : Hid (g.tl o.name < (w.alloc (.cells #[.int .i64 21, .int .i64 a, .int .i64 b, .int .i64 c, .int .i32 imm] 26)).heap.size) := Lib.hid (by rw [World.size_alloc]; omega);have HxA := Lib.hid (h.st.kin.nrm _ (Nat.le_refl _));rw [hxb] at hA HxA;have rb := hA.reg b hb;have x0 : (w.alloc (.cells #[.int .i64 21, .int .i64 a, .int .i64 b, .int .i64 c, .int .i32 imm] 26)).cell? ⟨xb, 0, none⟩ = some (.int .i64 21) := (hA.ins.cell 0).trans rfl;have x2 : (w.alloc (.cells #[.int .i64 21, .int .i64 a, .int .i64 b, .int .i64 c, .int .i32 imm] 26)).cell? ⟨xb, 2, none⟩ = some (.int .i64 b) := (hA.ins.cell 2).trans rfl;have x4 : (w.alloc (.cells #[.int .i64 21, .int .i64 a, .int .i64 b, .int .i64 c, .int .i32 imm] 26)).cell? ⟨xb, 4, none⟩ = some (.int .i32 imm) := (hA.ins.cell 4).trans rfl;have hai : (a : Int) < 16 := by omega
 have hbi : (b : Int) < 16 := by omega
 have HA := Lib.hid hA;have HU1 := Lib.hid (h.below ((Below.refl _ w).alloc (Nat.le_refl _) (.cells #[.int .i64 21, .int .i64 a, .int .i64 b, .int .i64 c, .int .i32 imm] 26)));have HPl : Hid (∀ k, Calls Tryz.prog 195 #[.int .u64 (o.th.r b), .int .i32 imm, .int .i64 (1 : Nat)] ((w.alloc (.cells #[.int .i64 21, .int .i64 a, .int .i64 b, .int .i64 c, .int .i32 imm] 26)).drewN k) fun e w' => e = .returned (placeV (wu (o.th.r b + imm)) 1) /\ w' = (w.alloc (.cells #[.int .i64 21, .int .i64 a, .int .i64 b, .int .i64 c, .int .i32 imm] 26)).drewN k) := Lib.hid (fun k => (place_any (o.th.r b) imm 1 _ (by omega) hm0 hm1).mono fun e w' (q : e = _ /\ _ = w') => ⟨q.1, q.2.symm⟩);have hw : widthOf 21 = 1 := rfl;rw [hw] at HR;have Hva := Lib.hid (wu_bd (o.th.r b + imm));obtain ⟨va, hva⟩ : ∃ va, wu (o.th.r b + imm) = va := ⟨_, rfl⟩;rw [hva] at HR HPl Hva;clear h hA hE hpc hrg hres hw hva;by_cases hq : va > 262144 - ((1 : Nat) : Int) \/ va % ((1 : Nat) : Int) ≠ 0
 ·have hpv : placeV va 1 = .tuple #[.int .i64 0, .bool false] := if_pos hq
  have HR2 : Hid (some (o.th.r, wu (o.th.pc + 8), (6 : Int)) = some (r', nx, en)) := Lib.hid (by have := HR.out; rw [if_pos hq] at this; exact this);rw [hpv] at HPl;clear hq hpv HR;go_enter Tryz.func151, Tryz.ntmps151
  go_wp2_with fail
  refine (width_any 21 _ (by omega)).mono ?_;rintro e w' ⟨rfl, rfl⟩;go_wp2_with fail
  go_quiet ((go_at_call 195; exact Calls.quiet_of_same (HPl.out _)))
  go_wp2_with fail
  go_ret;have h2 := HR2.out
  cases h2;exact ⟨rfl, g, (HU1.out.st.drewN _).none HU.out.ob⟩
 ·have hpv : placeV va 1 = .tuple #[.int .i64 va, .bool true] := if_neg hq
  have hq2 : ¬ (va > 262144 - ((1 : Nat) : Int)) := fun e => hq (.inl e)
  have hq3 : va % ((1 : Nat) : Int) = 0 := by
   by_cases e : va % ((1 : Nat) : Int) = 0
   ·exact e
   ·exact absurd (.inr e) hq
  have HR2 : Hid ((match K.bytes o va with
   | some B => some (upd o.th.r a (beN B 1), wu (o.th.pc + 8), (0 : Int))
   | none => some (o.th.r, wu (o.th.pc + 8), 3)) = some (r', nx, en)) := Lib.hid (by have := HR.out; rw [if_neg hq] at this; exact this)
  have Hq := Lib.hid (show va <= 262143 /\ va % 64 + ((1 : Nat) : Int) <= 64 from ⟨by omega, by omega⟩);rw [hpv] at HPl;clear hq hpv HR hq2 hq3;go_enter Tryz.func151, Tryz.ntmps151
  go_wp2_with fail
  refine (width_any 21 _ (by omega)).mono ?_;rintro e w' ⟨rfl, rfl⟩;go_upto_region 2 with fail
  go_cut [9, 10] (fun u v wx => u = .int .i64 va /\ v = .bool true /\ Hid (UsAt w0 g0 K o i mb wx g) /\ Hid (InsAt wx (g.tl o.name) xb o.th 21 a b c imm))
  case first =>
   go_wp2_with fail
   go_quiet ((go_at_call 195; exact Calls.quiet_of_same (HPl.out _)))
   go_wp2_with fail
   go_meet;exact ⟨rfl, rfl, HU1.out.below (below_dr _ _), HA.out.below htl1.out (below_dr _ _)⟩
  case rest =>
   rename World => w2
   clear rb x0 x2 x4 HA HU1 HPl htl1;obtain ⟨rfl, rfl, HU2, HA⟩ := hcut;have Hld := Lib.hid (HU2.out.load va 1 Hva.out.1 Hq.out.1 (by omega) (by omega) Hq.out.2)
   cases hB : K.bytes o va with
   | none =>
    rw [hB] at Hld HR2;unfold loadV at Hld;clear hB;go_wp2_with fail
    refine Hld.out.mono ?_;rintro e w3 ⟨rfl, g3, hE3⟩;have HE3 := Lib.hid (HU2.out.st.from hE3);clear hE3;go_wp2_with fail
    go_ret;have h2 := HR2.out
    cases h2;exact ⟨rfl, g3, HE3.out.none HU.out.ob⟩
   | some B =>
    have HB := Lib.hid hB;rw [hB] at Hld HR2;unfold loadV at Hld;clear hB;go_wp2_with fail
    refine Hld.out.mono ?_;rintro e w3 ⟨rfl, g3, hE3⟩;have HE3 := Lib.hid (HU2.out.st.from hE3);have hB3 := hE3.ext.kept.blk HA.out.ins (fun q => q HxA.out);have x1 : w3.cell? ⟨xb, 1, none⟩ = some (.int .i64 a) := (hB3.cell 1).trans rfl;have htl3 : g3.tl = g.tl := hE3.same.tl;obtain ⟨x3, hT3⟩ := HE3.out.kin.thAt HU.out.ob HU.out.kind;have ra := hT3.reg ha;have hfr := hT3.blk.free;rw [htl3] at ra hfr;have h2 := HR2.out
    cases h2;have hbd := beN_le (bytes_bd HE3.out.kin HE3.out.inv HU.out.maps HB.out 1 Hq.out.2) 1 (Nat.le_refl _) (by omega);have HF := Lib.hid ((HE3.out.reg HU.out.ob HU.out.kind ha hbd).below ((Below.refl _ _).drew));rw [htl3] at HF;clear htl3 hT3 hB3 hE3 HR2 hbd;go_wp2_with fail
    go_region
    all_goals
     go_wp2_with fail
     go_ret;exact ⟨rfl, g3, HF.out⟩
theorem UsAt.store_no {w0 w : World} {g0 g : Gh} {K : Km} {o : Ob} {i mb : Nat} (h : UsAt w0 g0 K o i mb w g) (va : Int) (n : Nat) (x : Value) (h0 : 0 <= va) (h1 : va <= 262143) (hf : frameV g K o va true = 0) :
  Calls Tryz.prog 316 #[.pointer (some ⟨mb, 0, none⟩), .int .i64 va, .int .i64 n, x] w fun e w' => e = .returned (.bool false) /\ ∃ g', EnSt w g K o w' g' := by
 have Hfr := Lib.hid (frame_any w g K o i mb va true h.st.kin h.st.inv h.maps h.ob h.kind h.lens h.core h.flush h.last h.mem h0 h1);rw [hf] at Hfr;clear h hf h0 h1;go_enter Tryz.func316, Tryz.ntmps316
 go_wp2_with fail
 refine Hfr.out.mono ?_;rintro e w1 ⟨rfl, g1, hE1⟩;have HE1 := Lib.hid hE1;clear hE1 Hfr;go_wp2_with fail
 go_ret;exact ⟨rfl, g1, HE1.out⟩
theorem move_st {w0 w : World} {g0 g : Gh} {K : Km} {o : Ob} {i mb : Nat} (h : UsAt w0 g0 K o i mb w g) (a b c : Nat) (imm : Int) (ha : a < 16) (hb : b < 16) (hm0 : -2147483648 <= imm) (hm1 : imm <= 2147483647) {r' : Nat -> Int} {nx en : Int} (hres : insOne K o ⟨22, a, b, c, imm⟩ = some (r', nx, en)) :
  Calls Tryz.prog 151 #[.pointer (some ⟨g.tl o.name, 0, none⟩), .agg #[.int .i64 22, .int .i64 a, .int .i64 b, .int .i64 c, .int .i32 imm], memV mb] w fun e w' =>
   e = .returned (.int .i64 en) /\ ∃ g', EnSt w0 g0 (K.set (o.wTh { o.th with r := r' })) (o.wTh { o.th with r := r' }) w' g' := by
 obtain ⟨hA, hE, hlt, hpc, hrg⟩ := h.st.insAt h.ob h.kind 22 a b c imm;have HU := Lib.hid h;rw [ins_store K o 22 a b c imm (by omega)] at hres;have HR := Lib.hid hres;obtain ⟨xb, hxb⟩ : ∃ xb, w.heap.size = xb := ⟨_, rfl⟩;have htl1 : Hid (g.tl o.name < (w.alloc (.cells #[.int .i64 22, .int .i64 a, .int .i64 b, .int .i64 c, .int .i32 imm] 26)).heap.size) := Lib.hid (by rw [World.size_alloc]; omega);have HxA := Lib.hid (h.st.kin.nrm _ (Nat.le_refl _));rw [hxb] at hA HxA;have rb := hA.reg b hb;have x0 : (w.alloc (.cells #[.int .i64 22, .int .i64 a, .int .i64 b, .int .i64 c, .int .i32 imm] 26)).cell? ⟨xb, 0, none⟩ = some (.int .i64 22) := (hA.ins.cell 0).trans rfl;have x2 : (w.alloc (.cells #[.int .i64 22, .int .i64 a, .int .i64 b, .int .i64 c, .int .i32 imm] 26)).cell? ⟨xb, 2, none⟩ = some (.int .i64 b) := (hA.ins.cell 2).trans rfl;have x4 : (w.alloc (.cells #[.int .i64 22, .int .i64 a, .int .i64 b, .int .i64 c, .int .i32 imm] 26)).cell? ⟨xb, 4, none⟩ = some (.int .i32 imm) := (hA.ins.cell 4).trans rfl;have hai : (a : Int) < 16 := by omega
 have hbi : (b : Int) < 16 := by omega
 have HA := Lib.hid hA;have HU1 := Lib.hid (h.below ((Below.refl _ w).alloc (Nat.le_refl _) (.cells #[.int .i64 22, .int .i64 a, .int .i64 b, .int .i64 c, .int .i32 imm] 26)));have HPl : Hid (∀ k, Calls Tryz.prog 195 #[.int .u64 (o.th.r b), .int .i32 imm, .int .i64 (8 : Nat)] ((w.alloc (.cells #[.int .i64 22, .int .i64 a, .int .i64 b, .int .i64 c, .int .i32 imm] 26)).drewN k) fun e w' => e = .returned (placeV (wu (o.th.r b + imm)) 8) /\ w' = (w.alloc (.cells #[.int .i64 22, .int .i64 a, .int .i64 b, .int .i64 c, .int .i32 imm] 26)).drewN k) := Lib.hid (fun k => (place_any (o.th.r b) imm 8 _ (by omega) hm0 hm1).mono fun e w' (q : e = _ /\ _ = w') => ⟨q.1, q.2.symm⟩);have hw : widthOf 22 = 8 := rfl;rw [hw] at HR;have Hva := Lib.hid (wu_bd (o.th.r b + imm));obtain ⟨va, hva⟩ : ∃ va, wu (o.th.r b + imm) = va := ⟨_, rfl⟩;rw [hva] at HR HPl Hva;clear h hA hE hpc hrg hres hw hva;by_cases hq : va > 262144 - ((8 : Nat) : Int) \/ va % ((8 : Nat) : Int) ≠ 0
 ·have hpv : placeV va 8 = .tuple #[.int .i64 0, .bool false] := if_pos hq
  have HR2 : Hid (some (o.th.r, wu (o.th.pc + 8), (6 : Int)) = some (r', nx, en)) := Lib.hid (by have := HR.out; rw [if_pos hq] at this; exact this);rw [hpv] at HPl;clear hq hpv HR;go_enter Tryz.func151, Tryz.ntmps151
  go_wp2_with fail
  refine (width_any 22 _ (by omega)).mono ?_;rintro e w' ⟨rfl, rfl⟩;go_wp2_with fail
  go_quiet ((go_at_call 195; exact Calls.quiet_of_same (HPl.out _)))
  go_wp2_with fail
  go_ret;have h2 := HR2.out
  cases h2;exact ⟨rfl, g, (HU1.out.st.drewN _).none HU.out.ob⟩
 ·have hpv : placeV va 8 = .tuple #[.int .i64 va, .bool true] := if_neg hq
  have hq2 : ¬ (va > 262144 - ((8 : Nat) : Int)) := fun e => hq (.inl e)
  have hq3 : va % ((8 : Nat) : Int) = 0 := by
   by_cases e : va % ((8 : Nat) : Int) = 0
   ·exact e
   ·exact absurd (.inr e) hq
  have HR2 : Hid ((match K.whereTo o va with
   | some (_, _, true) => none
   | _ => some (o.th.r, wu (o.th.pc + 8), (3 : Int))) = some (r', nx, en)) := Lib.hid (by have := HR.out; rw [if_neg hq] at this; exact this)
  have Hq := Lib.hid (show va <= 262143 /\ va % 64 + ((8 : Nat) : Int) <= 64 from ⟨by omega, by omega⟩);rw [hpv] at HPl;clear hq hpv HR hq2 hq3;go_enter Tryz.func151, Tryz.ntmps151
  go_wp2_with fail
  refine (width_any 22 _ (by omega)).mono ?_;rintro e w' ⟨rfl, rfl⟩;rw [show ((widthOf 22 : Nat) : Int) = 8 from rfl];go_upto_region 2 with fail
  go_cut [9, 10] (fun u v wx => u = .int .i64 va /\ v = .bool true /\ Hid (UsAt w0 g0 K o i mb wx g) /\ Hid (InsAt wx (g.tl o.name) xb o.th 22 a b c imm))
  case first =>
   go_wp2_with fail
   go_quiet ((go_at_call 195; exact Calls.quiet_of_same (HPl.out _)))
   go_wp2_with fail
   go_meet;exact ⟨rfl, rfl, HU1.out.below (below_dr _ _), HA.out.below htl1.out (below_dr _ _)⟩
  case rest =>
   rename World => w2
   clear rb x0 x2 x4 HA HU1 HPl htl1;obtain ⟨rfl, rfl, HU2, HA⟩ := hcut
   have HR3 : Hid (frameV g K o va true = 0 /\ some (o.th.r, wu (o.th.pc + 8), (3 : Int)) = some (r', nx, en)) := Lib.hid (by
    have h2 := HR2.out;unfold frameV
    cases hw : K.whereTo o va with
    | none => rw [hw] at h2; exact ⟨rfl, h2⟩
    | some r =>
     obtain ⟨s, q, may⟩ := r;rw [hw] at h2
     cases may
     ·exact ⟨rfl, h2⟩
     ·cases h2)
   have Hst := Lib.hid (fun x => (HU2.out.below ((Below.refl _ w2).drew)).store_no va 8 x Hva.out.1 Hq.out.1 HR3.out.1);have x1 : w2.cell? ⟨xb, 1, none⟩ = some (.int .i64 a) := (HA.out.ins.cell 1).trans rfl;have ra := HA.out.reg a ha;clear HR2;have s1 : IntKind.i64.wrap 64 = 64 := by decide
   have s2 : IntKind.i64.wrap 63 = 63 := by decide
   go_wp2_with fail
   have hna := nil_ahead mb w2.drew;go_still_tail 24, (by kernel_rfl)
   rw [drew_eq w2];go_wp2_with fail
   refine (Hst.out _).mono ?_;rintro e w3 ⟨rfl, g3, hE3⟩;have HE3 := Lib.hid ((HU2.out.below ((Below.refl _ w2).drew)).st.from hE3);clear hE3;go_wp2_with fail
   go_ret;have h2 := HR3.out.2
   cases h2;exact ⟨rfl, g3, HE3.out.none HU.out.ob⟩
theorem move_sw {w0 w : World} {g0 g : Gh} {K : Km} {o : Ob} {i mb : Nat} (h : UsAt w0 g0 K o i mb w g) (a b c : Nat) (imm : Int) (ha : a < 16) (hb : b < 16) (hm0 : -2147483648 <= imm) (hm1 : imm <= 2147483647) {r' : Nat -> Int} {nx en : Int} (hres : insOne K o ⟨23, a, b, c, imm⟩ = some (r', nx, en)) :
  Calls Tryz.prog 151 #[.pointer (some ⟨g.tl o.name, 0, none⟩), .agg #[.int .i64 23, .int .i64 a, .int .i64 b, .int .i64 c, .int .i32 imm], memV mb] w fun e w' =>
   e = .returned (.int .i64 en) /\ ∃ g', EnSt w0 g0 (K.set (o.wTh { o.th with r := r' })) (o.wTh { o.th with r := r' }) w' g' := by
 obtain ⟨hA, hE, hlt, hpc, hrg⟩ := h.st.insAt h.ob h.kind 23 a b c imm;have HU := Lib.hid h;rw [ins_store K o 23 a b c imm (by omega)] at hres;have HR := Lib.hid hres;obtain ⟨xb, hxb⟩ : ∃ xb, w.heap.size = xb := ⟨_, rfl⟩;have htl1 : Hid (g.tl o.name < (w.alloc (.cells #[.int .i64 23, .int .i64 a, .int .i64 b, .int .i64 c, .int .i32 imm] 26)).heap.size) := Lib.hid (by rw [World.size_alloc]; omega);have HxA := Lib.hid (h.st.kin.nrm _ (Nat.le_refl _));rw [hxb] at hA HxA;have rb := hA.reg b hb;have x0 : (w.alloc (.cells #[.int .i64 23, .int .i64 a, .int .i64 b, .int .i64 c, .int .i32 imm] 26)).cell? ⟨xb, 0, none⟩ = some (.int .i64 23) := (hA.ins.cell 0).trans rfl;have x2 : (w.alloc (.cells #[.int .i64 23, .int .i64 a, .int .i64 b, .int .i64 c, .int .i32 imm] 26)).cell? ⟨xb, 2, none⟩ = some (.int .i64 b) := (hA.ins.cell 2).trans rfl;have x4 : (w.alloc (.cells #[.int .i64 23, .int .i64 a, .int .i64 b, .int .i64 c, .int .i32 imm] 26)).cell? ⟨xb, 4, none⟩ = some (.int .i32 imm) := (hA.ins.cell 4).trans rfl;have hai : (a : Int) < 16 := by omega
 have hbi : (b : Int) < 16 := by omega
 have HA := Lib.hid hA;have HU1 := Lib.hid (h.below ((Below.refl _ w).alloc (Nat.le_refl _) (.cells #[.int .i64 23, .int .i64 a, .int .i64 b, .int .i64 c, .int .i32 imm] 26)));have HPl : Hid (∀ k, Calls Tryz.prog 195 #[.int .u64 (o.th.r b), .int .i32 imm, .int .i64 (4 : Nat)] ((w.alloc (.cells #[.int .i64 23, .int .i64 a, .int .i64 b, .int .i64 c, .int .i32 imm] 26)).drewN k) fun e w' => e = .returned (placeV (wu (o.th.r b + imm)) 4) /\ w' = (w.alloc (.cells #[.int .i64 23, .int .i64 a, .int .i64 b, .int .i64 c, .int .i32 imm] 26)).drewN k) := Lib.hid (fun k => (place_any (o.th.r b) imm 4 _ (by omega) hm0 hm1).mono fun e w' (q : e = _ /\ _ = w') => ⟨q.1, q.2.symm⟩);have hw : widthOf 23 = 4 := rfl;rw [hw] at HR;have Hva := Lib.hid (wu_bd (o.th.r b + imm));obtain ⟨va, hva⟩ : ∃ va, wu (o.th.r b + imm) = va := ⟨_, rfl⟩;rw [hva] at HR HPl Hva;clear h hA hE hpc hrg hres hw hva;by_cases hq : va > 262144 - ((4 : Nat) : Int) \/ va % ((4 : Nat) : Int) ≠ 0
 ·have hpv : placeV va 4 = .tuple #[.int .i64 0, .bool false] := if_pos hq
  have HR2 : Hid (some (o.th.r, wu (o.th.pc + 8), (6 : Int)) = some (r', nx, en)) := Lib.hid (by have := HR.out; rw [if_pos hq] at this; exact this);rw [hpv] at HPl;clear hq hpv HR;go_enter Tryz.func151, Tryz.ntmps151
  go_wp2_with fail
  refine (width_any 23 _ (by omega)).mono ?_;rintro e w' ⟨rfl, rfl⟩;go_wp2_with fail
  go_quiet ((go_at_call 195; exact Calls.quiet_of_same (HPl.out _)))
  go_wp2_with fail
  go_ret;have h2 := HR2.out
  cases h2;exact ⟨rfl, g, (HU1.out.st.drewN _).none HU.out.ob⟩
 ·have hpv : placeV va 4 = .tuple #[.int .i64 va, .bool true] := if_neg hq
  have hq2 : ¬ (va > 262144 - ((4 : Nat) : Int)) := fun e => hq (.inl e)
  have hq3 : va % ((4 : Nat) : Int) = 0 := by
   by_cases e : va % ((4 : Nat) : Int) = 0
   ·exact e
   ·exact absurd (.inr e) hq
  have HR2 : Hid ((match K.whereTo o va with
   | some (_, _, true) => none
   | _ => some (o.th.r, wu (o.th.pc + 8), (3 : Int))) = some (r', nx, en)) := Lib.hid (by have := HR.out; rw [if_neg hq] at this; exact this)
  have Hq := Lib.hid (show va <= 262143 /\ va % 64 + ((4 : Nat) : Int) <= 64 from ⟨by omega, by omega⟩);rw [hpv] at HPl;clear hq hpv HR hq2 hq3;go_enter Tryz.func151, Tryz.ntmps151
  go_wp2_with fail
  refine (width_any 23 _ (by omega)).mono ?_;rintro e w' ⟨rfl, rfl⟩;rw [show ((widthOf 23 : Nat) : Int) = 4 from rfl];go_upto_region 2 with fail
  go_cut [9, 10] (fun u v wx => u = .int .i64 va /\ v = .bool true /\ Hid (UsAt w0 g0 K o i mb wx g) /\ Hid (InsAt wx (g.tl o.name) xb o.th 23 a b c imm))
  case first =>
   go_wp2_with fail
   go_quiet ((go_at_call 195; exact Calls.quiet_of_same (HPl.out _)))
   go_wp2_with fail
   go_meet;exact ⟨rfl, rfl, HU1.out.below (below_dr _ _), HA.out.below htl1.out (below_dr _ _)⟩
  case rest =>
   rename World => w2
   clear rb x0 x2 x4 HA HU1 HPl htl1;obtain ⟨rfl, rfl, HU2, HA⟩ := hcut
   have HR3 : Hid (frameV g K o va true = 0 /\ some (o.th.r, wu (o.th.pc + 8), (3 : Int)) = some (r', nx, en)) := Lib.hid (by
    have h2 := HR2.out;unfold frameV
    cases hw : K.whereTo o va with
    | none => rw [hw] at h2; exact ⟨rfl, h2⟩
    | some r =>
     obtain ⟨s, q, may⟩ := r;rw [hw] at h2
     cases may
     ·exact ⟨rfl, h2⟩
     ·cases h2)
   have Hst := Lib.hid (fun x => (HU2.out.below ((Below.refl _ w2).drew)).store_no va 4 x Hva.out.1 Hq.out.1 HR3.out.1);have x1 : w2.cell? ⟨xb, 1, none⟩ = some (.int .i64 a) := (HA.out.ins.cell 1).trans rfl;have ra := HA.out.reg a ha;clear HR2;have s1 : IntKind.i64.wrap 32 = 32 := by decide
   have s2 : IntKind.i64.wrap 31 = 31 := by decide
   go_wp2_with fail
   have hna := nil_ahead mb w2.drew;go_still_tail 24, (by kernel_rfl)
   rw [drew_eq w2];go_wp2_with fail
   refine (Hst.out _).mono ?_;rintro e w3 ⟨rfl, g3, hE3⟩;have HE3 := Lib.hid ((HU2.out.below ((Below.refl _ w2).drew)).st.from hE3);clear hE3;go_wp2_with fail
   go_ret;have h2 := HR3.out.2
   cases h2;exact ⟨rfl, g3, HE3.out.none HU.out.ob⟩
theorem move_sb {w0 w : World} {g0 g : Gh} {K : Km} {o : Ob} {i mb : Nat} (h : UsAt w0 g0 K o i mb w g) (a b c : Nat) (imm : Int) (ha : a < 16) (hb : b < 16) (hm0 : -2147483648 <= imm) (hm1 : imm <= 2147483647) {r' : Nat -> Int} {nx en : Int} (hres : insOne K o ⟨24, a, b, c, imm⟩ = some (r', nx, en)) :
  Calls Tryz.prog 151 #[.pointer (some ⟨g.tl o.name, 0, none⟩), .agg #[.int .i64 24, .int .i64 a, .int .i64 b, .int .i64 c, .int .i32 imm], memV mb] w fun e w' =>
   e = .returned (.int .i64 en) /\ ∃ g', EnSt w0 g0 (K.set (o.wTh { o.th with r := r' })) (o.wTh { o.th with r := r' }) w' g' := by
 obtain ⟨hA, hE, hlt, hpc, hrg⟩ := h.st.insAt h.ob h.kind 24 a b c imm;have HU := Lib.hid h;rw [ins_store K o 24 a b c imm (by omega)] at hres;have HR := Lib.hid hres;obtain ⟨xb, hxb⟩ : ∃ xb, w.heap.size = xb := ⟨_, rfl⟩;have htl1 : Hid (g.tl o.name < (w.alloc (.cells #[.int .i64 24, .int .i64 a, .int .i64 b, .int .i64 c, .int .i32 imm] 26)).heap.size) := Lib.hid (by rw [World.size_alloc]; omega);have HxA := Lib.hid (h.st.kin.nrm _ (Nat.le_refl _));rw [hxb] at hA HxA;have rb := hA.reg b hb;have x0 : (w.alloc (.cells #[.int .i64 24, .int .i64 a, .int .i64 b, .int .i64 c, .int .i32 imm] 26)).cell? ⟨xb, 0, none⟩ = some (.int .i64 24) := (hA.ins.cell 0).trans rfl;have x2 : (w.alloc (.cells #[.int .i64 24, .int .i64 a, .int .i64 b, .int .i64 c, .int .i32 imm] 26)).cell? ⟨xb, 2, none⟩ = some (.int .i64 b) := (hA.ins.cell 2).trans rfl;have x4 : (w.alloc (.cells #[.int .i64 24, .int .i64 a, .int .i64 b, .int .i64 c, .int .i32 imm] 26)).cell? ⟨xb, 4, none⟩ = some (.int .i32 imm) := (hA.ins.cell 4).trans rfl;have hai : (a : Int) < 16 := by omega
 have hbi : (b : Int) < 16 := by omega
 have HA := Lib.hid hA;have HU1 := Lib.hid (h.below ((Below.refl _ w).alloc (Nat.le_refl _) (.cells #[.int .i64 24, .int .i64 a, .int .i64 b, .int .i64 c, .int .i32 imm] 26)));have HPl : Hid (∀ k, Calls Tryz.prog 195 #[.int .u64 (o.th.r b), .int .i32 imm, .int .i64 (1 : Nat)] ((w.alloc (.cells #[.int .i64 24, .int .i64 a, .int .i64 b, .int .i64 c, .int .i32 imm] 26)).drewN k) fun e w' => e = .returned (placeV (wu (o.th.r b + imm)) 1) /\ w' = (w.alloc (.cells #[.int .i64 24, .int .i64 a, .int .i64 b, .int .i64 c, .int .i32 imm] 26)).drewN k) := Lib.hid (fun k => (place_any (o.th.r b) imm 1 _ (by omega) hm0 hm1).mono fun e w' (q : e = _ /\ _ = w') => ⟨q.1, q.2.symm⟩);have hw : widthOf 24 = 1 := rfl;rw [hw] at HR;have Hva := Lib.hid (wu_bd (o.th.r b + imm));obtain ⟨va, hva⟩ : ∃ va, wu (o.th.r b + imm) = va := ⟨_, rfl⟩;rw [hva] at HR HPl Hva;clear h hA hE hpc hrg hres hw hva;by_cases hq : va > 262144 - ((1 : Nat) : Int) \/ va % ((1 : Nat) : Int) ≠ 0
 ·have hpv : placeV va 1 = .tuple #[.int .i64 0, .bool false] := if_pos hq
  have HR2 : Hid (some (o.th.r, wu (o.th.pc + 8), (6 : Int)) = some (r', nx, en)) := Lib.hid (by have := HR.out; rw [if_pos hq] at this; exact this);rw [hpv] at HPl;clear hq hpv HR;go_enter Tryz.func151, Tryz.ntmps151
  go_wp2_with fail
  refine (width_any 24 _ (by omega)).mono ?_;rintro e w' ⟨rfl, rfl⟩;go_wp2_with fail
  go_quiet ((go_at_call 195; exact Calls.quiet_of_same (HPl.out _)))
  go_wp2_with fail
  go_ret;have h2 := HR2.out
  cases h2;exact ⟨rfl, g, (HU1.out.st.drewN _).none HU.out.ob⟩
 ·have hpv : placeV va 1 = .tuple #[.int .i64 va, .bool true] := if_neg hq
  have hq2 : ¬ (va > 262144 - ((1 : Nat) : Int)) := fun e => hq (.inl e)
  have hq3 : va % ((1 : Nat) : Int) = 0 := by
   by_cases e : va % ((1 : Nat) : Int) = 0
   ·exact e
   ·exact absurd (.inr e) hq
  have HR2 : Hid ((match K.whereTo o va with
   | some (_, _, true) => none
   | _ => some (o.th.r, wu (o.th.pc + 8), (3 : Int))) = some (r', nx, en)) := Lib.hid (by have := HR.out; rw [if_neg hq] at this; exact this)
  have Hq := Lib.hid (show va <= 262143 /\ va % 64 + ((1 : Nat) : Int) <= 64 from ⟨by omega, by omega⟩);rw [hpv] at HPl;clear hq hpv HR hq2 hq3;go_enter Tryz.func151, Tryz.ntmps151
  go_wp2_with fail
  refine (width_any 24 _ (by omega)).mono ?_;rintro e w' ⟨rfl, rfl⟩;rw [show ((widthOf 24 : Nat) : Int) = 1 from rfl];go_upto_region 2 with fail
  go_cut [9, 10] (fun u v wx => u = .int .i64 va /\ v = .bool true /\ Hid (UsAt w0 g0 K o i mb wx g) /\ Hid (InsAt wx (g.tl o.name) xb o.th 24 a b c imm))
  case first =>
   go_wp2_with fail
   go_quiet ((go_at_call 195; exact Calls.quiet_of_same (HPl.out _)))
   go_wp2_with fail
   go_meet;exact ⟨rfl, rfl, HU1.out.below (below_dr _ _), HA.out.below htl1.out (below_dr _ _)⟩
  case rest =>
   rename World => w2
   clear rb x0 x2 x4 HA HU1 HPl htl1;obtain ⟨rfl, rfl, HU2, HA⟩ := hcut
   have HR3 : Hid (frameV g K o va true = 0 /\ some (o.th.r, wu (o.th.pc + 8), (3 : Int)) = some (r', nx, en)) := Lib.hid (by
    have h2 := HR2.out;unfold frameV
    cases hw : K.whereTo o va with
    | none => rw [hw] at h2; exact ⟨rfl, h2⟩
    | some r =>
     obtain ⟨s, q, may⟩ := r;rw [hw] at h2
     cases may
     ·exact ⟨rfl, h2⟩
     ·cases h2)
   have Hst := Lib.hid (fun x => (HU2.out.below ((Below.refl _ w2).drew)).store_no va 1 x Hva.out.1 Hq.out.1 HR3.out.1);have x1 : w2.cell? ⟨xb, 1, none⟩ = some (.int .i64 a) := (HA.out.ins.cell 1).trans rfl;have ra := HA.out.reg a ha;clear HR2;have s1 : IntKind.i64.wrap 8 = 8 := by decide
   have s2 : IntKind.i64.wrap 7 = 7 := by decide
   go_wp2_with fail
   have hna := nil_ahead mb w2.drew;go_still_tail 24, (by kernel_rfl)
   rw [drew_eq w2];go_wp2_with fail
   refine (Hst.out _).mono ?_;rintro e w3 ⟨rfl, g3, hE3⟩;have HE3 := Lib.hid ((HU2.out.below ((Below.refl _ w2).drew)).st.from hE3);clear hE3;go_wp2_with fail
   go_ret;have h2 := HR3.out.2
   cases h2;exact ⟨rfl, g3, HE3.out.none HU.out.ob⟩
end Go.Proofs.YtiadbhiadhgjkaaGreatDoor
