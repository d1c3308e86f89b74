/- Of the proof of this claim: a joined text. -/
import Derived.Test.YtiadbhiadhgjkaaGreatDoorZzMm
import Derived.Stop.Asserts
set_option maxRecDepth 100000
set_option maxHeartbeats 4000000
namespace Go.Proofs.YtiadbhiadhgjkaaGreatDoor
open Go.RowKit
theorem byN_beN {B : Nat -> Int} (hB : ∀ j, j < 8 -> 0 <= B j /\ B j <= 255) (k : Nat) (hk : k < 8) : beN B 8 / 256 ^ (7 - k) % 256 = B k := by
 have h0 := hB 0 (by omega); have h1 := hB 1 (by omega); have h2 := hB 2 (by omega); have h3 := hB 3 (by omega);have h4 := hB 4 (by omega); have h5 := hB 5 (by omega); have h6 := hB 6 (by omega); have h7 := hB 7 (by omega)
 have e : beN B 8 = ((((((B 0 * 256 + B 1) * 256 + B 2) * 256 + B 3) * 256 + B 4) * 256 + B 5) * 256 + B 6) * 256 + B 7 := by
  show (((((((0 * 256 + B 0) * 256 + B 1) * 256 + B 2) * 256 + B 3) * 256 + B 4) * 256 + B 5) * 256 + B 6) * 256 + B 7 = _
  omega
 rw [e];match k, hk with
 | 0, _ => show _ / 72057594037927936 % 256 = _; omega
 | 1, _ => show _ / 281474976710656 % 256 = _; omega
 | 2, _ => show _ / 1099511627776 % 256 = _; omega
 | 3, _ => show _ / 4294967296 % 256 = _; omega
 | 4, _ => show _ / 16777216 % 256 = _; omega
 | 5, _ => show _ / 65536 % 256 = _; omega
 | 6, _ => show _ / 256 % 256 = _; omega
 | 7, _ => show _ / 1 % 256 = _; omega
 | k + 8, h => exact absurd h (by omega)
theorem decB_eq {B C : Nat -> Int} (h : ∀ j, j < 8 -> B j = C j) : decB B = decB C := by
 unfold decB numB;rw [h 0 (by omega), h 1 (by omega), h 2 (by omega), h 3 (by omega), h 4 (by omega), h 5 (by omega), h 6 (by omega), h 7 (by omega)]
theorem mem_fetches (mb : Nat) (xT : TypeId) (w : World) : (Instr.typeAssert (.iface 229 (.pointer (some ⟨mb, 0, none⟩))) xT 276 true).run Tryz.prog w = .ok (.tuple #[.iface 229 (.pointer (some ⟨mb, 0, none⟩)), .bool true]) w :=
 run_typeAssert_hasB Tryz.underlying276 (by kernel_rfl) _ xT w
theorem ins_none {K : Km} {o : Ob} {x : Ins} (h1 : x.op ≠ 1) (h2 : x.op ≠ 43) (h3 : x.op ≠ 2) (h4 : x.op ≠ 18) (h5 : x.op ≠ 29) (h6 : x.op ≠ 30) (h7 : x.op ≠ 7) (h8 : ¬ (19 <= x.op /\ x.op <= 24)) : insOne K o x = none := by
 unfold insOne;simp only;rw [if_neg h1, if_neg h2, if_neg h3, if_neg h4, if_neg h5, if_neg h6, if_neg h7, if_neg h8]
theorem one_any {w0 w : World} {g0 g : Gh} {K : Km} {o : Ob} {i mb : Nat} (h : UsAt w0 g0 K o i mb w g) (x : Ins) (hx : x.right = true) (hm : -2147483648 <= x.imm /\ x.imm <= 2147483647) {r' : Nat -> Int} {nx en : Int} (hres : insOne K o x = some (r', nx, en)) :
  Calls Tryz.prog 130 #[.pointer (some ⟨g.tl o.name, 0, none⟩), x.v, memV mb] w fun e w' => e = .returned (.tuple #[.int .u64 nx, .int .i64 en]) /\ ∃ g', EnSt w0 g0 (K.set (o.wTh { o.th with r := r' })) (o.wTh { o.th with r := r' }) w' g' := by
 obtain ⟨op, a, b, c, imm⟩ := x;unfold Ins.right at hx;simp only [Bool.and_eq_true] at hx;obtain ⟨-, ha, hb, hc⟩ := hx;have ha := regB_yes ha; have hb := regB_yes hb; have hc := regB_yes hc;obtain ⟨a, rfl⟩ : ∃ n : Nat, a = (n : Int) := ⟨a.toNat, by omega⟩;obtain ⟨b, rfl⟩ : ∃ n : Nat, b = (n : Int) := ⟨b.toNat, by omega⟩;obtain ⟨c, rfl⟩ : ∃ n : Nat, c = (n : Int) := ⟨c.toNat, by omega⟩;have ha : a < 16 := by omega
 have hb : b < 16 := by omega
 have hc : c < 16 := by omega
 obtain ⟨m0, m1⟩ := hm;simp only at m0 m1;show Calls _ _ #[_, .agg #[.int .i64 op, .int .i64 a, .int .i64 b, .int .i64 c, .int .i32 imm], _] _ _
 by_cases e1 : op = 1
 ·subst e1
  have e : insOne K o ⟨1, a, b, c, imm⟩ = some (o.th.r, wu (o.th.pc + 8), (2 : Int)) := rfl;rw [e] at hres; cases hres;exact (one_halt h.st h.ob h.kind a b c imm (memV mb) ha hb).mono fun e w' ⟨q1, q2⟩ => ⟨q1, g, q2.none h.ob⟩
 by_cases e2 : op = 43
 ·subst e2
  have e : insOne K o ⟨43, a, b, c, imm⟩ = some (o.th.r, wu (o.th.pc + 8), (1 : Int)) := rfl;rw [e] at hres; cases hres;exact (one_trap h.st h.ob h.kind a b c imm (memV mb) ha hb).mono fun e w' ⟨q1, q2⟩ => ⟨q1, g, q2.none h.ob⟩
 by_cases e3 : op = 2
 ·subst e3
  have e : insOne K o ⟨2, a, b, c, imm⟩ = some (upd o.th.r a (wu imm), wu (o.th.pc + 8), (0 : Int)) := rfl;rw [e] at hres; cases hres;exact (one_li h.st h.ob h.kind a b c imm (memV mb) ha hb m0 m1).mono fun e w' ⟨q1, q2⟩ => ⟨q1, g, q2⟩
 by_cases e4 : op = 18
 ·subst e4
  have e : insOne K o ⟨18, a, b, c, imm⟩ = some (upd o.th.r a (wu (o.th.r b + imm)), wu (o.th.pc + 8), (0 : Int)) := rfl;rw [e] at hres; cases hres;exact (one_addi h.st h.ob h.kind a b c imm (memV mb) ha hb m0 m1).mono fun e w' ⟨q1, q2⟩ => ⟨q1, g, q2⟩
 by_cases e5 : op = 29
 ·subst e5
  have e : insOne K o ⟨29, a, b, c, imm⟩ = some (upd o.th.r a (wu (o.th.pc + 8)), wu (o.th.pc + 8 * imm), (0 : Int)) := rfl;rw [e] at hres; cases hres;exact (one_jal h.st h.ob h.kind a b c imm (memV mb) ha hb m0 m1).mono fun e w' ⟨q1, q2⟩ => ⟨q1, g, q2⟩
 by_cases e6 : op = 30
 ·subst e6
  have e : insOne K o ⟨30, a, b, c, imm⟩ = some (o.th.r, o.th.r a, (0 : Int)) := rfl;rw [e] at hres; cases hres;exact (one_jr h.st h.ob h.kind a b c imm (memV mb) ha hb).mono fun e w' ⟨q1, q2⟩ => ⟨q1, g, q2.none h.ob⟩
 by_cases e7 : op = 7
 ·subst e7
  have e : insOne K o ⟨7, a, b, c, imm⟩ = (if o.th.r c = 0 then some (o.th.r, wu (o.th.pc + 8), (5 : Int)) else none) := rfl;rw [e] at hres;by_cases q : o.th.r c = 0
  ·rw [if_pos q] at hres; cases hres
   exact (one_div0 h.st h.ob h.kind a b c imm (memV mb) ha hb hc q).mono fun e w' ⟨q1, q2⟩ => ⟨q1, g, q2.none h.ob⟩
  ·rw [if_neg q] at hres; cases hres
 by_cases e8 : 19 <= op /\ op <= 24
 ·rcases (show op = 19 \/ op = 20 \/ op = 21 \/ op = 22 \/ op = 23 \/ op = 24 by omega) with rfl | rfl | rfl | rfl | rfl | rfl
  ·exact one_ld h a b c imm ha hb m0 m1 hres
  ·exact one_lw h a b c imm ha hb m0 m1 hres
  ·exact one_lb h a b c imm ha hb m0 m1 hres
  ·exact one_st h a b c imm ha hb m0 m1 hres
  ·exact one_sw h a b c imm ha hb m0 m1 hres
  ·exact one_sb h a b c imm ha hb m0 m1 hres
 ·rw [ins_none e1 e2 e3 e4 e5 e6 e7 e8] at hres; cases hres
attribute [local irreducible] World.setCell World.alloc World.drew World.setRow Calls Code.wp
theorem cfetch_any {w0 w : World} {g0 g : Gh} {K : Km} {o : Ob} {i mb : Nat} (h : UsAt w0 g0 K o i mb w g) (va : Int) (h0 : 0 <= va) (h1 : va <= 262143) (h8 : va % 8 = 0) :
  Calls Tryz.prog 128 #[memV mb, .int .i64 va] w fun e w' => e = .returned (loadV (K.bytes o va) 8) /\ ∃ g', EnSt w g K o w' g' := by
 have HF := Lib.hid (fetch_any w g K o mb va (h.load va 8 h0 h1 (by omega) (by omega) (by omega)));have hta := mem_fetches mb 254;clear h h0 h1 h8
 cases hB : K.bytes o va
 all_goals
  rw [hB] at HF;unfold loadV at HF ⊢;clear hB;go_enter Tryz.func128, Tryz.ntmps128
  go_wp2_with fail
  refine HF.out.mono ?_;rintro e w1 ⟨rfl, g1, hE⟩;have HE := Lib.hid hE;clear hE;go_wp2_with fail
  go_ret2
  exact ⟨rfl, g1, HE.out⟩
end Go.Proofs.YtiadbhiadhgjkaaGreatDoor
namespace Go.Proofs.YtiadbhiadhgjkaaGreatDoor
open Go.RowKit
theorem thC_pc (t : Th) (x : Ts) (a b v : Int) : (thC t x a b).setIfInBounds 16 (.int .u64 v) = thC { t with pc := v } x a b := by
 unfold thC; simp only [List.setIfInBounds_toArray, List.set_cons_zero, List.set_cons_succ]
theorem EnSt.pc {w0 w : World} {g0 g : Gh} {K : Km} {o : Ob} (h : EnSt w0 g0 K o w g) (ho : K.obj o.name = some o) (hk : o.kind = 3) {v : Int} (hv : 0 <= v /\ v <= 18446744073709551615) :
  EnSt w0 g0 (K.set (o.wTh { o.th with pc := v })) (o.wTh { o.th with pc := v }) (w.setCell ⟨g.tl o.name, 16, Option.none⟩ (.int .u64 v)) g := by
 obtain ⟨x, hT⟩ := h.kin.thAt ho hk;exact h.nums ho hk hT ((Kept.refl (· = g.tl o.name) w).setIn _ _ _ rfl) ((hT.blk.set 16 _).cells (thC_pc _ _ _ _ _)) ⟨rfl, rfl, rfl, rfl, rfl, rfl, rfl⟩ hT.rows.regs hv
theorem ins_range {K : Km} {o : Ob} {x : Ins} {r' : Nat -> Int} {nx en : Int} (hr : ∀ j, 0 <= o.th.r j /\ o.th.r j <= 18446744073709551615) (h : insOne K o x = some (r', nx, en)) : (0 <= nx /\ nx <= 18446744073709551615) /\ (en = 0 \/ en = 1 \/ en = 2 \/ en = 3 \/ en = 5 \/ en = 6) /\ ((en = 0 \/ en = 1) \/ r' = o.th.r) := by
 unfold insOne at h;simp only at h;by_cases e1 : x.op = 1
 ·rw [if_pos e1] at h; cases h; exact ⟨wu_bd _, by omega, .inr rfl⟩
 rw [if_neg e1] at h;by_cases e2 : x.op = 43
 ·rw [if_pos e2] at h; cases h; exact ⟨wu_bd _, by omega, .inl (.inr rfl)⟩
 rw [if_neg e2] at h;by_cases e3 : x.op = 2
 ·rw [if_pos e3] at h; cases h; exact ⟨wu_bd _, by omega, .inl (.inl rfl)⟩
 rw [if_neg e3] at h;by_cases e4 : x.op = 18
 ·rw [if_pos e4] at h; cases h; exact ⟨wu_bd _, by omega, .inl (.inl rfl)⟩
 rw [if_neg e4] at h;by_cases e5 : x.op = 29
 ·rw [if_pos e5] at h; cases h; exact ⟨wu_bd _, by omega, .inl (.inl rfl)⟩
 rw [if_neg e5] at h;by_cases e6 : x.op = 30
 ·rw [if_pos e6] at h; cases h; exact ⟨hr _, by omega, .inl (.inl rfl)⟩
 rw [if_neg e6] at h;by_cases e7 : x.op = 7
 ·rw [if_pos e7] at h
  by_cases q : o.th.r x.c.toNat = 0
  ·rw [if_pos q] at h; cases h; exact ⟨wu_bd _, by omega, .inr rfl⟩
  ·rw [if_neg q] at h; cases h
 rw [if_neg e7] at h;by_cases e8 : 19 <= x.op /\ x.op <= 24
 ·rw [if_pos e8] at h
  by_cases q : wu (o.th.r x.b.toNat + x.imm) > 262144 - (widthOf x.op : Int) \/ wu (o.th.r x.b.toNat + x.imm) % (widthOf x.op : Int) ≠ 0
  ·rw [if_pos q] at h; cases h; exact ⟨wu_bd _, by omega, .inr rfl⟩
  rw [if_neg q] at h;by_cases e9 : 22 <= x.op
  ·rw [if_pos e9] at h
   split at h
   ·cases h
   ·cases h; exact ⟨wu_bd _, by omega, .inr rfl⟩
  ·rw [if_neg e9] at h
   split at h
   ·cases h; exact ⟨wu_bd _, by omega, .inl (.inl rfl)⟩
   ·cases h; exact ⟨wu_bd _, by omega, .inr rfl⟩
 ·rw [if_neg e8] at h; cases h
def fillB (B : Nat -> Int) (k : Nat) : Nat -> Value := fun j => .int .u8 (if j < k then B j else 0)
attribute [local irreducible] World.setCell World.alloc World.drew World.setRow Calls Code.wp row
theorem cstep_any {w0 w : World} {g0 g : Gh} {K : Km} {o : Ob} {i mb : Nat} (h : UsAt w0 g0 K o i mb w g) {t' : Th} {en : Int} (hres : insNext K o = some (t', en)) :
  Calls Tryz.prog 104 #[.pointer (some ⟨g.tl o.name, 0, none⟩), memV mb] w fun e w' => e = .returned (.int .i64 en) /\ ∃ g', EnSt w0 g0 (K.set (o.wTh t')) (o.wTh t') w' g' := by
 obtain ⟨x, hT⟩ := h.st.kin.thAt h.ob h.kind;have pc : w.cell? ⟨g.tl o.name, 16, none⟩ = some (.int .u64 o.th.pc) := (hT.blk.cell 16).trans rfl;obtain ⟨p0, p1⟩ := hT.rows.pc;have HU := Lib.hid h; have HR := Lib.hid hres;have Hrg := Lib.hid hT.rows.regs;have Hself : Hid (K.set (o.wTh o.th) = K) := Lib.hid (Km.set_self h.ob);have q0 : o.th.pc.tmod 8 = o.th.pc % 8 := Int.tmod_eq_emod_of_nonneg p0;clear h hres hT;by_cases h1 : 262144 <= o.th.pc
 ·have HR2 : Hid (t' = o.th /\ en = 6) := Lib.hid (by
   have := HR.out;unfold insNext at this;rw [if_pos (.inl h1)] at this
   cases this; exact ⟨rfl, rfl⟩)
  have d1 : decide (262144 <= o.th.pc) = true := decide_eq_true h1;clear HR;go_enter Tryz.func104, Tryz.ntmps104
  go_wp2_with fail
  go_ret;obtain ⟨e1, e2⟩ := HR2.out;subst e1; subst e2;exact ⟨rfl, g, by rw [Hself.out]; exact HU.out.st.same_o _⟩
 by_cases h2 : o.th.pc % 8 = 0
 ·have d1 : decide (262144 <= o.th.pc) = false := decide_eq_false h1
  have d2 : (o.th.pc % 8 == 0) = true := by simp [h2]
  have d3 : (o.th.pc % 8 != 0) = false := by simp [h2]
  have Hft := Lib.hid (cfetch_any HU.out o.th.pc p0 (by omega) h2);have hcv : IntKind.i64.wrap o.th.pc = o.th.pc := IntWalk.i64_in _ (by omega)
  have HR2 : Hid ((match K.bytes o o.th.pc with
   | none => some (o.th, (3 : Int))
   | some B => if (decB B).right then (insOne K o (decB B)).map (insDone o.th) else some (o.th, 4)) = some (t', en)) := Lib.hid (by
   have := HR.out;unfold insNext at this;rw [if_neg (by omega)] at this;exact this)
  have hp8 : o.th.pc % 64 + ((8 : Nat) : Int) <= 64 := by omega
  have Hp8 := Lib.hid hp8
  cases hB : K.bytes o o.th.pc with
  | none =>
   rw [hB] at Hft HR2;unfold loadV at Hft;clear hB HR h1 h2 hp8;go_enter Tryz.func104, Tryz.ntmps104
   go_wp2_with fail
   refine Hft.out.mono ?_;rintro e w1 ⟨rfl, g1, hE⟩;have HE := Lib.hid hE;clear hE;go_wp2_with fail
   go_ret;have e2 := HR2.out
   cases e2;exact ⟨rfl, g1, by rw [Hself.out]; exact (HU.out.st.from HE.out).same_o _⟩
  | some B =>
   have HB := Lib.hid hB;rw [hB] at Hft HR2;unfold loadV at Hft;clear hB HR h1 h2 hp8;go_enter Tryz.func104, Tryz.ntmps104
   go_wp2_with fail
   refine Hft.out.mono ?_;rintro e w1 ⟨rfl, g1, hE⟩;have HE := Lib.hid (HU.out.st.from hE);have HMe := Lib.hid (HU.out.mem.ext hE.ext hE.same);have HFl := Lib.hid (show g1.flush i = false /\ g1.last i = o.name from ⟨by rw [hE.same.flush]; exact HU.out.flush, by rw [hE.same.last]; exact HU.out.last⟩);have htl : g1.tl = g.tl := hE.same.tl;clear hE;go_wp2_with fail
   have hBd := bytes_bd HU.out.st.kin HU.out.st.inv HU.out.maps HB.out 8 Hp8.out;have HBd := Lib.hid hBd;obtain ⟨b0, -⟩ := beN_le hBd 8 (Nat.le_refl _) (by omega)
   have hr0 : Blk (w1.alloc (.cells #[.int .u8 0, .int .u8 0, .int .u8 0, .int .u8 0, .int .u8 0, .int .u8 0, .int .u8 0, .int .u8 0] 256)) w1.heap.size (Go.Proofs.YtiadbhiadhgjkaaGreatDoor.row 8 (fillB B 0)) 256 := (Blk.new w1 _ _).cells (by
    refine row_ext rfl fun i hi => ?_
    match i, hi with
    | 0, _ => rfl
    | 1, _ => rfl
    | 2, _ => rfl
    | 3, _ => rfl
    | 4, _ => rfl
    | 5, _ => rfl
    | 6, _ => rfl
    | 7, _ => rfl
    | i + 8, h => exact absurd h (by omega))
   have HR0 := Lib.hid hr0;obtain ⟨bb, hbb⟩ : ∃ bb, w1.heap.size = bb := ⟨_, rfl⟩;have HB0 : Hid (Below bb w1 (w1.alloc (.cells #[.int .u8 0, .int .u8 0, .int .u8 0, .int .u8 0, .int .u8 0, .int .u8 0, .int .u8 0, .int .u8 0] 256))) := Lib.hid (by rw [<- hbb]; exact (Below.refl _ w1).alloc (Nat.le_refl _) _);rw [hbb] at HR0 ⊢;have Hbb := Lib.hid hbb;clear hBd hr0 hbb;go_loopw [8, 38] (fun _ i wx => ∃ k : Nat, k <= 8 /\ i = .int .i64 k /\ Blk wx bb (Go.Proofs.YtiadbhiadhgjkaaGreatDoor.row 8 (fillB B k)) 256 /\ Below bb w1 wx) (fun _ i _ => 8 - (intOf i).toNat)
   case atStart => exact ⟨0, by omega, rfl, HR0.out, HB0.out⟩
   case round =>
    obtain ⟨k, hk, rfl, hr, hb⟩ := hrel;have Hr := Lib.hid hr; have Hb := Lib.hid hb;by_cases hlt : k < 8
    ·obtain ⟨q, hq⟩ : ∃ q : Nat, k + q = 7 := ⟨7 - k, by omega⟩
     have hsub : (7 : Int) - (k : Int) = (q : Int) := by omega
     have hq8 : q < 8 := by omega
     have Hby : Hid (beN B 8 / 2 ^ (8 * q) % 256 = B k) := Lib.hid (by
      have := byN_beN HBd.out k hlt;rw [show 7 - k = q by omega] at this;rw [Int.pow_mul]; exact this)
     have hfr := hr.free;have hcl : wr.cell? ⟨bb, k, none⟩ = some (fillB B k k) := hr.rowAt k hlt;have hki : (k : Int) < 8 := by omega
     have Hq := Lib.hid hq;clear hr hb hq;go_wp2_with fail
     go_roundw
     case rel =>
      refine ⟨k + 1, by omega, by go_num, ?_, Hb.out.setCell (p := ⟨bb, k, none⟩) (Nat.le_refl _) _⟩;rw [Hby.out];refine (Hr.out.set k _).cells ?_;rw [row_set];refine row_congr fun j hj => ?_
      show (if j = k then _ else Value.int .u8 (if j < k then B j else 0)) = Value.int .u8 (if j < k + 1 then B j else 0)
      by_cases e : j = k
      ·subst e; rw [if_pos rfl, if_pos (by omega)]
      ·rw [if_neg e]
       by_cases e2 : j < k
       ·rw [if_pos e2, if_pos (by omega)]
       ·rw [if_neg e2, if_neg (by omega)]
     case measure => simp [intOf]; omega
    ·obtain rfl : k = 8 := by omega
     have hlt8 := hr.lt;clear hr hb;go_wp2_with fail
     have hdec := dec8 bb 0 8 (fun j => if j < 8 then B j else 0) wr (fun j => by
      by_cases e : j < 8
      ·simp only [if_pos e]; exact HBd.out j e
      ·simp only [if_neg e]; omega) (fun j hj => by rw [Nat.zero_add]; exact Hr.out.rowAt j hj)
     rw [show decB (fun j => if j < 8 then B j else 0) = decB B from decB_eq (fun j hj => if_pos hj)] at hdec;have Hdec := Lib.hid hdec;clear hdec
     cases hrt : (decB B).right with
     | false =>
      have hdv : (decB B).dec = ins0 := by unfold Ins.dec; rw [hrt]; rfl
      rw [hdv, hrt] at Hdec;rw [hrt] at HR2;unfold ins0 at Hdec;clear hdv hrt;refine Hdec.out.mono ?_;rintro e w2 ⟨rfl, hb2⟩;have HF := Lib.hid (((HE.out.below (Hb.out.mono (by rw [Hbb.out]; exact Nat.le_refl _))).below hb2).below ((Below.refl _ w2).alloc (Nat.le_refl _) (.cells #[.int .i64 0, .int .i64 0, .int .i64 0, .int .i64 0, .int .i32 0] 26)));clear hb2;go_wp2_with fail
      go_ret;have e2 := HR2.out;rw [if_neg (by simp)] at e2
      cases e2;exact ⟨rfl, g1, by rw [Hself.out]; exact HF.out.same_o _⟩
     | true =>
      have hdv : (decB B).dec = (decB B).v := by unfold Ins.dec; rw [hrt]; rfl
      rw [hdv, hrt] at Hdec;rw [hrt] at HR2;have HR3 : Hid ((insOne K o (decB B)).map (insDone o.th) = some (t', en)) := Lib.hid (by have := HR2.out; rw [if_pos rfl] at this; exact this);have Hrt := Lib.hid hrt
      have himm : -2147483648 <= (decB B).imm /\ (decB B).imm <= 2147483647 := by
       have c4 := HBd.out 4 (by omega); have c5 := HBd.out 5 (by omega); have c6 := HBd.out 6 (by omega); have c7 := HBd.out 7 (by omega);exact sgn_bd (numB B) (by unfold numB; omega) (by unfold numB; omega)
      have Himm := Lib.hid himm;unfold Ins.v at Hdec;obtain ⟨X, hX⟩ : ∃ X, decB B = X := ⟨_, rfl⟩;rw [hX] at Hdec HR3 Hrt Himm;clear hdv hrt hX HR2 himm;refine Hdec.out.mono ?_;rintro e w2 ⟨rfl, hb2⟩
      have hb3 : Below w1.heap.size w1 (w2.alloc (.cells #[.int .i64 X.op, .int .i64 X.a, .int .i64 X.b, .int .i64 X.c, .int .i32 X.imm] 26)) := by
       have := Hb.out;rw [<- Hbb.out] at this;exact (bel_from this hb2).alloc (Nat.le_trans this.size hb2.size) _
      have HU1 := Lib.hid ((show UsAt w0 g0 K o i mb w1 g1 from ⟨HE.out, HU.out.maps, HU.out.ob, HU.out.kind, HU.out.lens, HU.out.core, HFl.out.1, HFl.out.2, HMe.out⟩).below hb3)
      cases hone : insOne K o X with
      | none => have := HR3.out; rw [hone] at this; cases this
      | some p =>
       obtain ⟨r', nx, en'⟩ := p;have HR4 : Hid (insDone o.th (r', nx, en') = (t', en)) := Lib.hid (by have := HR3.out; rw [hone] at this; simpa using this);have Hone := Lib.hid (one_any HU1.out X Hrt.out Himm.out hone);rw [htl] at Hone;obtain ⟨n01, hen, hrr⟩ := ins_range Hrg.out hone;unfold Ins.v at Hone;have Hn01 := Lib.hid n01;clear hb2 hb3 hone HR3;go_wp2_with fail
       refine Hone.out.mono ?_;rintro e w5 ⟨rfl, g5, hE5⟩;have HE5 := Lib.hid hE5;have htl5 : g5.tl = g.tl := hE5.same.tl.trans HU.out.st.same.tl.symm;have Htl5 := Lib.hid htl5;obtain ⟨x5, hT5⟩ := hE5.kin.thAt (o := o.wTh { o.th with r := r' }) (n := o.name) (Km.set_same K (o.wTh { o.th with r := r' })) HU.out.kind;have hT6 : ThAt w5 g5 o.name { o.th with r := r' } x5 := hT5;have pc5 : w5.cell? ⟨g.tl o.name, 16, none⟩ = some (.int .u64 o.th.pc) := by rw [<- htl5]; exact (hT6.blk.cell 16).trans rfl
       have hfr := hT6.blk.free;have hlt5 := hT6.blk.lt;rw [htl5] at hfr hlt5
       have HF : Hid (∀ v, 0 <= v /\ v <= 18446744073709551615 -> EnSt w0 g0 (K.set (o.wTh { o.th with r := r', pc := v })) (o.wTh { o.th with r := r', pc := v }) (w5.setCell ⟨g.tl o.name, 16, none⟩ (.int .u64 v)) g5) := Lib.hid (fun v hv => by
        have := HE5.out.pc (Km.set_same K (o.wTh { o.th with r := r' })) HU.out.kind hv;have e1 : (K.set (o.wTh { o.th with r := r' })).set ((o.wTh { o.th with r := r' }).wTh { (o.wTh { o.th with r := r' }).th with pc := v }) = K.set (o.wTh { o.th with r := r', pc := v }) := Km.set_set K _ _ rfl;rw [e1] at this;rw [<- Htl5.out];exact this)
       clear hE5 hT5 hT6 htl5;rcases hen with rfl | rfl | rfl | rfl | rfl | rfl
       all_goals
        go_wp2_with fail
        go_ret;have e2 := HR4.out;unfold insDone at e2;simp only [Prod.mk.injEq] at e2;obtain ⟨rfl, rfl⟩ := e2;exact ⟨rfl, g5, by first | exact HF.out nx Hn01.out | exact HE5.out⟩
 ·have HR2 : Hid (t' = o.th /\ en = 6) := Lib.hid (by
   have := HR.out;unfold insNext at this;rw [if_pos (.inr h2)] at this
   cases this; exact ⟨rfl, rfl⟩)
  have d1 : decide (262144 <= o.th.pc) = false := decide_eq_false h1;have d2 : (o.th.pc % 8 == 0) = false := by simpa using h2
  have d3 : (o.th.pc % 8 != 0) = true := by simpa using h2
  clear HR h2;go_enter Tryz.func104, Tryz.ntmps104
  go_wp2_with fail
  go_ret;obtain ⟨e1, e2⟩ := HR2.out;subst e1; subst e2;exact ⟨rfl, g, by rw [Hself.out]; exact HU.out.st.same_o _⟩
end Go.Proofs.YtiadbhiadhgjkaaGreatDoor
