/- A line's bytes: make. -/
import Derived.Test.YtjjnidbggoaonaaGreatDoorAsE
import Derived.Test.YtjjnidbggoaonaaGreatDoorIsaE
import Derived.Test.YtjjnidbggoaonaaGreatDoorPkC
import Derived.Laws.MakeOwn
namespace Go.Proofs.YtjjnidbggoaonaaGreatDoor
open Go.RowKit
attribute [local irreducible] World.setCell World.alloc World.drew Calls Code.wp
attribute [local go_sem] Oper.semAt_some

theorem regFrom_lt (a : List UInt8) : ∀ (r g k : Nat), regFrom a r g = some k → k < r + g
  | r, 0, k, h => by cases h
  | r, g + 1, k, h => by
    unfold regFrom at h
    split at h
    · cases h; omega
    · have := regFrom_lt a (r + 1) g k h; omega
theorem regA_lt (f : Nat × Nat) (a : List UInt8) (n : Nat) : (regA f a n).2 < 16 := by
  unfold regA
  split
  · rename_i r h; have := regFrom_lt a 0 16 r h; omega
  · exact Nat.zero_lt_of_lt (show 0 < 16 by omega)
theorem regsOf_lt (f : Nat × Nat) (args : List (List UInt8)) (n k i : Nat) : (regsOf f args n k i).2 < 16 := by
  unfold regsOf
  split
  · exact regA_lt _ _ _
  · exact Nat.zero_lt_of_lt (show 0 < 16 by omega)
theorem w32_bd (x : Int) : -2147483648 ≤ w32 x ∧ w32 x ≤ 2147483647 := by unfold w32; rw [IntKind.wrap_i32]; omega
theorem immA_bd (f : Nat × Nat) (a : List UInt8) (n : Nat) : -2147483648 ≤ (immA f a n).2 ∧ (immA f a n).2 ≤ 2147483647 := w32_bd _
theorem thereA_bd (labels : List (List UInt8 × Nat)) (f : Nat × Nat) (a : List UInt8) (n at_ : Nat) (hat : at_ ≤ 1048576) (hlb : ∀ p ∈ labels, p.2 ≤ 1048576) : -2147483648 ≤ (thereA labels f a n at_).2 ∧ (thereA labels f a n at_).2 ≤ 2147483647 := by
  unfold thereA
  split
  · cases h : lookL labels a with
    | none => simp only; omega
    | some t => have := lookL_bd hlb h; simp only; omega
  · exact immA_bd _ _ _
/-- What the operands give may be an instruction. -/
theorem operands_right (labels : List (List UInt8 × Nat)) (f : Nat × Nat) (op : Nat) (l : ALine) (h0 : 1 ≤ op) (h1 : op ≤ 43) (hat : l.at_ ≤ 1048576) (hlb : ∀ p ∈ labels, p.2 ≤ 1048576) :
    (operandsA labels f op l).2.right = true ∧ -2147483648 ≤ (operandsA labels f op l).2.imm ∧ (operandsA labels f op l).2.imm ≤ 2147483647 := by
  have key : ∀ (a b c : Nat) (imm : Int), a < 16 → b < 16 → c < 16 → -2147483648 ≤ imm → imm ≤ 2147483647 → (Ins.mk op a b c imm).right = true ∧ -2147483648 ≤ imm ∧ imm ≤ 2147483647 := by
    intro a b c imm ha hb hc hi0 hi1
    refine ⟨?_, hi0, hi1⟩
    simp [Ins.right, regB]; omega
  unfold operandsA
  simp only
  have r0 := regsOf_lt f l.args l.n (regsA (formA op)) 0
  have r1 := regsOf_lt (regsOf f l.args l.n (regsA (formA op)) 0).1 l.args l.n (regsA (formA op)) 1
  have r2 := regsOf_lt (regsOf (regsOf f l.args l.n (regsA (formA op)) 0).1 l.args l.n (regsA (formA op)) 1).1 l.args l.n (regsA (formA op)) 2
  split
  · exact key 0 0 0 0 (by omega) (by omega) (by omega) (by omega) (by omega)
  · split
    · exact key _ _ _ _ r0 r1 r2 (immA_bd _ _ _).1 (immA_bd _ _ _).2
    · split
      · unfold memA
        split
        · exact key _ _ _ 0 r0 r1 r2 (by omega) (by omega)
        · split
          · exact key _ _ _ _ r0 (regA_lt _ _ _) r2 (immA_bd _ _ _).1 (immA_bd _ _ _).2
          · exact key _ _ _ 0 r0 r1 r2 (by omega) (by omega)
      · split
        · exact key _ _ _ _ r0 r1 r2 (thereA_bd labels _ _ _ _ hat hlb).1 (thereA_bd labels _ _ _ _ hat hlb).2
        · exact key _ _ _ 0 r0 r1 r2 (by omega) (by omega)
theorem operands_op (labels : List (List UInt8 × Nat)) (f : Nat × Nat) (op : Nat) (l : ALine) : (operandsA labels f op l).2.op = op := by
  unfold operandsA
  simp only
  split
  · rfl
  · split
    · rfl
    · split
      · unfold memA
        split
        · rfl
        · split <;> rfl
      · split <;> rfl

theorem opFrom_le (w : List UInt8) (g : Nat) : ∀ k : Nat, opFrom w k g ≤ k + g := by
  induction g with
  | zero => intro k; exact Nat.zero_le _
  | succ g ih =>
    intro k
    have h2 := ih (k + 1)
    unfold opFrom
    split
    · exact Nat.add_le_add_left (Nat.succ_le_succ (Nat.zero_le g)) k
    · exact Nat.le_trans h2 (Nat.le_of_eq (by rw [Nat.add_assoc, Nat.add_comm 1 g]))
theorem made_at (n i : Nat) (h : i < n) : (madeCells #[.int .u8 0] n)[i]? = some (.int .u8 0) := by
  unfold madeCells
  simp [h, Nat.mod_one]
theorem run_make8 (n : Nat) (h : n ≤ 128) (w : World) : (Instr.makeSlice 27 (.int .i64 (8 * (n : Int))) (.int .i64 (8 * (n : Int)))).run Tryz.prog w =
    .ok (.slice (some ⟨w.heap.size, 0, none⟩) (8 * n) (8 * n)) (w.alloc (.cells (madeCells #[.int .u8 0] (8 * n)) 5)) := by
  obtain ⟨i, hi, hz, hs, hb⟩ : ∃ i, Tryz.prog.info? 5 = some i ∧ i.zero = some (.int .u8 0) ∧ i.size = 1 ∧ i.bytes = 1 :=
    info_parts (by kernel_rfl)
  have := run_make (P := Tryz.prog) w 27 5 i _ Tryz.underlying27 hi hz .i64 .i64 (8 * (n : Int)) (8 * (n : Int)) (by omega) (by omega) (by rw [hb]; omega) (by omega)
  rw [this, hs]
  have e : (8 * (n : Int)).toNat = 8 * n := by omega
  rw [e, Nat.mul_one]
  rfl
theorem be8_byN (x : Int) (y : Int) (hy : y = IntKind.u64.wrap x) : be8 x = (List.range 8).map fun j => byN 8 y j := by
  unfold be8
  refine List.map_congr_left fun i hi => ?_
  have hi : i < 8 := by simpa using hi
  subst hy
  rw [IntKind.wrap_u64]
  unfold byN
  obtain rfl | rfl | rfl | rfl | rfl | rfl | rfl | rfl : i = 0 ∨ i = 1 ∨ i = 2 ∨ i = 3 ∨ i = 4 ∨ i = 5 ∨ i = 6 ∨ i = 7 := by omega
  all_goals simp
  all_goals omega

/-- What the assembler's walk keeps of memory, for one line. -/
structure MkW (w : World) (g0 sb mb lb : Nat) (L : Value) (labels : List (List UInt8 × Nat)) (F : Nat × Nat) (l : ALine) (A : Value) : Prop where
  has : AsIn g0 w
  src : Blk w sb (srcC L (.map (some mb)) F) 73
  mp : MapStr.MapAt w mb (labV labels)
  ln : Blk w lb (lineC l A) 77
  strs : StrsAt w (fun b => b = sb ∨ b = mb ∨ b = lb) A l.args
theorem MkW.free {w w' : World} {g0 sb mb lb : Nat} {L : Value} {labels : List (List UInt8 × Nat)} {F : Nat × Nat} {l : ALine} {A : Value} (h : MkW w g0 sb mb lb L labels F l A) (hk : Kept (fun _ => False) w w') : MkW w' g0 sb mb lb L labels F l A :=
  ⟨h.has.kept hk (fun _ h => h.elim), h.src.below' hk (fun h => h), h.mp.kept hk (fun h => h), h.ln.below' hk (fun h => h), h.strs.kept hk (fun _ _ _ h => h)⟩
theorem MkW.fault {w w' : World} {g0 sb mb lb : Nat} {L : Value} {labels : List (List UInt8 × Nat)} {F F' : Nat × Nat} {l : ALine} {A : Value} (h : MkW w g0 sb mb lb L labels F l A) (hsm : sb ≠ mb) (hsl : sb ≠ lb) (hgs : g0 ≤ sb)
    (hS : Blk w' sb (srcC L (.map (some mb)) F') 73) (hK : Kept (· = sb) w w') : MkW w' g0 sb mb lb L labels F' l A :=
  ⟨h.has.kept hK (fun b e => by rw [e]; exact hgs), hS, h.mp.kept hK (fun e => hsm e.symm), h.ln.below' hK (fun e => hsl e.symm), h.strs.kept hK (fun _ _ h1 h2 => h1 (.inl h2))⟩

set_option maxRecDepth 100000 in
set_option maxHeartbeats 4000000 in
theorem make_any (sb mb : Nat) (L : Value) (labels : List (List UInt8 × Nat)) (f : Nat × Nat) (l : ALine) (A : Value) (hwl : l.word.length ≤ 100000) (hal : ∀ a ∈ l.args, a.length ≤ 100000) (hat : l.at_ ≤ 1048576) (hln : l.len ≤ 128) (hlb : ∀ p ∈ labels, p.2 ≤ 1048576) (w : World) (g0 : Nat) (h : AsIn g0 w)
    (hS : Blk w sb (srcC L (.map (some mb)) f) 73) (hM : MapStr.MapAt w mb (labV labels)) (hA : StrsAt w (fun b => b = sb ∨ b = mb) A l.args) (hsm : sb ≠ mb) (hgs : g0 ≤ sb) :
    Calls Tryz.prog 32 #[.pointer (some ⟨sb, 0, none⟩), .agg (lineC l A)] w fun e w' => ∃ v, e = .returned v ∧ StrIn w' v (makeA labels f l).2 ∧
      Blk w' sb (srcC L (.map (some mb)) (makeA labels f l).1) 73 ∧ Kept (· = sb) w w' := by
  obtain ⟨lb, hlb'⟩ : ∃ lb, lb = w.heap.size := ⟨_, rfl⟩
  obtain ⟨w1, hw1⟩ : ∃ w1, w1 = w.alloc (.cells (lineC l A) 77) := ⟨_, rfl⟩
  have hK1 : Kept (fun _ => False) w w1 := by rw [hw1]; exact (Kept.refl _ _).alloc _
  have hsl : sb ≠ lb := by have := hS.lt; omega
  have hml : mb ≠ lb := by have := hM.lt; omega
  have HW1 : Hid (MkW w1 g0 sb mb lb L labels f l A) := by
    refine ⟨h.kept hK1 (fun _ h => h.elim), hS.below' hK1 (fun h => h), hM.kept hK1 (fun h => h), ?_, ?_⟩
    · rw [hw1, hlb']; exact Blk.new _ _ _
    · exact (hA.more (T := fun b => b = sb ∨ b = mb ∨ b = lb) (fun b hb h1 h2 => by
        rcases h2 with h2 | h2 | h2
        · exact h1 (.inl h2)
        · exact h1 (.inr h2)
        · omega)).kept hK1 (fun _ _ _ h => h)
  have HK1 : Hid (Kept (· = sb) w w1) := hK1.mono (fun _ _ h => h.elim)
  have hl0 : w1.cell? ⟨lb, 0, none⟩ = some (.int .i64 (l.n : Nat)) := (HW1.out.ln.cell 0).trans rfl
  have hl1 : w1.cell? ⟨lb, 1, none⟩ = some (S l.word) := (HW1.out.ln.cell 1).trans rfl
  have hl2 : w1.cell? ⟨lb, 2, none⟩ = some A := (HW1.out.ln.cell 2).trans rfl
  have hl4 : w1.cell? ⟨lb, 4, none⟩ = some (.int .i64 (l.len : Nat)) := (HW1.out.ln.cell 4).trans rfl
  obtain ⟨ax, ac, hA0, -⟩ := hA
  have Hw1 := Lib.hid hw1; have Hlb := Lib.hid hlb'; have Hbd := Lib.hid hlb; have Hal := Lib.hid hal
  clear h hS hM hK1 hw1 hlb' hlb hal
  subst hA0
  go_enter Tryz.func32, Tryz.ntmps32
  go_upto_region 1 with fail
  rw [← Hw1.out, ← Hlb.out]
  by_cases hz : l.word = zeroW
  · have hzb : (l.word == [46, 122, 101, 114, 111]) = true := by rw [hz]; decide
    have hmul : IntKind.i64.wrap (8 * (l.len : Int)) = 8 * (l.len : Int) := IntWalk.i64_in _ (by omega)
    have Hmk := fun w => run_make8 l.len hln w
    have Hzs : Hid (∀ w : World, StrIn (w.alloc (.cells (madeCells #[.int .u8 0] (8 * l.len)) 5)) (.slice (some ⟨w.heap.size, 0, none⟩) (8 * l.len) (8 * l.len)) (List.replicate (8 * l.len) 0)) := fun w => by
      have := StrIn.of_blk (l := List.replicate (8 * l.len) 0) (c := 8 * l.len) (Blk.new w (madeCells #[.int .u8 0] (8 * l.len)) 5) (fun j hj => by
        rw [List.length_replicate] at hj
        rw [made_at _ j hj]; simp [List.getD, hj])
      rwa [List.length_replicate] at this
    by_cases h1 : l.args.length = 1
    · have hne : ((l.args.length : Int) != 1) = false := by simp [h1]
      have Hm : Hid (makeA labels f l = (f, List.replicate (8 * l.len) 0)) := by show _ = _; unfold makeA; rw [if_pos hz, if_pos h1]
      clear hz h1
      go_wp2_with fail
      go_ret
      exact ⟨_, rfl, by rw [Hm.out]; exact Hzs.out w1, by rw [Hm.out]; exact HW1.out.src.alloc _, HK1.out.alloc _⟩
    · have hne : ((l.args.length : Int) != 1) = true := by simp; omega
      have Hm : Hid (makeA labels f l = (failF f 10 l.n, List.replicate (8 * l.len) 0)) := by show _ = _; unfold makeA; rw [if_pos hz, if_neg h1]
      clear hz h1
      go_wp2_with fail
      refine (fail_any sb L (.map (some mb)) f 10 l.n _ HW1.out.src).mono ?_
      rintro e w2 ⟨rfl, hS2, hK2⟩
      have HW2 := Lib.hid (HW1.out.fault hsm hsl hgs hS2 hK2)
      have HK2 := Lib.hid (HK1.out.trans hK2)
      have hl4' : w2.cell? ⟨lb, 4, none⟩ = some (.int .i64 (l.len : Nat)) := (HW2.out.ln.cell 4).trans rfl
      clear hS2 hK2 hl0 hl1 hl2 hl4
      go_wp2_with fail
      go_ret
      exact ⟨_, rfl, by rw [Hm.out]; exact Hzs.out w2, by rw [Hm.out]; exact HW2.out.src.alloc _, HK2.out.alloc _⟩
  have hzb : (l.word == [46, 122, 101, 114, 111]) = false := by
    rw [Bool.eq_false_iff]; intro e; exact hz (by rw [eq_of_beq e]; rfl)
  by_cases hwd : l.word = wordW
  · have hwb : (l.word == [46, 119, 111, 114, 100]) = true := by rw [hwd]; decide
    by_cases h1 : l.args.length = 1
    · obtain ⟨a, ha⟩ : ∃ a, l.args = [a] := by
        match hla : l.args, h1 with
        | [a], _ => exact ⟨a, rfl⟩
      have hne : ((l.args.length : Int) != 1) = false := by simp [h1]
      have Hm : Hid (makeA labels f l = (failF f (numA a).2 l.n, be8 (numA a).1)) := by show _ = _; unfold makeA; rw [if_neg hz, if_pos hwd, ha]
      have hjl : (0 : Int) < l.args.length := by omega
      obtain ⟨x, c, hx, hstr⟩ := HW1.out.strs
      cases hx
      obtain ⟨ab, rfl, hab, hab2, hac⟩ := hstr.resolve_left (fun e => by rw [e] at h1; simp at h1)
      have hac0 : w1.cell? ⟨ab, 0, none⟩ = some (S a) := by rw [hac 0 (by omega), ha]; rfl
      have Hnum := Lib.hid (num_any a (Hal.out a (by rw [ha]; simp)) w1 HW1.out.has.has)
      have hbd := numA_bd a
      have hbe := be8_byN (numA a).1 _ rfl
      obtain ⟨nx, hnx⟩ : ∃ nx, (numA a).1 = nx := ⟨_, rfl⟩
      obtain ⟨ny, hny⟩ : ∃ ny, (numA a).2 = ny := ⟨_, rfl⟩
      rw [hnx] at Hnum Hm hbd hbe
      rw [hny] at Hnum Hm
      obtain ⟨y, hy⟩ : ∃ y, IntKind.u64.wrap nx = y := ⟨_, rfl⟩
      rw [hy] at hbe
      have hyb : 0 ≤ y ∧ y ≤ 18446744073709551615 := by rw [← hy, IntKind.wrap_u64]; omega
      have Hput := Lib.hid (fun w => put_any 8 y w (by omega) hyb.1 hyb.2)
      have Hbe := Lib.hid hbe
      have Hab := Lib.hid hab
      clear hz hwd h1 ha hstr hab hac hnx hny hbe hbd
      go_wp2_with fail
      refine Hnum.out.mono ?_
      rintro e w2 ⟨rfl, hb2⟩
      have HW2 := Lib.hid (HW1.out.free (Kept.of_below hb2))
      have HK2 : Hid (Kept (· = sb) w w2) := HK1.out.trans (Kept.of_below hb2)
      have hl0' : w2.cell? ⟨lb, 0, none⟩ = some (.int .i64 (l.n : Nat)) := (HW2.out.ln.cell 0).trans rfl
      clear hb2 hl0 hl1 hl2 hl4 hac0
      go_wp2_with fail
      refine (fail_any sb L (.map (some mb)) f ny l.n _ HW2.out.src).mono ?_
      rintro e w3 ⟨rfl, hS3, hK3⟩
      have HW3 := Lib.hid (HW2.out.fault hsm hsl hgs hS3 hK3)
      have HK3 := Lib.hid (HK2.out.trans hK3)
      clear hS3 hK3 hl0'
      go_wp2_with fail
      refine (Hput.out _).mono ?_
      rintro e w4 ⟨v, rfl, hown, hb4⟩
      have HW4 := Lib.hid (HW3.out.free (Kept.of_below hb4))
      have HK4 : Hid (Kept (· = sb) w w4) := HK3.out.trans (Kept.of_below hb4)
      have Hv : Hid (StrIn w4 v (be8 nx)) := by
        rw [Hbe.out]
        have e1 : (List.range 8).map (fun j => Value.int .u8 (byN 8 y j)) = bytesV ((List.range 8).map fun j => byN 8 y j) := by unfold bytesV; rw [List.map_map]; rfl
        rw [e1] at hown
        exact own_str (l := (List.range 8).map fun j => byN 8 y j) (by simpa using hown)
      clear hown hb4
      go_wp2_with fail
      go_ret
      exact ⟨_, rfl, by rw [Hm.out]; exact Hv.out, by rw [Hm.out]; exact HW4.out.src, HK4.out⟩
    · have hne : ((l.args.length : Int) != 1) = true := by simp; omega
      have Hm : Hid (makeA labels f l = (failF f 10 l.n, [])) := by
        show _ = _; unfold makeA; rw [if_neg hz, if_pos hwd]
        match hla : l.args, h1 with
        | [], _ => rfl
        | _ :: _ :: _, _ => rfl
        | [a], h => exact absurd rfl h
      clear hz hwd h1
      go_wp2_with fail
      refine (fail_any sb L (.map (some mb)) f 10 l.n _ HW1.out.src).mono ?_
      rintro e w2 ⟨rfl, hS2, hK2⟩
      have HW2 := Lib.hid (HW1.out.fault hsm hsl hgs hS2 hK2)
      have HK2 := Lib.hid (HK1.out.trans hK2)
      clear hS2 hK2 hl0 hl1 hl2 hl4
      go_wp2_with fail
      go_ret
      exact ⟨_, rfl, by rw [Hm.out]; exact ⟨none, 0, rfl, ⟨Nat.le_refl _, Nat.zero_le _⟩, .inl rfl⟩, by rw [Hm.out]; exact HW2.out.src, HK2.out⟩
  have hwb : (l.word == [46, 119, 111, 114, 100]) = false := by
    rw [Bool.eq_false_iff]; intro e; exact hwd (by rw [eq_of_beq e]; rfl)
  have Hop := Lib.hid (op_any l.word hwl w1 HW1.out.has.has)
  have Hm0 : Hid (makeA labels f l = if opA l.word = 0 then (failF f 10 l.n, []) else ((operandsA labels f (opA l.word) l).1, (operandsA labels f (opA l.word) l).2.enc)) := by
    show _ = _; unfold makeA; rw [if_neg hz, if_neg hwd]
  have hol : opA l.word ≤ 43 := opFrom_le l.word 43 0
  obtain ⟨op, hop⟩ : ∃ op, opA l.word = op := ⟨_, rfl⟩
  rw [hop] at Hop Hm0 hol
  clear hz hwd hop
  go_wp2_with fail
  refine Hop.out.mono ?_
  rintro e w2 ⟨rfl, hb2⟩
  have HW2 := Lib.hid (HW1.out.free (Kept.of_below hb2))
  have HK2 : Hid (Kept (· = sb) w w2) := HK1.out.trans (Kept.of_below hb2)
  clear hb2 hl0 hl1 hl2 hl4
  obtain ⟨xb, hxb⟩ : ∃ xb, xb = w2.heap.size := ⟨_, rfl⟩
  obtain ⟨w3, hw3⟩ : ∃ w3, w3 = w2.alloc (.cells #[.int .i64 op, .int .i64 0, .int .i64 0, .int .i64 0, .int .i32 0] 23) := ⟨_, rfl⟩
  have hK23 : Kept (fun _ => False) w2 w3 := by rw [hw3]; exact (Kept.refl _ _).alloc _
  have HW3 := Lib.hid (HW2.out.free hK23)
  have HK3 : Hid (Kept (· = sb) w w3) := HK2.out.trans (hK23.mono (fun _ _ h => h.elim))
  have HX3 : Hid (Blk w3 xb #[.int .i64 op, .int .i64 0, .int .i64 0, .int .i64 0, .int .i32 0] 23) := by rw [hw3, hxb]; exact Blk.new _ _ _
  have Hsx : Hid (sb ≠ xb ∧ mb ≠ xb ∧ lb ≠ xb ∧ w.heap.size ≤ xb) := by
    have h1 := HW2.out.src.lt; have h2 := HW2.out.mp.lt; have h3 := HW2.out.ln.lt; have h4 := HK2.out.size
    exact ⟨by omega, by omega, by omega, by omega⟩
  have HA3 : Hid (StrsAt w3 (fun b => b = sb ∨ b = mb ∨ b = xb) (.slice ax l.args.length ac) l.args) :=
    (HW2.out.strs.more (T := fun b => b = sb ∨ b = mb ∨ b = xb) (fun b hb h1 h2 => by
      rcases h2 with h2 | h2 | h2
      · exact h1 (.inl h2)
      · exact h1 (.inr (.inl h2))
      · omega)).kept hK23 (fun _ _ _ h => h)
  have hl0 : w3.cell? ⟨lb, 0, none⟩ = some (.int .i64 (l.n : Nat)) := (HW3.out.ln.cell 0).trans rfl
  have hl1 : w3.cell? ⟨lb, 1, none⟩ = some (S l.word) := (HW3.out.ln.cell 1).trans rfl
  have hl2 : w3.cell? ⟨lb, 2, none⟩ = some (.slice ax l.args.length ac) := (HW3.out.ln.cell 2).trans rfl
  have hl3 : w3.cell? ⟨lb, 3, none⟩ = some (.int .i64 (l.at_ : Nat)) := (HW3.out.ln.cell 3).trans rfl
  have hl4 : w3.cell? ⟨lb, 4, none⟩ = some (.int .i64 (l.len : Nat)) := (HW3.out.ln.cell 4).trans rfl
  have hx0 : w3.cell? ⟨xb, 0, none⟩ = some (.int .i64 op) := (HX3.out.cell 0).trans rfl
  have Hw3 := Lib.hid hw3; have Hxb := Lib.hid hxb
  clear hK23 hw3 hxb
  go_upto_region 14 with fail
  rw [← Hw3.out, ← Hxb.out]
  by_cases ho : op = 0
  · have Hm : Hid (makeA labels f l = (failF f 10 l.n, [])) := by show _ = _; rw [Hm0.out, if_pos ho]
    subst ho
    go_wp2_with fail
    refine (fail_any sb L (.map (some mb)) f 10 l.n _ HW3.out.src).mono ?_
    rintro e w4 ⟨rfl, hS2, hK2⟩
    have HS4 := Lib.hid hS2
    have HK4 := Lib.hid (HK3.out.trans hK2)
    clear hS2 hK2 hl0 hl1 hl2 hl3 hl4 hx0
    go_wp2_with fail
    go_ret
    exact ⟨_, rfl, by rw [Hm.out]; exact ⟨none, 0, rfl, ⟨Nat.le_refl _, Nat.zero_le _⟩, .inl rfl⟩, by rw [Hm.out]; exact HS4.out, HK4.out⟩
  · have hob : ((op : Int) == 0) = false := by simp; omega
    have Hm : Hid (makeA labels f l = ((operandsA labels f op l).1, (operandsA labels f op l).2.enc)) := by show _ = _; rw [Hm0.out, if_neg ho]
    have Hops := Lib.hid (operands_any sb mb xb L labels f op l (.slice ax l.args.length ac) (by omega) hol Hal.out hat Hbd.out w3 g0 HW3.out.has HW3.out.src HW3.out.mp HX3.out HA3.out hsm Hsx.out.1 Hsx.out.2.1 hgs (by have := Hsx.out.2.2.2; have h5 := HW3.out.has.le; have h6 := HW2.out.has.le; rw [Hxb.out]; exact h6))
    obtain ⟨hr, hi0, hi1⟩ := operands_right labels f op l (by omega) hol hat Hbd.out
    have hro := operands_op labels f op l
    obtain ⟨x, hx⟩ : ∃ x, (operandsA labels f op l).2 = x := ⟨_, rfl⟩
    obtain ⟨F, hF⟩ : ∃ F, (operandsA labels f op l).1 = F := ⟨_, rfl⟩
    rw [hx] at Hops Hm hr hi0 hi1
    rw [hF] at Hops Hm
    obtain ⟨xo, xa, xbb, xc, xi⟩ := x
    have Henc := Lib.hid (fun w => enc_any xo xa xbb xc xi w hr ⟨hi0, hi1⟩)
    clear ho hr hi0 hi1 hro hx hF
    go_wp2_with fail
    refine Hops.out.mono ?_
    rintro e w4 ⟨rfl, hS4, hX4, hK4⟩
    have HS4 := Lib.hid hS4
    have HK4 : Hid (Kept (· = sb) w w4) := HK3.out.then hK4 (fun i hi e => by
      rcases e with e | e
      · exact e
      · have := Hsx.out.2.2.2; omega)
    have e0 : w4.cell? ⟨xb, 0, none⟩ = some (.int .i64 xo) := (hX4.cell 0).trans rfl
    have e1 : w4.cell? ⟨xb, 1, none⟩ = some (.int .i64 xa) := (hX4.cell 1).trans rfl
    have e2 : w4.cell? ⟨xb, 2, none⟩ = some (.int .i64 xbb) := (hX4.cell 2).trans rfl
    have e3 : w4.cell? ⟨xb, 3, none⟩ = some (.int .i64 xc) := (hX4.cell 3).trans rfl
    have e4 : w4.cell? ⟨xb, 4, none⟩ = some (.int .i32 xi) := (hX4.cell 4).trans rfl
    clear hS4 hX4 hK4 hl0 hl1 hl2 hl3 hl4 hx0
    go_wp2_with fail
    refine (Henc.out _).mono ?_
    rintro e w5 ⟨v, rfl, hv, hb5⟩
    have HS5 := Lib.hid (HS4.out.below hb5 HS4.out.lt)
    have HK5 : Hid (Kept (· = sb) w w5) := HK4.out.trans (Kept.of_below hb5)
    have Hv := Lib.hid hv
    clear hv hb5 e0 e1 e2 e3 e4
    go_wp2_with fail
    go_ret
    exact ⟨_, rfl, by rw [Hm.out]; exact Hv.out, by rw [Hm.out]; exact HS5.out, HK5.out⟩
end Go.Proofs.YtjjnidbggoaonaaGreatDoor
