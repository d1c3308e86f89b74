/- The assembler's operands. -/
import Derived.Test.YtjjnidbggoaonaaGreatDoorAsD
namespace Go.Proofs.YtjjnidbggoaonaaGreatDoor
open Go.RowKit
attribute [local irreducible] World.setCell World.alloc World.drew Calls Code.wp
attribute [local go_sem] Oper.semAt_some

theorem idx_want (k : Nat) (h : k ≤ 8) (w : World) : (Instr.index 177 (.agg #[.int .i64 0, .int .i64 2, .int .i64 3, .int .i64 3, .int .i64 2, .int .i64 2, .int .i64 3, .int .i64 2, .int .i64 1]) (.int .i64 k)).run Tryz.prog w = .ok (.int .i64 (wantA k : Nat)) w := by
  obtain rfl | rfl | rfl | rfl | rfl | rfl | rfl | rfl | rfl : k = 0 ∨ k = 1 ∨ k = 2 ∨ k = 3 ∨ k = 4 ∨ k = 5 ∨ k = 6 ∨ k = 7 ∨ k = 8 := by omega
  all_goals kernel_rfl
theorem idx_regs (k : Nat) (h : k ≤ 8) (w : World) : (Instr.index 177 (.agg #[.int .i64 0, .int .i64 1, .int .i64 2, .int .i64 3, .int .i64 2, .int .i64 1, .int .i64 2, .int .i64 1, .int .i64 1]) (.int .i64 k)).run Tryz.prog w = .ok (.int .i64 (regsA k : Nat)) w := by
  obtain rfl | rfl | rfl | rfl | rfl | rfl | rfl | rfl | rfl : k = 0 ∨ k = 1 ∨ k = 2 ∨ k = 3 ∨ k = 4 ∨ k = 5 ∨ k = 6 ∨ k = 7 ∨ k = 8 := by omega
  all_goals kernel_rfl
theorem idx_ptr (X j : Nat) (hj : j < 3) (w : World) :
    (Instr.index 179 (.agg #[.pointer (some ⟨X, 1, none⟩), .pointer (some ⟨X, 2, none⟩), .pointer (some ⟨X, 3, none⟩)]) (.int .i64 j)).run Tryz.prog w = .ok (.pointer (some ⟨X, 1 + j, none⟩)) w := by
  obtain rfl | rfl | rfl : j = 0 ∨ j = 1 ∨ j = 2 := by omega
  all_goals kernel_rfl
theorem wpList_index3 {P : Program} {ops : Array Oper} {rest : List Oper} {a : Act} {w : World} {Q : Exit → Act → World → Prop} {d : Option Tmp} {T t : TypeId} {p : String} {e : Array Edge} {x y : Operand} {u s v : Value}
    (hx : a.eval x = u) (hy : a.eval y = s) (hr : (Instr.index T u s).run P w = .ok v w) (h : wpList P ops Q rest (a.put d v) w) : wpList P ops Q (⟨d, .index T x y, t, p, e, none⟩ :: rest) a w :=
  wpList_plain rfl fun _ hK => by
    unfold Oper.wp
    simp only [execOp, hx, hy, hr, Sem.run_bind, Result.andThen_ok, Sem.run_pure]
    exact hK _ _ h
theorem want_le (k : Nat) (h : k ≤ 8) : wantA k ≤ 3 ∧ regsA k ≤ wantA k := by
  obtain rfl | rfl | rfl | rfl | rfl | rfl | rfl | rfl | rfl : k = 0 ∨ k = 1 ∨ k = 2 ∨ k = 3 ∨ k = 4 ∨ k = 5 ∨ k = 6 ∨ k = 7 ∨ k = 8 := by omega
  all_goals decide
/-- The fault behind k registers, and the registers. -/
def faultR (f : Nat × Nat) (args : List (List UInt8)) (n r : Nat) : Nat → Nat × Nat
  | 0 => f
  | k + 1 => (regsOf (faultR f args n r k) args n r k).1
def valR (f : Nat × Nat) (args : List (List UInt8)) (n r k : Nat) : Nat := (regsOf (faultR f args n r k) args n r k).2
/-- An instruction's cells, k registers read. -/
def xC (op : Nat) (v : Nat → Nat) (k : Nat) : Array Value :=
  #[.int .i64 op, .int .i64 (if 0 < k then v 0 else 0 : Nat), .int .i64 (if 1 < k then v 1 else 0 : Nat), .int .i64 (if 2 < k then v 2 else 0 : Nat), .int .i32 0]
theorem xC_at (op : Nat) (v : Nat → Nat) (k : Nat) (h : k < 3) : (xC op v k)[1 + k]? = some (.int .i64 0) := by
  obtain rfl | rfl | rfl : k = 0 ∨ k = 1 ∨ k = 2 := by omega
  all_goals rfl
theorem xC_set (op : Nat) (v : Nat → Nat) (k : Nat) (h : k < 3) : (xC op v k).setIfInBounds (1 + k) (.int .i64 (v k : Nat)) = xC op v (k + 1) := by
  obtain rfl | rfl | rfl : k = 0 ∨ k = 1 ∨ k = 2 := by omega
  all_goals rfl
theorem xC_skip (op : Nat) (v : Nat → Nat) (k : Nat) (h : k < 3) (h0 : v k = 0) : xC op v (k + 1) = xC op v k := by
  obtain rfl | rfl | rfl : k = 0 ∨ k = 1 ∨ k = 2 := by omega
  all_goals simp [xC, h0]

/-- The operands, by the form. -/
theorem operandsA_eq (labels : List (List UInt8 × Nat)) (f : Nat × Nat) (op : Nat) (l : ALine) (k : Nat) (hk : formA op = k) (hl : l.args.length = wantA k) :
    operandsA labels f op l =
      (let F := faultR f l.args l.n (regsA k) 3
       let x : Ins := ⟨op, valR f l.args l.n (regsA k) 0, valR f l.args l.n (regsA k) 1, valR f l.args l.n (regsA k) 2, 0⟩
       if k = 1 ∨ k = 2 then ((immA F (l.args.getD (wantA k - 1) []) l.n).1, { x with imm := (immA F (l.args.getD (wantA k - 1) []) l.n).2 })
       else if k = 5 then memA F x (l.args.getD 1 []) l.n
       else if k = 6 ∨ k = 7 then ((thereA labels F (l.args.getD (wantA k - 1) []) l.n l.at_).1, { x with imm := (thereA labels F (l.args.getD (wantA k - 1) []) l.n l.at_).2 })
       else (F, x)) := by
  unfold operandsA
  simp only [hk]
  rw [if_neg (by simp [hl])]
  rfl
/-- What the operands' walk keeps of memory. -/
structure OpW (w : World) (g0 sb mb xb lb : Nat) (L : Value) (labels : List (List UInt8 × Nat)) (F : Nat × Nat) (X : Array Value) (l : ALine) (A : Value) : Prop where
  has : AsIn g0 w
  src : Blk w sb (srcC L (.map (some mb)) F) 73
  mp : MapStr.MapAt w mb (labV labels)
  ins : Blk w xb X 23
  ln : Blk w lb (lineC l A) 77
  strs : StrsAt w (fun b => b = sb ∨ b = mb ∨ b = xb ∨ b = lb) A l.args
structure Apart (g0 sb mb xb lb : Nat) : Prop where
  sm : sb ≠ mb
  sx : sb ≠ xb
  mx : mb ≠ xb
  sl : sb ≠ lb
  ml : mb ≠ lb
  xl : xb ≠ lb
  gs : g0 ≤ sb
  gx : g0 ≤ xb
theorem OpW.drew {w : World} {g0 sb mb xb lb : Nat} {L : Value} {labels : List (List UInt8 × Nat)} {F : Nat × Nat} {X : Array Value} {l : ALine} {A : Value} (h : OpW w g0 sb mb xb lb L labels F X l A) : OpW w.drew g0 sb mb xb lb L labels F X l A :=
  ⟨h.has.kept (S := fun _ => False) (Kept.refl _ _).drew (fun _ h => h.elim), h.src.drew, h.mp.drew, h.ins.drew, h.ln.drew, h.strs.kept (T := fun _ => False) (Kept.refl _ _).drew (fun _ _ _ h => h)⟩
theorem OpW.drewN {w : World} {g0 sb mb xb lb : Nat} {L : Value} {labels : List (List UInt8 × Nat)} {F : Nat × Nat} {X : Array Value} {l : ALine} {A : Value} (h : OpW w g0 sb mb xb lb L labels F X l A) (n : Nat) : OpW (w.drewN n) g0 sb mb xb lb L labels F X l A :=
  have hk : Kept (fun _ => False) w (w.drewN n) := ⟨rfl, rfl, rfl, Nat.le_refl _, fun _ _ _ => rfl⟩
  ⟨h.has.kept hk (fun _ h => h.elim), h.src, ⟨h.mp.at_, h.mp.nd⟩, h.ins, h.ln, h.strs.kept hk (fun _ _ _ h => h)⟩
theorem OpW.free {w w' : World} {g0 sb mb xb lb : Nat} {L : Value} {labels : List (List UInt8 × Nat)} {F : Nat × Nat} {X : Array Value} {l : ALine} {A : Value} (h : OpW w g0 sb mb xb lb L labels F X l A) (hk : Kept (fun _ => False) w w') : OpW w' g0 sb mb xb lb L labels F X l A :=
  ⟨h.has.kept hk (fun _ h => h.elim), h.src.below' hk (fun h => h), h.mp.kept hk (fun h => h), h.ins.below' hk (fun h => h), h.ln.below' hk (fun h => h), h.strs.kept hk (fun _ _ _ h => h)⟩
theorem cutAt_len {c : UInt8} {a u v : List UInt8} (h : cutAt c a = some (u, v)) : u.length ≤ a.length ∧ v.length ≤ a.length := by
  rcases cut_index c a with ⟨_, h2⟩ | ⟨i, _, _, h3⟩
  · rw [h2] at h; cases h
  · rw [h3] at h
    cases h
    simp
    omega
theorem suf41 (v : List UInt8) : ([41] : List UInt8).isSuffixOf v = decide (v.getLast? = some 41) := by
  unfold List.isSuffixOf
  rw [List.getLast?_eq_head?_reverse]
  cases hv : v.reverse with
  | nil => rfl
  | cons c r =>
    show (([41] : List UInt8).isPrefixOf (c :: r)) = _
    by_cases e : c = 41
    · subst e; simp [List.isPrefixOf]
    · simp [List.isPrefixOf, e, Ne.symm e]
theorem kept_undrew (S : Nat → Prop) (w : World) : Kept S w.drew w := by
  unfold World.drew
  exact ⟨rfl, rfl, rfl, Nat.le_refl _, fun _ _ _ => rfl⟩
/-- The fault has changed. -/
theorem OpW.fault {w w' : World} {g0 sb mb xb lb : Nat} {L : Value} {labels : List (List UInt8 × Nat)} {F F' : Nat × Nat} {X : Array Value} {l : ALine} {A : Value} (h : OpW w g0 sb mb xb lb L labels F X l A) (ap : Apart g0 sb mb xb lb)
    (hS : Blk w' sb (srcC L (.map (some mb)) F') 73) (hK : Kept (· = sb) w w') : OpW w' g0 sb mb xb lb L labels F' X l A :=
  ⟨h.has.kept hK (fun b e => by rw [e]; exact ap.gs), hS, h.mp.kept hK (fun e => ap.sm e.symm), h.ins.below' hK (fun e => ap.sx e.symm), h.ln.below' hK (fun e => ap.sl e.symm), h.strs.kept hK (fun _ _ h1 h2 => h1 (.inl h2))⟩
/-- The instruction has changed. -/
theorem OpW.ins' {w : World} {g0 sb mb xb lb : Nat} {L : Value} {labels : List (List UInt8 × Nat)} {F : Nat × Nat} {X : Array Value} {l : ALine} {A : Value} (h : OpW w g0 sb mb xb lb L labels F X l A) (ap : Apart g0 sb mb xb lb) (i : Nat) (v : Value) : OpW (w.setCell ⟨xb, i, none⟩ v) g0 sb mb xb lb L labels F (X.setIfInBounds i v) l A := by
  have hK : Kept (· = xb) w (w.setCell ⟨xb, i, none⟩ v) := (Kept.refl (· = xb) w).setIn xb i v rfl
  exact ⟨h.has.kept hK (fun b e => by rw [e]; exact ap.gx), h.src.below' hK ap.sx, h.mp.kept hK ap.mx, h.ins.set i v, h.ln.below' hK (fun e => ap.xl e.symm), h.strs.kept hK (fun _ _ h1 h2 => h1 (.inr (.inr (.inl h2))))⟩

set_option maxRecDepth 100000 in
set_option maxHeartbeats 4000000 in
theorem operands_any (sb mb xb : Nat) (L : Value) (labels : List (List UInt8 × Nat)) (f : Nat × Nat) (op : Nat) (l : ALine) (A : Value) (ho0 : 1 ≤ op) (ho1 : op ≤ 43) (hal : ∀ a ∈ l.args, a.length ≤ 100000) (hat : l.at_ ≤ 1048576) (hlb : ∀ p ∈ labels, p.2 ≤ 1048576) (w : World) (g0 : Nat) (h : AsIn g0 w)
    (hS : Blk w sb (srcC L (.map (some mb)) f) 73) (hM : MapStr.MapAt w mb (labV labels)) (hX : Blk w xb #[.int .i64 op, .int .i64 0, .int .i64 0, .int .i64 0, .int .i32 0] 23) (hA : StrsAt w (fun b => b = sb ∨ b = mb ∨ b = xb) A l.args) (hsm : sb ≠ mb) (hsx : sb ≠ xb) (hmx : mb ≠ xb) (hgs : g0 ≤ sb) (hgx : g0 ≤ xb) :
    Calls Tryz.prog 68 #[.pointer (some ⟨sb, 0, none⟩), .pointer (some ⟨xb, 0, none⟩), .agg (lineC l A)] w fun e w' => e = .returned (.tuple #[]) ∧
      Blk w' sb (srcC L (.map (some mb)) (operandsA labels f op l).1) 73 ∧ Blk w' xb (Ins.cells (operandsA labels f op l).2) 23 ∧ Kept (fun b => b = sb ∨ b = xb) w w' := by
  have Hk8 := formA_le op
  have Hop := Lib.hid (fun w => form_any op ho0 ho1 w)
  obtain ⟨k, hk⟩ : ∃ k, formA op = k := ⟨_, rfl⟩
  rw [hk] at Hk8 Hop
  obtain ⟨hw3, hrw⟩ := want_le k Hk8
  have Hiw := Lib.hid (fun w => idx_want k Hk8 w)
  have Hir := Lib.hid (fun w => idx_regs k Hk8 w)
  obtain ⟨lb, hlb'⟩ : ∃ lb, lb = w.heap.size := ⟨_, rfl⟩
  obtain ⟨w1, hw1⟩ : ∃ w1, w1 = w.alloc (.cells (lineC l A) 77) := ⟨_, rfl⟩
  have AP : Hid (Apart g0 sb mb xb lb) := by
    have h1 := hS.lt; have h2 := hM.lt; have h3 := hX.lt
    exact ⟨hsm, hsx, hmx, by omega, by omega, by omega, hgs, hgx⟩
  have hK1 : Kept (fun _ => False) w w1 := by rw [hw1]; exact (Kept.refl _ _).alloc _
  have HW1 : Hid (OpW w1 g0 sb mb xb lb L labels f #[.int .i64 op, .int .i64 0, .int .i64 0, .int .i64 0, .int .i32 0] l A) := by
    refine ⟨h.kept hK1 (fun _ h => h.elim), hS.below' hK1 (fun h => h), hM.kept hK1 (fun h => h), hX.below' hK1 (fun h => h), ?_, ?_⟩
    · rw [hw1, hlb']; exact Blk.new _ _ _
    · exact (hA.more (T := fun b => b = sb ∨ b = mb ∨ b = xb ∨ b = lb) (fun b hb h1 h2 => by
        rcases h2 with h2 | h2 | h2 | h2
        · exact h1 (.inl h2)
        · exact h1 (.inr (.inl h2))
        · exact h1 (.inr (.inr h2))
        · omega)).kept hK1 (fun _ _ _ h => h)
  have HK1 := Lib.hid hK1; have Hw1 := Lib.hid hw1; have Hlb := Lib.hid hlb'; have Hk := Lib.hid hk; have Hbd := Lib.hid hlb; have Hal := Lib.hid hal
  have hx0 : w.cell? ⟨xb, 0, none⟩ = some (.int .i64 op) := (hX.cell 0).trans rfl
  have hx0 : w1.cell? ⟨xb, 0, none⟩ = some (.int .i64 op) := (HW1.out.ins.cell 0).trans rfl
  have hl0 : w1.cell? ⟨lb, 0, none⟩ = some (.int .i64 (l.n : Nat)) := (HW1.out.ln.cell 0).trans rfl
  have hl2 : w1.cell? ⟨lb, 2, none⟩ = some A := (HW1.out.ln.cell 2).trans rfl
  obtain ⟨ax, ac, hA0, hAr⟩ := hA
  have HAr := Lib.hid hAr
  clear h hS hM hX hAr hK1 hw1 hlb' hk hlb hal ho0 ho1
  subst hA0
  go_enter Tryz.func68, Tryz.ntmps68
  go_upto_region 1 with fail
  rw [← Hw1.out, ← Hlb.out]
  go_wp2_with fail
  refine (Hop.out _).mono ?_
  rintro e w2 ⟨rfl, rfl⟩
  by_cases hlen : l.args.length = wantA k
  · have heq : ((l.args.length : Int) != (wantA k : Int)) = false := by simp [hlen]
    have Hoe := Lib.hid (operandsA_eq labels f op l k Hk.out hlen)
    have Hlen := Lib.hid hlen
    clear hlen
    go_wp2_with (first | (refine wpList_index3 rfl rfl (Hiw.out _) ?_) | (refine wpList_index3 rfl rfl (Hir.out _) ?_))
    go_quiet (fail)
    have HWb := Lib.hid (HW1.out.drewN nq)
    have HKb : Hid (Kept (fun b => b = sb ∨ b = xb) w (w1.drewN nq)) := (HK1.out.mono (fun _ _ h => h.elim)).trans ⟨rfl, rfl, rfl, Nat.le_refl _, fun _ _ _ => rfl⟩
    obtain ⟨wb, hwb⟩ : ∃ wb, wb = w1.drewN nq := ⟨_, rfl⟩
    rw [← hwb] at HWb HKb ⊢
    obtain ⟨r, hr⟩ : ∃ r, regsA k = r := ⟨_, rfl⟩
    obtain ⟨q, hq⟩ : ∃ q, wantA k = q := ⟨_, rfl⟩
    rw [hr, hq] at hrw Hoe
    rw [hr] at Hir
    rw [hq] at Hlen hw3 Hiw heq
    rw [hr, hq]
    have Hfr : Hid (∀ j, faultR f l.args l.n r (j + 1) = (regsOf (faultR f l.args l.n r j) l.args l.n r j).1) := fun _ => rfl
    have Hvr : Hid (∀ j, valR f l.args l.n r j = (regsOf (faultR f l.args l.n r j) l.args l.n r j).2) := fun _ => rfl
    have Hf0 : Hid (faultR f l.args l.n r 0 = f) := rfl
    obtain ⟨FR, hFR⟩ : ∃ FR, faultR f l.args l.n r = FR := ⟨_, rfl⟩
    obtain ⟨VR, hVR⟩ : ∃ VR, valR f l.args l.n r = VR := ⟨_, rfl⟩
    rw [hFR] at Hfr Hvr Hf0 Hoe
    rw [hVR] at Hvr Hoe
    have Hq := Lib.hid hq
    clear hwb hFR hVR hr hq hx0 hl0 hl2
    go_wp2_with fail
    go_loopg [9, 10, 44] 3 (fun g _ _ i wx => ∃ j : Nat, j + g = 3 ∧ i = .int .i64 j ∧ Hid (OpW wx g0 sb mb xb lb L labels (FR j) (xC op VR j) l (.slice ax l.args.length ac)) ∧ Hid (Kept (fun b => b = sb ∨ b = xb) w wx))
    case atStart => exact ⟨0, rfl, rfl, Lib.hid (by rw [Hf0.out]; exact HWb.out), HKb⟩
    case round =>
      obtain ⟨j, hj, rfl, HW, HK⟩ := hrel
      by_cases hlt : j < 3
      · have hlt' : (j : Int) < 3 := by omega
        have Hip := Lib.hid (fun w => idx_ptr xb j hlt w)
        by_cases hjr : j < r
        · have hjr' : (j : Int) < r := by omega
          have hjl : (j : Int) < l.args.length := by have := Hlen.out; omega
          obtain ⟨a, ha⟩ : ∃ a, l.args.getD j [] = a := ⟨_, rfl⟩
          have Hro : Hid (regsOf (FR j) l.args l.n r j = regA (FR j) a l.n) := by show _ = _; unfold regsOf; rw [if_pos hjr, ha]
          obtain ⟨ab, hab, habs, -, hacell⟩ := HAr.out.resolve_left (fun e => by rw [e] at hjl; simp at hjl; omega)
          have HWd := Lib.hid HW.out.drew
          have hstr := HW.out.strs
          have hargs : ∀ w', Kept (fun b => b = sb ∨ b = xb) wr.drew w' → w'.cell? ⟨ab, j, none⟩ = some (S a) := fun w' hk' => by
            obtain ⟨x, c, e, h⟩ := HWd.out.strs
            cases e
            obtain ⟨b', hb', h1, h2, h3⟩ := h.resolve_left (fun e => by rw [e] at hjl; simp at hjl; omega)
            have e2 : ab = b' := by rw [hab] at hb'; cases hb'; rfl
            subst e2
            rw [hk'.cellAt h2 (fun e => h1 (by rcases e with e | e; exact .inl e; exact .inr (.inr (.inl e)))), h3 j (by omega), ha]
          have HSS : Hid (∀ w', Kept (fun b => b = sb ∨ b = xb) wr.drew w' → w'.cell? ⟨lb, 0, none⟩ = some (.int .i64 (l.n : Nat)) ∧ w'.cell? ⟨lb, 2, none⟩ = some (.slice (some ⟨ab, 0, none⟩) l.args.length ac) ∧ w'.cell? ⟨ab, j, none⟩ = some (S a)) := fun w' hk' => by
            have hl := HWd.out.ln.below' hk' (fun e => by rcases e with e | e; exact AP.out.sl e.symm; exact AP.out.xl e.symm)
            exact ⟨(hl.cell 0).trans rfl, (hl.cell 2).trans (by rw [← hab]; rfl), hargs w' hk'⟩
          have HXx : Hid (∀ w', Kept (· = sb) wr.drew w' → w'.cell? ⟨xb, 1 + j, none⟩ = some (.int .i64 0) ∧ w'.frozen? ⟨xb, 1 + j, none⟩ = false) := fun w' hk' => by
            have hx := HWd.out.ins.below' hk' (fun e => AP.out.sx e.symm)
            exact ⟨by rw [hx.cell, xC_at op VR j hlt], hx.free _⟩
          have Hrg := Lib.hid (reg_any sb L (.map (some mb)) (FR j) a l.n wr.drew HWd.out.has.has HWd.out.src)
          have Hvj : Hid (VR j = (regA (FR j) a l.n).2) := by show _ = _; rw [Hvr.out, Hro.out]
          have Hfj : Hid (FR (j + 1) = (regA (FR j) a l.n).1) := by show _ = _; rw [Hfr.out, Hro.out]
          have HKd := Lib.hid HK.out.drew
          clear hacell hargs habs hjr hstr
          subst hab
          go_upto_region 10 with (refine wpList_index3 rfl rfl (Hip.out _) ?_)
          go_region_held3 (fun w' => w'.cell? ⟨lb, 0, none⟩ = some (.int .i64 (l.n : Nat)) ∧ w'.cell? ⟨lb, 2, none⟩ = some (.slice (some ⟨ab, 0, none⟩) l.args.length ac) ∧ w'.cell? ⟨ab, j, none⟩ = some (S a))
            (first | exact HSS.out _ (Kept.refl _ _) | exact HSS.out _ (hK6.mono (fun _ _ e => .inl e)) | exact HSS.out _ ((hK6.mono (fun _ _ e => .inl e)).setCell (.inr (.inr rfl)) _))
            ((refine Hrg.out.mono ?_; rintro e w6 ⟨rfl, hS6, hK6⟩; have hx6 := (HXx.out _ hK6).1; have hx7 := (HXx.out _ hK6).2))
          have HW6 := Lib.hid ((HWd.out.fault AP.out hS6 hK6).ins' AP.out (1 + j) (.int .i64 ((regA (FR j) a l.n).2 : Nat)))
          have HK6 : Hid (Kept (fun b => b = sb ∨ b = xb) w (w6.setCell ⟨xb, 1 + j, none⟩ (.int .i64 ((regA (FR j) a l.n).2 : Nat)))) := (HKd.out.trans (hK6.mono (fun _ _ e => .inl e))).setCell (.inr (.inr rfl)) _
          clear hS6 hK6 hx6 hx7
          go_wp2_with fail
          go_roundg (3 - (j + 1))
          case measure => omega
          case rel => exact ⟨j + 1, by omega, by go_num, Lib.hid (by rw [Hfj.out, ← xC_set op VR j hlt, Hvj.out]; exact HW6.out), HK6⟩
        · have hjr' : ¬ (j : Int) < r := by omega
          have Hro : Hid (regsOf (FR j) l.args l.n r j = (FR j, 0)) := if_neg hjr
          have Hnx : Hid (FR (j + 1) = FR j ∧ VR j = 0) := ⟨by rw [Hfr.out, Hro.out], by rw [Hvr.out, Hro.out]⟩
          clear hjr
          go_wp2_with (refine wpList_index3 rfl rfl (Hip.out _) ?_)
          go_roundg (3 - (j + 1))
          case measure => omega
          case rel => exact ⟨j + 1, by omega, by go_num, Lib.hid (by rw [Hnx.out.1, xC_skip op VR j hlt Hnx.out.2]; exact HW.out), HK⟩
      · obtain rfl : j = 3 := by omega
        have HWd := Lib.hid HW.out.drew
        have HKd := Lib.hid HK.out.drew
        obtain rfl | rfl | rfl | rfl | rfl | rfl | rfl | rfl | rfl : k = 0 ∨ k = 1 ∨ k = 2 ∨ k = 3 ∨ k = 4 ∨ k = 5 ∨ k = 6 ∨ k = 7 ∨ k = 8 := by omega
        · -- form 0
          have Hf : Hid (operandsA labels f op l = (FR 3, ⟨op, VR 0, VR 1, VR 2, 0⟩)) := by show _ = _; rw [Hoe.out]; rfl
          go_wp2_with fail
          first | (refine bodyPost_end (results_none rfl _ _ _) rfl ?_) | (refine bodyPost_ret (results_none rfl _ _ _) rfl ?_)
          exact ⟨rfl, by rw [Hf.out]; exact HW.out.src, by rw [Hf.out]; exact HW.out.ins, HK.out⟩
        · -- form 1
          have Hqv : Hid (q = 2) := Hq.out.symm
          have hqw : IntKind.i64.wrap ((q : Int) - 1) = 1 := by rw [Hqv.out]; decide
          obtain ⟨ab, hab, -⟩ := HAr.out.resolve_left (fun e => by have := Hlen.out; rw [e, Hqv.out] at this; simp at this)
          subst hab
          have hjl : (1 : Int) < l.args.length := by have := Hlen.out; have := Hqv.out; omega
          obtain ⟨a, ha⟩ : ∃ a, l.args.getD 1 [] = a := ⟨_, rfl⟩
          have Hlna : Hid (a.length ≤ 100000) := by
            show _ ≤ _
            refine Hal.out a ?_
            have hlt2 : 1 < l.args.length := by omega
            rw [← ha, List.getD, List.getElem?_eq_getElem hlt2]
            exact List.getElem_mem hlt2
          have HSS : Hid (∀ w', Kept (fun b => b = sb ∨ b = xb) wr.drew w' → (w'.cell? ⟨lb, 0, none⟩ = some (.int .i64 (l.n : Nat)) ∧ w'.cell? ⟨lb, 1, none⟩ = some (S l.word) ∧ w'.cell? ⟨lb, 2, none⟩ = some (.slice (some ⟨ab, 0, none⟩) l.args.length ac) ∧ w'.cell? ⟨lb, 3, none⟩ = some (.int .i64 (l.at_ : Nat)) ∧ w'.cell? ⟨lb, 4, none⟩ = some (.int .i64 (l.len : Nat))) ∧ w'.cell? ⟨ab, 1, none⟩ = some (S a)) := fun w' hk' => by
            have hl := HWd.out.ln.below' hk' (fun e => by rcases e with e | e; exact AP.out.sl e.symm; exact AP.out.xl e.symm)
            obtain ⟨x, c, e, h⟩ := HWd.out.strs
            cases e
            obtain ⟨b', hb', h1, h2, h3⟩ := h.resolve_left (fun e => by rw [e] at hjl; simp at hjl)
            cases hb'
            refine ⟨⟨(hl.cell 0).trans rfl, (hl.cell 1).trans rfl, (hl.cell 2).trans rfl, (hl.cell 3).trans rfl, (hl.cell 4).trans rfl⟩, ?_⟩
            rw [hk'.cellAt h2 (fun e => h1 (by rcases e with e | e; exact .inl e; exact .inr (.inr (.inl e)))), h3 1 (by omega), ha]
          have Hf : Hid (operandsA labels f op l = ((immA (FR 3) a l.n).1, ⟨op, VR 0, VR 1, VR 2, (immA (FR 3) a l.n).2⟩)) := by show _ = _; rw [Hoe.out, Hqv.out, ← ha]; rfl
          clear ha
          have HXx : Hid (∀ w', Kept (· = sb) wr.drew w' → w'.cell? ⟨xb, 4, none⟩ = some (.int .i32 0) ∧ w'.frozen? ⟨xb, 4, none⟩ = false) := fun w' hk' => by
            have hx := HWd.out.ins.below' hk' (fun e => AP.out.sx e.symm)
            exact ⟨(hx.cell 4).trans rfl, hx.free _⟩
          have Hcl := Lib.hid (imm_any sb L (.map (some mb)) (FR 3) a l.n Hlna.out wr.drew HWd.out.has.has HWd.out.src)
          go_upto_region 15 with fail
          go_region_held3 (fun w' => (w'.cell? ⟨lb, 0, none⟩ = some (.int .i64 (l.n : Nat)) ∧ w'.cell? ⟨lb, 1, none⟩ = some (S l.word) ∧ w'.cell? ⟨lb, 2, none⟩ = some (.slice (some ⟨ab, 0, none⟩) l.args.length ac) ∧ w'.cell? ⟨lb, 3, none⟩ = some (.int .i64 (l.at_ : Nat)) ∧ w'.cell? ⟨lb, 4, none⟩ = some (.int .i64 (l.len : Nat))) ∧ w'.cell? ⟨ab, 1, none⟩ = some (S a))
            (first | exact HSS.out _ (Kept.refl _ _) | exact HSS.out _ (hK6.mono (fun _ _ e => .inl e)) | exact HSS.out _ ((hK6.mono (fun _ _ e => .inl e)).setCell (.inr (.inr rfl)) _))
            ((refine Hcl.out.mono ?_; rintro e w6 ⟨rfl, hS6, hK6⟩; have hx6 := (HXx.out _ hK6).1; have hx7 := (HXx.out _ hK6).2))
          have HW6 := Lib.hid ((HWd.out.fault AP.out hS6 hK6).ins' AP.out 4 (.int .i32 (immA (FR 3) a l.n).2))
          have HK6 : Hid (Kept (fun b => b = sb ∨ b = xb) w (w6.setCell ⟨xb, 4, none⟩ (.int .i32 (immA (FR 3) a l.n).2))) := (HKd.out.trans (hK6.mono (fun _ _ e => .inl e))).setCell (.inr (.inr rfl)) _
          clear hS6 hK6 hx6 hx7
          go_wp2_with fail
          first | (refine bodyPost_end (results_none rfl _ _ _) rfl ?_) | (refine bodyPost_ret (results_none rfl _ _ _) rfl ?_)
          exact ⟨rfl, by rw [Hf.out]; exact HW6.out.src, by rw [Hf.out]; exact HW6.out.ins, HK6.out⟩
        · -- form 2
          have Hqv : Hid (q = 3) := Hq.out.symm
          have hqw : IntKind.i64.wrap ((q : Int) - 1) = 2 := by rw [Hqv.out]; decide
          obtain ⟨ab, hab, -⟩ := HAr.out.resolve_left (fun e => by have := Hlen.out; rw [e, Hqv.out] at this; simp at this)
          subst hab
          have hjl : (2 : Int) < l.args.length := by have := Hlen.out; have := Hqv.out; omega
          obtain ⟨a, ha⟩ : ∃ a, l.args.getD 2 [] = a := ⟨_, rfl⟩
          have Hlna : Hid (a.length ≤ 100000) := by
            show _ ≤ _
            refine Hal.out a ?_
            have hlt2 : 2 < l.args.length := by omega
            rw [← ha, List.getD, List.getElem?_eq_getElem hlt2]
            exact List.getElem_mem hlt2
          have HSS : Hid (∀ w', Kept (fun b => b = sb ∨ b = xb) wr.drew w' → (w'.cell? ⟨lb, 0, none⟩ = some (.int .i64 (l.n : Nat)) ∧ w'.cell? ⟨lb, 1, none⟩ = some (S l.word) ∧ w'.cell? ⟨lb, 2, none⟩ = some (.slice (some ⟨ab, 0, none⟩) l.args.length ac) ∧ w'.cell? ⟨lb, 3, none⟩ = some (.int .i64 (l.at_ : Nat)) ∧ w'.cell? ⟨lb, 4, none⟩ = some (.int .i64 (l.len : Nat))) ∧ w'.cell? ⟨ab, 2, none⟩ = some (S a)) := fun w' hk' => by
            have hl := HWd.out.ln.below' hk' (fun e => by rcases e with e | e; exact AP.out.sl e.symm; exact AP.out.xl e.symm)
            obtain ⟨x, c, e, h⟩ := HWd.out.strs
            cases e
            obtain ⟨b', hb', h1, h2, h3⟩ := h.resolve_left (fun e => by rw [e] at hjl; simp at hjl)
            cases hb'
            refine ⟨⟨(hl.cell 0).trans rfl, (hl.cell 1).trans rfl, (hl.cell 2).trans rfl, (hl.cell 3).trans rfl, (hl.cell 4).trans rfl⟩, ?_⟩
            rw [hk'.cellAt h2 (fun e => h1 (by rcases e with e | e; exact .inl e; exact .inr (.inr (.inl e)))), h3 2 (by omega), ha]
          have Hf : Hid (operandsA labels f op l = ((immA (FR 3) a l.n).1, ⟨op, VR 0, VR 1, VR 2, (immA (FR 3) a l.n).2⟩)) := by show _ = _; rw [Hoe.out, Hqv.out, ← ha]; rfl
          clear ha
          have HXx : Hid (∀ w', Kept (· = sb) wr.drew w' → w'.cell? ⟨xb, 4, none⟩ = some (.int .i32 0) ∧ w'.frozen? ⟨xb, 4, none⟩ = false) := fun w' hk' => by
            have hx := HWd.out.ins.below' hk' (fun e => AP.out.sx e.symm)
            exact ⟨(hx.cell 4).trans rfl, hx.free _⟩
          have Hcl := Lib.hid (imm_any sb L (.map (some mb)) (FR 3) a l.n Hlna.out wr.drew HWd.out.has.has HWd.out.src)
          go_upto_region 15 with fail
          go_region_held3 (fun w' => (w'.cell? ⟨lb, 0, none⟩ = some (.int .i64 (l.n : Nat)) ∧ w'.cell? ⟨lb, 1, none⟩ = some (S l.word) ∧ w'.cell? ⟨lb, 2, none⟩ = some (.slice (some ⟨ab, 0, none⟩) l.args.length ac) ∧ w'.cell? ⟨lb, 3, none⟩ = some (.int .i64 (l.at_ : Nat)) ∧ w'.cell? ⟨lb, 4, none⟩ = some (.int .i64 (l.len : Nat))) ∧ w'.cell? ⟨ab, 2, none⟩ = some (S a))
            (first | exact HSS.out _ (Kept.refl _ _) | exact HSS.out _ (hK6.mono (fun _ _ e => .inl e)) | exact HSS.out _ ((hK6.mono (fun _ _ e => .inl e)).setCell (.inr (.inr rfl)) _))
            ((refine Hcl.out.mono ?_; rintro e w6 ⟨rfl, hS6, hK6⟩; have hx6 := (HXx.out _ hK6).1; have hx7 := (HXx.out _ hK6).2))
          have HW6 := Lib.hid ((HWd.out.fault AP.out hS6 hK6).ins' AP.out 4 (.int .i32 (immA (FR 3) a l.n).2))
          have HK6 : Hid (Kept (fun b => b = sb ∨ b = xb) w (w6.setCell ⟨xb, 4, none⟩ (.int .i32 (immA (FR 3) a l.n).2))) := (HKd.out.trans (hK6.mono (fun _ _ e => .inl e))).setCell (.inr (.inr rfl)) _
          clear hS6 hK6 hx6 hx7
          go_wp2_with fail
          first | (refine bodyPost_end (results_none rfl _ _ _) rfl ?_) | (refine bodyPost_ret (results_none rfl _ _ _) rfl ?_)
          exact ⟨rfl, by rw [Hf.out]; exact HW6.out.src, by rw [Hf.out]; exact HW6.out.ins, HK6.out⟩
        · -- form 3
          have Hf : Hid (operandsA labels f op l = (FR 3, ⟨op, VR 0, VR 1, VR 2, 0⟩)) := by show _ = _; rw [Hoe.out]; rfl
          go_wp2_with fail
          first | (refine bodyPost_end (results_none rfl _ _ _) rfl ?_) | (refine bodyPost_ret (results_none rfl _ _ _) rfl ?_)
          exact ⟨rfl, by rw [Hf.out]; exact HW.out.src, by rw [Hf.out]; exact HW.out.ins, HK.out⟩
        · -- form 4
          have Hf : Hid (operandsA labels f op l = (FR 3, ⟨op, VR 0, VR 1, VR 2, 0⟩)) := by show _ = _; rw [Hoe.out]; rfl
          go_wp2_with fail
          first | (refine bodyPost_end (results_none rfl _ _ _) rfl ?_) | (refine bodyPost_ret (results_none rfl _ _ _) rfl ?_)
          exact ⟨rfl, by rw [Hf.out]; exact HW.out.src, by rw [Hf.out]; exact HW.out.ins, HK.out⟩
        · -- form 5
          have Hqv : Hid (q = 2) := Hq.out.symm
          have hqw : IntKind.i64.wrap ((q : Int) - 1) = 1 := by rw [Hqv.out]; decide
          obtain ⟨ab, hab, -⟩ := HAr.out.resolve_left (fun e => by have := Hlen.out; rw [e, Hqv.out] at this; simp at this)
          subst hab
          have hjl : (1 : Int) < l.args.length := by have := Hlen.out; have := Hqv.out; omega
          obtain ⟨a, ha⟩ : ∃ a, l.args.getD 1 [] = a := ⟨_, rfl⟩
          have Hlna : Hid (a.length ≤ 100000) := by
            show _ ≤ _
            refine Hal.out a ?_
            have hlt2 : 1 < l.args.length := by omega
            rw [← ha, List.getD, List.getElem?_eq_getElem hlt2]
            exact List.getElem_mem hlt2
          have HSS : Hid (∀ w', Kept (fun b => b = sb ∨ b = xb) wr.drew w' → (w'.cell? ⟨lb, 0, none⟩ = some (.int .i64 (l.n : Nat)) ∧ w'.cell? ⟨lb, 1, none⟩ = some (S l.word) ∧ w'.cell? ⟨lb, 2, none⟩ = some (.slice (some ⟨ab, 0, none⟩) l.args.length ac) ∧ w'.cell? ⟨lb, 3, none⟩ = some (.int .i64 (l.at_ : Nat)) ∧ w'.cell? ⟨lb, 4, none⟩ = some (.int .i64 (l.len : Nat))) ∧ w'.cell? ⟨ab, 1, none⟩ = some (S a)) := fun w' hk' => by
            have hl := HWd.out.ln.below' hk' (fun e => by rcases e with e | e; exact AP.out.sl e.symm; exact AP.out.xl e.symm)
            obtain ⟨x, c, e, h⟩ := HWd.out.strs
            cases e
            obtain ⟨b', hb', h1, h2, h3⟩ := h.resolve_left (fun e => by rw [e] at hjl; simp at hjl)
            cases hb'
            refine ⟨⟨(hl.cell 0).trans rfl, (hl.cell 1).trans rfl, (hl.cell 2).trans rfl, (hl.cell 3).trans rfl, (hl.cell 4).trans rfl⟩, ?_⟩
            rw [hk'.cellAt h2 (fun e => h1 (by rcases e with e | e; exact .inl e; exact .inr (.inr (.inl e)))), h3 1 (by omega), ha]
          have Hf : Hid (operandsA labels f op l = memA (FR 3) ⟨op, VR 0, VR 1, VR 2, 0⟩ a l.n) := by show _ = _; rw [Hoe.out, ← ha]; rfl
          clear ha
          obtain ⟨⟨h0, -, h2, -, -⟩, h5⟩ := HSS.out wr (kept_undrew _ _)
          have hct := cut_any 40 a (Nat.le_trans Hlna.out (by omega)) wr HW.out.has.has.mx
          have Hma : Hid (memA (FR 3) ⟨op, VR 0, VR 1, VR 2, 0⟩ a l.n = match cutAt 40 a with
            | none => (failF (FR 3) 10 l.n, ⟨op, VR 0, VR 1, VR 2, 0⟩)
            | some (u, v) => if v.getLast? = some 41 then ((immA (regA (FR 3) v.dropLast l.n).1 (trimB u) l.n).1, ⟨op, VR 0, (regA (FR 3) v.dropLast l.n).2, VR 2, (immA (regA (FR 3) v.dropLast l.n).1 (trimB u) l.n).2⟩) else (failF (FR 3) 10 l.n, ⟨op, VR 0, VR 1, VR 2, 0⟩)) := by
            show _ = _
            unfold memA
            cases cutAt 40 a <;> rfl
          cases hcu : cutAt 40 a with
          | none =>
            have Hf2 : Hid (operandsA labels f op l = (failF (FR 3) 10 l.n, ⟨op, VR 0, VR 1, VR 2, 0⟩)) := by show _ = _; rw [Hf.out, Hma.out, hcu]
            rw [hcu] at hct
            have Hct := Lib.hid hct
            clear hct hcu
            go_wp2_with fail
            refine Hct.out.mono ?_
            rintro e w6 ⟨rfl, hb6⟩
            have HW6 := Lib.hid (HW.out.free (Kept.of_below hb6))
            have HK6 := Lib.hid (HK.out.trans (Kept.of_below hb6))
            have h06 : w6.cell? ⟨lb, 0, none⟩ = some (.int .i64 (l.n : Nat)) := (HW6.out.ln.cell 0).trans rfl
            clear hb6 h0 h2 h5
            go_wp2_with fail
            refine (fail_any sb L (.map (some mb)) (FR 3) 10 l.n _ HW6.out.src).mono ?_
            rintro e w7 ⟨rfl, hS7, hK7⟩
            have HW7 := Lib.hid (HW6.out.fault AP.out hS7 hK7)
            have HK7 := Lib.hid (HK6.out.trans (hK7.mono (fun _ _ e => .inl e)))
            clear hS7 hK7
            go_wp2_with fail
            first | (refine bodyPost_end (results_none rfl _ _ _) rfl ?_) | (refine bodyPost_ret (results_none rfl _ _ _) rfl ?_)
            exact ⟨rfl, by rw [Hf2.out]; exact HW7.out.src, by rw [Hf2.out]; exact HW7.out.ins, HK7.out⟩
          | some uv =>
            obtain ⟨u, v⟩ := uv
            obtain ⟨hul, hvl⟩ := cutAt_len hcu
            have hlna := Hlna.out
            rw [hcu] at hct
            have Hma2 : Hid (memA (FR 3) ⟨op, VR 0, VR 1, VR 2, 0⟩ a l.n = if v.getLast? = some 41 then ((immA (regA (FR 3) v.dropLast l.n).1 (trimB u) l.n).1, ⟨op, VR 0, (regA (FR 3) v.dropLast l.n).2, VR 2, (immA (regA (FR 3) v.dropLast l.n).1 (trimB u) l.n).2⟩) else (failF (FR 3) 10 l.n, ⟨op, VR 0, VR 1, VR 2, 0⟩)) := by show _ = _; rw [Hma.out, hcu]
            have Hct := Lib.hid hct
            have Hsf := Lib.hid (fun w => suf_any v [41] (by omega) w)
            rw [suf41] at Hsf
            clear hct hcu Hma
            by_cases hv : v.getLast? = some 41
            · have Hf2 : Hid (operandsA labels f op l = ((immA (regA (FR 3) v.dropLast l.n).1 (trimB u) l.n).1, ⟨op, VR 0, (regA (FR 3) v.dropLast l.n).2, VR 2, (immA (regA (FR 3) v.dropLast l.n).1 (trimB u) l.n).2⟩)) := by show _ = _; rw [Hf.out, Hma2.out, if_pos hv]
              rw [decide_eq_true hv] at Hsf
              obtain ⟨n1, hn1⟩ : ∃ n1, v.length = n1 + 1 := ⟨v.length - 1, by
                cases v with
                | nil => cases hv
                | cons c r => simp⟩
              have hwn : IntKind.i64.wrap ((v.length : Int) - 1) = (n1 : Int) := by rw [IntWalk.i64_in _ (by omega)]; omega
              have hn1l : (n1 : Int) ≤ v.length := by omega
              have hex : (⟨v.toArray⟩ : ByteArray).extract 0 n1 = ⟨v.dropLast.toArray⟩ := by
                apply ByteArray.ext
                simp [List.dropLast_eq_take, hn1]
              have hdl : v.dropLast.length ≤ 100000 := by simp; omega
              have Hu : Hid (u.length ≤ 100000) := by show _ ≤ _; omega
              obtain ⟨D, hD⟩ : ∃ D, v.dropLast = D := ⟨_, rfl⟩
              rw [hD] at hex hdl Hf2
              clear hv Hma2 Hf hD hn1 hul hvl hlna
              go_wp2_with fail
              refine Hct.out.mono ?_
              rintro e w6 ⟨rfl, hb6⟩
              have HW6 := Lib.hid (HW.out.free (Kept.of_below hb6))
              have HK6 := Lib.hid (HK.out.trans (Kept.of_below hb6))
              have h06 : w6.cell? ⟨lb, 0, none⟩ = some (.int .i64 (l.n : Nat)) := (HW6.out.ln.cell 0).trans rfl
              clear hb6 h0 h2 h5
              go_wp2_with fail
              refine (Hsf.out _).mono ?_
              rintro e w7 ⟨rfl, rfl⟩
              have HWd6 := Lib.hid HW6.out.drew
              have HSl : Hid (∀ w', Kept (fun b => b = sb ∨ b = xb) w6.drew w' → w'.cell? ⟨lb, 0, none⟩ = some (.int .i64 (l.n : Nat))) := fun w' hk' =>
                ((HWd6.out.ln.below' hk' (fun e => by rcases e with e | e; exact AP.out.sl e.symm; exact AP.out.xl e.symm)).cell 0).trans rfl
              have HXx : Hid (∀ w', Kept (· = sb) w6.drew w' → w'.cell? ⟨xb, 2, none⟩ = some (.int .i64 (VR 1 : Nat)) ∧ w'.frozen? ⟨xb, 2, none⟩ = false) := fun w' hk' => by
                have hx := HWd6.out.ins.below' hk' (fun e => AP.out.sx e.symm)
                exact ⟨(hx.cell 2).trans rfl, hx.free _⟩
              have Hrg := Lib.hid (reg_any sb L (.map (some mb)) (FR 3) D l.n w6.drew HWd6.out.has.has HWd6.out.src)
              go_upto_region 20 with fail
              go_region_held3 (fun w' => w'.cell? ⟨lb, 0, none⟩ = some (.int .i64 (l.n : Nat)))
                (first | exact HSl.out _ (Kept.refl _ _) | exact HSl.out _ (hK8.mono (fun _ _ e => .inl e)) | exact HSl.out _ ((hK8.mono (fun _ _ e => .inl e)).setCell (.inr (.inr rfl)) _))
                ((refine Hrg.out.mono ?_; rintro e w8 ⟨rfl, hS8, hK8⟩; have hx6 := (HXx.out _ hK8).1; have hx7 := (HXx.out _ hK8).2))
              have HW8 := Lib.hid ((HWd6.out.fault AP.out hS8 hK8).ins' AP.out 2 (.int .i64 ((regA (FR 3) D l.n).2 : Nat)))
              have HK8 : Hid (Kept (fun b => b = sb ∨ b = xb) w (w8.setCell ⟨xb, 2, none⟩ (.int .i64 ((regA (FR 3) D l.n).2 : Nat)))) := ((HK6.out.drew).trans (hK8.mono (fun _ _ e => .inl e))).setCell (.inr (.inr rfl)) _
              clear hS8 hK8 hx6 hx7 HSl HXx
              obtain ⟨w9, hw9⟩ : ∃ w9, w9 = w8.setCell ⟨xb, 2, none⟩ (.int .i64 ((regA (FR 3) D l.n).2 : Nat)) := ⟨_, rfl⟩
              rw [← hw9] at HW8 HK8 ⊢
              clear hw9
              obtain ⟨Rg, hRg⟩ : ∃ Rg, regA (FR 3) D l.n = Rg := ⟨_, rfl⟩
              rw [hRg] at HW8 Hf2 ⊢
              clear hRg Hrg
              have HWd8 := Lib.hid HW8.out.drew
              have HSl : Hid (∀ w', Kept (fun b => b = sb ∨ b = xb) w9.drew w' → w'.cell? ⟨lb, 0, none⟩ = some (.int .i64 (l.n : Nat))) := fun w' hk' =>
                ((HWd8.out.ln.below' hk' (fun e => by rcases e with e | e; exact AP.out.sl e.symm; exact AP.out.xl e.symm)).cell 0).trans rfl
              have HXx : Hid (∀ w', Kept (· = sb) w9.drew w' → w'.cell? ⟨xb, 4, none⟩ = some (.int .i32 0) ∧ w'.frozen? ⟨xb, 4, none⟩ = false) := fun w' hk' => by
                have hx := HWd8.out.ins.below' hk' (fun e => AP.out.sx e.symm)
                exact ⟨(hx.cell 4).trans rfl, hx.free _⟩
              have Hbk := Lib.hid (blank_any u (by have := Hu.out; omega) w9.drew)
              have Him : Hid (∀ w', Below w9.drew.heap.size w9.drew w' → Calls Tryz.prog 105 #[.pointer (some ⟨sb, 0, none⟩), S (trimB u), .int .i64 l.n] w' fun e w'' => e = .returned (.int .i32 (immA Rg.1 (trimB u) l.n).2) ∧ Blk w'' sb (srcC L (.map (some mb)) (immA Rg.1 (trimB u) l.n).1) 73 ∧ Kept (· = sb) w' w'') := fun w' hb' =>
                imm_any sb L (.map (some mb)) Rg.1 (trimB u) l.n (Nat.le_trans (trimB_len u) Hu.out) w' ((HWd8.out.free (Kept.of_below hb')).has.has) ((HWd8.out.free (Kept.of_below hb')).src)
              go_wp2_with fail
              go_region_held3 (fun w' => w'.cell? ⟨lb, 0, none⟩ = some (.int .i64 (l.n : Nat)))
                (first | exact HSl.out _ (Kept.refl _ _) | exact HSl.out _ (Kept.of_below hb10) | exact HSl.out _ ((Kept.of_below hb10).trans (hK11.mono (fun _ _ e => .inl e))) | exact HSl.out _ (((Kept.of_below hb10).trans (hK11.mono (fun _ _ e => .inl e))).setCell (.inr (.inr rfl)) _))
                (first | (refine Hbk.out.mono ?_; rintro e w10 ⟨rfl, hb10⟩) | (refine (Him.out _ hb10).mono ?_; rintro e w11 ⟨rfl, hS11, hK11⟩; have hx6 := (HXx.out _ ((Kept.of_below hb10).trans hK11)).1; have hx7 := (HXx.out _ ((Kept.of_below hb10).trans hK11)).2))
              have HWf := Lib.hid (((HWd8.out.free (Kept.of_below hb10)).fault AP.out hS11 hK11).ins' AP.out 4 (.int .i32 (immA Rg.1 (trimB u) l.n).2))
              have HKf : Hid (Kept (fun b => b = sb ∨ b = xb) w (w11.setCell ⟨xb, 4, none⟩ (.int .i32 (immA Rg.1 (trimB u) l.n).2))) := ((HK8.out.drew.trans (Kept.of_below hb10)).trans (hK11.mono (fun _ _ e => .inl e))).setCell (.inr (.inr rfl)) _
              clear hb10 hS11 hK11 hx6 hx7
              go_wp2_with fail
              first | (refine bodyPost_end (results_none rfl _ _ _) rfl ?_) | (refine bodyPost_ret (results_none rfl _ _ _) rfl ?_)
              exact ⟨rfl, by rw [Hf2.out]; exact HWf.out.src, by rw [Hf2.out]; exact HWf.out.ins, HKf.out⟩
            · have Hf2 : Hid (operandsA labels f op l = (failF (FR 3) 10 l.n, ⟨op, VR 0, VR 1, VR 2, 0⟩)) := by show _ = _; rw [Hf.out, Hma2.out, if_neg hv]
              rw [decide_eq_false hv] at Hsf
              clear hv Hma2 Hf
              go_wp2_with fail
              refine Hct.out.mono ?_
              rintro e w6 ⟨rfl, hb6⟩
              have HW6 := Lib.hid (HW.out.free (Kept.of_below hb6))
              have HK6 := Lib.hid (HK.out.trans (Kept.of_below hb6))
              have h06 : w6.cell? ⟨lb, 0, none⟩ = some (.int .i64 (l.n : Nat)) := (HW6.out.ln.cell 0).trans rfl
              clear hb6 h0 h2 h5
              go_wp2_with fail
              refine (Hsf.out _).mono ?_
              rintro e w7 ⟨rfl, rfl⟩
              go_wp2_with fail
              refine (fail_any sb L (.map (some mb)) (FR 3) 10 l.n _ HW6.out.src).mono ?_
              rintro e w7 ⟨rfl, hS7, hK7⟩
              have HW7 := Lib.hid (HW6.out.fault AP.out hS7 hK7)
              have HK7 := Lib.hid (HK6.out.trans (hK7.mono (fun _ _ e => .inl e)))
              clear hS7 hK7
              go_wp2_with fail
              first | (refine bodyPost_end (results_none rfl _ _ _) rfl ?_) | (refine bodyPost_ret (results_none rfl _ _ _) rfl ?_)
              exact ⟨rfl, by rw [Hf2.out]; exact HW7.out.src, by rw [Hf2.out]; exact HW7.out.ins, HK7.out⟩
        · -- form 6
          have Hqv : Hid (q = 3) := Hq.out.symm
          have hqw : IntKind.i64.wrap ((q : Int) - 1) = 2 := by rw [Hqv.out]; decide
          obtain ⟨ab, hab, -⟩ := HAr.out.resolve_left (fun e => by have := Hlen.out; rw [e, Hqv.out] at this; simp at this)
          subst hab
          have hjl : (2 : Int) < l.args.length := by have := Hlen.out; have := Hqv.out; omega
          obtain ⟨a, ha⟩ : ∃ a, l.args.getD 2 [] = a := ⟨_, rfl⟩
          have Hlna : Hid (a.length ≤ 100000) := by
            show _ ≤ _
            refine Hal.out a ?_
            have hlt2 : 2 < l.args.length := by omega
            rw [← ha, List.getD, List.getElem?_eq_getElem hlt2]
            exact List.getElem_mem hlt2
          have HSS : Hid (∀ w', Kept (fun b => b = sb ∨ b = xb) wr.drew w' → (w'.cell? ⟨lb, 0, none⟩ = some (.int .i64 (l.n : Nat)) ∧ w'.cell? ⟨lb, 1, none⟩ = some (S l.word) ∧ w'.cell? ⟨lb, 2, none⟩ = some (.slice (some ⟨ab, 0, none⟩) l.args.length ac) ∧ w'.cell? ⟨lb, 3, none⟩ = some (.int .i64 (l.at_ : Nat)) ∧ w'.cell? ⟨lb, 4, none⟩ = some (.int .i64 (l.len : Nat))) ∧ w'.cell? ⟨ab, 2, none⟩ = some (S a)) := fun w' hk' => by
            have hl := HWd.out.ln.below' hk' (fun e => by rcases e with e | e; exact AP.out.sl e.symm; exact AP.out.xl e.symm)
            obtain ⟨x, c, e, h⟩ := HWd.out.strs
            cases e
            obtain ⟨b', hb', h1, h2, h3⟩ := h.resolve_left (fun e => by rw [e] at hjl; simp at hjl)
            cases hb'
            refine ⟨⟨(hl.cell 0).trans rfl, (hl.cell 1).trans rfl, (hl.cell 2).trans rfl, (hl.cell 3).trans rfl, (hl.cell 4).trans rfl⟩, ?_⟩
            rw [hk'.cellAt h2 (fun e => h1 (by rcases e with e | e; exact .inl e; exact .inr (.inr (.inl e)))), h3 2 (by omega), ha]
          have Hf : Hid (operandsA labels f op l = ((thereA labels (FR 3) a l.n l.at_).1, ⟨op, VR 0, VR 1, VR 2, (thereA labels (FR 3) a l.n l.at_).2⟩)) := by show _ = _; rw [Hoe.out, Hqv.out, ← ha]; rfl
          clear ha
          have HXx : Hid (∀ w', Kept (· = sb) wr.drew w' → w'.cell? ⟨xb, 4, none⟩ = some (.int .i32 0) ∧ w'.frozen? ⟨xb, 4, none⟩ = false) := fun w' hk' => by
            have hx := HWd.out.ins.below' hk' (fun e => AP.out.sx e.symm)
            exact ⟨(hx.cell 4).trans rfl, hx.free _⟩
          have Hcl := Lib.hid (there_any sb mb L labels (FR 3) a l (.slice (some ⟨ab, 0, none⟩) l.args.length ac) Hlna.out hat Hbd.out wr.drew HWd.out.has.has HWd.out.src HWd.out.mp)
          go_upto_region 24 with fail
          go_region_held3 (fun w' => (w'.cell? ⟨lb, 0, none⟩ = some (.int .i64 (l.n : Nat)) ∧ w'.cell? ⟨lb, 1, none⟩ = some (S l.word) ∧ w'.cell? ⟨lb, 2, none⟩ = some (.slice (some ⟨ab, 0, none⟩) l.args.length ac) ∧ w'.cell? ⟨lb, 3, none⟩ = some (.int .i64 (l.at_ : Nat)) ∧ w'.cell? ⟨lb, 4, none⟩ = some (.int .i64 (l.len : Nat))) ∧ w'.cell? ⟨ab, 2, none⟩ = some (S a))
            (first | exact HSS.out _ (Kept.refl _ _) | exact HSS.out _ (hK6.mono (fun _ _ e => .inl e)) | exact HSS.out _ ((hK6.mono (fun _ _ e => .inl e)).setCell (.inr (.inr rfl)) _))
            ((refine Hcl.out.mono ?_; rintro e w6 ⟨rfl, hS6, hK6⟩; have hx6 := (HXx.out _ hK6).1; have hx7 := (HXx.out _ hK6).2))
          have HW6 := Lib.hid ((HWd.out.fault AP.out hS6 hK6).ins' AP.out 4 (.int .i32 (thereA labels (FR 3) a l.n l.at_).2))
          have HK6 : Hid (Kept (fun b => b = sb ∨ b = xb) w (w6.setCell ⟨xb, 4, none⟩ (.int .i32 (thereA labels (FR 3) a l.n l.at_).2))) := (HKd.out.trans (hK6.mono (fun _ _ e => .inl e))).setCell (.inr (.inr rfl)) _
          clear hS6 hK6 hx6 hx7
          go_wp2_with fail
          first | (refine bodyPost_end (results_none rfl _ _ _) rfl ?_) | (refine bodyPost_ret (results_none rfl _ _ _) rfl ?_)
          exact ⟨rfl, by rw [Hf.out]; exact HW6.out.src, by rw [Hf.out]; exact HW6.out.ins, HK6.out⟩
        · -- form 7
          have Hqv : Hid (q = 2) := Hq.out.symm
          have hqw : IntKind.i64.wrap ((q : Int) - 1) = 1 := by rw [Hqv.out]; decide
          obtain ⟨ab, hab, -⟩ := HAr.out.resolve_left (fun e => by have := Hlen.out; rw [e, Hqv.out] at this; simp at this)
          subst hab
          have hjl : (1 : Int) < l.args.length := by have := Hlen.out; have := Hqv.out; omega
          obtain ⟨a, ha⟩ : ∃ a, l.args.getD 1 [] = a := ⟨_, rfl⟩
          have Hlna : Hid (a.length ≤ 100000) := by
            show _ ≤ _
            refine Hal.out a ?_
            have hlt2 : 1 < l.args.length := by omega
            rw [← ha, List.getD, List.getElem?_eq_getElem hlt2]
            exact List.getElem_mem hlt2
          have HSS : Hid (∀ w', Kept (fun b => b = sb ∨ b = xb) wr.drew w' → (w'.cell? ⟨lb, 0, none⟩ = some (.int .i64 (l.n : Nat)) ∧ w'.cell? ⟨lb, 1, none⟩ = some (S l.word) ∧ w'.cell? ⟨lb, 2, none⟩ = some (.slice (some ⟨ab, 0, none⟩) l.args.length ac) ∧ w'.cell? ⟨lb, 3, none⟩ = some (.int .i64 (l.at_ : Nat)) ∧ w'.cell? ⟨lb, 4, none⟩ = some (.int .i64 (l.len : Nat))) ∧ w'.cell? ⟨ab, 1, none⟩ = some (S a)) := fun w' hk' => by
            have hl := HWd.out.ln.below' hk' (fun e => by rcases e with e | e; exact AP.out.sl e.symm; exact AP.out.xl e.symm)
            obtain ⟨x, c, e, h⟩ := HWd.out.strs
            cases e
            obtain ⟨b', hb', h1, h2, h3⟩ := h.resolve_left (fun e => by rw [e] at hjl; simp at hjl)
            cases hb'
            refine ⟨⟨(hl.cell 0).trans rfl, (hl.cell 1).trans rfl, (hl.cell 2).trans rfl, (hl.cell 3).trans rfl, (hl.cell 4).trans rfl⟩, ?_⟩
            rw [hk'.cellAt h2 (fun e => h1 (by rcases e with e | e; exact .inl e; exact .inr (.inr (.inl e)))), h3 1 (by omega), ha]
          have Hf : Hid (operandsA labels f op l = ((thereA labels (FR 3) a l.n l.at_).1, ⟨op, VR 0, VR 1, VR 2, (thereA labels (FR 3) a l.n l.at_).2⟩)) := by show _ = _; rw [Hoe.out, Hqv.out, ← ha]; rfl
          clear ha
          have HXx : Hid (∀ w', Kept (· = sb) wr.drew w' → w'.cell? ⟨xb, 4, none⟩ = some (.int .i32 0) ∧ w'.frozen? ⟨xb, 4, none⟩ = false) := fun w' hk' => by
            have hx := HWd.out.ins.below' hk' (fun e => AP.out.sx e.symm)
            exact ⟨(hx.cell 4).trans rfl, hx.free _⟩
          have Hcl := Lib.hid (there_any sb mb L labels (FR 3) a l (.slice (some ⟨ab, 0, none⟩) l.args.length ac) Hlna.out hat Hbd.out wr.drew HWd.out.has.has HWd.out.src HWd.out.mp)
          go_upto_region 24 with fail
          go_region_held3 (fun w' => (w'.cell? ⟨lb, 0, none⟩ = some (.int .i64 (l.n : Nat)) ∧ w'.cell? ⟨lb, 1, none⟩ = some (S l.word) ∧ w'.cell? ⟨lb, 2, none⟩ = some (.slice (some ⟨ab, 0, none⟩) l.args.length ac) ∧ w'.cell? ⟨lb, 3, none⟩ = some (.int .i64 (l.at_ : Nat)) ∧ w'.cell? ⟨lb, 4, none⟩ = some (.int .i64 (l.len : Nat))) ∧ w'.cell? ⟨ab, 1, none⟩ = some (S a))
            (first | exact HSS.out _ (Kept.refl _ _) | exact HSS.out _ (hK6.mono (fun _ _ e => .inl e)) | exact HSS.out _ ((hK6.mono (fun _ _ e => .inl e)).setCell (.inr (.inr rfl)) _))
            ((refine Hcl.out.mono ?_; rintro e w6 ⟨rfl, hS6, hK6⟩; have hx6 := (HXx.out _ hK6).1; have hx7 := (HXx.out _ hK6).2))
          have HW6 := Lib.hid ((HWd.out.fault AP.out hS6 hK6).ins' AP.out 4 (.int .i32 (thereA labels (FR 3) a l.n l.at_).2))
          have HK6 : Hid (Kept (fun b => b = sb ∨ b = xb) w (w6.setCell ⟨xb, 4, none⟩ (.int .i32 (thereA labels (FR 3) a l.n l.at_).2))) := (HKd.out.trans (hK6.mono (fun _ _ e => .inl e))).setCell (.inr (.inr rfl)) _
          clear hS6 hK6 hx6 hx7
          go_wp2_with fail
          first | (refine bodyPost_end (results_none rfl _ _ _) rfl ?_) | (refine bodyPost_ret (results_none rfl _ _ _) rfl ?_)
          exact ⟨rfl, by rw [Hf.out]; exact HW6.out.src, by rw [Hf.out]; exact HW6.out.ins, HK6.out⟩
        · -- form 8
          have Hf : Hid (operandsA labels f op l = (FR 3, ⟨op, VR 0, VR 1, VR 2, 0⟩)) := by show _ = _; rw [Hoe.out]; rfl
          go_wp2_with fail
          first | (refine bodyPost_end (results_none rfl _ _ _) rfl ?_) | (refine bodyPost_ret (results_none rfl _ _ _) rfl ?_)
          exact ⟨rfl, by rw [Hf.out]; exact HW.out.src, by rw [Hf.out]; exact HW.out.ins, HK.out⟩
  · have hne : ((l.args.length : Int) != (wantA k : Int)) = true := by simp; omega
    have hf : Hid (operandsA labels f op l = (failF f 10 l.n, ⟨op, 0, 0, 0, 0⟩)) := by
      show _ = _
      unfold operandsA
      simp only [Hk.out]
      rw [if_pos hlen]
    clear hlen
    go_wp2_with (refine wpList_index3 rfl rfl (Hiw.out _) ?_)
    refine (fail_any sb L (.map (some mb)) f 10 l.n _ HW1.out.src).mono ?_
    rintro e w3 ⟨rfl, hS3, hK3⟩
    have HW3 := Lib.hid (HW1.out.fault AP.out hS3 hK3)
    have HK3 := Lib.hid ((HK1.out.mono (fun _ _ h => h.elim)).trans (hK3.mono (fun _ _ h => .inl h)) : Kept (fun b => b = sb ∨ b = xb) w w3)
    clear hS3 hK3
    go_wp2_with fail
    exact bodyPost_ret (v := .tuple #[]) (results_none Tryz.results68 _ _ _) rfl ⟨rfl, by rw [hf.out]; exact HW3.out.src, by rw [hf.out]; exact HW3.out.ins, HK3.out⟩
end Go.Proofs.YtjjnidbggoaonaaGreatDoor
