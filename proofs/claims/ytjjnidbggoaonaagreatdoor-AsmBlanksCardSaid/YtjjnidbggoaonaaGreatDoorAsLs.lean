/- The walk of AsmLines. -/
import Derived.Test.YtjjnidbggoaonaaGreatDoorAsFit
import Derived.Test.YtjjnidbggoaonaaGreatDoorAsTx
import Derived.Test.YtjjnidbggoaonaaGreatDoorIsaL
import Derived.Test.YtjjnidbggoaonaaGreatDoorArgs
import Derived.Deep.RegionHeld3
import Derived.Deep.RegionLaw
namespace Go.Proofs.YtjjnidbggoaonaaGreatDoor
open Go.RowKit
attribute [local irreducible] World.setCell World.alloc World.drew Calls Code.wp
attribute [local go_sem] Oper.semAt_some

/-- ASCII bytes alone. -/
def AscL (l : List UInt8) : Prop := ∀ c ∈ l, c.toNat < 128
theorem AscL.append {l m : List UInt8} (h : AscL l) (k : AscL m) : AscL (l ++ m) := fun c hc => (List.mem_append.1 hc).elim (h c) (k c)
theorem ascL_itoa (n : Int) : AscL (Lib.itoa n) := fun c hc => by have := itoa_char n c hc; omega
theorem ascL_rT (n : Int) : AscL (rT n) := fun c hc => by
  unfold rT at hc
  rcases List.mem_cons.1 hc with rfl | h
  · decide
  · exact ascL_itoa n c h
theorem ascL_nm (k : Nat) (h : k < 43) : AscL (nm k) := by
  have : ∀ k, k < 43 → ∀ c ∈ nm k, c.toNat < 128 := by decide +kernel
  exact this k h
theorem ascL_ins (x : Ins) (h : x.right = true) : AscL (insLine x) := by
  obtain ⟨⟨o0, o1⟩, _⟩ := Ins.right_spec h
  have h1 := ascL_nm (x.op.toNat - 1) (by omega)
  have h2 := fun r => ascL_rT r
  have h3 := ascL_itoa x.imm
  have c1 : AscL [32] := by unfold AscL; decide
  have c2 : AscL [44, 32] := by unfold AscL; decide
  have c3 : AscL [40] := by unfold AscL; decide
  have c4 : AscL [41] := by unfold AscL; decide
  unfold insLine
  simp only
  repeat' split
  · exact h1
  · exact (((h1.append c1).append (h2 _)).append c2).append h3
  · exact (((((h1.append c1).append (h2 _)).append c2).append (h2 _)).append c2).append h3
  · exact (((((h1.append c1).append (h2 _)).append c2).append (h2 _)).append c2).append (h2 _)
  · exact (((h1.append c1).append (h2 _)).append c2).append (h2 _)
  · exact ((((((h1.append c1).append (h2 _)).append c2).append h3).append c3).append (h2 _)).append c4
  · exact (h1.append c1).append (h2 _)
/-- An instruction as it is listed: plain, and right. -/
theorem plainA_idem (x : Ins) : plainA (plainA x) = plainA x := by
  obtain ⟨f, hf⟩ : ∃ f, formA x.op.toNat = f := ⟨_, rfl⟩
  have h8 : f ≤ 8 := by rw [← hf]; exact formA_le _
  obtain rfl | rfl | rfl | rfl | rfl | rfl | rfl | rfl | rfl : f = 0 ∨ f = 1 ∨ f = 2 ∨ f = 3 ∨ f = 4 ∨ f = 5 ∨ f = 6 ∨ f = 7 ∨ f = 8 := by omega
  all_goals simp [plainA, hf]
theorem plainA_right (n : Nat) (a b c imm : Int) (h0 : 1 ≤ n) (h1 : n ≤ 43) : (plainA ⟨n, a % 16, b % 16, c % 16, imm⟩).right = true := by
  have ha := Int.emod_nonneg a (by omega : (16 : Int) ≠ 0); have ha2 := Int.emod_lt_of_pos a (by omega : (0 : Int) < 16)
  have hb := Int.emod_nonneg b (by omega : (16 : Int) ≠ 0); have hb2 := Int.emod_lt_of_pos b (by omega : (0 : Int) < 16)
  have hc := Int.emod_nonneg c (by omega : (16 : Int) ≠ 0); have hc2 := Int.emod_lt_of_pos c (by omega : (0 : Int) < 16)
  unfold plainA
  simp only
  repeat' split
  all_goals
    simp only [Ins.right, regB, Bool.and_eq_true, decide_eq_true_eq]
    omega
theorem plainA_imm (x : Ins) (i0 : -2147483648 ≤ x.imm) (i1 : x.imm ≤ 2147483647) : -2147483648 ≤ (plainA x).imm ∧ (plainA x).imm ≤ 2147483647 := by
  unfold plainA
  simp only
  repeat' split
  all_goals (simp only; omega)
theorem ins_asm (y : Ins) (hr : y.right = true) (hp : plainA y = y) (i0 : -2147483648 ≤ y.imm) (i1 : y.imm ≤ 2147483647) : assemble (insLine y) = (y.enc, 0, 0) := by
  obtain ⟨e1, e2, e3, e4⟩ := insLine_ends y hr
  have hb : bare (insLine y) = insLine y := by
    have := bare_line (m := insLine y) (pre := []) (suf := []) (com := []) e1 e3 e4 rfl rfl (.inl rfl)
    simpa using this
  have hl := insLine_len y hr i0 i1
  have := assemble_makes (text := insLine y) (ts := [insLine y]) (bs := [y.enc]) (partsAt_none e2) (by omega) (by simp) rfl (fun i t b ht hb2 => by
    cases i with
    | zero => simp at ht hb2; subst ht hb2; exact makes_ins y hr i0 i1 hp _ hb
    | succ i => simp at ht) (by simp [Ins.enc])
  simpa using this
theorem decB_encL (X : Ins) (h0 : -2147483648 ≤ X.imm) (h1 : X.imm ≤ 2147483647) : decB (fun j => X.enc.getD j 0) = X := by
  have e : numB (fun j => X.enc.getD j 0) = uns X.imm := by
    show (uns X.imm / 16777216) * 16777216 + (uns X.imm / 65536 % 256) * 65536 + (uns X.imm / 256 % 256) * 256 + uns X.imm % 256 = uns X.imm
    have : 0 ≤ uns X.imm ∧ uns X.imm < 4294967296 := by unfold uns; omega
    omega
  unfold decB
  rw [e]
  have : sgn (uns X.imm) = X.imm := by unfold sgn uns; split <;> omega
  rw [this]
  rfl
theorem enc_bytesL (X : Ins) (hr : X.right = true) (j : Nat) : 0 ≤ X.enc.getD j 0 ∧ X.enc.getD j 0 ≤ 255 := by
  obtain ⟨⟨o0, o1⟩, ⟨a0, a1⟩, ⟨b0, b1⟩, c0, c1⟩ := Ins.right_spec hr
  have hu : 0 ≤ uns X.imm ∧ uns X.imm < 4294967296 := by unfold uns; omega
  rcases j with _ | _ | _ | _ | _ | _ | _ | _ | j <;> simp [Ins.enc, List.getD] <;> omega
theorem line_enc (y : Ins) (hr : y.right = true) (hp : plainA y = y) (i0 : -2147483648 ≤ y.imm) (i1 : y.imm ≤ 2147483647) : lineOf (fun j => y.enc.getD j 0) = insLine y := by
  have e := decB_encL y i0 i1
  unfold lineOf
  rw [e, if_pos ⟨hr, isPlain_iff.2 hp⟩]

theorem step_callG {P : Program} {ops : Array Oper} {o : Oper} {a : Act} {w : World} {K : Act → World → Prop} {Q : Exit → Act → World → Prop} {E : Prop} {f : FuncId} {args : Array Value} {R : Value → World → Prop} (hw : Region.wanted o (yielded ops a.tmps) = true) (hr : (execOp a.eval o).run P w = .ok (.enter f args) w)
    (hc : Calls P f args w fun e w' => ∃ v, e = .returned v ∧ R v w') (hk : ∀ v w', R v w' → K (a.put o.dst v) w') : if Region.wanted o (yielded ops a.tmps) = true then Oper.wp P o a w K Q else E := by
  rw [if_pos hw]
  simp only [Oper.wp, hr, Oper.upon]
  refine hc.mono ?_
  rintro e w' ⟨v, rfl, h⟩
  exact hk v w' h
set_option maxRecDepth 100000 in
set_option maxHeartbeats 8000000 in
theorem lines_walk (op a b c imm : Int) (_ : -9223372036854775808 ≤ op) (_ : op ≤ 9223372036854775807) (i0 : -2147483648 ≤ imm) (i1 : imm ≤ 2147483647) (w : World) (h : HasAz w) :
    Calls Tryz.prog 3 #[.agg #[.int .i64 op, .int .i64 a, .int .i64 b, .int .i64 c, .int .i32 imm]] w fun e w' => e = .returned (.bool true) ∧ Below w.heap.size w w' := by
  have H := Lib.hid h
  clear h
  have hbd := tmod_bd op 43 (by omega)
  have m1 : IntKind.i64.wrap (op.tmod 43 + 43) = op.tmod 43 + 43 := IntWalk.i64_in _ (by omega)
  obtain ⟨r, hr⟩ : ∃ r : Nat, (op.tmod 43 + 43).tmod 43 = (r : Int) := ⟨((op.tmod 43 + 43).tmod 43).toNat, by
    have := Int.tmod_nonneg (a := op.tmod 43 + 43) 43 (by omega); omega⟩
  have hr43 : r < 43 := by have := tmod_bd (op.tmod 43 + 43) 43 (by omega); omega
  obtain ⟨n, hn⟩ : ∃ n, r + 1 = n := ⟨_, rfl⟩
  have m2 : IntKind.i64.wrap ((r : Int) + 1) = (n : Int) := by rw [show (r : Int) + 1 = n by omega]; exact IntWalk.i64_in _ (by omega)
  have hn0 : 1 ≤ n := by omega
  have hn1 : n ≤ 43 := by omega
  clear hbd hn hr43
  have Htx := fun w h => text24_any n a b c imm hn0 hn1 i0 i1 w h
  have hYr := plainA_right n a b c imm hn0 hn1
  have hYp := plainA_idem ⟨n, a % 16, b % 16, c % 16, imm⟩
  have hYi := plainA_imm ⟨n, a % 16, b % 16, c % 16, imm⟩ i0 i1
  obtain ⟨⟨yo, ya, yb, yc, yi⟩, hY⟩ : ∃ Y, plainA ⟨n, a % 16, b % 16, c % 16, imm⟩ = Y := ⟨_, rfl⟩
  rw [hY] at Htx hYr hYp hYi
  obtain ⟨j0, j1⟩ := hYi
  have hasm := ins_asm _ hYr hYp j0 j1
  have hll := insLine_len _ hYr j0 j1
  have Hasm := Lib.hid (fun w h => asm_ascii (insLine ⟨yo, ya, yb, yc, yi⟩) (by omega) (ascL_ins _ hYr) w h)
  have Henc := Lib.hid (fun w => enc_any yo ya yb yc yi w hYr ⟨j0, j1⟩)
  have Hlin := Lib.hid (fun (p o cc : Nat) (w' : World) (h : HasAz w') (hc : ∀ j, j < 8 → w'.cell? ⟨p, o + j, none⟩ = some (.int .u8 ((Ins.enc ⟨yo, ya, yb, yc, yi⟩).getD j 0))) (h8 : 8 ≤ cc) (hm : cc ≤ maxLen) => line_any p o cc (fun j => (Ins.enc ⟨yo, ya, yb, yc, yi⟩).getD j 0) (enc_bytesL _ hYr) w' h.base h.tz hc h8 hm)
  rw [line_enc _ hYr hYp j0 j1] at Hlin
  have Htx := Lib.hid Htx
  obtain ⟨E, hE⟩ : ∃ E, Ins.enc ⟨yo, ya, yb, yc, yi⟩ = E := ⟨_, rfl⟩
  have lE : E.length = 8 := by rw [← hE]; rfl
  rw [hE] at Henc Hlin hasm
  obtain ⟨T, hT⟩ : ∃ T, insLine ⟨yo, ya, yb, yc, yi⟩ = T := ⟨_, rfl⟩
  rw [hT] at Hlin Hasm hasm
  have Hal := Lib.hid hasm
  have HT := Lib.hid hT
  clear hY hYr hYp hE hT hasm hll
  obtain ⟨xb, hxb⟩ : ∃ xb, xb = w.heap.size := ⟨_, rfl⟩
  obtain ⟨w0, hw0⟩ : ∃ w0 : World, w0 = w.alloc (.cells #[.int .i64 op, .int .i64 a, .int .i64 b, .int .i64 c, .int .i32 imm] 23) := ⟨_, rfl⟩
  have HX0 : Hid (Blk w0 xb #[.int .i64 op, .int .i64 a, .int .i64 b, .int .i64 c, .int .i32 imm] 23) := by rw [hw0, hxb]; exact Blk.new _ _ _
  have HB0 : Hid (Below w.heap.size w w0) := by rw [hw0]; exact (Below.refl _ w).alloc (Nat.le_refl _) _
  have Hfit := Lib.hid (fit24_any w0 (H.out.below HB0.out))
  have Hxb : Hid (xb = w.heap.size) := hxb
  go_enter Tryz.func3, Tryz.ntmps3
  go_wp2_with fail
  rw [← hw0, ← hxb]
  clear hw0 hxb
  refine Hfit.out.mono ?_
  rintro e w1 ⟨rfl, hb1⟩
  have HX1 := Lib.hid (HX0.out.below hb1 HX0.out.lt)
  have HB1 := Lib.hid (bel_from HB0.out hb1)
  have hx1 := HX1.out.cell
  have hf1 := HX1.out.free
  clear hb1
  go_wp2_with fail
  have HX2 : Hid (Blk (w1.setCell ⟨xb, 0, none⟩ (.int .i64 n)) xb #[.int .i64 n, .int .i64 a, .int .i64 b, .int .i64 c, .int .i32 imm] 23) := (HX1.out.set 0 (.int .i64 n)).cells rfl
  have HB2 : Hid (Below w.heap.size w (w1.setCell ⟨xb, 0, none⟩ (.int .i64 n))) := HB1.out.setCell (p := ⟨xb, 0, none⟩) (by rw [← Hxb.out]; exact Nat.le_refl _) _
  refine (Htx.out _ (H.out.below HB2.out).base).mono ?_
  rintro e w3 ⟨rfl, hb3⟩
  rw [HT.out, show Ins.v ⟨yo, ya, yb, yc, yi⟩ = .agg #[.int .i64 yo, .int .i64 ya, .int .i64 yb, .int .i64 yc, .int .i32 yi] from rfl]
  have HB3 : Hid (Below w.heap.size w w3) := bel_from HB2.out hb3
  clear hb3 hx1 hf1
  obtain ⟨zb, hzb⟩ : ∃ zb, zb = w3.heap.size := ⟨_, rfl⟩
  obtain ⟨w4, hw4⟩ : ∃ w4 : World, w4 = w3.alloc (.cells #[.int .i64 yo, .int .i64 ya, .int .i64 yb, .int .i64 yc, .int .i32 yi] 23) := ⟨_, rfl⟩
  have HY4 : Hid (Blk w4 zb #[.int .i64 yo, .int .i64 ya, .int .i64 yb, .int .i64 yc, .int .i32 yi] 23) := by rw [hw4, hzb]; exact Blk.new _ _ _
  have HB4 : Hid (Below w.heap.size w w4) := by rw [hw4]; exact HB3.out.alloc HB3.out.size _
  go_wp2_with fail
  rw [← hw4, ← hzb]
  clear hw4 hzb
  refine (Hasm.out _ (H.out.below HB4.out).base).mono ?_
  rintro e w5 ⟨v, rfl, hv, hb5⟩
  rw [Hal.out] at hv ⊢
  have hv : StrIn w5 v E := hv
  have HY5 := Lib.hid (HY4.out.below hb5 HY4.out.lt)
  have HB5 : Hid (Below w.heap.size w w5) := bel_from HB4.out hb5
  clear hb5
  obtain ⟨fb, hfb⟩ : ∃ fb, fb = w5.heap.size := ⟨_, rfl⟩
  obtain ⟨w6, hw6⟩ : ∃ w6 : World, w6 = w5.alloc (.cells #[.int .i64 0, .int .i64 0] 30) := ⟨_, rfl⟩
  have HF6 : Hid (Blk w6 fb #[.int .i64 0, .int .i64 0] 30) := by rw [hw6, hfb]; exact Blk.new _ _ _
  have HY6 : Hid (Blk w6 zb #[.int .i64 yo, .int .i64 ya, .int .i64 yb, .int .i64 yc, .int .i32 yi] 23) := by rw [hw6]; exact HY5.out.alloc _
  have HB6 : Hid (Below w.heap.size w w6) := by rw [hw6]; exact HB5.out.alloc HB5.out.size _
  have HV6 : Hid (StrIn w6 v E) := by rw [hw6]; exact hv.below ((Below.refl _ _).alloc (Nat.le_refl _) _) (Nat.le_refl _)
  clear hv
  obtain ⟨vx, vc, rfl, ⟨hc1, hc2⟩, h0 | ⟨p, o, rfl, hpl, hcell⟩⟩ := HV6.out
  · exfalso; rw [h0] at lE; simp at lE
  rw [lE] at hc1 hcell HV6 ⊢
  have HC6 : Hid (∀ w', Below w6.heap.size w6 w' → ∀ j, j < 8 → w'.cell? ⟨p, o + j, none⟩ = some (.int .u8 (E.getD j 0))) := fun w' hb j hj => by
    rw [hb.cell (p := ⟨p, o + j, none⟩) hpl]; exact hcell j hj
  have HLn : Hid (∀ w', Below w6.heap.size w6 w' → Calls Tryz.prog 17 #[.slice (some ⟨p, o, none⟩) 8 vc] w' fun e w2 => e = .returned (S T) ∧ Below w'.heap.size w' w2) := fun w' hb =>
    Hlin.out p o vc w' (H.out.below (bel_from HB6.out hb)) (HC6.out w' hb) hc1 hc2
  clear hcell hc1 hc2
  go_wp2_with fail
  rw [← hw6, ← hfb]
  clear hw6 hfb
  have HSS : Hid (∀ w', Below w6.heap.size w6 w' → w'.cell? ⟨fb, 0, none⟩ = some (.int .i64 0) ∧ (w'.cell? ⟨zb, 0, none⟩ = some (.int .i64 yo) ∧ w'.cell? ⟨zb, 1, none⟩ = some (.int .i64 ya) ∧ w'.cell? ⟨zb, 2, none⟩ = some (.int .i64 yb) ∧ w'.cell? ⟨zb, 3, none⟩ = some (.int .i64 yc) ∧ w'.cell? ⟨zb, 4, none⟩ = some (.int .i32 yi)) ∧ (convert 27 9 (.slice (some ⟨p, o, none⟩) 8 vc)).run Tryz.prog w' = .ok (.string (bs E)) w') := fun w' hb => by
    have h1 := HF6.out.below hb HF6.out.lt
    have h2 := HY6.out.below hb HY6.out.lt
    exact ⟨h1.cell 0, ⟨h2.cell 0, h2.cell 1, h2.cell 2, h2.cell 3, h2.cell 4⟩, (HV6.out.below hb (Nat.le_refl _)).str⟩
  have Hdr : Hid (Below w6.heap.size w6 w6.drew) := (Below.refl _ w6).drew
  have Henc2 : Hid (∀ w, Calls Tryz.prog 16 #[.agg #[.int .i64 yo, .int .i64 ya, .int .i64 yb, .int .i64 yc, .int .i32 yi]] w fun e w' => ∃ v, e = .returned v ∧ ∃ vx2 vc2, v = .slice vx2 8 vc2 ∧ (convert 27 9 (.slice vx2 8 vc2)).run Tryz.prog w' = .ok (.string (bs E)) w' ∧ Below w.heap.size w w') := fun w => (Henc.out w).mono fun e w' ⟨v, h1, h2, h3⟩ => ⟨v, h1, by
    have h4 := h2.str
    obtain ⟨vx2, vc2, rfl, -, -⟩ := h2
    rw [lE] at h4 ⊢
    exact ⟨vx2, vc2, rfl, h4, h3⟩⟩
  have HLn2 : Hid (∀ w', Below w6.heap.size w6 w' → Calls Tryz.prog 17 #[.slice (some ⟨p, o, none⟩) 8 vc] w' fun e w2 => ∃ v, e = .returned v ∧ (v = S T ∧ Below w'.heap.size w' w2)) := fun w' hb => (HLn.out w' hb).mono fun e w2 ⟨h1, h2⟩ => ⟨_, h1, rfl, h2⟩
  have hr0 := HSS.out _ (Below.refl _ w6)
  obtain ⟨hr1, ⟨hr2, hr3, hr4, hr5, hr6⟩, hr7⟩ := hr0
  obtain ⟨-, -, hr8⟩ := HSS.out _ Hdr.out
  go_region_law (first
    | (refine step_callG (by rfl) (ex_call (vs := #[.agg #[.int .i64 yo, .int .i64 ya, .int .i64 yb, .int .i64 yc, .int .i32 yi]]) (by simp [Act.eval]) (enters_fn Tryz.func16 (by kernel_rfl) rfl)) (Henc2.out _) ?_; rintro v w7 ⟨vx2, vc2, rfl, hcv7, hb7⟩; have hd7 := bel_from Hdr.out hb7; obtain ⟨-, -, hr9⟩ := HSS.out _ hd7)
    | (refine step_callG (by rfl) (ex_call (vs := #[.slice (some ⟨p, o, none⟩) 8 vc]) (by simp [Act.eval, Act.put]) (enters_fn Tryz.func17 (by kernel_rfl) rfl)) (HLn2.out _ hd7) ?_; rintro v w8 ⟨rfl, hb8⟩))
  all_goals
    have HBl : Hid (Below w.heap.size w w8) := bel_from HB6.out (bel_from hd7 hb8)
    clear hb7 hb8 hd7 hcv7 hr9
    go_wp2_with fail
    go_ret
    exact ⟨rfl, HBl.out⟩
theorem lines_law (v : Value) (W : World) (hv : ∃ x : Ins, v = x.v ∧ x.wf) (h : HasAz W) :
    Calls Tryz.prog 3 #[v] W fun e w' => e = .returned (.bool true) ∧ Below W.heap.size W w' := by
  obtain ⟨⟨op, a, b, c, imm⟩, rfl, ⟨w0, -, -, -⟩, i0, i1⟩ := hv
  have hop := wf_i64 w0
  exact lines_walk op a b c imm hop.1 hop.2 i0 i1 W h
end Go.Proofs.YtjjnidbggoaonaaGreatDoor
