/- The walk of AsmBlanks. -/
import Derived.Test.YtjjnidbggoaonaaGreatDoorAsBp
import Derived.Deep.LoopGhost
namespace Go.Proofs.YtjjnidbggoaonaaGreatDoor
open Go.RowKit Go.ChangeShapes Go.WideShapes Go.Deep
attribute [local irreducible] World.setCell World.alloc World.drew Calls Code.wp
attribute [local go_sem] Oper.semAt_some

/-- Instructions that came in, one behind the other. -/
def InsIn (w : World) (a : Option Addr) (len cap : Nat) (X : Nat → Ins) : Prop :=
  ∃ b off, IdxAt Tryz.prog 39 5 a len cap b off ∧ (0 < len → b < w.heap.size) ∧ len ≤ maxLen ∧
    ∀ j, j < len → (w.cell? ⟨b, off + j * 5, none⟩ = some (.int .i64 (X j).op) ∧ w.cell? ⟨b, off + j * 5 + 1, none⟩ = some (.int .i64 (X j).a) ∧ w.cell? ⟨b, off + j * 5 + 2, none⟩ = some (.int .i64 (X j).b) ∧
      w.cell? ⟨b, off + j * 5 + 3, none⟩ = some (.int .i64 (X j).c) ∧ w.cell? ⟨b, off + j * 5 + 4, none⟩ = some (.int .i32 (X j).imm)) ∧ (X j).wf
set_option maxRecDepth 100000 in
theorem ins_cells {H : Type} {enc : TypeId × Value → H} {w : World} {cs : List Value} {m : Nat} {y : DataW H × List MemPlace} (hl : cs.length = 5)
    (h : DataW.trod enc Tryz.prog w 0 (fun _ => true) true m 23 cs = some y) :
    ∃ x : Ins, cs = [.int .i64 x.op, .int .i64 x.a, .int .i64 x.b, .int .i64 x.c, .int .i32 x.imm] ∧ x.wf := by
  obtain ⟨n, hf⟩ := struct_cells Tryz.underlying23 (by kernel_rfl) h (hl.trans rfl)
  obtain ⟨c0, y0, e0, g0⟩ := hf 0 _ rfl
  obtain ⟨c1, y1, e1, g1⟩ := hf 1 _ rfl
  obtain ⟨c2, y2, e2, g2⟩ := hf 2 _ rfl
  obtain ⟨c3, y3, e3, g3⟩ := hf 3 _ rfl
  obtain ⟨c4, y4, e4, g4⟩ := hf 4 _ rfl
  match cs, hl with
  | [d0, d1, d2, d3, d4], _ =>
    simp only [List.getElem?_cons_zero, List.getElem?_cons_succ, Option.some.injEq] at e0 e1 e2 e3 e4
    subst e0 e1 e2 e3 e4
    obtain ⟨n0, q0, _, w0⟩ := DataW.trod_int Tryz.underlying3 (show DataW.trod enc Tryz.prog w 0 _ true n 3 [d0] = some y0 from g0)
    obtain ⟨n1, q1, _, w1⟩ := DataW.trod_int Tryz.underlying3 (show DataW.trod enc Tryz.prog w 0 _ true n 3 [d1] = some y1 from g1)
    obtain ⟨n2, q2, _, w2⟩ := DataW.trod_int Tryz.underlying3 (show DataW.trod enc Tryz.prog w 0 _ true n 3 [d2] = some y2 from g2)
    obtain ⟨n3, q3, _, w3⟩ := DataW.trod_int Tryz.underlying3 (show DataW.trod enc Tryz.prog w 0 _ true n 3 [d3] = some y3 from g3)
    obtain ⟨n4, q4, _, w4⟩ := DataW.trod_int Tryz.underlying21 (show DataW.trod enc Tryz.prog w 0 _ true n 21 [d4] = some y4 from g4)
    simp only [List.cons.injEq, and_true] at q0 q1 q2 q3 q4
    subst q0 q1 q2 q3 q4
    exact ⟨⟨n0, n1, n2, n3, n4⟩, rfl, ⟨w0, w1, w2, w3⟩, wf_i32 w4⟩
instance : Inhabited Ins := ⟨⟨0, 0, 0, 0, 0⟩⟩
theorem inss_in {H : Type} {enc : TypeId × Value → H} {w : World} {a : Option Addr} {len cap : Nat} {d : DataW H} {p : List MemPlace}
    (h : DataW.Trod enc Tryz.prog w 0 (fun _ => true) true 39 (.slice a len cap) d p) : ∃ X, InsIn w a len cap X := by
  obtain ⟨b, off, hix, hlt, hl, hm, hel⟩ := slice_open (n := 5) Tryz.underlying39 (by kernel_rfl) (by omega) (fun w => by kernel_rfl) h
  obtain ⟨X, hX⟩ := Go.Deep.choose_lt (α := Ins) (p := fun j x => (w.cell? ⟨b, off + j * 5, none⟩ = some (.int .i64 x.op) ∧ w.cell? ⟨b, off + j * 5 + 1, none⟩ = some (.int .i64 x.a) ∧ w.cell? ⟨b, off + j * 5 + 2, none⟩ = some (.int .i64 x.b) ∧
      w.cell? ⟨b, off + j * 5 + 3, none⟩ = some (.int .i64 x.c) ∧ w.cell? ⟨b, off + j * 5 + 4, none⟩ = some (.int .i32 x.imm)) ∧ x.wf) (n := len) (fun j hj => by
    obtain ⟨cs, hcl, hc, m, y, ht⟩ := hel j hj
    obtain ⟨x, rfl, hw⟩ := ins_cells hcl ht
    exact ⟨x, ⟨hc 0 (by omega), hc 1 (by omega), hc 2 (by omega), hc 3 (by omega), hc 4 (by omega)⟩, hw⟩)
  exact ⟨X, b, off, hix, hlt, by omega, hX⟩

/-- Which operation a number stands for. -/
def opN (op : Int) : Nat := ((op.tmod 43 + 43).tmod 43).toNat + 1
theorem opN_spec (op : Int) : ∃ r : Nat, (op.tmod 43 + 43).tmod 43 = (r : Int) ∧ IntKind.i64.wrap (op.tmod 43 + 43) = op.tmod 43 + 43 ∧ IntKind.i64.wrap ((r : Int) + 1) = (opN op : Int) ∧ 1 ≤ opN op ∧ opN op ≤ 43 := by
  have hbd := tmod_bd op 43 (by omega)
  have h0 := Int.tmod_nonneg (a := op.tmod 43 + 43) 43 (by omega)
  have h1 := tmod_bd (op.tmod 43 + 43) 43 (by omega)
  refine ⟨((op.tmod 43 + 43).tmod 43).toNat, by omega, IntWalk.i64_in _ (by omega), ?_, by unfold opN; omega, by unfold opN; omega⟩
  unfold opN
  rw [show (((op.tmod 43 + 43).tmod 43).toNat : Int) + 1 = ((((op.tmod 43 + 43).tmod 43).toNat + 1 : Nat) : Int) by omega]
  exact IntWalk.i64_in _ (by omega)
/-- The listed instruction of one that came in. -/
def listedOf (x : Ins) : Ins := plainA ⟨opN x.op, x.a % 16, x.b % 16, x.c % 16, x.imm⟩
theorem listedOf_ok (x : Ins) (h : x.wf) : (listedOf x).listed := by
  obtain ⟨r, _, _, _, h0, h1⟩ := opN_spec x.op
  have hi := plainA_imm ⟨opN x.op, x.a % 16, x.b % 16, x.c % 16, x.imm⟩ h.2.1 h.2.2
  exact ⟨plainA_right _ _ _ _ _ h0 h1, plainA_idem _, hi.1, hi.2⟩
theorem pre_at (q : Nat) (h : q < 4) : ([.string ⟨#[]⟩, .string ⟨#[32]⟩, .string ⟨#[9]⟩, .string ⟨#[32, 32]⟩] : List Value)[q]? = some (S (preB q)) := by
  obtain rfl | rfl | rfl | rfl : q = 0 ∨ q = 1 ∨ q = 2 ∨ q = 3 := by omega
  all_goals rfl
theorem suf_at (q : Nat) (h : q < 4) : ([.string ⟨#[]⟩, .string ⟨#[32, 35, 32, 114, 49, 44, 32, 58]⟩, .string ⟨#[9, 35]⟩, .string ⟨#[10, 10]⟩] : List Value)[q]? = some (S (sufB q)) := by
  obtain rfl | rfl | rfl | rfl : q = 0 ∨ q = 1 ∨ q = 2 ∨ q = 3 := by omega
  all_goals rfl
theorem pre_atG (q : Nat) (h : q < 4) : ∀ h', ([.string ⟨#[]⟩, .string ⟨#[32]⟩, .string ⟨#[9]⟩, .string ⟨#[32, 32]⟩] : List Value)[q]'h' = S (preB q) := fun _ => (List.getElem?_eq_some_iff.1 (pre_at q h)).2
theorem suf_atG (q : Nat) (h : q < 4) : ∀ h', ([.string ⟨#[]⟩, .string ⟨#[32, 35, 32, 114, 49, 44, 32, 58]⟩, .string ⟨#[9, 35]⟩, .string ⟨#[10, 10]⟩] : List Value)[q]'h' = S (sufB q) := fun _ => (List.getElem?_eq_some_iff.1 (suf_at q h)).2
/-- How the line is written. -/
def howK (len : Nat) (xs : Nat → Int) (i : Nat) : Nat := if i < len then (xs i % 16).toNat else 0
theorem howK_lt (len : Nat) (xs : Nat → Int) (i : Nat) : howK len xs i < 16 := by unfold howK; split <;> omega

set_option maxRecDepth 100000 in
set_option maxHeartbeats 8000000 in
theorem blanks_walk (a0 : Option Addr) (len0 cap0 : Nat) (a1 : Option Addr) (len1 cap1 : Nat) (z : List Int) (X : Nat → Ins) (w : World) (hX : InsIn w a0 len0 cap0 X) (hz : IsRow .i64 w a1 len1 cap1 z) (h : HasAz w) :
    Calls Tryz.prog 5 #[.slice a0 len0 cap0, .slice a1 len1 cap1] w fun e w' => e = .returned (.bool true) ∧ Below w.heap.size w w' := by
  have H := Lib.hid h
  have Hfit := Lib.hid (fit24_any w h)
  clear h
  obtain ⟨b, off, hix, hblt, hmax, hcl⟩ := hX
  obtain ⟨b2, off2, xs, hix2, hcell2, hblt2, hmax2, -⟩ := row_open (P := Tryz.prog) (T := 40) Tryz.underlying40 (fun w => by kernel_rfl) hz
  clear hz
  have HC := Lib.hid (fun (w' : World) (hb : Below w.heap.size w w') (j : Nat) (hj : j < len0) => (show w'.cell? ⟨b, off + j * 5, none⟩ = some (.int .i64 (X j).op) ∧ w'.cell? ⟨b, off + j * 5 + 1, none⟩ = some (.int .i64 (X j).a) ∧ w'.cell? ⟨b, off + j * 5 + 2, none⟩ = some (.int .i64 (X j).b) ∧
      w'.cell? ⟨b, off + j * 5 + 3, none⟩ = some (.int .i64 (X j).c) ∧ w'.cell? ⟨b, off + j * 5 + 4, none⟩ = some (.int .i32 (X j).imm) by
    have hp := hblt (by omega)
    obtain ⟨⟨e0, e1, e2, e3, e4⟩, _⟩ := hcl j hj
    rw [hb.cell (p := ⟨b, off + j * 5, none⟩) hp, hb.cell (p := ⟨b, off + j * 5 + 1, none⟩) hp, hb.cell (p := ⟨b, off + j * 5 + 2, none⟩) hp, hb.cell (p := ⟨b, off + j * 5 + 3, none⟩) hp, hb.cell (p := ⟨b, off + j * 5 + 4, none⟩) hp]
    exact ⟨e0, e1, e2, e3, e4⟩))
  have HW := Lib.hid (fun (j : Nat) (hj : j < len0) => (hcl j hj).2)
  have HC2 := Lib.hid (fun (w' : World) (hb : Below w.heap.size w w') (j : Nat) (hj : j < len1) => (show w'.cell? ⟨b2, off2 + j, none⟩ = some (.int .i64 (xs j)) by
    rw [hb.cell (p := ⟨b2, off2 + j, none⟩) (hblt2 (by omega))]; exact hcell2 j hj))
  have HIX := Lib.hid hix; have HIX2 := Lib.hid hix2
  clear hcl hcell2 hblt hblt2 hix hix2
  unfold maxLen at hmax hmax2
  by_cases h40 : 40 < len0
  · have h40' : (40 : Int) < len0 := by omega
    go_enter Tryz.func5, Tryz.ntmps5
    go_wp2_with fail
    refine Hfit.out.mono ?_
    rintro e w1 ⟨rfl, hb1⟩
    have HB1 := Lib.hid hb1
    clear hb1
    go_wp2_with fail
    go_ret
    exact ⟨rfl, HB1.out⟩
  have h40' : ¬ (40 : Int) < len0 := by omega
  obtain ⟨Y, hY⟩ : ∃ Y : Nat → Ins, Y = fun i => listedOf (X i) := ⟨_, rfl⟩
  obtain ⟨K, hK⟩ : ∃ K : Nat → Nat, K = howK len1 xs := ⟨_, rfl⟩
  have HYl : Hid (∀ i, i < len0 → (Y i).listed) := fun i hi => by rw [hY]; exact listedOf_ok _ (HW.out i hi)
  have HKl : Hid (∀ i, K i < 16) := fun i => by rw [hK]; exact howK_lt _ _ _
  have HY := Lib.hid hY; have HK := Lib.hid hK
  clear hY hK
  go_enter Tryz.func5, Tryz.ntmps5
  go_wp2_with fail
  refine Hfit.out.mono ?_
  rintro e w1 ⟨rfl, hb1⟩
  have HB1 := Lib.hid hb1
  clear hb1
  go_wp2_with fail
  go_loopg [5, 6, 7, 8, 9, 10, 11, 23] len0 (fun g vs vt _ _ _ _ _ vi wx => ∃ i : Nat, i + g = len0 ∧ vs = S (textS Y i) ∧ vt = S (textT Y K i) ∧ vi = .int .i64 i ∧ Below w.heap.size w wx)
  case atStart => exact ⟨0, by omega, rfl, rfl, rfl, HB1.out⟩
  case round =>
    obtain ⟨i, hi, rfl, rfl, rfl, hbr⟩ := hrel
    have HBr := Lib.hid hbr
    clear hbr
    have HlS := Lib.hid (fun (hle : i ≤ len0) => textS_len Y i (fun j hj => HYl.out j (by omega)))
    have HlT := Lib.hid (fun (hle : i ≤ len0) => textT_len Y K i (fun j hj => HYl.out j (by omega)))
    have lS := HlS.out (by omega)
    have lT := HlT.out (by omega)
    by_cases hin : i < len0
    · have hin' : (i : Int) < len0 := by omega
      have HsS := Lib.hid (textS_succ Y i)
      have HsT := Lib.hid (textT_succ Y K i)
      obtain ⟨TS, hTS⟩ : ∃ TS, textS Y i = TS := ⟨_, rfl⟩
      obtain ⟨TT, hTT⟩ : ∃ TT, textT Y K i = TT := ⟨_, rfl⟩
      rw [hTS] at lS HsS ⊢
      rw [hTT] at lT HsT ⊢
      clear hTS hTT HlS HlT
      have hyl := HYl.out i hin
      have lA := insLine_len (Y i) hyl.right hyl.i0 hyl.i1
      have hYi : Y i = listedOf (X i) := by rw [HY.out]
      obtain ⟨q0, q1, q2, q3, q4⟩ := HC.out _ HBr.out i hin
      obtain ⟨-, hi0, hi1⟩ := HW.out i hin
      obtain ⟨r, hr, m1, m2, n0, n1⟩ := opN_spec (X i).op
      have hixi := fun w => HIX.out i hin w
      unfold listedOf at hYi
      obtain ⟨⟨xo, xa, xbb, xc, xi⟩, hXi⟩ : ∃ x, X i = x := ⟨_, rfl⟩
      rw [hXi] at hYi q0 q1 q2 q3 q4 hi0 hi1 hr m1 m2 n0 n1
      simp only at hYi q0 q1 q2 q3 q4 hi0 hi1 hr m1 m2 n0 n1
      have Htx := Lib.hid (fun w h => text24_any (opN xo) xa xbb xc xi n0 n1 hi0 hi1 w h)
      rw [← hYi] at Htx
      obtain ⟨n, hn⟩ : ∃ n, opN xo = n := ⟨_, rfl⟩
      rw [hn] at m2 Htx
      obtain ⟨A, hA⟩ : ∃ A, insLine (Y i) = A := ⟨_, rfl⟩
      rw [hA] at lA HsS HsT
      have HA := Lib.hid hA
      clear hyl hYi hn n0 n1 hXi hi0 hi1 hA
      obtain ⟨A1, hA1, lA1, s1⟩ := sumF (P := Tryz.prog) A [10] (by simp only [List.length_cons, List.length_nil]; omega)
      simp only [List.length_cons, List.length_nil] at lA1
      obtain ⟨A2, hA2, lA2, s2⟩ := sumF (P := Tryz.prog) TS A1 (by omega)
      have HsS2 : Hid (A2 = textS Y (i + 1)) := by show _ = _; rw [HsS.out, hA2.out, hA1.out]
      clear lA1 lA2 hA1 hA2
      go_wp2_with fail
      have HBa : Hid (Below w.heap.size w (wr.alloc (.cells #[.int .i64 n, .int .i64 xa, .int .i64 xbb, .int .i64 xc, .int .i32 xi] 23))) := HBr.out.alloc HBr.out.size _
      refine (Htx.out _ (H.out.below HBa.out).base).mono ?_
      rintro e w2 ⟨rfl, hb2⟩
      rw [HA.out, show (Y i).v = .agg #[.int .i64 (Y i).op, .int .i64 (Y i).a, .int .i64 (Y i).b, .int .i64 (Y i).c, .int .i32 (Y i).imm] from rfl]
      have HB2 := Lib.hid (bel_from HBa.out hb2)
      clear hb2 q0 q1 q2 q3 q4 hixi hr m1 m2
      obtain ⟨w3, hw3⟩ : ∃ w3 : World, w3 = w2.alloc (.cells #[.int .i64 (Y i).op, .int .i64 (Y i).a, .int .i64 (Y i).b, .int .i64 (Y i).c, .int .i32 (Y i).imm] 23) := ⟨_, rfl⟩
      have HB3 : Hid (Below w.heap.size w w3) := by rw [hw3]; exact HB2.out.alloc HB2.out.size _
      go_upto_region 12 with fail
      rw [← hw3]
      clear hw3
      by_cases hil : i < len1
      · have hil' : (i : Int) < len1 := by omega
        have q5 := HC2.out _ HB3.out i hil
        have hix2i := fun w => HIX2.out i hil w
        simp only [Nat.mul_one] at hix2i
        have ha := and15 (xs i)
        obtain ⟨k, hk⟩ : ∃ k : Nat, xs i % 16 = (k : Int) := ⟨(xs i % 16).toNat, by omega⟩
        rw [hk] at ha
        have hKi : K i = k := by rw [HK.out]; unfold howK; rw [if_pos hil, hk]; simp
        rw [hKi] at HsT
        obtain ⟨qa, hqa⟩ : ∃ qa, k % 4 = qa := ⟨_, rfl⟩
        obtain ⟨qb, hqb⟩ : ∃ qb, k / 4 = qb := ⟨_, rfl⟩
        have f1 : bits .and .i64 (k : Int) 3 = (qa : Int) := by rw [and3]; omega
        have f2 : bits .and .i64 ((k : Int) / 4) 3 = (qb : Int) := by rw [and3]; omega
        have hqa4 : qa < 4 := by omega
        have hqb4 : qb < 4 := by omega
        have lp := pre_atG qa hqa4
        have ls := suf_atG qb hqb4
        have hlp := (preB_len k).1
        have hls := sufB_len qb
        rw [hqa] at hlp HsT
        rw [hqb] at HsT
        have hqa5 : (qa : Int) < 4 := by omega
        have hqb5 : (qb : Int) < 4 := by omega
        clear hk hKi hqa hqb
        generalize preB qa = PP at *
        generalize sufB qb = QQ at *
        skip
        obtain ⟨P1, hP1, lP1, t1⟩ := sumF (P := Tryz.prog) PP A (by (try simp only [List.length_nil]); omega)
        obtain ⟨P2, hP2, lP2, t2⟩ := sumF (P := Tryz.prog) P1 QQ (by (try simp only [List.length_nil] at *); omega)
        obtain ⟨P3, hP3, lP3, t3⟩ := sumF (P := Tryz.prog) P2 [10] (by simp only [List.length_cons, List.length_nil] at *; omega)
        obtain ⟨P4, hP4, lP4, t4⟩ := sumF (P := Tryz.prog) TT P3 (by simp only [List.length_cons, List.length_nil] at *; omega)
        clear lP1 lP2 lP3 lP4
        have HT4 : Hid (P4 = textT Y K (i + 1)) := by
          show _ = _
          rw [HsT.out, hP4.out, hP3.out, hP2.out, hP1.out]
        go_wp2_with fail
        go_region
        all_goals
          go_wp2_with fail
          go_roundg (len0 - (i + 1))
        all_goals first
          | omega
          | exact ⟨i + 1, by omega, by rw [HsS2.out], by rw [HT4.out], by go_num, by
              first
                | exact ((HB3.out.drew.alloc (by have := HB3.out.size; simpa using this) _).alloc (by have := HB3.out.size; simp; omega) _)
                | exact (((HB3.out.alloc HB3.out.size _).alloc (by have := HB3.out.size; simp; omega) _).drew)⟩

      · have hil' : ¬ (i : Int) < len1 := by omega
        have hKi : K i = 0 := by rw [HK.out]; unfold howK; rw [if_neg hil]
        rw [hKi] at HsT
        have f1 : bits .and .i64 0 3 = 0 := by decide
        clear hKi
        obtain ⟨P1, hP1, lP1, t1⟩ := sumF (P := Tryz.prog) [] A (by (try simp only [List.length_nil]); omega)
        obtain ⟨P2, hP2, lP2, t2⟩ := sumF (P := Tryz.prog) P1 [] (by (try simp only [List.length_nil] at *); omega)
        obtain ⟨P3, hP3, lP3, t3⟩ := sumF (P := Tryz.prog) P2 [10] (by simp only [List.length_cons, List.length_nil] at *; omega)
        obtain ⟨P4, hP4, lP4, t4⟩ := sumF (P := Tryz.prog) TT P3 (by simp only [List.length_cons, List.length_nil] at *; omega)
        have t1' : ∀ w, (Op.stringOp .add ⟨#[]⟩ ⟨A.toArray⟩).run Tryz.prog w = .ok (S P1) w := t1
        have t2' : ∀ w, (Op.stringOp .add ⟨P1.toArray⟩ ⟨#[]⟩).run Tryz.prog w = .ok (S P2) w := t2
        clear lP1 lP2 lP3 lP4 t1 t2
        have HT4 : Hid (P4 = textT Y K (i + 1)) := by
          show _ = _
          rw [HsT.out, hP4.out, hP3.out, hP2.out, hP1.out]; rfl
        go_wp2_with fail
        go_region
        all_goals
          go_wp2_with fail
          go_roundg (len0 - (i + 1))
        all_goals first
          | omega
          | exact ⟨i + 1, by omega, by rw [HsS2.out], by rw [HT4.out], by go_num, by
              first
                | exact ((HB3.out.drew.alloc (by have := HB3.out.size; simpa using this) _).alloc (by have := HB3.out.size; simp; omega) _)
                | exact (((HB3.out.alloc HB3.out.size _).alloc (by have := HB3.out.size; simp; omega) _).drew)⟩

    · obtain rfl : i = len0 := by omega
      have hni : ¬ (i : Int) < i := by omega
      have HA1 := Lib.hid (fun w h => asm_ascii (textS Y i) (by omega) (textS_asc Y i HYl.out) w h)
      have HA2 := Lib.hid (fun w h => asm_ascii (textT Y K i) (by omega) (textT_asc Y K i HYl.out) w h)
      have HE1 := Lib.hid (textS_asm Y i (by omega) HYl.out)
      have HE2 := Lib.hid (textT_asm Y K i (by omega) HYl.out (fun j _ => HKl.out j))
      have hbl := bytesS_len Y i
      obtain ⟨L, hL⟩ : ∃ L, bytesS Y i = L := ⟨_, rfl⟩
      rw [hL] at HE1 HE2 hbl
      obtain ⟨M, hM⟩ : ∃ M, L.length = M := ⟨_, rfl⟩
      have HM := Lib.hid hM
      generalize textS Y i = T1 at *
      generalize textT Y K i = T2 at *
      clear hL hbl hM HlS HlT lS lT
      go_wp2_with fail
      refine (HA1.out _ (H.out.below HBr.out).base).mono ?_
      rintro e w2 ⟨v, rfl, hv, hb2⟩
      rw [HE1.out] at hv ⊢
      have hv : StrIn w2 v L := hv
      have HB2 := Lib.hid (bel_from HBr.out hb2)
      clear hb2
      obtain ⟨fb, hfb⟩ : ∃ fb, fb = w2.heap.size := ⟨_, rfl⟩
      obtain ⟨w3, hw3⟩ : ∃ w3 : World, w3 = w2.alloc (.cells #[.int .i64 0, .int .i64 0] 30) := ⟨_, rfl⟩
      have HF3 : Hid (Blk w3 fb #[.int .i64 0, .int .i64 0] 30) := by rw [hw3, hfb]; exact Blk.new _ _ _
      have HB3 : Hid (Below w.heap.size w w3) := by rw [hw3]; exact HB2.out.alloc HB2.out.size _
      have HV3 : Hid (StrIn w3 v L) := by rw [hw3]; exact hv.below ((Below.refl _ _).alloc (Nat.le_refl _) _) (Nat.le_refl _)
      obtain ⟨vx, vc, rfl, -, -⟩ := hv
      rw [HM.out] at HV3 ⊢
      go_wp2_with fail
      rw [← hw3, ← hfb]
      clear hw3 hfb
      refine (HA2.out _ (H.out.below HB3.out).base).mono ?_
      rintro e w4 ⟨v2, rfl, hv2, hb4⟩
      rw [HE2.out] at hv2 ⊢
      have hv2 : StrIn w4 v2 L := hv2
      have HF4 := Lib.hid (HF3.out.below hb4 HF3.out.lt)
      have HV4 := Lib.hid (HV3.out.below hb4 (Nat.le_refl _))
      have HB4 := Lib.hid (bel_from HB3.out hb4)
      clear hb4
      have hc5 := (HF4.out.alloc (.cells #[.int .i64 0, .int .i64 0] 30)).cell
      have hz5 := HF4.out.lt
      have hs1 := (HV4.out.below ((Below.refl w4.heap.size w4).alloc (Nat.le_refl _) (.cells #[.int .i64 0, .int .i64 0] 30)) (Nat.le_refl _)).str
      have hs2 := (hv2.below ((Below.refl w4.heap.size w4).alloc (Nat.le_refl _) (.cells #[.int .i64 0, .int .i64 0] 30)) (Nat.le_refl _)).str
      obtain ⟨vx2, vc2, rfl, -, -⟩ := hv2
      rw [HM.out] at hs2 ⊢
      go_wp2_with fail
      go_ret
      exact ⟨rfl, HB4.out.alloc HB4.out.size _⟩
theorem blanks_law (a0 : Option Addr) (len0 cap0 : Nat) (a1 : Option Addr) (len1 cap1 : Nat) (z : List Int) (W : World) (h0 : ∃ X, InsIn W a0 len0 cap0 X) (h1 : IsRow .i64 W a1 len1 cap1 z) (h : HasAz W) :
    Calls Tryz.prog 5 #[.slice a0 len0 cap0, .slice a1 len1 cap1] W fun e w' => e = .returned (.bool true) ∧ Below W.heap.size W w' := by
  obtain ⟨X, hX⟩ := h0
  exact blanks_walk a0 len0 cap0 a1 len1 cap1 z X W hX h1 h
end Go.Proofs.YtjjnidbggoaonaaGreatDoor
