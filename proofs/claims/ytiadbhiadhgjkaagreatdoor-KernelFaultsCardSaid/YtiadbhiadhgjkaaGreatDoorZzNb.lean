/- Of the proof of this claim: a joined text. -/
import Derived.Test.YtiadbhiadhgjkaaGreatDoorZzMv
set_option maxRecDepth 100000
set_option maxHeartbeats 4000000
namespace Go.Proofs.YtiadbhiadhgjkaaGreatDoor
open Go.RowKit
attribute [local irreducible] World.setCell World.alloc World.drew World.setRow Calls Code.wp
structure Line where
 call : Int
 (a1 a2 a3 a4 a5 : Int)
 ins : Ins
def lineV (l : Line) : List Value := [.int .i64 l.call, .int .i32 l.a1, .int .i32 l.a2, .int .i32 l.a3, .int .i32 l.a4, .int .i32 l.a5, .int .i64 l.ins.op, .int .i64 l.ins.a, .int .i64 l.ins.b, .int .i64 l.ins.c, .int .i32 l.ins.imm]
def liI (r x : Int) : Ins := ⟨2, r, 0, 0, x⟩
def argsI (l : Line) : List Ins := [liI 1 l.a1, liI 2 l.a2, liI 3 l.a3, liI 4 l.a4, liI 5 l.a5]
def lineI (l : Line) : List Ins := if l.call = 0 then [l.ins] else [liI 1 l.a1, liI 2 l.a2, liI 3 l.a3, liI 4 l.a4, liI 5 l.a5, liI 0 l.call, ⟨43, 0, 0, 0, 0⟩]
def progI (ls : List Line) : List Ins := (ls.take 8).flatMap lineI
def codeB (ls : List Line) : List Int := if (progI ls).length = 0 then Ins.enc ⟨1, 0, 0, 0, 0⟩ else (progI ls).flatMap Ins.enc ++ Ins.enc ⟨29, 15, 0, 0, -((progI ls).length : Int)⟩
def i32R (x : Int) : Prop := -2147483648 <= x /\ x <= 2147483647
structure Line.ok (l : Line) : Prop where
 call : 0 <= l.call /\ l.call <= 50
 args : i32R l.a1 /\ i32R l.a2 /\ i32R l.a3 /\ i32R l.a4 /\ i32R l.a5
 ins : l.call = 0 -> l.ins.right = true /\ i32R l.ins.imm
theorem enc_len (x : Ins) : x.enc.length = 8 := rfl
theorem flat_enc_len : ∀ l : List Ins, (l.flatMap Ins.enc).length = 8 * l.length
 | [] => rfl
 | x :: l => by rw [List.flatMap_cons, List.length_append, flat_enc_len l, enc_len, List.length_cons]; omega
theorem lineI_len (l : Line) : (lineI l).length <= 7 := by
 unfold lineI; split <;> simp
theorem flat_line_len : ∀ l : List Line, (l.flatMap lineI).length <= 7 * l.length
 | [] => Nat.le_refl _
 | x :: l => by rw [List.flatMap_cons, List.length_append, List.length_cons]; have := flat_line_len l; have := lineI_len x; omega
theorem prog_take (ls : List Line) (k : Nat) (l : Line) (h : ls[k]? = some l) : (ls.take (k + 1)).flatMap lineI = (ls.take k).flatMap lineI ++ lineI l := by
 rw [List.take_add_one, h, List.flatMap_append]; simp
def LinesIn (w : World) (v : Value) (ls : List Line) : Prop := RowAt w 28 v ls.length (ls.flatMap lineV)
theorem PutAt.below {w w' : World} {bb nb : Nat} {m : List Int} {n : Int} (h : PutAt w bb nb m n) (k : Below w.heap.size w w') : PutAt w' bb nb m n := by
 obtain ⟨out, h1, h2⟩ := h.ex;exact ⟨⟨out, h1.below k h1.lt, row_kept h2 (Kept.of_below k) (fun _ _ h => h)⟩, h.n.below k h.n.lt, h.ne⟩
theorem idx_args (a b c d e : Int) (w : World) : ∀ q : Nat, q < 5 -> (Instr.index 24 (.agg #[.int .i32 a, .int .i32 b, .int .i32 c, .int .i32 d, .int .i32 e]) (.int .i64 q)).run Tryz.prog w = .ok (.int .i32 ([a, b, c, d, e].getD q 0)) w := fun q h => by
 obtain rfl | rfl | rfl | rfl | rfl : q = 0 \/ q = 1 \/ q = 2 \/ q = 3 \/ q = 4 := by omega
 all_goals kernel_rfl
structure CodeSt (w : World) (h0 : Nat) (is : List Ins) (W : World) : Prop where
 put : PutAt W (h0 + 1) (h0 + 1 + 1) (is.flatMap Ins.enc) is.length
 bel : Below h0 w W
theorem CodeSt.below {w W W' : World} {h0 : Nat} {is : List Ins} (h : CodeSt w h0 is W) (k : Below W.heap.size W W') : CodeSt w h0 is W' := ⟨h.put.below k, h.bel.trans (k.mono (by have := h.put.n.lt; omega))⟩
theorem put_one (w W : World) (h0 : Nat) (is : List Ins) (x : Ins) (h : CodeSt w h0 is W) (hr : x.right = true) (hi : i32R x.imm) (hl : is.length <= 100) :
  Calls Tryz.prog 53 #[.agg #[.int .i64 x.op, .int .i64 x.a, .int .i64 x.b, .int .i64 x.c, .int .i32 x.imm], .pointer (some ⟨h0 + 1, 0, none⟩), .pointer (some ⟨h0 + 1 + 1, 0, none⟩)] W fun e w' =>
   e = .returned (.tuple #[]) /\ CodeSt w h0 (is ++ [x]) w' /\ ∀ tb cs, Blk W tb cs 28 -> tb ≠ h0 + 1 -> tb ≠ h0 + 1 + 1 -> Blk w' tb cs 28 := by
 refine (put_ins W _ _ _ _ x.op x.a x.b x.c x.imm h.put hr hi (by rw [flat_enc_len]; omega) (by omega)).mono ?_;rintro e w' ⟨h1, h2, h3, h4⟩;refine ⟨h1, ⟨?_, h.bel.trans (h3.mono (by omega))⟩, fun tb cs hB n1 n2 => h4.blk hB ?_⟩
 ·rw [List.flatMap_append, List.length_append]
  simpa using h2
 ·rintro (e | e | ⟨cs', hB'⟩)
  ·exact n1 e
  ·exact n2 e
  ·have := hB.symm.trans hB'
   simp at this
theorem enc_row (op a b c imm : Int) (w : World) (h : Ins.right ⟨op, a, b, c, imm⟩ = true) (hi : -2147483648 <= imm /\ imm <= 2147483647) :
  Calls Tryz.prog 54 #[.agg #[.int .i64 op, .int .i64 a, .int .i64 b, .int .i64 c, .int .i32 imm]] w fun e w' => ∃ v, e = .returned v /\ RowAt w' 5 v (Ins.enc ⟨op, a, b, c, imm⟩).length (bytesV (Ins.enc ⟨op, a, b, c, imm⟩)) /\ Below w.heap.size w w' := by
 obtain ⟨⟨o0, o1⟩, ⟨a0, a1⟩, ⟨b0, b1⟩, ⟨c0, c1⟩⟩ := Ins.right_spec h;clear h;simp only at o0 o1 a0 a1 b0 b1 c0 c1;obtain ⟨i0, i1⟩ := hi;obtain ⟨u, hu⟩ : ∃ u : Int, uns imm = u := ⟨_, rfl⟩;have hw : IntKind.u32.wrap imm = u := by rw [<- hu]; simp [IntKind.wrap_u32, uns]
 have u0 : 0 <= u := by rw [<- hu]; unfold uns; omega
 have u1 : u <= 4294967295 := by rw [<- hu]; unfold uns; omega
 have Hu := Lib.hid hu; clear hu;go_enter Tryz.func54, Tryz.ntmps54
 go_wp2_with fail
 go_ret;refine ⟨_, rfl, ?_, ((Below.refl _ _).alloc (Nat.le_refl _) _).alloc (by simp) _⟩;have hB := Blk.new (w.alloc (.cells #[.int .i64 op, .int .i64 a, .int .i64 b, .int .i64 c, .int .i32 imm] 26)) #[.int .u8 op, .int .u8 a, .int .u8 b, .int .u8 c, .int .u8 (u / 16777216), .int .u8 (u / 65536 % 256), .int .u8 (u / 256 % 256), .int .u8 (u % 256)] 5;rw [World.size_alloc] at hB;refine ⟨_, 8, rfl, Nat.le_refl _, by unfold maxLen; omega, .inr ⟨_, _, _, rfl, hB, fun j x hj => ?_⟩⟩;unfold Ins.enc bytesV at hj;simp only [Hu.out] at hj;have hl := (List.getElem?_eq_some_iff.1 hj).1;have hl8 : j < 8 := hl;rw [<- hj];obtain rfl | rfl | rfl | rfl | rfl | rfl | rfl | rfl : j = 0 \/ j = 1 \/ j = 2 \/ j = 3 \/ j = 4 \/ j = 5 \/ j = 6 \/ j = 7 := by omega
 all_goals rfl
theorem enc_byte {x : Ins} (h : x.right = true) : ∀ b ∈ x.enc, 0 <= b /\ b <= 255 := by
 obtain ⟨⟨o0, o1⟩, ⟨a0, a1⟩, ⟨b0, b1⟩, ⟨c0, c1⟩⟩ := Ins.right_spec h;intro b hb;unfold Ins.enc uns at hb;simp at hb;rcases hb with rfl | rfl | rfl | rfl | rfl | rfl | rfl | rfl <;> omega
theorem line_right {l : Line} (h : l.ok) : ∀ x ∈ lineI l, x.right = true := by
 intro x hx;unfold lineI at hx;split at hx
 ·rename_i h0
  simp at hx;subst hx;exact (h.ins h0).1
 ·simp at hx
  rcases hx with rfl | rfl | rfl | rfl | rfl | rfl | rfl <;> rfl
theorem code_byte {ls : List Line} (h : ∀ l ∈ ls, l.ok) : ∀ b ∈ codeB ls, 0 <= b /\ b <= 255 := by
 intro b hb;unfold codeB at hb;split at hb
 ·exact enc_byte (x := ⟨1, 0, 0, 0, 0⟩) rfl b hb
 ·rcases List.mem_append.1 hb with hb | hb
  ·obtain ⟨x, hx, hbx⟩ := List.mem_flatMap.1 hb
   obtain ⟨l, hl, hxl⟩ := List.mem_flatMap.1 hx;exact enc_byte (line_right (h l (List.mem_of_mem_take hl)) x hxl) b hbx
  ·exact enc_byte (x := ⟨29, 15, 0, 0, _⟩) rfl b hb
theorem code_any (w : World) (ls : List Line) (lv v1 v2 v3 : Value) (h : LinesIn w lv ls) (hok : ∀ l ∈ ls, l.ok) (hn : ls.length <= 100) :
  Calls Tryz.prog 28 #[.agg #[lv, v1, v2, v3]] w fun e w' => ∃ v, e = .returned v /\ RowAt w' 5 v (codeB ls).length (bytesV (codeB ls)) /\ Below w.heap.size w w' := by
 obtain ⟨la, lc, rfl, -, -⟩ := RowAt.form h;have HL := Lib.hid h; have HOk := Lib.hid hok;obtain ⟨h0, hh0⟩ : ∃ h0, w.heap.size = h0 := ⟨_, rfl⟩;have Hh0 := Lib.hid hh0;clear h hok;go_enter Tryz.func28, Tryz.ntmps28
 go_upto_block 0 with fail
 go_cut [] (fun wx => Hid (CodeSt w h0 (progI ls) wx))
 case first =>
  go_wp2_with fail
  go_loopg [14] ls.length (fun gg vi wx => ∃ k : Nat, k + gg = ls.length /\ k <= 8 /\ vi = .int .i64 k /\ Hid (CodeSt w h0 ((ls.take k).flatMap lineI) wx))
  case atStart =>
   refine ⟨0, by omega, by omega, rfl, Lib.hid ?_⟩;have b1 : Below h0 w (w.alloc (.cells #[.slice la ls.length lc, v1, v2, v3] 100)) := (Below.refl h0 w).alloc (by rw [Hh0.out]; exact Nat.le_refl _) _;have b2 := b1.alloc (by rw [World.size_alloc, Hh0.out]; omega) (.cells #[.slice none 0 0] 63);have b3 := b2.alloc (by rw [World.size_alloc, World.size_alloc, Hh0.out]; omega) (.cells #[.int .i64 0] 3);have hB := (Blk.new (w.alloc (.cells #[.slice la ls.length lc, v1, v2, v3] 100)) #[.slice none 0 0] 63).alloc (.cells #[.int .i64 0] 3);have hN := Blk.new ((w.alloc (.cells #[.slice la ls.length lc, v1, v2, v3] 100)).alloc (.cells #[.slice none 0 0] 63)) #[.int .i64 0] 3;rw [World.size_alloc, Hh0.out] at hB;rw [World.size_alloc, World.size_alloc, Hh0.out] at hN;exact ⟨⟨⟨_, hB, World.ownsRow_nil _ _ _ _⟩, hN, by omega⟩, b3⟩
  case round =>
   obtain ⟨k, hk, hk8, rfl, HP⟩ := hrel;by_cases hlt : k < ls.length
   ·have hlt' : (k : Int) < ls.length := by omega
    obtain ⟨l, hl⟩ : ∃ l, ls[k]? = some l := ⟨_, List.getElem?_eq_getElem hlt⟩;obtain ⟨lb, hlb, hlbl, hcells⟩ := RowAt.cells HL.out (by omega);subst hlb
    have HX : Hid (∀ j, j < 11 -> wr.cell? ⟨lb, k * 11 + j, none⟩ = some ((lineV l).getD j undef)) := Lib.hid (fun j hj => by
     rw [HP.out.bel.cell (p := ⟨lb, k * 11 + j, none⟩) (by rw [<- Hh0.out]; exact hlbl)];refine hcells _ _ ?_;rw [flat_at lineV 11 (fun _ => rfl) ls k l hl j hj];exact (List.getElem?_eq_getElem (show j < (lineV l).length from hj)).trans (by rw [List.getD_eq_getElem?_getD, List.getElem?_eq_getElem (show j < (lineV l).length from hj)]; rfl))
    have x0 := HX.out 0 (by omega);have x1 := HX.out 1 (by omega);have x2 := HX.out 2 (by omega);have x3 := HX.out 3 (by omega);have x4 := HX.out 4 (by omega);have x5 := HX.out 5 (by omega);have x6 := HX.out 6 (by omega);have x7 := HX.out 7 (by omega);have x8 := HX.out 8 (by omega);have x9 := HX.out 9 (by omega);have x10 := HX.out 10 (by omega);have hlok := HOk.out l (List.mem_of_getElem? hl);have Hlok := Lib.hid hlok; have Hl := Lib.hid hl;simp only [lineV, List.getD_eq_getElem?_getD, List.getElem?_cons_zero, List.getElem?_cons_succ, Option.getD_some, Nat.add_zero] at x0 x1 x2 x3 x4 x5 x6 x7 x8 x9 x10;clear hcells hlok hl;by_cases h8 : k = 8
    ·have h8' : ((k : Int) == 8) = true := by simp [h8]
     have Hk8 := Lib.hid h8;clear h8;go_wp2_with fail
     go_meet;have e : progI ls = (ls.take k).flatMap lineI := by rw [Hk8.out]; rfl
     rw [e];exact Lib.hid (HP.out.below ((Below.refl _ wr).alloc (Nat.le_refl _) _))
    ·have h8' : ((k : Int) == 8) = false := by simp; omega
     have Hk8 : Hid (k + 1 <= 8) := Lib.hid (by omega)
     have His : Hid (((ls.take k).flatMap lineI).length <= 56) := Lib.hid (by
      have := flat_line_len (ls.take k);rw [List.length_take] at this;omega)
     have Hst1 := Lib.hid (prog_take ls k l Hl.out);generalize (ls.take k).flatMap lineI = is at HP His Hst1;obtain ⟨tb, htb⟩ : ∃ tb, wr.heap.size = tb := ⟨_, rfl⟩;have HT : Hid (Blk (wr.alloc (.cells (lineV l).toArray 28)) tb (lineV l).toArray 28) := Lib.hid (by rw [<- htb]; exact Blk.new _ _ _);have Hntb : Hid (tb ≠ h0 + 1 /\ tb ≠ h0 + 1 + 1) := Lib.hid (by have := HP.out.put.n.lt; omega);by_cases hc0 : l.call = 0
     ·have hc0' : (l.call == 0) = true := by simp [hc0]
      have Hpt := Lib.hid (fun W hW => put_one w W h0 is l.ins hW (Hlok.out.ins hc0).1 (Hlok.out.ins hc0).2 (by have := His.out; omega));have Hc0 := Lib.hid hc0;clear h8 hc0;go_wp2_with fail
      refine (Hpt.out _ (HP.out.below ((Below.refl _ wr).alloc (Nat.le_refl _) _))).mono ?_;rintro e w5 ⟨rfl, hC, -⟩;have HC := Lib.hid hC;clear hC;go_wp2_with fail
      go_roundg (ls.length - (k + 1))
      case measure => omega
      case rel =>
       refine ⟨k + 1, by omega, Hk8.out, by go_num, ?_⟩;rw [Hst1.out, lineI, if_pos Hc0.out];exact HC
     ·have hc0' : (l.call == 0) = false := by simpa using hc0
      have Hc0 := Lib.hid hc0;have HP1 : Hid (CodeSt w h0 is (wr.alloc (.cells (lineV l).toArray 28))) := Lib.hid (HP.out.below ((Below.refl _ wr).alloc (Nat.le_refl _) _));clear h8 hc0;go_upto_block 2 with fail
      go_cut [] (fun wx => Hid (CodeSt w h0 (is ++ argsI l) wx) /\ Hid (Blk wx tb (lineV l).toArray 28))
      case first =>
       have Hmk : Hid (∀ q : Nat, q < 5 -> ∃ x, (argsI l)[q]? = some x /\ x.right = true /\ i32R x.imm) := Lib.hid (fun q hq => by
        obtain ⟨e1, e2, e3, e4, e5⟩ := Hlok.out.args;obtain rfl | rfl | rfl | rfl | rfl : q = 0 \/ q = 1 \/ q = 2 \/ q = 3 \/ q = 4 := by omega
        all_goals exact ⟨_, rfl, rfl, by assumption⟩)
       have Hput : Hid (∀ (q : Nat) (x : Ins) (W : World), (argsI l)[q]? = some x -> CodeSt w h0 (is ++ (argsI l).take q) W -> Blk W tb (lineV l).toArray 28 -> Calls Tryz.prog 53 #[.agg #[.int .i64 x.op, .int .i64 x.a, .int .i64 x.b, .int .i64 x.c, .int .i32 x.imm], .pointer (some ⟨h0 + 1, 0, none⟩), .pointer (some ⟨h0 + 1 + 1, 0, none⟩)] W fun e w' =>
         e = .returned (.tuple #[]) /\ Hid (CodeSt w h0 (is ++ (argsI l).take (q + 1)) w') /\ Hid (Blk w' tb (lineV l).toArray 28)) := Lib.hid (fun q x W hx hC hB => by
        have hq : q < 5 := (List.getElem?_eq_some_iff.1 hx).1;obtain ⟨x', hx', hr, hi⟩ := Hmk.out q hq;obtain rfl : x = x' := by rw [hx] at hx'; exact Option.some.inj hx'
        refine (put_one w W h0 _ x hC hr hi (by
         rw [List.length_append, List.length_take]; have := His.out; omega)).mono ?_
        rintro e w' ⟨h1, h2, h3⟩;refine ⟨h1, Lib.hid ?_, Lib.hid (h3 tb _ hB Hntb.out.1 Hntb.out.2)⟩;rw [List.take_add_one, hx, <- List.append_assoc];exact h2)
       clear x0 x1 x2 x3 x4 x5 x6 x7 x8 x9 x10;go_wp2_with fail
       go_loopg [30] 5 (fun gg vi wx => ∃ q : Nat, q + gg = 5 /\ vi = .int .i64 q /\ Hid (CodeSt w h0 (is ++ (argsI l).take q) wx) /\ Hid (Blk wx tb (lineV l).toArray 28))
       case atStart => exact ⟨0, rfl, rfl, Lib.hid (by rw [List.take_zero, List.append_nil]; exact HP1.out), HT⟩
       case round =>
        obtain ⟨q, hq, rfl, HC, HBt⟩ := hrel;by_cases h5 : q = 5
        ·subst h5
         go_wp2_with fail
         go_meet;exact ⟨HC, HBt⟩
        ·obtain rfl | rfl | rfl | rfl | rfl : q = 0 \/ q = 1 \/ q = 2 \/ q = 3 \/ q = 4 := by omega
         all_goals
          clear h5;have Hc := Lib.hid (Hput.out _ _ _ rfl HC.out HBt.out);have hi0 : (Instr.index 24 (.agg #[.int .i32 l.a1, .int .i32 l.a2, .int .i32 l.a3, .int .i32 l.a4, .int .i32 l.a5]) (.int .i64 0)).run Tryz.prog wr = .ok (.int .i32 l.a1) wr := idx_args l.a1 l.a2 l.a3 l.a4 l.a5 wr 0 (by omega);have hi1 : (Instr.index 24 (.agg #[.int .i32 l.a1, .int .i32 l.a2, .int .i32 l.a3, .int .i32 l.a4, .int .i32 l.a5]) (.int .i64 1)).run Tryz.prog wr = .ok (.int .i32 l.a2) wr := idx_args l.a1 l.a2 l.a3 l.a4 l.a5 wr 1 (by omega);have hi2 : (Instr.index 24 (.agg #[.int .i32 l.a1, .int .i32 l.a2, .int .i32 l.a3, .int .i32 l.a4, .int .i32 l.a5]) (.int .i64 2)).run Tryz.prog wr = .ok (.int .i32 l.a3) wr := idx_args l.a1 l.a2 l.a3 l.a4 l.a5 wr 2 (by omega);have hi3 : (Instr.index 24 (.agg #[.int .i32 l.a1, .int .i32 l.a2, .int .i32 l.a3, .int .i32 l.a4, .int .i32 l.a5]) (.int .i64 3)).run Tryz.prog wr = .ok (.int .i32 l.a4) wr := idx_args l.a1 l.a2 l.a3 l.a4 l.a5 wr 3 (by omega);have hi4 : (Instr.index 24 (.agg #[.int .i32 l.a1, .int .i32 l.a2, .int .i32 l.a3, .int .i32 l.a4, .int .i32 l.a5]) (.int .i64 4)).run Tryz.prog wr = .ok (.int .i32 l.a5) wr := idx_args l.a1 l.a2 l.a3 l.a4 l.a5 wr 4 (by omega);go_wp2_with fail
          refine Hc.out.mono ?_;rintro e w5 ⟨rfl, HC5, HB5⟩;go_wp2_with fail
          go_roundg (gk - 1)
          case measure => omega
          case rel => exact ⟨_, by omega, by go_num, HC5, HB5⟩
      case rest =>
       rename World => w6
       obtain ⟨HC6, HB6⟩ := hcut;clear x0 x1 x2 x3 x4 x5 x6 x7 x8 x9 x10;have x0 : w6.cell? ⟨tb, 0, none⟩ = some (.int .i64 l.call) := (HB6.out.cell 0).trans rfl
       have hcw : IntKind.i32.wrap l.call = l.call := by
        have := Hlok.out.call;rw [IntKind.wrap_i32]; omega
       have Hc1 := Lib.hid (put_one w w6 h0 _ (liI 0 l.call) HC6.out rfl (by have := Hlok.out.call; show -2147483648 <= l.call /\ l.call <= 2147483647; omega) (by rw [List.length_append]; have := His.out; show _ + 5 <= 100; omega))
       have Hc2 : Hid (∀ W, CodeSt w h0 ((is ++ argsI l) ++ [liI 0 l.call]) W -> Calls Tryz.prog 53 #[.agg #[.int .i64 43, .int .i64 0, .int .i64 0, .int .i64 0, .int .i32 0], .pointer (some ⟨h0 + 1, 0, none⟩), .pointer (some ⟨h0 + 1 + 1, 0, none⟩)] W fun e w' => e = .returned (.tuple #[]) /\ CodeSt w h0 ((is ++ argsI l) ++ [liI 0 l.call] ++ [⟨43, 0, 0, 0, 0⟩]) w') := Lib.hid (fun W hW => by
        refine (put_one w W h0 _ ⟨43, 0, 0, 0, 0⟩ hW rfl ⟨by decide, by decide⟩ (by rw [List.length_append, List.length_append]; have := His.out; show _ + 5 + 1 <= 100; omega)).mono ?_;rintro e w' ⟨h1, h2, -⟩;exact ⟨h1, h2⟩)
       go_wp2_with fail
       refine Hc1.out.mono ?_;rintro e w7 ⟨rfl, hC7, -⟩;have HC7 := Lib.hid hC7;clear hC7;go_wp2_with fail
       refine (Hc2.out w7 HC7.out).mono ?_;rintro e w8 ⟨rfl, hC8⟩;have HC8 := Lib.hid hC8;clear hC8;go_wp2_with fail
       go_roundg (ls.length - (k + 1))
       case measure => omega
       case rel =>
        refine ⟨k + 1, by omega, Hk8.out, by go_num, ?_⟩;rw [Hst1.out, lineI, if_neg Hc0.out];have e : (is ++ argsI l) ++ [liI 0 l.call] ++ [⟨43, 0, 0, 0, 0⟩] = is ++ [liI 1 l.a1, liI 2 l.a2, liI 3 l.a3, liI 4 l.a4, liI 5 l.a5, liI 0 l.call, ⟨43, 0, 0, 0, 0⟩] := by simp [argsI]
        rw [<- e];exact HC8
   ·have hlt' : ¬ ((k : Int) < ls.length) := by omega
    go_wp2_with fail
    go_meet;have e : progI ls = (ls.take k).flatMap lineI := by unfold progI; rw [List.take_of_length_le (by omega), List.take_of_length_le (by omega)]
    rw [e];exact HP
 case rest =>
  rename World => w3
  have HC := hcut
  have hl : (progI ls).length <= 56 := by
   have := flat_line_len (ls.take 8);rw [List.length_take] at this;show ((ls.take 8).flatMap lineI).length <= 56
   omega
  obtain ⟨n, hn2⟩ : ∃ n, (progI ls).length = n := ⟨_, rfl⟩;have c1 : w3.cell? ⟨h0 + 1 + 1, 0, none⟩ = some (.int .i64 n) := by rw [<- hn2]; exact (HC.out.put.n.cell 0).trans rfl
  have HN := Lib.hid hn2;rw [hn2] at hl;clear hn2;by_cases h0n : n = 0
  ·have hz : ((n : Int) == 0) = true := by simp [h0n]
   have Hz := Lib.hid h0n;have Hen := Lib.hid (enc_row 1 0 0 0 0 w3 rfl ⟨by decide, by decide⟩);clear h0n;go_wp2_with fail
   refine Hen.out.mono ?_;rintro e w4 ⟨v, rfl, hs, hb⟩;have Hs := Lib.hid hs; have Hb := Lib.hid hb;clear hs hb;go_wp2_with fail
   go_ret;refine ⟨_, rfl, ?_, ?_⟩
   ·unfold codeB; rw [if_pos (by rw [HN.out, Hz.out])]; exact Hs.out
   ·rw [Hh0.out]; exact (HC.out.below Hb.out).bel
  ·have hz : ((n : Int) == 0) = false := by simp [h0n]
   have Hz := Lib.hid h0n;have hng : IntKind.i64.wrap (-(n : Int)) = -(n : Int) := IntWalk.i64_in _ (by omega);have hn3 : IntKind.i32.wrap (-(n : Int)) = -(n : Int) := by rw [IntKind.wrap_i32]; omega
   have Hpt := Lib.hid (put_one w w3 h0 _ ⟨29, 15, 0, 0, -(n : Int)⟩ HC.out rfl (by show -2147483648 <= -(n : Int) /\ -(n : Int) <= 2147483647; omega) (by rw [HN.out]; omega));clear h0n;go_wp2_with fail
   refine Hpt.out.mono ?_;rintro e w4 ⟨rfl, hC4, -⟩;obtain ⟨out, hB4, hown4⟩ := hC4.put.ex;have c2 : w4.cell? ⟨h0 + 1, 0, none⟩ = some out := (hB4.cell 0).trans rfl;have HC4 := Lib.hid hC4; have HO4 := Lib.hid hown4;clear hC4 hB4 hown4;go_wp2_with fail
   go_ret;refine ⟨_, rfl, ?_, by rw [Hh0.out]; exact HC4.out.bel⟩
   have e : codeB ls = (progI ls ++ [(⟨29, 15, 0, 0, -(n : Int)⟩ : Ins)]).flatMap Ins.enc := by
    unfold codeB; rw [if_neg (by rw [HN.out]; exact Hz.out), List.flatMap_append, HN.out]; simp
   rw [e];exact RowAt.own HO4.out
end Go.Proofs.YtiadbhiadhgjkaaGreatDoor
