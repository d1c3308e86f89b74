/- trace.Thread: a thread's text. -/
import Derived.Test.YtjjnidbggoaonaaDoorTrF
import Derived.Test.YtjjnidbggoaonaaDoorBld
import Derived.Test.YtjjnidbggoaonaaDoorReg
import Derived.Deep.LoopGhost
import Derived.IntWalk
import Derived.Lib.FrozenHead
namespace Go.Proofs.YtjjnidbggoaonaaDoor
open Go.RowKit
attribute [local irreducible] World.setCell World.alloc World.drew Calls Code.wp
attribute [local go_sem] Oper.semAt_some

/-- A thread's cells; an object's. -/
def thC (f : Nat → Nat) (pc st : Int) : Array Value := #[.int .u64 (f 0 : Nat), .int .u64 (f 1 : Nat), .int .u64 (f 2 : Nat), .int .u64 (f 3 : Nat), .int .u64 (f 4 : Nat), .int .u64 (f 5 : Nat), .int .u64 (f 6 : Nat), .int .u64 (f 7 : Nat), .int .u64 (f 8 : Nat), .int .u64 (f 9 : Nat), .int .u64 (f 10 : Nat), .int .u64 (f 11 : Nat), .int .u64 (f 12 : Nat), .int .u64 (f 13 : Nat), .int .u64 (f 14 : Nat), .int .u64 (f 15 : Nat), .int .u64 pc, .int .i64 0, .slice none 0 0, .int .u64 0, .int .i64 st, .int .i64 0, .int .i64 0, .int .i64 0, .int .i64 0, .int .i64 3, .int .u64 0, .int .i64 0, .int .u64 0, .int .u64 0, .int .u64 0, .slice none 0 0, .int .i64 0, .slice none 0 0, .int .i64 0, .slice none 0 0, .slice none 0 0, .int .i64 0, .slice none 0 0]
def obC (tb : Nat) : Array Value := #[.slice none 0 0, .int .u64 0, .int .u64 7, .int .i64 3, .int .i64 0, .slice none 0 0, .int .u64 0, .int .u64 0, .int .i64 0, .int .i64 0, .int .i64 0, .int .i64 0, .int .u64 0, .int .u64 0, .int .u64 0, .slice none 0 0, .slice none 0 0, .int .u64 0, .slice none 0 0, .pointer (some ⟨tb, 0, none⟩), .int .i64 0, .slice none 0 0, .int .u64 0, .int .u64 0, .slice none 0 0, .slice none 0 0, .slice none 0 0, .slice none 0 0, .slice none 0 0, .slice none 0 0, .slice none 0 0, .slice none 0 0, .int .i64 0, .int .i64 0, .int .i64 0, .slice none 0 0]
def stW : Nat → List UInt8 | 0 => [104, 97, 108, 116, 101, 100] | 1 => [114, 117, 110, 110, 105, 110, 103] | _ => [119, 97, 105, 116, 105, 110, 103]
theorem stW_len (k : Nat) : (stW k).length ≤ 7 := by unfold stW; split <;> decide
def stsText : List UInt8 := [104, 97, 108, 116, 101, 100, 32, 114, 117, 110, 110, 105, 110, 103, 32, 119, 97, 105, 116, 105, 110, 103]
def stsV : Array Value := #[S (stW 0), S (stW 1), S (stW 2)]
theorem stsV_at (k : Nat) (h : k < 3) : stsV[k]? = some (S (stW k)) := by
  obtain rfl | rfl | rfl : k = 0 ∨ k = 1 ∨ k = 2 := by omega
  all_goals rfl
theorem sts_fields : Lib.fields stsText = [stW 0, stW 1, stW 2] := by decide +kernel
theorem sts_ascii : ∀ (j : Nat) (b : UInt8), stsText[j]? = some b → b.toNat < 128 := by
  intro j b h
  have h1 : stsText.all (fun b => decide (b.toNat < 128)) = true := by decide +kernel
  have := List.all_eq_true.1 h1 b (List.mem_of_getElem? h)
  simpa using this
theorem fields_sts (w : World) (hs : HasSp w) :
    Calls Tryd.prog 10 #[S stsText] w fun e w' => e = .returned (.slice (some ⟨w.heap.size, 0, none⟩) 3 3) ∧ w' = w.alloc (.cells stsV 9) := by
  refine (Tryd.strings_Fields_laid ⟨stsText.toArray⟩ w (by decide +kernel) (by simpa using sts_ascii) hs).mono ?_
  rintro e w' ⟨rfl, rfl⟩
  have h : Lib.fields (ByteArray.mk stsText.toArray).data.toList = [stW 0, stW 1, stW 2] := by simpa using sts_fields
  rw [h]
  exact ⟨rfl, rfl⟩
/-- A number below 100 makes no memory. -/
theorem fmtu_small (u : Nat) (hs : u < 100) (w : World) :
    Calls Tryd.prog 12 #[.int .u64 u, .int .i64 10] w fun e w' => e = .returned (S (Lib.decDigits u)) ∧ w' = w := by
  have hs' : (u : Int) < 100 := by omega
  have hin : Calls Tryd.prog 21 #[.int .u64 u, .int .i64 10] w fun e w' => e = .returned (S (Lib.decDigits u)) ∧ w = w' := by
    go_enter Tryd.func21, Tryd.ntmps21
    go_wp2_with fail
    refine (Tryd.internal_strconv_small u hs _).mono ?_
    rintro e w' ⟨rfl, rfl⟩
    go_wp2_with fail
    go_ret
    exact ⟨rfl, rfl⟩
  have Hin := Lib.hid hin; clear hin
  go_enter Tryd.func12, Tryd.ntmps12
  go_wp2_with fail
  refine Hin.out.mono ?_
  rintro e w' ⟨rfl, rfl⟩
  go_wp2_with fail
  go_ret
  exact ⟨rfl, rfl⟩

/-- A builder of the call's own that holds l. -/
def IsB (B b : Nat) (l : List UInt8) (w : World) : Prop := Lib.IsBuilderF 79 5 B b (Lib.byteCells l) w
theorem isB_new {w : World} {b : Nat} (h : Blk w b #[.pointer none, .slice none 0 0] 79) : IsB b b [] w :=
  .inl ⟨Nat.le_refl _, .slice none 0 0, h, World.ownsRowF_of (World.ownsRow_nil _ _ _ _), by simp [Value.ownBlock]⟩
theorem IsB.below {B b : Nat} {l : List UInt8} {w w' : World} (h : IsB B b l w) (hb : Below w.heap.size w w') : IsB B b l w' := by
  have key : ∀ p, Lib.BuilderAtF 79 5 B b p (Lib.byteCells l) w → Lib.BuilderAtF 79 5 B b p (Lib.byteCells l) w' := by
    rintro p ⟨h1, v, h2, h3, h4⟩
    refine ⟨h1, v, by rw [hb.block b (Array.getElem?_eq_some_iff.1 h2).1]; exact h2, ⟨h3.1, ?_⟩, h4⟩
    rcases h3.2 with h | ⟨g, cap, cur, fz, e, hg, hh, r⟩
    · exact .inl h
    · exact .inr ⟨g, cap, cur, fz, e, hg, by rw [hb.block g (Array.getElem?_eq_some_iff.1 hh).1]; exact hh, r⟩
  exact h.elim (fun h => .inl (key _ h)) (fun h => .inr (key _ h))
theorem bld_write (B b : Nat) (l m : List UInt8) (w : World) (h : IsB B b l w) (hl : l.length + m.length ≤ 1000000) (hB : B ≤ w.heap.size) :
    Calls Tryd.prog 16 #[.pointer (some ⟨b, 0, none⟩), S m] w fun e w' => e = .returned (.tuple #[.int .i64 m.length, .nilIface]) ∧ IsB B b (l ++ m) w' ∧ Below B w w' := by
  have hs : (⟨m.toArray⟩ : ByteArray).size = m.length := by show m.toArray.size = _; simp
  refine (Any.Builder_WriteString_k lays166 bldExtra B b (Lib.byteCells l) ⟨m.toArray⟩ w h (by rw [Lib.byteCells_length, hs]; omega) hB).mono ?_
  rintro e w' ⟨rfl, h1, h2, _⟩
  refine ⟨by rw [hs], .inr ?_, h2⟩
  have e1 : Lib.byteCells l ++ Lib.strCells ⟨m.toArray⟩ = Lib.byteCells (l ++ m) := by simp [Lib.byteCells, Lib.strCells]
  rw [e1] at h1
  exact h1
theorem bld_str (B b : Nat) (l : List UInt8) (w : World) (h : IsB B b l w) (hB : B ≤ w.heap.size) :
    Calls Tryd.prog 17 #[.pointer (some ⟨b, 0, none⟩)] w fun e w' => e = .returned (S l) ∧ IsB B b l w' ∧ Below B w w' :=
  (Any.Builder_String_any_k lays169 bldExtra B b l w h hB).mono fun _ _ ⟨h1, h2, h3, _⟩ => ⟨h1, h2, h3⟩

theorem run_addL {P : Program} {w : World} {t : TypeId} (l m : List UInt8) (h : l.length + m.length ≤ 9223372036854775807) : (binOp .add t (S l) (S m)).run P w = .ok (S (l ++ m)) w := by
  rw [binOp_string_add]; exact run_sadd l m h w
theorem ex_nilCheck {P : Program} {a : Act} {w : World} {d : Option Tmp} {t : TypeId} {p : String} {e : Array Edge} {g : Option (Nat × Bool)} {x : Operand} {q : Addr} (h : a.eval x = .pointer (some q)) : (execOp a.eval ⟨d, .nilCheck x, t, p, e, g⟩).run P w = .ok (.value (.pointer (some q))) w := by
  simp [execOp, h]

/-- In the midst of the first statement. -/
structure TH (w0 : World) (b : Nat) (pre : List UInt8) (x7 x39 : Option Bool) (w : World) : Prop where
  bel : Below b w0 w
  blk0 : ¬ (x39 = some true) → Blk w b #[.pointer none, .slice none 0 0] 79
  fresh : ¬ (x7 = some true) → w.heap.size = b + 1
  nmb : x7 = some true → ¬ (x39 = some true) → Blk w (b + 1) stsV 9
  post : x39 = some true → IsB b b pre w
theorem TH.size {w0 : World} {b : Nat} {pre : List UInt8} {x7 x39 : Option Bool} {w : World} (h : TH w0 b pre x7 x39 w) (hx : ¬ (x39 = some true)) : b ≤ w.heap.size := by have := (h.blk0 hx).lt; omega
/-- The text's beginning. -/
def preT (k pc : Nat) : List UInt8 := [116, 104, 114, 101, 97, 100, 32] ++ Lib.decDigits 7 ++ [32] ++ stW k ++ [32] ++ Lib.itoa 3 ++ [32] ++ Lib.decDigits pc
/-- A register's text. -/
def regT (i x : Nat) : List UInt8 := if x = 0 then [] else [32, 114] ++ Lib.decDigits i ++ [61] ++ Lib.decDigits x
/-- The text with some registers. -/
def regsT (m : Nat → Nat) (p : List UInt8) : Nat → List UInt8
  | 0 => p
  | j + 1 => regsT m p j ++ regT j (m j)

theorem regT_len (i x : Nat) (hi : i < 16) (hx : x < 18446744073709551616) : (regT i x).length ≤ 50 := by
  have h1 := dec_len20 i (by omega)
  have h2 := dec_len20 x hx
  unfold regT; split
  · simp
  · simp; omega
theorem regsT_len (m : Nat → Nat) (hm : ∀ i, m i < 18446744073709551616) (p : List UInt8) : ∀ j, j ≤ 16 → (regsT m p j).length ≤ p.length + 50 * j
  | 0, _ => by simp [regsT]
  | j + 1, h => by
    have h1 := regsT_len m hm p j (by omega)
    have h2 := regT_len j (m j) (by omega) (hm j)
    unfold regsT
    rw [List.length_append]; omega
/-- Sixteen registers. -/
def regsA (r : Nat → Nat) : Array Value := #[.int .u64 (r 0 : Nat), .int .u64 (r 1 : Nat), .int .u64 (r 2 : Nat), .int .u64 (r 3 : Nat), .int .u64 (r 4 : Nat), .int .u64 (r 5 : Nat), .int .u64 (r 6 : Nat), .int .u64 (r 7 : Nat), .int .u64 (r 8 : Nat), .int .u64 (r 9 : Nat), .int .u64 (r 10 : Nat), .int .u64 (r 11 : Nat), .int .u64 (r 12 : Nat), .int .u64 (r 13 : Nat), .int .u64 (r 14 : Nat), .int .u64 (r 15 : Nat)]
theorem idx16 (r : Nat → Nat) (j : Nat) (hj : j < 16) (w : World) : (Instr.index 32 (.agg (regsA r)) (.int .i64 j)).run Tryd.prog w = .ok (.int .u64 (r j : Nat)) w := by
  obtain rfl | rfl | rfl | rfl | rfl | rfl | rfl | rfl | rfl | rfl | rfl | rfl | rfl | rfl | rfl | rfl : j = 0 ∨ j = 1 ∨ j = 2 ∨ j = 3 ∨ j = 4 ∨ j = 5 ∨ j = 6 ∨ j = 7 ∨ j = 8 ∨ j = 9 ∨ j = 10 ∨ j = 11 ∨ j = 12 ∨ j = 13 ∨ j = 14 ∨ j = 15 := by omega
  all_goals kernel_rfl
theorem wpList_index3 {P : Program} {ops : Array Oper} {rest : List Oper} {a : Act} {w : World} {Q : Exit → Act → World → Prop} {d : Option Tmp} {T t : TypeId} {p : String} {e : Array Edge} {x y : Operand} {u s v : Value}
    (hx : a.eval x = u) (hy : a.eval y = s) (hr : (Instr.index T u s).run P w = .ok v w) (h : wpList P ops Q rest (a.put d v) w) : wpList P ops Q (⟨d, .index T x y, t, p, e, none⟩ :: rest) a w :=
  wpList_plain rfl fun _ hK => by
    unfold Oper.wp
    simp only [execOp, hx, hy, hr, Sem.run_bind, Result.andThen_ok, Sem.run_pure]
    exact hK _ _ h
theorem itoa_dec (k : Nat) : Lib.itoa (k : Int) = Lib.decDigits k := by
  unfold Lib.itoa
  rw [if_neg (by omega)]; rfl

set_option maxRecDepth 100000 in
set_option maxHeartbeats 4000000 in
theorem thread_any (m : Nat → Nat) (pc k tb : Nat) (hk : k < 3) (hpc : pc < 18446744073709551616) (hm : ∀ i, m i < 18446744073709551616) (w : World) (h : HasTr w) (hT : Blk w tb (thC m pc k) 48) (hO : Blk w (tb + 1) (obC tb) 64) :
    Calls Tryd.prog 9 #[.pointer (some ⟨tb + 1, 0, none⟩)] w fun e w' => e = .returned (S (regsT m (preT k pc) 16)) ∧ Below w.heap.size w w' := by
  have H := Lib.hid h; have HT := Lib.hid hT; have HO := Lib.hid hO; have Hk := Lib.hid hk; have Hpc := Lib.hid hpc; have Hm := Lib.hid hm
  clear h hT hO hm
  have hk3 : (k : Int) < 3 := by omega
  have l1 := dec_len20 pc hpc
  have l2 := stW_len k
  have l3 := dec_len20 7 (by omega)
  have l4 := Lib.itoa_length_le (n := 3) (by omega) (by omega)
  obtain ⟨b, hb⟩ : ∃ b, b = w.heap.size := ⟨_, rfl⟩
  have Hob : Hid (tb + 1 < b) := by rw [hb]; exact HO.out.lt
  have HBw : Hid (w.heap.size ≤ b) := Nat.le_of_eq hb.symm
  have HW0 : Hid (Blk (w.alloc (.cells #[.pointer none, .slice none 0 0] 79)) b #[.pointer none, .slice none 0 0] 79) := by rw [hb]; exact Blk.new _ _ _
  have HB0 : Hid (Below b w (w.alloc (.cells #[.pointer none, .slice none 0 0] 79))) := by rw [hb]; exact (Below.refl _ _).alloc (Nat.le_refl _) _
  have Hz0 : Hid ((w.alloc (.cells #[.pointer none, .slice none 0 0] 79)).heap.size = b + 1) := by show _ = _; rw [World.size_alloc, hb]
  go_enter Tryd.func9, Tryd.ntmps9
  go_upto_region 2 with fail
  rw [← hb]
  have Hbe := Lib.hid hb
  clear hb
  refine wp_region_rinv (by kernel_rfl) (by kernel_rfl) (by kernel_rfl)
    (fun i v => match i with | 0 => v = (.pointer (some ⟨tb + 1, 0, none⟩)) | 1 => v = .pointer (some ⟨tb + 1, 0, none⟩) | 2 => v = .pointer (some ⟨tb + 1, 2, none⟩) | 3 => v = .int .u64 7 | 4 => v = S (Lib.decDigits 7) | 5 => v = S ([116, 104, 114, 101, 97, 100, 32] ++ Lib.decDigits 7) | 6 => v = S ([116, 104, 114, 101, 97, 100, 32] ++ Lib.decDigits 7 ++ [32]) | 7 => v = .slice (some ⟨b + 1, 0, none⟩) 3 3 | 8 => v = (.pointer (some ⟨tb + 1, 0, none⟩)) | 9 => v = .pointer (some ⟨tb + 1, 0, none⟩) | 10 => v = .pointer (some ⟨tb + 1, 19, none⟩) | 11 => v = .pointer (some ⟨tb, 0, none⟩) | 12 => v = .pointer (some ⟨tb, 0, none⟩) | 13 => v = .pointer (some ⟨tb, 20, none⟩) | 14 => v = .int .i64 k | 15 => v = .pointer (some ⟨b + 1, k, none⟩) | 16 => v = S (stW k) | 17 => v = S ([116, 104, 114, 101, 97, 100, 32] ++ Lib.decDigits 7 ++ [32] ++ stW k) | 18 => v = S ([116, 104, 114, 101, 97, 100, 32] ++ Lib.decDigits 7 ++ [32] ++ stW k ++ [32]) | 19 => v = (.pointer (some ⟨tb + 1, 0, none⟩)) | 20 => v = .pointer (some ⟨tb + 1, 0, none⟩) | 21 => v = .pointer (some ⟨tb + 1, 19, none⟩) | 22 => v = .pointer (some ⟨tb, 0, none⟩) | 23 => v = .pointer (some ⟨tb, 0, none⟩) | 24 => v = .pointer (some ⟨tb, 25, none⟩) | 25 => v = .int .i64 3 | 26 => v = S (Lib.itoa 3) | 27 => v = S ([116, 104, 114, 101, 97, 100, 32] ++ Lib.decDigits 7 ++ [32] ++ stW k ++ [32] ++ Lib.itoa 3) | 28 => v = S ([116, 104, 114, 101, 97, 100, 32] ++ Lib.decDigits 7 ++ [32] ++ stW k ++ [32] ++ Lib.itoa 3 ++ [32]) | 29 => v = (.pointer (some ⟨tb + 1, 0, none⟩)) | 30 => v = .pointer (some ⟨tb + 1, 0, none⟩) | 31 => v = .pointer (some ⟨tb + 1, 19, none⟩) | 32 => v = .pointer (some ⟨tb, 0, none⟩) | 33 => v = .pointer (some ⟨tb, 0, none⟩) | 34 => v = .pointer (some ⟨tb, 0, none⟩) | 35 => v = .pointer (some ⟨tb, 16, none⟩) | 36 => v = .int .u64 pc | 37 => v = S (Lib.decDigits pc) | 38 => v = S ([116, 104, 114, 101, 97, 100, 32] ++ Lib.decDigits 7 ++ [32] ++ stW k ++ [32] ++ Lib.itoa 3 ++ [32] ++ Lib.decDigits pc) | 39 => v = .tuple #[.int .i64 ([116, 104, 114, 101, 97, 100, 32] ++ Lib.decDigits 7 ++ [32] ++ stW k ++ [32] ++ Lib.itoa 3 ++ [32] ++ Lib.decDigits pc).length, .nilIface] | _ => True)
    (fun l a wx => TH w b (preT k pc) l[7]? l[39]? wx) ?_ ?_ ?_
  · exact ⟨HB0.out.drew, fun _ => HW0.out.drew, fun _ => by simpa using Hz0.out, fun h => by simp at h, fun h => by simp at h⟩
  · intro hu i l a wx hi hl hli hd hcl hR hW
    have hi27 : i = 0 ∨ i = 1 ∨ i = 2 ∨ i = 3 ∨ i = 4 ∨ i = 5 ∨ i = 6 ∨ i = 7 ∨ i = 8 ∨ i = 9 ∨ i = 10 ∨ i = 11 ∨ i = 12 ∨ i = 13 ∨ i = 14 ∨ i = 15 ∨ i = 16 ∨ i = 17 ∨ i = 18 ∨ i = 19 ∨ i = 20 ∨ i = 21 ∨ i = 22 ∨ i = 23 ∨ i = 24 ∨ i = 25 ∨ i = 26 ∨ i = 27 ∨ i = 28 ∨ i = 29 ∨ i = 30 ∨ i = 31 ∨ i = 32 ∨ i = 33 ∨ i = 34 ∨ i = 35 ∨ i = 36 ∨ i = 37 ∨ i = 38 ∨ i = 39 := by have : i < 40 := hi; omega
    rcases hi27 with rfl | rfl | rfl | rfl | rfl | rfl | rfl | rfl | rfl | rfl | rfl | rfl | rfl | rfl | rfl | rfl | rfl | rfl | rfl | rfl | rfl | rfl | rfl | rfl | rfl | rfl | rfl | rfl | rfl | rfl | rfl | rfl | rfl | rfl | rfl | rfl | rfl | rfl | rfl | rfl
    · -- [0] move [t0]
      refine wpOp_val rfl (d := 6) rfl (wanted_plain rfl _) (ex_move (hR.was 0 rfl)) ⟨hR.put hu (by rw [hl]; decide) (d := 6) rfl (of_decide_eq_true rfl) rfl, ?_⟩
      simpa only [set_other, put_other, ne_eq, not_false_eq_true, Nat.reduceEqDiff] using hW
    · -- [1] nilCheck [t6]
      refine wpOp_val rfl (d := 7) rfl (wanted_plain rfl _) (ex_nilCheck (hR.slot 0 6 (hd 0 rfl) rfl)) ⟨hR.put hu (by rw [hl]; decide) (d := 7) rfl (of_decide_eq_true rfl) rfl, ?_⟩
      simpa only [set_other, put_other, ne_eq, not_false_eq_true, Nat.reduceEqDiff] using hW
    · -- [2] fieldAddr 64 t7 1
      refine wpOp_val rfl (d := 8) rfl (wanted_plain rfl _) (ex_fieldAddr (hR.slot 1 7 (hd 1 rfl) rfl) (by go_simp; rfl)) ⟨hR.put hu (by rw [hl]; decide) (d := 8) rfl (of_decide_eq_true rfl) rfl, ?_⟩
      simpa only [set_other, put_other, ne_eq, not_false_eq_true, Nat.reduceEqDiff] using hW
    · -- [3] load 22 t8
      have hc : wx.cell? ⟨tb + 1, 2, none⟩ = some (.int .u64 7) := ((HO.out.below hW.bel Hob.out).cell 2).trans rfl
      refine wpOp_val rfl (d := 9) rfl (wanted_plain rfl _) (ex_load (hR.slot 2 8 (hd 2 rfl) rfl) (by go_simp; rfl)) ⟨hR.put hu (by rw [hl]; decide) (d := 9) rfl (of_decide_eq_true rfl) rfl, ?_⟩
      clear hc
      simpa only [set_other, put_other, ne_eq, not_false_eq_true, Nat.reduceEqDiff] using hW
    · -- [4] call f12 [t9, (.int .i64 10)]
      have n7 : ¬ (l[7]? = some true) := fun h => by have := hcl.of 4 rfl h; rw [hli] at this; cases this
      refine wpOp_call rfl (d := 10) rfl (wanted_plain rfl _) (ex_call (vs := #[(.int .u64 7), (.int .i64 10)]) (by rw [List.map_toArray]; simp only [List.map_cons, List.map_nil, show a.eval (.tmp 9) = (.int .u64 7) from (hR.slot 3 9 (hd 3 rfl) rfl), show a.eval (.const (.int .i64 10)) = (.int .i64 10) from rfl]) (enters_fn Tryd.func12 (by kernel_rfl) rfl)) (R := fun v w' => v = S (Lib.decDigits 7) ∧ w' = wx) ((fmtu_small 7 (by omega) wx).mono fun e w' ⟨h1, h2⟩ => ⟨_, h1, rfl, h2⟩) ?_
      rintro v w' ⟨rfl, rfl⟩
      refine ⟨hR.put hu (by rw [hl]; decide) (d := 10) rfl (of_decide_eq_true rfl) rfl, ?_⟩
      simpa only [set_other, put_other, ne_eq, not_false_eq_true, Nat.reduceEqDiff] using hW
    · -- [5] binOp add 9 (.string ⟨#[116, 104, 114, 101, 97, 100, 32]⟩) t10 9
      refine wpOp_val rfl (d := 11) rfl (wanted_plain rfl _) (ex_bin rfl (hR.slot 4 10 (hd 4 rfl) rfl) (fun w => by simp [eqGuard]) (run_addL _ _ (by simp only [List.length_cons, List.length_nil]; omega))) ⟨hR.put hu (by rw [hl]; decide) (d := 11) rfl (of_decide_eq_true rfl) rfl, ?_⟩
      simpa only [set_other, put_other, ne_eq, not_false_eq_true, Nat.reduceEqDiff] using hW
    · -- [6] binOp add 9 t11 (.string ⟨#[32]⟩) 9
      refine wpOp_val rfl (d := 12) rfl (wanted_plain rfl _) (ex_bin (hR.slot 5 11 (hd 5 rfl) rfl) rfl (fun w => by simp [eqGuard]) (run_addL _ _ (by simp only [List.length_append, List.length_cons, List.length_nil]; omega))) ⟨hR.put hu (by rw [hl]; decide) (d := 12) rfl (of_decide_eq_true rfl) rfl, ?_⟩
      simpa only [set_other, put_other, ne_eq, not_false_eq_true, Nat.reduceEqDiff] using hW
    · -- [7] call f10 [(.string ⟨#[104, 97, 108, 116, 101, 100, 32, 114, 117, 110, 110, 105, 110, 103, 32, 119, 97, 105, 116, 105, 110, 103]⟩)]
      have n7 : ¬ (l[7]? = some true) := by rw [hli]; simp
      have n39 : ¬ (l[39]? = some true) := fun h => n7 (hcl.of 7 rfl (hcl.of 26 rfl (hcl.of 37 rfl h)))
      have hz := hW.fresh n7
      refine wpOp_call rfl (d := 13) rfl (wanted_plain rfl _) (ex_call (vs := #[(.string ⟨#[104, 97, 108, 116, 101, 100, 32, 114, 117, 110, 110, 105, 110, 103, 32, 119, 97, 105, 116, 105, 110, 103]⟩)]) (by rw [List.map_toArray]; simp only [List.map_cons, List.map_nil, show a.eval (.const (.string ⟨#[104, 97, 108, 116, 101, 100, 32, 114, 117, 110, 110, 105, 110, 103, 32, 119, 97, 105, 116, 105, 110, 103]⟩)) = (.string ⟨#[104, 97, 108, 116, 101, 100, 32, 114, 117, 110, 110, 105, 110, 103, 32, 119, 97, 105, 116, 105, 110, 103]⟩) from rfl]) (enters_fn Tryd.func10 (by kernel_rfl) rfl)) (R := fun v w' => v = .slice (some ⟨b + 1, 0, none⟩) 3 3 ∧ Blk w' (b + 1) stsV 9 ∧ Below wx.heap.size wx w') ((fields_sts wx (H.out.below (hW.bel.mono HBw.out)).sp).mono fun e w' ⟨h1, h2⟩ => ⟨_, h1, by rw [hz], by rw [h2, ← hz]; exact Blk.new _ _ _, by rw [h2]; exact (Below.refl _ _).alloc (Nat.le_refl _) _⟩) ?_
      rintro v w' ⟨rfl, h1, h2⟩
      refine ⟨hR.put hu (by rw [hl]; decide) (d := 13) rfl (of_decide_eq_true rfl) rfl, ?_⟩
      rw [set_self (show 7 < l.size by rw [hl]; decide)]
      simp only [set_other, ne_eq, not_false_eq_true, Nat.reduceEqDiff]
      exact ⟨hW.bel.trans (h2.mono (by omega)), fun h => (hW.blk0 h).below h2 (hW.blk0 h).lt, fun h => absurd rfl h, fun _ _ => h1, fun h => absurd h n39⟩
    · -- [8] move [t0]
      refine wpOp_val rfl (d := 14) rfl (wanted_plain rfl _) (ex_move (hR.was 0 rfl)) ⟨hR.put hu (by rw [hl]; decide) (d := 14) rfl (of_decide_eq_true rfl) rfl, ?_⟩
      simpa only [set_other, put_other, ne_eq, not_false_eq_true, Nat.reduceEqDiff] using hW
    · -- [9] nilCheck [t14]
      refine wpOp_val rfl (d := 15) rfl (wanted_plain rfl _) (ex_nilCheck (hR.slot 8 14 (hd 8 rfl) rfl)) ⟨hR.put hu (by rw [hl]; decide) (d := 15) rfl (of_decide_eq_true rfl) rfl, ?_⟩
      simpa only [set_other, put_other, ne_eq, not_false_eq_true, Nat.reduceEqDiff] using hW
    · -- [10] fieldAddr 64 t15 13
      refine wpOp_val rfl (d := 16) rfl (wanted_plain rfl _) (ex_fieldAddr (hR.slot 9 15 (hd 9 rfl) rfl) (by go_simp; rfl)) ⟨hR.put hu (by rw [hl]; decide) (d := 16) rfl (of_decide_eq_true rfl) rfl, ?_⟩
      simpa only [set_other, put_other, ne_eq, not_false_eq_true, Nat.reduceEqDiff] using hW
    · -- [11] load 34 t16
      have hc : wx.cell? ⟨tb + 1, 19, none⟩ = some (.pointer (some ⟨tb, 0, none⟩)) := ((HO.out.below hW.bel Hob.out).cell 19).trans rfl
      refine wpOp_val rfl (d := 17) rfl (wanted_plain rfl _) (ex_load (hR.slot 10 16 (hd 10 rfl) rfl) (by go_simp; rfl)) ⟨hR.put hu (by rw [hl]; decide) (d := 17) rfl (of_decide_eq_true rfl) rfl, ?_⟩
      clear hc
      simpa only [set_other, put_other, ne_eq, not_false_eq_true, Nat.reduceEqDiff] using hW
    · -- [12] nilCheck [t17]
      refine wpOp_val rfl (d := 18) rfl (wanted_plain rfl _) (ex_nilCheck (hR.slot 11 17 (hd 11 rfl) rfl)) ⟨hR.put hu (by rw [hl]; decide) (d := 18) rfl (of_decide_eq_true rfl) rfl, ?_⟩
      simpa only [set_other, put_other, ne_eq, not_false_eq_true, Nat.reduceEqDiff] using hW
    · -- [13] fieldAddr 48 t18 3
      refine wpOp_val rfl (d := 19) rfl (wanted_plain rfl _) (ex_fieldAddr (hR.slot 12 18 (hd 12 rfl) rfl) (by go_simp; rfl)) ⟨hR.put hu (by rw [hl]; decide) (d := 19) rfl (of_decide_eq_true rfl) rfl, ?_⟩
      simpa only [set_other, put_other, ne_eq, not_false_eq_true, Nat.reduceEqDiff] using hW
    · -- [14] load 3 t19
      have hc : wx.cell? ⟨tb, 20, none⟩ = some (.int .i64 k) := ((HT.out.below hW.bel (Nat.lt_of_succ_lt Hob.out)).cell 20).trans rfl
      refine wpOp_val rfl (d := 20) rfl (wanted_plain rfl _) (ex_load (hR.slot 13 19 (hd 13 rfl) rfl) (by go_simp; rfl)) ⟨hR.put hu (by rw [hl]; decide) (d := 20) rfl (of_decide_eq_true rfl) rfl, ?_⟩
      clear hc
      simpa only [set_other, put_other, ne_eq, not_false_eq_true, Nat.reduceEqDiff] using hW
    · -- [15] indexAddr 26 t13 t20
      refine wpOp_val rfl (d := 21) rfl (wanted_plain rfl _) (ex_indexAddr (hR.slot 7 13 (hd 7 rfl) rfl) (hR.slot 14 20 (hd 14 rfl) rfl) (by go_simp; rfl)) ⟨hR.put hu (by rw [hl]; decide) (d := 21) rfl (of_decide_eq_true rfl) rfl, ?_⟩
      simpa only [set_other, put_other, ne_eq, not_false_eq_true, Nat.reduceEqDiff] using hW
    · -- [16] load 9 t21
      have n39 : ¬ (l[39]? = some true) := fun h => by have := hcl.of 16 rfl (hcl.of 17 rfl (hcl.of 18 rfl (hcl.of 27 rfl (hcl.of 28 rfl (hcl.of 38 rfl h))))); rw [hli] at this; cases this
      have hc := (hW.nmb (hcl.of 7 rfl (hd 15 rfl)) n39).cell k
      rw [stsV_at k Hk.out] at hc
      refine wpOp_val rfl (d := 22) rfl (wanted_plain rfl _) (ex_load (hR.slot 15 21 (hd 15 rfl) rfl) (by go_simp; rfl)) ⟨hR.put hu (by rw [hl]; decide) (d := 22) rfl (of_decide_eq_true rfl) rfl, ?_⟩
      clear hc
      simpa only [set_other, put_other, ne_eq, not_false_eq_true, Nat.reduceEqDiff] using hW
    · -- [17] binOp add 9 t12 t22 9
      refine wpOp_val rfl (d := 23) rfl (wanted_plain rfl _) (ex_bin (hR.slot 6 12 (hd 6 rfl) rfl) (hR.slot 16 22 (hd 16 rfl) rfl) (fun w => by simp [eqGuard]) (run_addL _ _ (by simp only [List.length_append, List.length_cons, List.length_nil]; omega))) ⟨hR.put hu (by rw [hl]; decide) (d := 23) rfl (of_decide_eq_true rfl) rfl, ?_⟩
      simpa only [set_other, put_other, ne_eq, not_false_eq_true, Nat.reduceEqDiff] using hW
    · -- [18] binOp add 9 t23 (.string ⟨#[32]⟩) 9
      refine wpOp_val rfl (d := 24) rfl (wanted_plain rfl _) (ex_bin (hR.slot 17 23 (hd 17 rfl) rfl) rfl (fun w => by simp [eqGuard]) (run_addL _ _ (by simp only [List.length_append, List.length_cons, List.length_nil]; omega))) ⟨hR.put hu (by rw [hl]; decide) (d := 24) rfl (of_decide_eq_true rfl) rfl, ?_⟩
      simpa only [set_other, put_other, ne_eq, not_false_eq_true, Nat.reduceEqDiff] using hW
    · -- [19] move [t0]
      refine wpOp_val rfl (d := 25) rfl (wanted_plain rfl _) (ex_move (hR.was 0 rfl)) ⟨hR.put hu (by rw [hl]; decide) (d := 25) rfl (of_decide_eq_true rfl) rfl, ?_⟩
      simpa only [set_other, put_other, ne_eq, not_false_eq_true, Nat.reduceEqDiff] using hW
    · -- [20] nilCheck [t25]
      refine wpOp_val rfl (d := 26) rfl (wanted_plain rfl _) (ex_nilCheck (hR.slot 19 25 (hd 19 rfl) rfl)) ⟨hR.put hu (by rw [hl]; decide) (d := 26) rfl (of_decide_eq_true rfl) rfl, ?_⟩
      simpa only [set_other, put_other, ne_eq, not_false_eq_true, Nat.reduceEqDiff] using hW
    · -- [21] fieldAddr 64 t26 13
      refine wpOp_val rfl (d := 27) rfl (wanted_plain rfl _) (ex_fieldAddr (hR.slot 20 26 (hd 20 rfl) rfl) (by go_simp; rfl)) ⟨hR.put hu (by rw [hl]; decide) (d := 27) rfl (of_decide_eq_true rfl) rfl, ?_⟩
      simpa only [set_other, put_other, ne_eq, not_false_eq_true, Nat.reduceEqDiff] using hW
    · -- [22] load 34 t27
      have hc : wx.cell? ⟨tb + 1, 19, none⟩ = some (.pointer (some ⟨tb, 0, none⟩)) := ((HO.out.below hW.bel Hob.out).cell 19).trans rfl
      refine wpOp_val rfl (d := 28) rfl (wanted_plain rfl _) (ex_load (hR.slot 21 27 (hd 21 rfl) rfl) (by go_simp; rfl)) ⟨hR.put hu (by rw [hl]; decide) (d := 28) rfl (of_decide_eq_true rfl) rfl, ?_⟩
      clear hc
      simpa only [set_other, put_other, ne_eq, not_false_eq_true, Nat.reduceEqDiff] using hW
    · -- [23] nilCheck [t28]
      refine wpOp_val rfl (d := 29) rfl (wanted_plain rfl _) (ex_nilCheck (hR.slot 22 28 (hd 22 rfl) rfl)) ⟨hR.put hu (by rw [hl]; decide) (d := 29) rfl (of_decide_eq_true rfl) rfl, ?_⟩
      simpa only [set_other, put_other, ne_eq, not_false_eq_true, Nat.reduceEqDiff] using hW
    · -- [24] fieldAddr 48 t29 8
      refine wpOp_val rfl (d := 30) rfl (wanted_plain rfl _) (ex_fieldAddr (hR.slot 23 29 (hd 23 rfl) rfl) (by go_simp; rfl)) ⟨hR.put hu (by rw [hl]; decide) (d := 30) rfl (of_decide_eq_true rfl) rfl, ?_⟩
      simpa only [set_other, put_other, ne_eq, not_false_eq_true, Nat.reduceEqDiff] using hW
    · -- [25] load 3 t30
      have hc : wx.cell? ⟨tb, 25, none⟩ = some (.int .i64 3) := ((HT.out.below hW.bel (Nat.lt_of_succ_lt Hob.out)).cell 25).trans rfl
      refine wpOp_val rfl (d := 31) rfl (wanted_plain rfl _) (ex_load (hR.slot 24 30 (hd 24 rfl) rfl) (by go_simp; rfl)) ⟨hR.put hu (by rw [hl]; decide) (d := 31) rfl (of_decide_eq_true rfl) rfl, ?_⟩
      clear hc
      simpa only [set_other, put_other, ne_eq, not_false_eq_true, Nat.reduceEqDiff] using hW
    · -- [26] call f11 [t31]
      have n39 : ¬ (l[39]? = some true) := fun h => by have := hcl.of 26 rfl (hcl.of 37 rfl h); rw [hli] at this; cases this
      refine wpOp_call rfl (d := 32) rfl (wanted_plain rfl _) (ex_call (vs := #[(.int .i64 3)]) (by rw [List.map_toArray]; simp only [List.map_cons, List.map_nil, show a.eval (.tmp 31) = (.int .i64 3) from (hR.slot 25 31 (hd 25 rfl) rfl)]) (enters_fn Tryd.func11 (by kernel_rfl) rfl)) (R := fun v w' => v = S (Lib.itoa 3) ∧ Below wx.heap.size wx w') ((itoa_any 3 (by omega) (by omega) wx (H.out.below (hW.bel.mono HBw.out)).pow).mono fun e w' ⟨h1, h2⟩ => ⟨_, h1, rfl, h2⟩) ?_
      rintro v w' ⟨rfl, h2⟩
      refine ⟨hR.put hu (by rw [hl]; decide) (d := 32) rfl (of_decide_eq_true rfl) rfl, ?_⟩
      simp only [set_other, ne_eq, not_false_eq_true, Nat.reduceEqDiff]
      exact ⟨hW.bel.trans (h2.mono (hW.size n39)), fun h => (hW.blk0 h).below h2 (hW.blk0 h).lt, fun h => absurd (hd 7 rfl) h, fun h g => (hW.nmb h g).below h2 (hW.nmb h g).lt, fun h => absurd h n39⟩
    · -- [27] binOp add 9 t24 t32 9
      refine wpOp_val rfl (d := 33) rfl (wanted_plain rfl _) (ex_bin (hR.slot 18 24 (hd 18 rfl) rfl) (hR.slot 26 32 (hd 26 rfl) rfl) (fun w => by simp [eqGuard]) (run_addL _ _ (by simp only [List.length_append, List.length_cons, List.length_nil]; omega))) ⟨hR.put hu (by rw [hl]; decide) (d := 33) rfl (of_decide_eq_true rfl) rfl, ?_⟩
      simpa only [set_other, put_other, ne_eq, not_false_eq_true, Nat.reduceEqDiff] using hW
    · -- [28] binOp add 9 t33 (.string ⟨#[32]⟩) 9
      refine wpOp_val rfl (d := 34) rfl (wanted_plain rfl _) (ex_bin (hR.slot 27 33 (hd 27 rfl) rfl) rfl (fun w => by simp [eqGuard]) (run_addL _ _ (by simp only [List.length_append, List.length_cons, List.length_nil]; omega))) ⟨hR.put hu (by rw [hl]; decide) (d := 34) rfl (of_decide_eq_true rfl) rfl, ?_⟩
      simpa only [set_other, put_other, ne_eq, not_false_eq_true, Nat.reduceEqDiff] using hW
    · -- [29] move [t0]
      refine wpOp_val rfl (d := 35) rfl (wanted_plain rfl _) (ex_move (hR.was 0 rfl)) ⟨hR.put hu (by rw [hl]; decide) (d := 35) rfl (of_decide_eq_true rfl) rfl, ?_⟩
      simpa only [set_other, put_other, ne_eq, not_false_eq_true, Nat.reduceEqDiff] using hW
    · -- [30] nilCheck [t35]
      refine wpOp_val rfl (d := 36) rfl (wanted_plain rfl _) (ex_nilCheck (hR.slot 29 35 (hd 29 rfl) rfl)) ⟨hR.put hu (by rw [hl]; decide) (d := 36) rfl (of_decide_eq_true rfl) rfl, ?_⟩
      simpa only [set_other, put_other, ne_eq, not_false_eq_true, Nat.reduceEqDiff] using hW
    · -- [31] fieldAddr 64 t36 13
      refine wpOp_val rfl (d := 37) rfl (wanted_plain rfl _) (ex_fieldAddr (hR.slot 30 36 (hd 30 rfl) rfl) (by go_simp; rfl)) ⟨hR.put hu (by rw [hl]; decide) (d := 37) rfl (of_decide_eq_true rfl) rfl, ?_⟩
      simpa only [set_other, put_other, ne_eq, not_false_eq_true, Nat.reduceEqDiff] using hW
    · -- [32] load 34 t37
      have hc : wx.cell? ⟨tb + 1, 19, none⟩ = some (.pointer (some ⟨tb, 0, none⟩)) := ((HO.out.below hW.bel Hob.out).cell 19).trans rfl
      refine wpOp_val rfl (d := 38) rfl (wanted_plain rfl _) (ex_load (hR.slot 31 37 (hd 31 rfl) rfl) (by go_simp; rfl)) ⟨hR.put hu (by rw [hl]; decide) (d := 38) rfl (of_decide_eq_true rfl) rfl, ?_⟩
      clear hc
      simpa only [set_other, put_other, ne_eq, not_false_eq_true, Nat.reduceEqDiff] using hW
    · -- [33] nilCheck [t38]
      refine wpOp_val rfl (d := 39) rfl (wanted_plain rfl _) (ex_nilCheck (hR.slot 32 38 (hd 32 rfl) rfl)) ⟨hR.put hu (by rw [hl]; decide) (d := 39) rfl (of_decide_eq_true rfl) rfl, ?_⟩
      simpa only [set_other, put_other, ne_eq, not_false_eq_true, Nat.reduceEqDiff] using hW
    · -- [34] fieldAddr 48 t39 0
      refine wpOp_val rfl (d := 40) rfl (wanted_plain rfl _) (ex_fieldAddr (hR.slot 33 39 (hd 33 rfl) rfl) (by go_simp; rfl)) ⟨hR.put hu (by rw [hl]; decide) (d := 40) rfl (of_decide_eq_true rfl) rfl, ?_⟩
      simpa only [set_other, put_other, ne_eq, not_false_eq_true, Nat.reduceEqDiff] using hW
    · -- [35] fieldAddr 36 t40 1
      refine wpOp_val rfl (d := 41) rfl (wanted_plain rfl _) (ex_fieldAddr (hR.slot 34 40 (hd 34 rfl) rfl) (by go_simp; rfl)) ⟨hR.put hu (by rw [hl]; decide) (d := 41) rfl (of_decide_eq_true rfl) rfl, ?_⟩
      simpa only [set_other, put_other, ne_eq, not_false_eq_true, Nat.reduceEqDiff] using hW
    · -- [36] load 22 t41
      have hc : wx.cell? ⟨tb, 16, none⟩ = some (.int .u64 pc) := ((HT.out.below hW.bel (Nat.lt_of_succ_lt Hob.out)).cell 16).trans rfl
      refine wpOp_val rfl (d := 42) rfl (wanted_plain rfl _) (ex_load (hR.slot 35 41 (hd 35 rfl) rfl) (by go_simp; rfl)) ⟨hR.put hu (by rw [hl]; decide) (d := 42) rfl (of_decide_eq_true rfl) rfl, ?_⟩
      clear hc
      simpa only [set_other, put_other, ne_eq, not_false_eq_true, Nat.reduceEqDiff] using hW
    · -- [37] call f12 [t42, (.int .i64 10)]
      have n39 : ¬ (l[39]? = some true) := fun h => by have := hcl.of 37 rfl h; rw [hli] at this; cases this
      refine wpOp_call rfl (d := 43) rfl (wanted_plain rfl _) (ex_call (vs := #[(.int .u64 pc), (.int .i64 10)]) (by rw [List.map_toArray]; simp only [List.map_cons, List.map_nil, show a.eval (.tmp 42) = (.int .u64 pc) from (hR.slot 36 42 (hd 36 rfl) rfl), show a.eval (.const (.int .i64 10)) = (.int .i64 10) from rfl]) (enters_fn Tryd.func12 (by kernel_rfl) rfl)) (R := fun v w' => v = S (Lib.decDigits pc) ∧ Below wx.heap.size wx w') ((fmtu_any pc Hpc.out wx (H.out.below (hW.bel.mono HBw.out)).pow).mono fun e w' ⟨h1, h2⟩ => ⟨_, h1, rfl, h2⟩) ?_
      rintro v w' ⟨rfl, h2⟩
      refine ⟨hR.put hu (by rw [hl]; decide) (d := 43) rfl (of_decide_eq_true rfl) rfl, ?_⟩
      simp only [set_other, ne_eq, not_false_eq_true, Nat.reduceEqDiff]
      exact ⟨hW.bel.trans (h2.mono (hW.size n39)), fun h => (hW.blk0 h).below h2 (hW.blk0 h).lt, fun h => absurd (hcl.of 7 rfl (hd 26 rfl)) h, fun h g => (hW.nmb h g).below h2 (hW.nmb h g).lt, fun h => absurd h n39⟩
    · -- [38] binOp add 9 t34 t43 9
      refine wpOp_val rfl (d := 44) rfl (wanted_plain rfl _) (ex_bin (hR.slot 28 34 (hd 28 rfl) rfl) (hR.slot 37 43 (hd 37 rfl) rfl) (fun w => by simp [eqGuard]) (run_addL _ _ (by simp only [List.length_append, List.length_cons, List.length_nil]; omega))) ⟨hR.put hu (by rw [hl]; decide) (d := 44) rfl (of_decide_eq_true rfl) rfl, ?_⟩
      simpa only [set_other, put_other, ne_eq, not_false_eq_true, Nat.reduceEqDiff] using hW
    · -- [39] call f16 [t3, t44]
      have n39 : ¬ (l[39]? = some true) := by rw [hli]; simp
      have hbd : IsB b b [] wx := isB_new (hW.blk0 n39)
      refine wpOp_call rfl (d := 45) rfl (wanted_plain rfl _) (ex_call (vs := #[(.pointer (some ⟨b, 0, none⟩)), (S ([116, 104, 114, 101, 97, 100, 32] ++ Lib.decDigits 7 ++ [32] ++ stW k ++ [32] ++ Lib.itoa 3 ++ [32] ++ Lib.decDigits pc))]) (by rw [List.map_toArray]; simp only [List.map_cons, List.map_nil, show a.eval (.tmp 3) = (.pointer (some ⟨b, 0, none⟩)) from (hR.was 3 rfl), show a.eval (.tmp 44) = (S ([116, 104, 114, 101, 97, 100, 32] ++ Lib.decDigits 7 ++ [32] ++ stW k ++ [32] ++ Lib.itoa 3 ++ [32] ++ Lib.decDigits pc)) from (hR.slot 38 44 (hd 38 rfl) rfl)]) (enters_fn Tryd.func16 (by kernel_rfl) rfl)) (R := fun v w' => v = .tuple #[.int .i64 ([116, 104, 114, 101, 97, 100, 32] ++ Lib.decDigits 7 ++ [32] ++ stW k ++ [32] ++ Lib.itoa 3 ++ [32] ++ Lib.decDigits pc).length, .nilIface] ∧ IsB b b ([116, 104, 114, 101, 97, 100, 32] ++ Lib.decDigits 7 ++ [32] ++ stW k ++ [32] ++ Lib.itoa 3 ++ [32] ++ Lib.decDigits pc) w' ∧ Below b wx w') ((bld_write b b [] ([116, 104, 114, 101, 97, 100, 32] ++ Lib.decDigits 7 ++ [32] ++ stW k ++ [32] ++ Lib.itoa 3 ++ [32] ++ Lib.decDigits pc) wx hbd (by simp only [List.length_append, List.length_cons, List.length_nil]; omega) (by have := (hW.blk0 n39).lt; omega)).mono fun e w' ⟨h1, h2, h3⟩ => ⟨_, h1, rfl, by simpa using h2, h3⟩) ?_
      rintro v w' ⟨rfl, h1, h2⟩
      refine ⟨hR.put hu (by rw [hl]; decide) (d := 45) rfl (of_decide_eq_true rfl) rfl, ?_⟩
      rw [set_self (show 39 < l.size by rw [hl]; decide)]
      simp only [set_other, ne_eq, not_false_eq_true, Nat.reduceEqDiff]
      exact ⟨hW.bel.trans h2, fun h => absurd rfl h, fun h => absurd (hcl.of 7 rfl (hcl.of 26 rfl (hd 37 rfl))) h, fun _ h => absurd rfl h, fun _ => h1⟩
-- END3
  · intro l a wx hl hR hW
    have Hbd := Lib.hid (hW.post (hl 39 (by decide)))
    have Hbel := Lib.hid hW.bel
    rw [hR.fold [6, 7, 8, 9, 10, 11, 12, 13, 14, 15, 16, 17, 18, 19, 20, 21, 22, 23, 24, 25, 26, 27, 28, 29, 30, 31, 32, 33, 34, 35, 36, 37, 38, 39, 40, 41, 42, 43, 44, 45] (by kernel_rfl)]
    simp only [List.foldl]
    clear hW hR hl
    generalize a.tmps.getD 6 undef = u6
    generalize a.tmps.getD 7 undef = u7
    generalize a.tmps.getD 8 undef = u8
    generalize a.tmps.getD 9 undef = u9
    generalize a.tmps.getD 10 undef = u10
    generalize a.tmps.getD 11 undef = u11
    generalize a.tmps.getD 12 undef = u12
    generalize a.tmps.getD 13 undef = u13
    generalize a.tmps.getD 14 undef = u14
    generalize a.tmps.getD 15 undef = u15
    generalize a.tmps.getD 16 undef = u16
    generalize a.tmps.getD 17 undef = u17
    generalize a.tmps.getD 18 undef = u18
    generalize a.tmps.getD 19 undef = u19
    generalize a.tmps.getD 20 undef = u20
    generalize a.tmps.getD 21 undef = u21
    generalize a.tmps.getD 22 undef = u22
    generalize a.tmps.getD 23 undef = u23
    generalize a.tmps.getD 24 undef = u24
    generalize a.tmps.getD 25 undef = u25
    generalize a.tmps.getD 26 undef = u26
    generalize a.tmps.getD 27 undef = u27
    generalize a.tmps.getD 28 undef = u28
    generalize a.tmps.getD 29 undef = u29
    generalize a.tmps.getD 30 undef = u30
    generalize a.tmps.getD 31 undef = u31
    generalize a.tmps.getD 32 undef = u32
    generalize a.tmps.getD 33 undef = u33
    generalize a.tmps.getD 34 undef = u34
    generalize a.tmps.getD 35 undef = u35
    generalize a.tmps.getD 36 undef = u36
    generalize a.tmps.getD 37 undef = u37
    generalize a.tmps.getD 38 undef = u38
    generalize a.tmps.getD 39 undef = u39
    generalize a.tmps.getD 40 undef = u40
    generalize a.tmps.getD 41 undef = u41
    generalize a.tmps.getD 42 undef = u42
    generalize a.tmps.getD 43 undef = u43
    generalize a.tmps.getD 44 undef = u44
    generalize a.tmps.getD 45 undef = u45
    go_simp
    clear a l
    have HTx := Lib.hid (HT.out.below Hbel.out (Nat.lt_of_succ_lt Hob.out))
    have hoc : wx.cell? ⟨tb + 1, 19, none⟩ = some (.pointer (some ⟨tb, 0, none⟩)) := ((HO.out.below Hbel.out Hob.out).cell 19).trans rfl
    have hc0 : wx.cell? ⟨tb, 0, none⟩ = some (.int .u64 (m 0 : Nat)) := (HTx.out.cell 0).trans rfl
    have hc1 : wx.cell? ⟨tb, 1, none⟩ = some (.int .u64 (m 1 : Nat)) := (HTx.out.cell 1).trans rfl
    have hc2 : wx.cell? ⟨tb, 2, none⟩ = some (.int .u64 (m 2 : Nat)) := (HTx.out.cell 2).trans rfl
    have hc3 : wx.cell? ⟨tb, 3, none⟩ = some (.int .u64 (m 3 : Nat)) := (HTx.out.cell 3).trans rfl
    have hc4 : wx.cell? ⟨tb, 4, none⟩ = some (.int .u64 (m 4 : Nat)) := (HTx.out.cell 4).trans rfl
    have hc5 : wx.cell? ⟨tb, 5, none⟩ = some (.int .u64 (m 5 : Nat)) := (HTx.out.cell 5).trans rfl
    have hc6 : wx.cell? ⟨tb, 6, none⟩ = some (.int .u64 (m 6 : Nat)) := (HTx.out.cell 6).trans rfl
    have hc7 : wx.cell? ⟨tb, 7, none⟩ = some (.int .u64 (m 7 : Nat)) := (HTx.out.cell 7).trans rfl
    have hc8 : wx.cell? ⟨tb, 8, none⟩ = some (.int .u64 (m 8 : Nat)) := (HTx.out.cell 8).trans rfl
    have hc9 : wx.cell? ⟨tb, 9, none⟩ = some (.int .u64 (m 9 : Nat)) := (HTx.out.cell 9).trans rfl
    have hc10 : wx.cell? ⟨tb, 10, none⟩ = some (.int .u64 (m 10 : Nat)) := (HTx.out.cell 10).trans rfl
    have hc11 : wx.cell? ⟨tb, 11, none⟩ = some (.int .u64 (m 11 : Nat)) := (HTx.out.cell 11).trans rfl
    have hc12 : wx.cell? ⟨tb, 12, none⟩ = some (.int .u64 (m 12 : Nat)) := (HTx.out.cell 12).trans rfl
    have hc13 : wx.cell? ⟨tb, 13, none⟩ = some (.int .u64 (m 13 : Nat)) := (HTx.out.cell 13).trans rfl
    have hc14 : wx.cell? ⟨tb, 14, none⟩ = some (.int .u64 (m 14 : Nat)) := (HTx.out.cell 14).trans rfl
    have hc15 : wx.cell? ⟨tb, 15, none⟩ = some (.int .u64 (m 15 : Nat)) := (HTx.out.cell 15).trans rfl
    have hra : (#[.int .u64 (m 0 : Nat), .int .u64 (m 1 : Nat), .int .u64 (m 2 : Nat), .int .u64 (m 3 : Nat), .int .u64 (m 4 : Nat), .int .u64 (m 5 : Nat), .int .u64 (m 6 : Nat), .int .u64 (m 7 : Nat), .int .u64 (m 8 : Nat), .int .u64 (m 9 : Nat), .int .u64 (m 10 : Nat), .int .u64 (m 11 : Nat), .int .u64 (m 12 : Nat), .int .u64 (m 13 : Nat), .int .u64 (m 14 : Nat), .int .u64 (m 15 : Nat)] : Array Value) = regsA m := rfl
    have Hra := Lib.hid hra; clear hra
    have Hpl : Hid ((preT k pc).length ≤ 100) := by show _ ≤ _; unfold preT; simp only [List.length_append, List.length_cons, List.length_nil]; omega
    have Hbb : Hid (b ≤ wx.heap.size) := by have := Hbd.out; rcases this with h | h <;> exact Nat.le_of_lt h.lt
    clear l1 l2 l3 l4
    go_wp2_with fail
    rw [Hra.out]
    clear hoc hc0 hc1 hc2 hc3 hc4 hc5 hc6 hc7 hc8 hc9 hc10 hc11 hc12 hc13 hc14 hc15
    go_loopg [4, 5, 54] 16 (fun g _ _ i wy => ∃ j : Nat, j + g = 16 ∧ i = .int .i64 j ∧ IsB b b (regsT m (preT k pc) j) wy ∧ Below b wx wy ∧ b ≤ wy.heap.size)
    case atStart => exact ⟨0, rfl, rfl, Hbd.out, Below.refl _ _, Hbb.out⟩
    case round =>
      obtain ⟨j, hj, rfl, hB, hb, hbz⟩ := hrel
      have HB := Lib.hid hB; have Hb := Lib.hid hb; have Hbz := Lib.hid hbz
      clear hB hb hbz
      by_cases hlt : j < 16
      · have hlt' : (j : Int) < 16 := by omega
        have hxl := Hm.out j
        have hrl := regsT_len m Hm.out (preT k pc) j (by omega)
        have hrt := regT_len j (m j) hlt hxl
        have hpl := Hpl.out
        have Hst : Hid (regsT m (preT k pc) (j + 1) = regsT m (preT k pc) j ++ regT j (m j)) := rfl
        obtain ⟨R, hR⟩ : ∃ R, regsT m (preT k pc) j = R := ⟨_, rfl⟩
        rw [hR] at hrl
        have HR := Lib.hid hR; clear hR
        have Hxl := Lib.hid hxl
        have Hix := Lib.hid (fun w => idx16 m j hlt w)
        by_cases hx : m j = 0
        · have Hrt : Hid (regT j (m j) = []) := by show _ = _; unfold regT; rw [if_pos hx]
          have hix : ∀ w, (Instr.index 32 (.agg (regsA m)) (.int .i64 j)).run Tryd.prog w = .ok (.int .u64 0) w := fun w => by have := Hix.out w; rw [hx] at this; exact this
          have Hix2 := Lib.hid hix; clear hix hx hrt
          go_wp2_with (refine wpList_index3 rfl rfl (Hix2.out _) ?_)
          go_roundg (16 - (j + 1))
          case measure => omega
          case rel => exact ⟨j + 1, by omega, by go_num, by rw [Hst.out, Hrt.out, List.append_nil]; exact HB.out, Hb.out, Hbz.out⟩
        · obtain ⟨x, hxe⟩ : ∃ x, m j = x := ⟨_, rfl⟩
          rw [hxe] at hx hxl hrt
          have hxb : ((x : Int) != 0) = true := by simp; omega
          have hix : ∀ w, (Instr.index 32 (.agg (regsA m)) (.int .i64 j)).run Tryd.prog w = .ok (.int .u64 (x : Nat)) w := fun w => by rw [← hxe]; exact Hix.out w
          have Hix2 := Lib.hid hix; clear hix
          have Hrt : Hid (regT j x = [32, 114] ++ Lib.decDigits j ++ [61] ++ Lib.decDigits x) := by show _ = _; unfold regT; rw [if_neg hx]
          have Hxe := Lib.hid hxe
          have Hx := Lib.hid hx
          have d1 := dec_len20 j (by omega)
          have d2 := dec_len20 x hxl
          have Hdi := Lib.hid (fun w h => (itoa_dec j) ▸ itoa_any (j : Int) (by omega) (by omega) w h)
          have Hdx := Lib.hid (fun w h => fmtu_any x hxl w h)
          obtain ⟨D, hD⟩ : ∃ D, Lib.decDigits j = D := ⟨_, rfl⟩
          obtain ⟨E, hE⟩ : ∃ E, Lib.decDigits x = E := ⟨_, rfl⟩
          rw [hD] at Hdi Hrt d1
          rw [hE] at Hdx Hrt d2
          obtain ⟨L1, hL1⟩ : ∃ L, [32, 114] ++ D = L := ⟨_, rfl⟩
          obtain ⟨L2, hL2⟩ : ∃ L, L1 ++ [61] = L := ⟨_, rfl⟩
          obtain ⟨L3, hL3⟩ : ∃ L, L2 ++ E = L := ⟨_, rfl⟩
          have k1 : L1.length = 2 + D.length := by rw [← hL1]; simp; omega
          have k2 : L2.length = L1.length + 1 := by rw [← hL2]; simp
          have k3 : L3.length = L2.length + E.length := by rw [← hL3]; simp
          have a1 : ∀ w, (Op.stringOp .add ⟨#[32, 114]⟩ ⟨D.toArray⟩).run Tryd.prog w = .ok (S L1) w := fun w => by rw [← hL1]; exact run_sadd [32, 114] D (by simp; omega) w
          have a2 : ∀ w, (Op.stringOp .add ⟨L1.toArray⟩ ⟨#[61]⟩).run Tryd.prog w = .ok (S L2) w := fun w => by rw [← hL2]; exact run_sadd L1 [61] (by simp; omega) w
          have a3 : ∀ w, (Op.stringOp .add ⟨L2.toArray⟩ ⟨E.toArray⟩).run Tryd.prog w = .ok (S L3) w := fun w => by rw [← hL3]; exact run_sadd L2 E (by omega) w
          have Hrt3 : Hid (regT j x = L3) := by show _ = _; rw [Hrt.out, hL1, hL2, hL3]
          have hk3 : L3.length ≤ 100 := by omega
          clear hD hE hL1 hL2 hL3 k1 k2 k3 hxe hx hrt d1 d2 Hrt
          go_wp2_with (refine wpList_index3 rfl rfl (Hix2.out _) ?_)
          refine (Hdi.out _ (H.out.below ((Hbel.out.trans Hb.out).mono HBw.out)).pow).mono ?_
          rintro e w3 ⟨rfl, hb3⟩
          have Hb3 := Lib.hid (Hb.out.trans (hb3.mono Hbz.out))
          have Hz3 : Hid (b ≤ w3.heap.size) := Nat.le_trans Hbz.out hb3.size
          have HB3 : Hid (IsB b b R w3) := (HR.out ▸ HB.out : IsB b b R wr).below hb3
          clear hb3
          go_wp2_with fail
          refine (Hdx.out _ (H.out.below ((Hbel.out.trans Hb3.out).mono HBw.out)).pow).mono ?_
          rintro e w4 ⟨rfl, hb4⟩
          have Hb4 := Lib.hid (Hb3.out.trans (hb4.mono Hz3.out))
          have Hz4 : Hid (b ≤ w4.heap.size) := Nat.le_trans Hz3.out hb4.size
          have HB4 : Hid (IsB b b R w4) := HB3.out.below hb4
          clear hb4
          go_wp2_with fail
          refine (bld_write b b R L3 _ HB4.out (by omega) Hz4.out).mono ?_
          rintro e w5 ⟨rfl, hB5, hb5⟩
          have Hb5 := Lib.hid (Hb4.out.trans hb5)
          have HB5 := Lib.hid hB5
          have Hz5 : Hid (b ≤ w5.heap.size) := Nat.le_trans Hz4.out hb5.size
          clear hb5 hB5
          go_wp2_with fail
          go_roundg (16 - (j + 1))
          case measure => omega
          case rel => exact ⟨j + 1, by omega, by go_num, by rw [Hst.out, Hxe.out, Hrt3.out, HR.out]; exact HB5.out, Hb5.out, Hz5.out⟩
      · obtain rfl : j = 16 := by omega
        go_wp2_with fail
        refine (bld_str b b _ _ HB.out Hbz.out).mono ?_
        rintro e w3 ⟨rfl, hB3, hb3⟩
        have Hf : Hid (Below w.heap.size w w3) := ((Hbel.out.trans Hb.out).trans hb3).mono HBw.out
        clear hb3 hB3
        go_wp2_with fail
        go_ret
        exact ⟨rfl, Hf.out⟩
end Go.Proofs.YtjjnidbggoaonaaDoor
