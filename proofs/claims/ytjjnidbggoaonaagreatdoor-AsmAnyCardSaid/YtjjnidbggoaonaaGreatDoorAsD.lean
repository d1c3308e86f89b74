/- The assembler's operands: where a label is; an instruction's registers and number. -/
import Derived.Test.YtjjnidbggoaonaaGreatDoorAsO
import Derived.Test.YtjjnidbggoaonaaGreatDoorIsaL
import Derived.Deep.RegionHeld3
namespace Go.Proofs.YtjjnidbggoaonaaGreatDoor
open Go.RowKit
attribute [local irreducible] World.setCell World.alloc World.drew Calls Code.wp
attribute [local go_sem] Oper.semAt_some

/-- Strings in a row of the call's own, apart from some blocks. -/
def StrsAt (w : World) (S : Nat → Prop) (A : Value) (l : List (List UInt8)) : Prop :=
  ∃ x c, A = .slice x l.length c ∧ (l = [] ∨ ∃ b, x = some ⟨b, 0, none⟩ ∧ ¬ S b ∧ b < w.heap.size ∧ ∀ j, j < l.length → w.cell? ⟨b, j, none⟩ = some (strV (l.getD j [])))
theorem Kept.cellAt {S : Nat → Prop} {w w' : World} (h : Kept S w w') {b i : Nat} (hb : b < w.heap.size) (hs : ¬ S b) : w'.cell? ⟨b, i, none⟩ = w.cell? ⟨b, i, none⟩ :=
  World.cell?_of_block (a := ⟨b, i, none⟩) (h.block b hb hs)
theorem StrsAt.kept {w w' : World} {S : Nat → Prop} {A : Value} {l : List (List UInt8)} (h : StrsAt w S A l) {T : Nat → Prop} (k : Kept T w w') (hs : ∀ b, b < w.heap.size → ¬ S b → ¬ T b) : StrsAt w' S A l := by
  obtain ⟨x, c, rfl, h⟩ := h
  refine ⟨x, c, rfl, h.imp id ?_⟩
  rintro ⟨b, rfl, h1, h3, h4⟩
  exact ⟨b, rfl, h1, Nat.lt_of_lt_of_le h3 k.size, fun j hj => by rw [k.cellAt h3 (hs b h3 h1)]; exact h4 j hj⟩
theorem StrsAt.more {w : World} {S T : Nat → Prop} {A : Value} {l : List (List UInt8)} (h : StrsAt w S A l) (hs : ∀ b, b < w.heap.size → ¬ S b → ¬ T b) : StrsAt w T A l := by
  obtain ⟨x, c, rfl, h⟩ := h
  refine ⟨x, c, rfl, h.imp id ?_⟩
  rintro ⟨b, rfl, h1, h3, h4⟩
  exact ⟨b, rfl, hs b h3 h1, h3, h4⟩
/-- The library's variables, below g0. -/
def AsIn (g0 : Nat) (w : World) : Prop := ∃ w0, HasAs w0 ∧ w0.heap.size = g0 ∧ Below g0 w0 w
theorem AsIn.has {g0 : Nat} {w : World} (h : AsIn g0 w) : HasAs w := by
  obtain ⟨w0, h1, rfl, h2⟩ := h
  exact h1.below h2
theorem AsIn.le {g0 : Nat} {w : World} (h : AsIn g0 w) : g0 ≤ w.heap.size := by
  obtain ⟨w0, h1, rfl, h2⟩ := h
  exact h2.size
theorem AsIn.kept {g0 : Nat} {w w' : World} (h : AsIn g0 w) {S : Nat → Prop} (k : Kept S w w') (hs : ∀ b, S b → g0 ≤ b) : AsIn g0 w' := by
  obtain ⟨w0, h1, rfl, h2⟩ := h
  exact ⟨w0, h1, rfl, h2.trans (k.below h2.size (fun b hb e => by have := hs b e; omega))⟩
theorem AsIn.start {w : World} (h : HasAs w) : AsIn w.heap.size w := ⟨w, h, rfl, Below.refl _ _⟩

/-- The labels as the map has them. -/
def labV (labels : List (List UInt8 × Nat)) : List (List UInt8 × Value) := labels.map fun p => (p.1, .int .i64 (p.2 : Nat))
theorem look_labV (labels : List (List UInt8 × Nat)) (k : List UInt8) : MapStr.look (labV labels) k = (lookL labels k).map fun n => .int .i64 (n : Nat) := by
  induction labels with
  | nil => rfl
  | cons p r ih =>
    unfold labV lookL at *
    rw [List.map_cons, MapStr.look_cons, List.find?_cons]
    by_cases h : p.1 = k
    · rw [if_pos h, show (p.1 == k) = true by simpa using h]; rfl
    · rw [if_neg h, show (p.1 == k) = false by simpa using h]; exact ih
theorem lookL_bd {labels : List (List UInt8 × Nat)} {B : Nat} (h : ∀ p ∈ labels, p.2 ≤ B) {k : List UInt8} {t : Nat} (e : lookL labels k = some t) : t ≤ B := by
  unfold lookL at e
  obtain ⟨p, hp, rfl⟩ := Option.map_eq_some_iff.1 e
  exact h p (List.mem_of_find?_eq_some hp)
/-- A line's value, and its cells. -/
def lineC (l : ALine) (A : Value) : Array Value := #[.int .i64 (l.n : Nat), S l.word, A, .int .i64 (l.at_ : Nat), .int .i64 (l.len : Nat)]

theorem zero_int (w : World) : (zeroValue 3).run Tryz.prog w = .ok (.int .i64 0) w := Tryz.zeroValue3 w
set_option maxRecDepth 100000 in
set_option maxHeartbeats 2000000 in
theorem there_any (sb mb : Nat) (L : Value) (labels : List (List UInt8 × Nat)) (f : Nat × Nat) (a : List UInt8) (l : ALine) (A : Value) (hl : a.length ≤ 100000) (hat : l.at_ ≤ 1048576) (hlb : ∀ p ∈ labels, p.2 ≤ 1048576) (w : World) (h : HasAs w)
    (hS : Blk w sb (srcC L (.map (some mb)) f) 73) (hM : MapStr.MapAt w mb (labV labels)) :
    Calls Tryz.prog 107 #[.pointer (some ⟨sb, 0, none⟩), S a, .agg (lineC l A)] w fun e w' => e = .returned (.int .i32 (thereA labels f a l.n l.at_).2) ∧ Blk w' sb (srcC L (.map (some mb)) (thereA labels f a l.n l.at_).1) 73 ∧ Kept (· = sb) w w' := by
  have HS := Lib.hid hS; have HM := Lib.hid hM; have H := Lib.hid h
  have HB0 := Lib.hid ((Below.refl _ w).alloc (Nat.le_refl _) (.cells (lineC l A) 77))
  have HN0 := Lib.hid (Blk.new w (lineC l A) 77)
  obtain ⟨lb, hlb'⟩ : ∃ lb, lb = w.heap.size := ⟨_, rfl⟩
  obtain ⟨w1, hw1⟩ : ∃ w1, w1 = w.alloc (.cells (lineC l A) 77) := ⟨_, rfl⟩
  rw [← hw1] at HB0 HN0
  rw [← hlb'] at HN0
  have Hlb := Lib.hid hlb'; have Hw1 := Lib.hid hw1; have Hbd := Lib.hid hlb
  have Hnm := Lib.hid (fun w => name_any a (by omega) w)
  clear hS hM h hlb hlb' hw1
  go_enter Tryz.func107, Tryz.ntmps107
  go_wp2_with fail
  rw [← Hw1.out, ← Hlb.out]
  refine (Hnm.out _).mono ?_
  rintro e w2 ⟨rfl, hb2⟩
  have HS2 := Lib.hid ((HS.out.below HB0.out HS.out.lt).below hb2 (Nat.lt_of_lt_of_le HS.out.lt HB0.out.size))
  have HM2 := Lib.hid ((HM.out.below HB0.out HM.out.lt).below hb2 (Nat.lt_of_lt_of_le HM.out.lt HB0.out.size))
  have HN2 := Lib.hid (HN0.out.below hb2 HN0.out.lt)
  have HB2 := Lib.hid (bel_from HB0.out hb2)
  have hc0 : w2.cell? ⟨lb, 0, none⟩ = some (.int .i64 (l.n : Nat)) := (HN2.out.cell 0).trans rfl
  have hc3 : w2.cell? ⟨lb, 3, none⟩ = some (.int .i64 (l.at_ : Nat)) := (HN2.out.cell 3).trans rfl
  have hs1 : w2.cell? ⟨sb, 1, none⟩ = some (.map (some mb)) := (HS2.out.cell 1).trans rfl
  have Hth : Hid (thereA labels f a l.n l.at_ = if nameB a then (match lookL labels a with | some t => (f, (t : Int) - l.at_) | none => (failF f 2 l.n, -(l.at_ : Int))) else immA f a l.n) := rfl
  clear hb2
  cases hnb : nameB a
  · have Hth2 : Hid (thereA labels f a l.n l.at_ = immA f a l.n) := by show _ = _; rw [Hth.out, hnb]; rfl
    clear hnb
    go_wp2_with fail
    refine (imm_any sb L (.map (some mb)) f a l.n hl _ (H.out.below HB2.out) HS2.out).mono ?_
    rintro e w3 ⟨rfl, hS3, hK3⟩
    have HS3 := Lib.hid hS3
    have HK3 := Lib.hid ((Kept.of_below (S := (· = sb)) HB2.out).trans hK3)
    clear hS3 hK3
    go_wp2_with fail
    go_ret
    exact ⟨by rw [Hth2.out]; rfl, by rw [Hth2.out]; exact HS3.out, HK3.out⟩
  · have hlk := HM2.out.run_lookup_ok (P := Tryz.prog) (T := 70) (K := 9) (E := 3) Tryz.underlying70 Tryz.underlying9 zero_int a
    rw [look_labV] at hlk
    cases hlo : lookL labels a with
    | none =>
      have Hth2 : Hid (thereA labels f a l.n l.at_ = (failF f 2 l.n, -(l.at_ : Int))) := by show _ = _; rw [Hth.out, hnb, hlo]; rfl
      rw [hlo] at hlk
      have hw1' : IntKind.i64.wrap (-(l.at_ : Int)) = -(l.at_ : Int) := IntWalk.i64_in _ (by omega)
      have hw2' : IntKind.i32.wrap (-(l.at_ : Int)) = -(l.at_ : Int) := w32_in (by omega) (by omega)
      have hw0' : IntKind.i64.wrap (0 - (l.at_ : Int)) = -(l.at_ : Int) := by rw [Int.zero_sub]; exact hw1'
      clear hnb hlo
      go_wp2_with fail
      refine (fail_any sb L (.map (some mb)) f 2 l.n _ HS2.out).mono ?_
      rintro e w3 ⟨rfl, hS3, hK3⟩
      have hc3' : w3.cell? ⟨lb, 3, none⟩ = some (.int .i64 (l.at_ : Nat)) := by
        rw [hK3.cellAt HN2.out.lt (by have h1 := HS.out.lt; have h2 := Hlb.out; omega)]; exact hc3
      have HS3 := Lib.hid hS3
      have HK3 := Lib.hid ((Kept.of_below (S := (· = sb)) HB2.out).trans hK3)
      clear hS3 hK3 hlk hc0 hc3 hs1
      go_wp2_with fail
      go_ret
      exact ⟨by rw [Hth2.out]; rfl, by rw [Hth2.out]; exact HS3.out, HK3.out⟩
    | some t =>
      have Hth2 : Hid (thereA labels f a l.n l.at_ = (f, (t : Int) - l.at_)) := by show _ = _; rw [Hth.out, hnb, hlo]; rfl
      have ht := lookL_bd Hbd.out hlo
      rw [hlo] at hlk
      have hw1' : IntKind.i64.wrap ((t : Int) - (l.at_ : Int)) = (t : Int) - l.at_ := IntWalk.i64_in _ (by omega)
      have hw2' : IntKind.i32.wrap ((t : Int) - (l.at_ : Int)) = (t : Int) - l.at_ := w32_in (by omega) (by omega)
      clear hnb hlo
      go_wp2_with fail
      go_ret
      exact ⟨by rw [Hth2.out]; rfl, by rw [Hth2.out]; exact HS2.out, Kept.of_below HB2.out⟩
end Go.Proofs.YtjjnidbggoaonaaGreatDoor
