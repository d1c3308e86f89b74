/- The walk of IsaTexts: it returns true, whatever the text. -/
import Derived.Test.YtidaopggidccmaaDoorParW
namespace Go.Proofs.YtidaopggidccmaaDoor
open Go.RowKit
attribute [local irreducible] World.setCell World.alloc World.drew Calls Code.wp

set_option maxHeartbeats 1000000 in
theorem texts_list (l : List UInt8) (w : World) (hl : l.length ≤ 9223372036854775807) (h : HasPar w) :
    Calls Tryd.prog 9 #[S l] w fun e w' => e = .returned (.bool true) ∧ Below w.heap.size w w' := by
  have H := Lib.hid h; clear h
  have hsz : (⟨l.toArray⟩ : ByteArray).size = l.length := by show l.toArray.size = _; simp
  obtain ⟨sl, hsl⟩ : ∃ s : ByteArray, (⟨l.toArray⟩ : ByteArray) = s := ⟨_, rfl⟩
  rw [show S l = .string sl from congrArg Value.string hsl]
  rw [hsl] at hsz
  have Hsl := Lib.hid hsl; clear hsl
  by_cases hg : 200 < l.length
  · go_enter Tryd.func9, Tryd.ntmps9
    go_wp2_with fail
    refine (fit04_any _ H.out.pow H.out.sp).mono ?_
    rintro e w1 ⟨rfl, hb1⟩
    have Hb1 := Lib.hid hb1; clear hb1
    go_wp2_with fail
    go_ret
    exact ⟨rfl, Hb1.out⟩
  · have hl2 : l.length ≤ 200 := by omega
    go_enter Tryd.func9, Tryd.ntmps9
    go_wp2_with fail
    refine (fit04_any _ H.out.pow H.out.sp).mono ?_
    rintro e w1 ⟨rfl, hb1⟩
    have Hb1 := Lib.hid hb1; clear hb1
    go_wp2_with fail
    have hpa := parse_any l (by omega) w1 (H.out.below Hb1.out)
    rw [show S l = .string sl from congrArg Value.string Hsl.out] at hpa
    refine hpa.mono ?_
    clear hpa
    rintro e w2 ⟨rfl, hb2⟩
    have Hb2 := Lib.hid (bel_from Hb1.out hb2); clear hb2
    rcases hp : parse l with _ | x
    · rw [show parV none = .tuple #[.agg #[.int .i64 0, .int .i64 0, .int .i64 0, .int .i64 0, .int .i32 0], .bool false] from rfl]
      go_wp2_with fail
      go_ret
      exact ⟨rfl, Hb2.out.alloc Hb2.out.size _⟩
    · obtain ⟨hr, ht, hi⟩ := parse_some hp
      have Hr : Hid (Ins.right ⟨x.op, x.a, x.b, x.c, x.imm⟩ = true) := hr
      have Ht := Lib.hid ht; have Hi := Lib.hid hi
      clear hr ht hi hp
      rw [show parV (some x) = .tuple #[.agg #[.int .i64 x.op, .int .i64 x.a, .int .i64 x.b, .int .i64 x.c, .int .i32 x.imm], .bool true] from rfl]
      go_wp2_with fail
      refine (lright_any x.op x.a x.b x.c x.imm _).mono ?_
      rintro e w3 ⟨rfl, hb3⟩
      have B3 : Blk w3 w2.heap.size #[.int .i64 x.op, .int .i64 x.a, .int .i64 x.b, .int .i64 x.c, .int .i32 x.imm] 25 := (Blk.new _ _ _).below hb3 (by simp)
      have Hb3 := Lib.hid (bel_from (Hb2.out.alloc Hb2.out.size _) hb3); clear hb3
      rw [Hr.out]
      have h0 := B3.cell 0; have h1 := B3.cell 1; have h2 := B3.cell 2; have h3 := B3.cell 3; have h4 := B3.cell 4
      clear B3
      go_wp2_with fail
      refine (text_any x Hi.out _ (H.out.below Hb3.out).pow (H.out.below Hb3.out).sp).mono ?_
      rintro e w4 ⟨rfl, hb4⟩
      have Hb4 := Lib.hid (bel_from Hb3.out hb4); clear hb4
      rw [Ht.out]
      rw [show S l = .string sl from congrArg Value.string Hsl.out]
      go_wp2_with fail
      go_ret
      exact ⟨rfl, Hb4.out⟩
theorem texts_walk (s : ByteArray) (w : World) (hs : s.size ≤ maxLen) (h : HasPar w) :
    Calls Tryd.prog 9 #[.string s] w fun e w' => e = .returned (.bool true) ∧ Below w.heap.size w w' := by
  have e : S s.data.toList = .string s := rfl
  have hl : s.data.toList.length ≤ 9223372036854775807 := by
    have : s.data.toList.length = s.size := by simp
    unfold maxLen at hs; omega
  have := texts_list s.data.toList w hl h
  rwa [e] at this
end Go.Proofs.YtidaopggidccmaaDoor
