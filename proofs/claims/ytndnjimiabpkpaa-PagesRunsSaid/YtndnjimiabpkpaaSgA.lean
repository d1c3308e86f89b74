/- Segments: the frames that hold their bytes, plainly and in memory; contracts of Pages, Frame, Size, within. -/
import Derived.Test.YtndnjimiabpkpaaPkC
namespace Go.Proofs.Ytndnjimiabpkpaa
open Go.RowKit

/-- The frames of a segment of o's: each once, each o's, and o has no other ones. -/
structure SegIn (P : Pool) (o : Int) (L : List Int) : Prop where
  nd : L.Nodup
  own : ∀ f ∈ L, P.owner f = o
  o0 : o ≠ 0
  cnt : countTo P.O o P.n = L.length
/-- Byte j of a segment. -/
def segD (P : Pool) (L : List Int) (j : Nat) : Int := P.D (((L.getD (j / 64) 0).toNat - 1) * 64 + j % 64)
def segS (L : List Int) : Int := (L.length : Int) * 64
def segW (L : List Int) (off n : Int) : Bool := decide (0 ≤ n) && decide (0 ≤ off) && decide (off ≤ segS L) && decide (n ≤ segS L - off)
theorem segW_iff (L : List Int) (off n : Int) : segW L off n = true ↔ 0 ≤ n ∧ 0 ≤ off ∧ off ≤ segS L ∧ n ≤ segS L - off := by simp [segW, and_assoc]

theorem SegIn.there {P : Pool} {o : Int} {L : List Int} (h : SegIn P o L) {f : Int} (hf : f ∈ L) : 1 ≤ f ∧ f ≤ P.n := by
  have h1 := h.own f hf
  have h2 := h.o0
  exact (P.there_iff f).1 (P.owner_there f (by rw [h1]; exact h2))
theorem SegIn.at {P : Pool} {o : Int} {L : List Int} (h : SegIn P o L) {f : Int} (hf : f ∈ L) : P.O (f.toNat - 1) = o := by
  have h1 := h.own f hf
  unfold Pool.owner at h1
  rw [if_pos ((P.there_iff f).2 (h.there hf))] at h1
  exact h1
theorem getD_mem {L : List Int} {i : Nat} (h : i < L.length) : L.getD i 0 ∈ L := by
  have e : L.getD i 0 = L[i] := by simp [List.getD, h]
  rw [e]; exact List.getElem_mem h

/-- The slice v holds the frames' numbers L: nil, or a row of the call's own from its head on, used to its end or cut short. -/
def FrIn (w : World) (lo : Nat) (v : Value) (L : List Int) : Prop :=
  (v = .slice none 0 0 ∧ L = []) ∨
  ∃ g cap cur, v = .slice (some ⟨g, 0, none⟩) L.length cap ∧ lo ≤ g ∧ w.heap[g]? = some (.cells cur 3 (0, 0)) ∧ L.length ≤ cap ∧ cap ≤ maxLen ∧ (cap = cur.size ∨ cap = L.length) ∧ cap ≤ cur.size ∧
    ∀ j, j < L.length → cur[j]? = some (.int .i64 (L.getD j 0))

theorem FrIn.kept {S : Nat → Prop} {w w' : World} {lo : Nat} {v : Value} {L : List Int} (h : FrIn w lo v L) (k : Kept S w w') (hs : ∀ g, v.ownBlock = some g → ¬ S g) : FrIn w' lo v L := by
  rcases h with h | ⟨g, cap, cur, rfl, h1, h2, h3⟩
  · exact .inl h
  · exact .inr ⟨g, cap, cur, rfl, h1, k.blk (b := g) h2 (hs g rfl), h3⟩
theorem FrIn.lt {w : World} {lo : Nat} {v : Value} {L : List Int} (h : FrIn w lo v L) : ∀ g, v.ownBlock = some g → lo ≤ g ∧ g < w.heap.size := by
  intro g hg
  rcases h with ⟨rfl, _⟩ | ⟨g', cap, cur, rfl, h1, h2, _⟩
  · cases hg
  · injection hg with hg; subst hg
    exact ⟨h1, (Array.getElem?_eq_some_iff.1 h2).1⟩
/-- What a walk wants of it. -/
theorem FrIn.open {w : World} {lo : Nat} {v : Value} {L : List Int} (h : FrIn w lo v L) :
    ∃ a cap g, v = .slice a L.length cap ∧ L.length ≤ cap ∧ cap ≤ maxLen ∧ (0 < L.length → a = some ⟨g, 0, none⟩) ∧ ∀ j, j < L.length → w.cell? ⟨g, j, none⟩ = some (.int .i64 (L.getD j 0)) := by
  rcases h with ⟨rfl, rfl⟩ | ⟨g, cap, cur, rfl, h1, h2, h3, h4, h5, h6, h7⟩
  · exact ⟨none, 0, 0, rfl, Nat.le_refl _, by unfold maxLen; omega, fun h => absurd h (by simp), fun j hj => absurd hj (by simp)⟩
  · exact ⟨_, cap, g, rfl, h3, h4, fun _ => rfl, fun j hj => by rw [Blk.cell (b := g) h2]; exact h7 j hj⟩

/-- A segment in memory: cell si of block sb. -/
structure SegAt (w : World) (sb si : Nat) (cs : Array Value) (lo : Nat) (v : Value) (L : List Int) : Prop where
  hb : Blk w sb cs 54
  hc : cs[si]? = some v
  hv : FrIn w lo v L
  hl : sb < lo
  h16 : L.length ≤ 16

theorem SegAt.kept {S : Nat → Prop} {w w' : World} {sb si : Nat} {cs : Array Value} {lo : Nat} {v : Value} {L : List Int} (h : SegAt w sb si cs lo v L) (k : Kept S w w') (h1 : ¬ S sb) (hs : ∀ g, v.ownBlock = some g → ¬ S g) : SegAt w' sb si cs lo v L :=
  ⟨k.blk h.hb h1, h.hc, h.hv.kept k hs, h.hl, h.h16⟩
theorem SegAt.below {w w' : World} {sb si : Nat} {cs : Array Value} {lo : Nat} {v : Value} {L : List Int} (h : SegAt w sb si cs lo v L) (k : Below w.heap.size w w') : SegAt w' sb si cs lo v L :=
  h.kept (S := fun _ => False) (Kept.of_below k) (fun h => h) (fun _ _ h => h)
theorem SegAt.cell {w : World} {sb si : Nat} {cs : Array Value} {lo : Nat} {v : Value} {L : List Int} (h : SegAt w sb si cs lo v L) : w.cell? ⟨sb, si, none⟩ = some v := by rw [h.hb.cell]; exact h.hc

attribute [local irreducible] World.setCell World.alloc World.drew World.setRow Calls Code.wp row

theorem pages_any (sb si : Nat) (cs : Array Value) (lo : Nat) (v : Value) (L : List Int) (w : World) (hS : SegAt w sb si cs lo v L) :
    Calls Try.prog 32 #[.pointer (some ⟨sb, si, none⟩)] w fun e w' => e = .returned (.int .i64 L.length) ∧ w = w' := by
  obtain ⟨a, cap, g, rfl, h1, h2, h3, h4⟩ := hS.hv.open
  have hc := hS.cell
  clear hS h4
  go_enter Try.func32, Try.ntmps32
  go_wp2
  go_ret
  exact ⟨rfl, rfl⟩
theorem pages_nil (w : World) :
    Calls Try.prog 32 #[.pointer none] w fun e w' => e = .returned (.int .i64 0) ∧ w = w' := by
  go_enter Try.func32, Try.ntmps32
  go_wp2
  go_ret
  exact ⟨rfl, rfl⟩
theorem size_any (sb si : Nat) (cs : Array Value) (lo : Nat) (v : Value) (L : List Int) (w : World) (hS : SegAt w sb si cs lo v L) :
    Calls Try.prog 33 #[.pointer (some ⟨sb, si, none⟩)] w fun e w' => e = .returned (.int .i64 (segS L)) ∧ w = w' := by
  have h16 := hS.h16
  have HS := Lib.hid hS; clear hS
  go_enter Try.func33, Try.ntmps33
  go_wp2_with (go_at_call 32; refine (pages_any sb si cs lo v L _ HS.out).mono ?_; rintro e w' ⟨rfl, rfl⟩)
  go_ret
  exact ⟨rfl, rfl⟩
theorem size_nil (w : World) :
    Calls Try.prog 33 #[.pointer none] w fun e w' => e = .returned (.int .i64 0) ∧ w = w' := by
  go_enter Try.func33, Try.ntmps33
  go_wp2_with (go_at_call 32; refine (pages_nil _).mono ?_; rintro e w' ⟨rfl, rfl⟩)
  go_ret
  exact ⟨rfl, rfl⟩
set_option maxHeartbeats 400000 in
theorem within_any (sb si : Nat) (cs : Array Value) (lo : Nat) (v : Value) (L : List Int) (off n : Int) (w : World) (hS : SegAt w sb si cs lo v L) :
    Calls Try.prog 50 #[.pointer (some ⟨sb, si, none⟩), .int .i64 off, .int .i64 n] w fun e w' => e = .returned (.bool (segW L off n)) ∧ w = w' := by
  have hw : segW L off n = (decide (0 ≤ n) && decide (0 ≤ off) && decide (off ≤ segS L) && decide (n ≤ segS L - off)) := rfl
  have Hw := Lib.hid hw; clear hw
  have h16 := hS.h16
  have hs0 : 0 ≤ segS L ∧ segS L ≤ 1024 := by unfold segS; omega
  obtain ⟨s0, s1⟩ := hs0
  have HS := Lib.hid hS; clear hS h16
  have K := Lib.hid (fun w (h : SegAt w sb si cs lo v L) => size_any sb si cs lo v L w h)
  by_cases h2 : 0 ≤ n
  · by_cases h4 : 0 ≤ off
    · by_cases h5 : off ≤ segS L
      · generalize hS : segS L = S at *
        clear hS
        go_enter Try.func50, Try.ntmps50
        go_wp2_with (go_at_call 33; refine (K.out _ HS.out).mono ?_; rintro e w' ⟨rfl, rfl⟩)
        go_ret
        exact ⟨by rw [Hw.out]; simp [h2, h4, h5], rfl⟩
      · generalize hS : segS L = S at *
        clear hS
        go_enter Try.func50, Try.ntmps50
        go_wp2_with (go_at_call 33; refine (K.out _ HS.out).mono ?_; rintro e w' ⟨rfl, rfl⟩)
        go_ret
        exact ⟨by rw [Hw.out]; simp; omega, rfl⟩
    · go_enter Try.func50, Try.ntmps50
      go_wp2_with fail
      go_ret
      exact ⟨by rw [Hw.out]; simp; omega, rfl⟩
  · go_enter Try.func50, Try.ntmps50
    go_wp2_with fail
    go_ret
    exact ⟨by rw [Hw.out]; simp; omega, rfl⟩
end Go.Proofs.Ytndnjimiabpkpaa
