/- A cut of a list of bytes. -/
import Derived.Test.YtndnjimiabpkpaaByM
import Derived.Test.YtndnjimiabpkpaaSgE
import Derived.Test.YtndnjimiabpkpaaStr
import Derived.Test.YtndnjimiabpkpaaCut
import Derived.IntWalk
namespace Go.Proofs.Ytndnjimiabpkpaa
open Go.RowKit
attribute [local irreducible] World.setCell World.alloc World.drew World.setRow Calls Code.wp row

/-- m bytes from q on. -/
def cutL (D : Nat → Int) (q m : Nat) : List Int := (List.range m).map fun j => D (q + j)
theorem cutL_len (D : Nat → Int) (q m : Nat) : (cutL D q m).length = m := by simp [cutL]
theorem cutL_seg (P : Pool) (L : List Int) (q m : Nat) : segC P L q m = bytesV (cutL (segD P L) q m) := by
  simp only [segC, bytesV, cutL, List.map_map]; rfl
theorem row_cut {X : Value} {N : Nat} {D : Nat → Int} {w : World} {lo : Nat} (h : RowIn w lo X N D) (q m : Nat) (hqm : q + m ≤ N) (hN : N ≤ 1024) :
    ∃ xa : Option Addr, (∀ w, (Instr.slice 32 X (some (.int .i64 q)) (some (.int .i64 ((q : Int) + m))) none).run Try.prog w = .ok (.slice xa m (N - q)) w) ∧
      ∀ w', RowIn w' lo X N D → (convert 32 9 (.slice xa m (N - q))).run Try.prog w' = .ok (.string (bs (cutL D q m))) w' := by
  have hq0 : (0 : Int) ≤ q := by omega
  have hqm1 : (q : Int) ≤ (q : Int) + m := by omega
  have hqm2 : (q : Int) + m ≤ N := by omega
  have e1 : ((q : Int) + m).toNat = q + m := by omega
  rcases h with ⟨rfl, rfl⟩ | ⟨g, rfl, hg, hb⟩
  · obtain rfl : q = 0 := by omega
    obtain rfl : m = 0 := by omega
    refine ⟨none, fun w => ?_, fun w' _ => ?_⟩
    · go_simp; try rfl
    · exact run_str_nil Try.underlying32 Try.underlying5 Try.underlying9 _ _
  · obtain ⟨o, ho⟩ : ∃ o : Nat, (if N = q then 0 else q) = o := ⟨_, rfl⟩
    refine ⟨some ⟨g, o, none⟩, fun w => ?_, fun w' hw' => ?_⟩
    · rw [← ho]
      go_simp
      rw [← ho]; split <;> rfl
    · rcases hw' with ⟨e, _⟩ | ⟨g', e, hg', hb'⟩
      · cases e
      · have e' : (Value.slice (some ⟨g, 0, none⟩) N N).ownBlock = (Value.slice (some ⟨g', 0, none⟩) N N).ownBlock := by rw [e]
        have e'' : some g = some g' := e'
        cases e''
        have := run_str (P := Try.prog) (w := w') Try.underlying32 Try.underlying5 Try.underlying9 ⟨g, o, none⟩ (cutL D q m) (N - q) fun j hj => ?_
        · rw [cutL_len] at this; exact this
        rw [cutL_len] at hj
        rw [if_neg (by omega)] at ho
        subst ho
        rw [Addr.add_lit, hb'.rowAt (q + j) (by omega)]
        simp [cutL, List.getD, hj]
theorem wi_at (L : List Int) (off n : Int) (h16 : L.length ≤ 16) (ho : (Lit.int .i64 off).wf = true) (hn : (Lit.int .i64 n).wf = true) (b : Bool) (hb : segW L off n = b) (w : World) :
    ∀ k, Calls Try.prog 58 #[.int .i64 (segS L), .int .i64 off, .int .i64 n] (w.drewN k) fun e w' => e = .returned (.bool b) ∧ w' = w.drewN k := fun k =>
  (wi_any (segS L) off n (w.drewN k) (by unfold segS; omega) (by unfold segS; omega) ho hn).mono fun e w' ⟨h1, h2⟩ => ⟨by rw [h1, wi_seg, hb], h2.symm⟩
theorem Two.drewN {w : World} {base sb mb pb db ob lo : Nat} {v x : Nat → Value} {L : Nat → List Int} {P : Pool} (h : Two w base sb mb pb db ob lo v x L P) (n : Nat) : Two (w.drewN n) base sb mb pb db ob lo v x L P :=
  h.below (Below.mk rfl rfl rfl (Nat.le_refl _) (fun _ _ => rfl))
theorem Two.drew {w : World} {base sb mb pb db ob lo : Nat} {v x : Nat → Value} {L : Nat → List Int} {P : Pool} (h : Two w base sb mb pb db ob lo v x L P) : Two w.drew base sb mb pb db ob lo v x L P :=
  h.below (Below.refl _ _).drew
theorem Segs.drew {w : World} {sb pb db ob lo : Nat} {v : Nat → Value} {L : Nat → List Int} {P : Pool} (h : Segs w sb pb db ob lo v L P) : Segs w.drew sb pb db ob lo v L P :=
  h.below (Below.refl _ _).drew
end Go.Proofs.Ytndnjimiabpkpaa
