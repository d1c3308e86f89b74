/- The ways through a statement meet again, cheaply for the kernel; conversions in a quiet region; draws and what lies in memory. -/
import Derived.Test.YtjjnidbggoaonaaGreatDoorLib
import Derived.Deep.QuietTactic
import Derived.BigQuiet
import Derived.Deep.DeepCutAuto
import Derived.Deep.CutBlock
import Derived.IntWalk
namespace Go.Proofs.YtjjnidbggoaonaaGreatDoor
open Go.RowKit

theorem drew_eq (w : World) : ({ heap := w.heap, tape := w.tape, drawn := w.drawn + 1, os := w.os, output := w.output } : World) = w.drew := rfl

theorem quiet_conv {P : Program} {C : World → Prop} {a : Act} {K : Act → Prop} {o : Oper} (S T : Nat) (x : Operand) (u v : Value) (h : o.op = .convert S T x) (hx : a.eval x = u) (hr : ∀ w, C w → (convert S T u).run P w = .ok v w) (hk : K (a.put o.dst v)) : o.quiet P a C K :=
  ⟨v, fun w hw => by
    unfold Oper.quietAt
    have e : (execOp a.eval o).run P w = .ok (.value v) w := by
      simp [execOp, h, hx, hr w hw, Result.andThen]
    rw [e]; unfold Oper.quietUpon; exact ⟨rfl, rfl⟩, hk⟩
/-- The ways through a statement meet again: every slot is named by one function, those that matter stand in the frame as they are. -/
theorem cut_in {P : Program} {s : Code} {K : Act → World → Prop} {Q' : Exit → Act → World → Prop} {a : Act} {w : World} (REL : (Nat → Value) → World → Prop) (T : (Nat → Value) → List Value)
    (first : ∀ J K' : Act → World → Prop, (∀ f w', REL f w' → J ⟨(T f).toArray, []⟩ w') → (∀ a' w', Met J a' w' → K' a' w') → s.wp P (Exit.then K' Q') a w)
    (rest : ∀ f w', REL f w' → K ⟨(T f).toArray, []⟩ w') : s.wp P (Exit.then K Q') a w :=
  wp_cut (fun a' w' => ∃ f, REL f w' ∧ a' = ⟨(T f).toArray, []⟩) (fun a' w' ⟨f, h, e⟩ => by subst e; exact rest f w' h) (fun J K' hJ hK => first J K' (fun f w' h => hJ _ _ ⟨f, h, rfl⟩) hK)
theorem meet_in {J : Act → World → Prop} {REL : (Nat → Value) → World → Prop} {T : (Nat → Value) → List Value} (hJ : ∀ f w', REL f w' → J ⟨(T f).toArray, []⟩ w') {l : List Value} {w : World}
    (e : T (fun n => l.getD n undef) = l) (h : REL (fun n => l.getD n undef) w) : Met J ⟨l.toArray, []⟩ w := by
  have := hJ _ w h
  rw [e] at this; exact Met.intro this
theorem Blk.drewN {w : World} {b t : Nat} {c : Array Value} (h : Blk w b c t) (n : Nat) : Blk (w.drewN n) b c t := h
theorem Kept.drewN {S : Nat → Prop} {w w1 : World} (h : Kept S w w1) (n : Nat) : Kept S w (w1.drewN n) := ⟨h.os, h.tape, h.output, h.size, h.block⟩
theorem below_drewN {B : Nat} {w w1 : World} (h : Below B w w1) (n : Nat) : Below B w (w1.drewN n) := ⟨h.os, h.tape, h.output, h.size, h.block⟩
theorem drew_size (w : World) : w.drew.heap.size = w.heap.size := rfl
end Go.Proofs.YtjjnidbggoaonaaGreatDoor
