/- A line of a text is read: read. -/
import Derived.Test.YtjjnidbggoaonaaGreatDoorAsL
namespace Go.Proofs.YtjjnidbggoaonaaGreatDoor
open Go.RowKit
attribute [local irreducible] World.setCell World.alloc World.drew Calls Code.wp
attribute [local go_sem] Oper.semAt_some

theorem SrcAt.add {wc wm w5 : World} {g0 sb mb g cap : Nat} {s : ASrc} {Lv A : Value} {ps : List (ALine × Value)} {al : ALine} (h : SrcAt wc g0 sb mb s Lv ps) (hsm : sb ≠ mb) (hgs : g0 ≤ sb) (ht : StrsT wc (fun b => b = sb ∨ b = mb) A al.args) (hok : LineOk al)
    (km : Kept (fun _ => False) wc wm) (hown : w5.ownsRow g0 77 5 (.slice (some ⟨g, 0, none⟩) (ps.length + 1) cap) (ps.length + 1) (rowC ps ++ (lineC al A).toList)) (hgrow : wm.grownBy w5 Lv.ownBlock) :
    Blk w5 sb (srcC Lv (.map (some mb)) (s.fk, s.fl)) 73 ∧ SrcAt (w5.setCell ⟨sb, 0, none⟩ (.slice (some ⟨g, 0, none⟩) (ps.length + 1) cap)) g0 sb mb { s with lines := s.lines ++ [al] } (.slice (some ⟨g, 0, none⟩) (ps.length + 1) cap) (ps ++ [(al, A)]) ∧ Kept (fun b => b = sb ∨ Lv.ownBlock = some b) wc (w5.setCell ⟨sb, 0, none⟩ (.slice (some ⟨g, 0, none⟩) (ps.length + 1) cap)) := by
  have k5 : Kept (fun b => Lv.ownBlock = some b) wc w5 := (km.mono (fun _ _ h => h.elim)).trans (kept_grown hgrow)
  have hB : Blk w5 sb (srcC Lv (.map (some mb)) (s.fk, s.fl)) 73 := h.src.below' k5 h.row_sb
  have k6 : Kept (fun b => b = sb ∨ Lv.ownBlock = some b) wc (w5.setCell ⟨sb, 0, none⟩ (.slice (some ⟨g, 0, none⟩) (ps.length + 1) cap)) := (k5.mono (fun _ _ h => .inr h)).setIn sb 0 _ (.inl rfl)
  have hown' : ∀ b, Lv.ownBlock = some b → ∃ cur, wc.heap[b]? = some (.cells cur 77 (0, 0)) ∧ g0 ≤ b := fun b hb => row_type h.row hb
  have hst : ∀ l' A', StrsT wc (fun b => b = sb ∨ b = mb) A' l' → StrsT (w5.setCell ⟨sb, 0, none⟩ (.slice (some ⟨g, 0, none⟩) (ps.length + 1) cap)) (fun b => b = sb ∨ b = mb) A' l' := fun l' A' h' => h'.kept k6 (fun b ⟨cs, fz, hh⟩ hn e => by
    rcases e with e | e
    · exact hn (.inl e)
    · obtain ⟨cur, h2, _⟩ := hown' b e
      rw [hh] at h2
      simp at h2)
  refine ⟨hB, ⟨h.has.kept k6 (fun b e => ?_), (hB.set 0 _).cells (by rfl), h.mp.kept k6 (fun e => ?_), ?_, ?_, fun p hp => ?_, fun p hp => ?_, h.lab⟩, k6⟩
  · rcases e with e | e
    · rw [e]; exact hgs
    · exact (hown' b e).choose_spec.2
  · rcases e with e | e
    · exact hsm e.symm
    · exact h.row_mb e
  · have e : rowC (ps ++ [(al, A)]) = rowC ps ++ (lineC al A).toList := by simp [rowC]
    rw [e, List.length_append]
    refine row_kept hown (T := (· = sb)) ((Kept.refl (· = sb) w5).setIn sb 0 _ rfl) (fun b hb e => ?_)
    obtain ⟨cur, hh, _⟩ := row_type hown hb
    rw [e] at hh
    unfold Blk at hB
    rw [hB] at hh
    simp at hh
  · rw [List.map_append, h.eq]; rfl
  · rcases List.mem_append.1 hp with hp | hp
    · exact hst _ _ (h.args p hp)
    · rw [List.mem_singleton] at hp; subst hp; exact hst _ _ ht
  · rcases List.mem_append.1 hp with hp | hp
    · exact h.ok p hp
    · rw [List.mem_singleton] at hp; subst hp; exact hok
theorem info_line : (Tryz.prog.info? 77).map (fun i => (i.zero, i.size, i.bytes)) = some (some (.agg #[.int .i64 0, .string ByteArray.empty, .slice none 0 0, .int .i64 0, .int .i64 0]), 5, 64) := by kernel_rfl
theorem load_line (w : World) (lb : Nat) (cs : Array Value) (hs : cs.size = 5) (h : Blk w lb cs 77) : (loadVar 77 ⟨lb, 0, none⟩).run Tryz.prog w = .ok (.agg cs) w :=
  run_loadVar_row w lb 77 77 cs (0, 0) _ h Tryz.underlying77 rfl (by rw [hs]; kernel_rfl)
end Go.Proofs.YtjjnidbggoaonaaGreatDoor
