/- Contracts of pages: Drop; Fill that is refused at once; Page, Offset. -/
import Derived.Test.YtndnjimiabpkpaaPgD
import Derived.Test.YtndnjimiabpkpaaPgS
namespace Go.Proofs.Ytndnjimiabpkpaa
open Go.RowKit
attribute [local irreducible] World.setCell World.alloc World.drew World.setRow Calls Code.wp row

theorem cntN_root (N : Nat → Int) (h0 : N 0 ≠ 0) (h : ∀ j, 0 < j → j < 585 → N j = 0) : ∀ k, 0 < k → k ≤ 585 → cntN N k = 1
  | 0, h, _ => absurd h (by omega)
  | 1, _, _ => by unfold cntN cntN; rw [if_neg h0]
  | k + 2, _, hk => by
    unfold cntN
    rw [cntN_root N h0 h (k + 1) (by omega) (by omega), if_pos (h (k + 1) (by omega) (by omega))]

/-- Drop: all tables below a root are free again. -/
structure AllGone (w w' : World) (pb db ob : Nat) (P : Pool) (r o : Int) (N : Nat → Int) (Y : Nat → Bool) (P' : Pool) : Prop where
  pool : PoolAt w' pb db ob P'
  tab : ∃ N' F', Tab P' r o N' F' Y ∧ (∀ j, 0 < j → j < 585 → N' j = 0) ∧ (∀ p, p < 4096 → F' p = 0)
  mv : SegMv P P' o
  left : P'.left + 1 = P.left + cntN N 585
  cnt : countTo P'.O o P.n + cntN N 585 = countTo P.O o P.n + 1
  kept : Kept (PS pb db ob) w w'

theorem drop_all (pb db ob : Nat) (P : Pool) (r o : Int) (N F : Nat → Int) (Y : Nat → Bool) (w : World) (hP : PoolAt w pb db ob P) (hT : Tab P r o N F Y) :
    Calls Try.prog 44 #[.pointer (some ⟨pb, 0, none⟩), .int .i64 r] w fun e w' =>
      e = .returned (.int .i64 ((cntN N 585 - 1 : Nat) : Int)) ∧ ∃ P', AllGone w w' pb db ob P r o N Y P' := by
  have hr := hT.root
  have h00 : N 0 ≠ 0 := by rw [hr]; exact hT.r0
  have hd := drop_any pb db ob r o Y 3 0 0 P N F w (by omega) (.inl ⟨rfl, rfl⟩) hP hT h00
  rw [hr] at hd
  have Hd := Lib.hid hd; have Hr := Lib.hid hr; have H00 := Lib.hid h00
  clear hP hT hd hr h00
  go_enter Try.func44, Try.ntmps44
  go_wp2_with fail
  refine Hd.out.mono ?_
  rintro e w2 ⟨P', N', F', rfl, hD⟩
  have h0' : N' 0 = r := hD.tab.root
  have hup : ∀ j, 0 < j → j < 585 → N' j = 0 := by
    intro j
    induction j using Nat.strongRecOn with
    | _ j ih =>
      intro hj hj2
      by_cases hp : (j - 1) / 8 = 0
      · have := hD.done (j - 1) (by omega) (by omega)
        rwa [show 8 * 0 + 1 + (j - 1) = j by omega] at this
      · by_cases h : N' j = 0
        · exact h
        · exact absurd (ih ((j - 1) / 8) (by omega) (by omega) (by omega)) (hD.tab.up j hj hj2 h)
  have hc1 : cntN N' 585 = 1 := cntN_root N' (by rw [h0']; exact hD.tab.r0) hup 585 (by omega) (by omega)
  have hall : AllGone w w2 pb db ob P r o N Y P' := by
    have a1 := hD.left; have a2 := hD.cnt; have a3 := hD.le
    refine ⟨hD.pool, ⟨N', F', hD.tab, hup, fun p hp => ?_⟩, hD.mv, by omega, by omega, hD.kept⟩
    by_cases h : F' p = 0
    · exact h
    · exact absurd (hup _ (by omega) (by omega)) (hD.tab.leafUp p hp h)
  have Hall := Lib.hid hall
  rw [hc1]
  clear hD hup hc1 h0' hall
  go_wp2_with fail
  go_ret
  exact ⟨rfl, P', Hall.out⟩

/-- Fill is refused: no page, no root, no frame. -/
theorem fill_bad (pb db ob : Nat) (P : Pool) (r p f o most : Int) (b : Bool) (w : World) (hP : PoolAt w pb db ob P) (h : p < 0 ∨ 4096 ≤ p ∨ P.owner r = 0 ∨ f < 1) :
    Calls Try.prog 37 #[.pointer (some ⟨pb, 0, none⟩), .int .i64 r, .int .i64 p, .int .i64 f, .bool b, .int .u64 o, .int .i64 most] w fun e w' =>
      e = .returned (.tuple #[.int .i64 0, .bool false]) ∧ w = w' := by
  have HP := Lib.hid hP; clear hP
  by_cases h1 : p < 0
  · clear h
    go_enter Try.func37, Try.ntmps37
    go_wp2_with fail
    go_ret2
    exact ⟨rfl, rfl⟩
  by_cases h2 : 4096 ≤ p
  · clear h
    go_enter Try.func37, Try.ntmps37
    go_wp2_with fail
    go_ret2
    exact ⟨rfl, rfl⟩
  by_cases h3 : P.owner r = 0
  · have h3b : (P.owner r == 0) = true := by simpa using h3
    clear h h3
    go_enter Try.func37, Try.ntmps37
    go_wp2_with (go_at_call 24; refine (owner_any pb db ob P r _ HP.out).mono ?_; rintro e w' ⟨rfl, rfl⟩)
    go_ret2
    exact ⟨rfl, rfl⟩
  · have h3b : (P.owner r == 0) = false := by simpa using h3
    have h4 : f < 1 := ((h.resolve_left h1).resolve_left h2).resolve_left h3
    clear h h3
    go_enter Try.func37, Try.ntmps37
    go_wp2_with (go_at_call 24; refine (owner_any pb db ob P r _ HP.out).mono ?_; rintro e w' ⟨rfl, rfl⟩)
    go_ret2
    exact ⟨rfl, rfl⟩

theorem page_any (va : Int) (w : World) (h0 : 0 ≤ va) (h1 : va ≤ 262143) :
    Calls Try.prog 42 #[.int .i64 va] w fun e w' => e = .returned (.int .i64 (va / 64)) ∧ w = w' := by
  go_enter Try.func42, Try.ntmps42
  go_wp2_with fail
  go_ret
  exact ⟨rfl, rfl⟩
theorem offset_any (va : Int) (w : World) (h0 : 0 ≤ va) (h1 : va ≤ 262143) :
    Calls Try.prog 43 #[.int .i64 va] w fun e w' => e = .returned (.int .i64 (va % 64)) ∧ w = w' := by
  go_enter Try.func43, Try.ntmps43
  go_wp2_with fail
  go_ret
  exact ⟨rfl, rfl⟩
end Go.Proofs.Ytndnjimiabpkpaa
