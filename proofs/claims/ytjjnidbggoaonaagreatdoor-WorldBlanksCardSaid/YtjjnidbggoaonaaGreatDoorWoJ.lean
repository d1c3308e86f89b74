/- The reader's labels. -/
import Derived.Test.YtjjnidbggoaonaaGreatDoorWoL
import Derived.Test.YtjjnidbggoaonaaGreatDoorZaC
import Derived.Test.YtjjnidbggoaonaaGreatDoorZaB
import Derived.Deep.AppendLies
namespace Go.Proofs.YtjjnidbggoaonaaGreatDoor
open Go.RowKit
attribute [local irreducible] World.setCell World.alloc World.drew Calls Code.wp
attribute [local go_sem] Oper.semAt_some

theorem label_bad (r : Rd) (h : (cutAt 125 (trimL r.s)).isSome = false ∨ ([123] : List UInt8).isPrefixOf (cutW 125 (trimL r.s)) = false ∨ ∃ c R, cutR 125 (trimL r.s) = c :: R ∧ c ≠ 32) : r.label = (⟨cutR 125 (trimL r.s), true⟩, lab0) := by
  unfold Rd.label cutR at *
  unfold cutW at h
  cases e : cutAt 125 (trimL r.s) with
  | none => rfl
  | some p =>
    obtain ⟨a, b⟩ := p
    rw [e] at h
    simp only [Option.map_some, Option.getD_some, Option.isSome_some] at h ⊢
    split
    · rename_i i _
      rcases h with h | h | ⟨c, R, rfl, hc⟩
      · cases h
      · simp at h
      · rw [if_neg (by simpa using hc)]
    · rfl
theorem label_good (r : Rd) (i R : List UInt8) (h1 : (cutAt 125 (trimL r.s)).isSome = true) (h2 : cutW 125 (trimL r.s) = 123 :: i) (h3 : cutR 125 (trimL r.s) = R) (h4 : R = [] ∨ R.head? = some 32) :
    r.label = match labOf (partsAt 32 i) with
      | some l => (⟨R, r.bad⟩, l)
      | none => (⟨R, true⟩, lab0) := by
  unfold Rd.label
  unfold cutR at h3
  unfold cutW at h2
  cases e : cutAt 125 (trimL r.s) with
  | none => rw [e] at h1; cases h1
  | some p =>
    obtain ⟨a, b⟩ := p
    rw [e] at h2 h3
    simp only [Option.map_some, Option.getD_some] at h2 h3
    subst h2 h3
    simp only [if_pos h4]
    cases labOf (partsAt 32 i) <;> rfl
theorem partsAt_ne (c : UInt8) : ∀ l, partsAt c l ≠ []
  | [] => by simp [partsAt]
  | x :: r => by
    unfold partsAt
    split
    · simp
    · split <;> simp
theorem lev_eq (R s : List UInt8) (b : Bool) : Rd.lev ⟨R, b⟩ s = ⟨R, b || !(levOf s).isSome⟩ := by
  unfold Rd.lev
  cases levOf s with
  | none => simp [Rd.fail]
  | some k => simp
/-- How far a label's words are read: its level, its pairs, whether a level was none. -/
structure LabSt (f0 : List UInt8) (fr : List (List UInt8)) (k d : Nat) (ps : List (Nat × Nat)) (fl : Bool) : Prop where
  d4 : d ≤ 4
  bd : ∀ p ∈ ps, p.1 ≤ 1073741824 ∧ p.2 ≤ 4
  len : ps.length ≤ k
  good : fl = false → levOf f0 = some d ∧ pairsOf fr = (pairsOf (fr.drop k)).map (ps ++ ·)
  bad : fl = true → labOf (f0 :: fr) = none
theorem levOf_le {s : List UInt8} {k : Nat} (h : levOf s = some k) : k ≤ 4 := by
  unfold levOf at h
  split at h
  · repeat' split at h
    all_goals first | (cases h; omega) | (cases h)
  · cases h
theorem labOf_lev {f0 : List UInt8} {fr : List (List UInt8)} (h : levOf f0 = none) : labOf (f0 :: fr) = none := by
  unfold labOf; simp only [h]
theorem labOf_pairs {f0 : List UInt8} {fr : List (List UInt8)} (h : pairsOf fr = none) : labOf (f0 :: fr) = none := by
  unfold labOf; simp only [h]; cases levOf f0 <;> rfl
theorem LabSt.begin (f0 : List UInt8) (fr : List (List UInt8)) : LabSt f0 fr 0 ((levOf f0).getD 0) [] (!(levOf f0).isSome) := by
  cases h : levOf f0 with
  | none => exact ⟨by simp, by simp, by simp, by simp, fun _ => labOf_lev h⟩
  | some d => exact ⟨levOf_le h, by simp, by simp, fun _ => ⟨h, by simp⟩, by simp⟩
theorem pairsOf_cons (s : List UInt8) (r : List (List UInt8)) (h : (cutAt 58 s).isSome = true) : pairsOf (s :: r) = match numW (cutW 58 s), levOf (cutR 58 s) with
      | some c, some l => if c ≤ 1073741824 then (pairsOf r).map ((c, l) :: ·) else none
      | _, _ => none := by
  unfold cutW cutR
  conv => lhs; unfold pairsOf
  cases e : cutAt 58 s with
  | none => rw [e] at h; cases h
  | some p => rfl
theorem LabSt.stop {f0 s : List UInt8} {fr : List (List UInt8)} {k d : Nat} {ps : List (Nat × Nat)} {fl : Bool} (h : LabSt f0 fr k d ps fl) (hs : fr[k]? = some s) (hb : (cutAt 58 s).isSome = false ∨ numW (cutW 58 s) = none ∨ ∃ c, numW (cutW 58 s) = some c ∧ 1073741824 < c) : labOf (f0 :: fr) = none := by
  cases hf : fl with
  | true => exact h.bad hf
  | false =>
    refine labOf_pairs ?_
    rw [(h.good hf).2, drop_at hs]
    suffices pairsOf (s :: fr.drop (k + 1)) = none by rw [this]; rfl
    cases hc : (cutAt 58 s).isSome with
    | false => unfold pairsOf; cases e : cutAt 58 s with
      | none => rfl
      | some p => rw [e] at hc; cases hc
    | true =>
      rw [pairsOf_cons s _ hc]
      rcases hb with hb | hb | ⟨c, hb, hx⟩
      · rw [hc] at hb; cases hb
      · rw [hb]
      · rw [hb]
        cases levOf (cutR 58 s) with
        | none => rfl
        | some l => simp only; rw [if_neg (by omega)]
theorem LabSt.next {f0 s : List UInt8} {fr : List (List UInt8)} {k d : Nat} {ps : List (Nat × Nat)} {fl : Bool} (h : LabSt f0 fr k d ps fl) (hs : fr[k]? = some s) (hc : (cutAt 58 s).isSome = true) {c : Nat} (hn : numW (cutW 58 s) = some c) (h30 : c ≤ 1073741824) :
    LabSt f0 fr (k + 1) d (ps ++ [(c, (levOf (cutR 58 s)).getD 0)]) (fl || !(levOf (cutR 58 s)).isSome) := by
  cases hl : levOf (cutR 58 s) with
  | none =>
    refine ⟨h.d4, fun p hp => ?_, by have := h.len; simp; omega, by simp, fun _ => ?_⟩
    · rcases List.mem_append.1 hp with hp | hp
      · exact h.bd p hp
      · obtain rfl := List.mem_singleton.1 hp
        exact ⟨h30, Nat.zero_le _⟩
    · cases hf : fl with
      | true => exact h.bad hf
      | false =>
        refine labOf_pairs ?_
        rw [(h.good hf).2, drop_at hs, pairsOf_cons s _ hc, hn, hl]; rfl
  | some l =>
    refine ⟨h.d4, fun p hp => ?_, by have := h.len; simp; omega, fun hf => ?_, fun hf => h.bad (by simpa using hf)⟩
    · rcases List.mem_append.1 hp with hp | hp
      · exact h.bd p hp
      · obtain rfl := List.mem_singleton.1 hp
        exact ⟨h30, levOf_le hl⟩
    · have hf' : fl = false := by simpa using hf
      refine ⟨(h.good hf').1, ?_⟩
      rw [(h.good hf').2, drop_at hs, pairsOf_cons s _ hc, hn, hl]
      simp only [if_pos h30]
      cases pairsOf (fr.drop (k + 1)) <;> simp
/-- What the reader tells of a label, once its words are read. -/
theorem LabSt.fin {f0 : List UInt8} {fr : List (List UInt8)} {d : Nat} {ps : List (Nat × Nat)} {fl : Bool} (h : LabSt f0 fr fr.length d ps fl) {R : List UInt8} {bad : Bool} {p : Rd × Lab} (hp : p = match labOf (f0 :: fr) with
      | some l => (⟨R, bad⟩, l)
      | none => (⟨R, true⟩, lab0)) : (Lab.right ⟨d, ps⟩ = false → p.1 = ⟨R, true⟩) ∧ (Lab.right ⟨d, ps⟩ = true → p.1 = ⟨R, bad || fl⟩ ∧ (fl = false → p.2 = ⟨d, ps⟩)) := by
  cases hf : fl with
  | true =>
    rw [h.bad hf] at hp
    subst hp
    exact ⟨fun _ => rfl, fun _ => ⟨by simp, fun e => by cases e⟩⟩
  | false =>
    obtain ⟨h1, h2⟩ := h.good hf
    rw [List.drop_length] at h2
    have h3 : pairsOf fr = some ps := by rw [h2]; simp [pairsOf]
    unfold labOf at hp
    simp only [h1, h3] at hp
    refine ⟨fun e => ?_, fun e => ?_⟩
    · rw [if_neg (by rw [e]; decide)] at hp; rw [hp]
    · rw [if_pos e] at hp; rw [hp]; exact ⟨by simp, fun _ => rfl⟩
end Go.Proofs.YtjjnidbggoaonaaGreatDoor
