/- A table of pages that grows, plainly. -/
import Derived.Test.YtndnjimiabpkpaaPgT
import Derived.Test.YtndnjimiabpkpaaSgP
namespace Go.Proofs.Ytndnjimiabpkpaa
open Go.RowKit

def updB (Y : Nat → Bool) (i : Nat) (b : Bool) : Nat → Bool := fun j => if j = i then b else Y j
/-- A frame's new table: all its entries are 0. -/
theorem ent_zero (P : Pool) (t : Int) (i : Nat) (hi : i < 8) (h : ∀ j, j / 64 = t.toNat - 1 → P.D j = 0) : ent P t i = 0 := by
  have : ∀ k, k ≤ 8 → beN (fun j => P.D ((t.toNat - 1) * 64 + i * 8 + j)) k = 0 := by
    intro k
    induction k with
    | zero => intro _; rfl
    | succ k ih => intro hk; unfold beN; rw [ih (by omega), h _ (by omega)]; rfl
  exact this 8 (Nat.le_refl _)

/-- What another owner sees of it: nothing. -/
theorem setE_mv (P : Pool) (t o : Int) (i : Nat) (x : Int) (hi : i < 8) (ht : P.owner t = o) (ho : o ≠ 0) : SegMv P (P.setE t i x) o := by
  have hth := P.owner_there t (by rw [ht]; exact ho)
  have hat : P.O (t.toNat - 1) = o := by unfold Pool.owner at ht; rw [if_pos hth] at ht; exact ht
  refine ⟨setE_n _ _ _ _, fun j _ _ _ => by rw [setE_O], fun o' _ _ => by rw [setE_O], fun j _ h0 h1 => setE_other P t i x hi j (fun e => h1 (by rw [e]; exact hat))⟩

section
variable {P : Pool} {r o : Int} {N F : Nat → Int} {Y : Nat → Bool}
theorem Tab.root_own (h : Tab P r o N F Y) : P.owner r = o := by
  have := h.own 0 (by omega) (by rw [h.root]; exact h.r0)
  rw [h.root] at this; exact this

/-- A table that isn't there is charged, and its parent leads to it. -/
theorem Tab.grow (h : Tab P r o N F Y) (n i : Nat) (hn : n < 585) (hi : i < 8) (h0 : N n ≠ 0) (hc : 8 * n + 1 + i < 585) (hN : N (8 * n + 1 + i) = 0) (hl : 1 ≤ P.left) (hpn : P.n ≤ 4096) :
    ∃ t, P.allocRet o = t ∧ 1 ≤ t ∧ t ≤ P.n ∧ Tab ((P.alloc o).setE (N n) i (t * 256 + 1)) r o (updI N (8 * n + 1 + i) t) F Y ∧ SegMv P ((P.alloc o).setE (N n) i (t * 256 + 1)) o ∧
      ((P.alloc o).setE (N n) i (t * 256 + 1)).left + 1 = P.left ∧ countTo ((P.alloc o).setE (N n) i (t * 256 + 1)).O o P.n = countTo P.O o P.n + 1 := by
  have hff : firstFree P.O P.n < P.n := by
    have h1 := firstFree_le P.O P.n
    rcases Nat.lt_or_ge (firstFree P.O P.n) P.n with h2 | h2
    · exact h2
    · have := (freeTo_pos P.O P.n).2 (by omega)
      unfold Pool.left at hl; omega
  have hz0 := firstFree_free P.O P.n hff
  obtain ⟨z, hz⟩ : ∃ z, firstFree P.O P.n = z := ⟨_, rfl⟩
  have hcc : o ≠ 0 ∧ firstFree P.O P.n < P.n := ⟨h.o0, hff⟩
  have hr : P.allocRet o = (z : Int) + 1 := by unfold Pool.allocRet; rw [if_pos hcc, hz]
  have ha : P.alloc o = ⟨P.n, updI P.O z o, fun j => if z * 64 ≤ j ∧ j < z * 64 + 64 then 0 else P.D j⟩ := by unfold Pool.alloc; rw [if_pos hcc, hz]
  rw [hz] at hff hz0
  have hno : ∀ m, m < 585 → N m ≠ 0 → (N m).toNat - 1 ≠ z := fun m hm hm0 e => by
    have hw := h.own m hm hm0
    have hth := P.owner_there (N m) (by rw [hw]; exact h.o0)
    unfold Pool.owner at hw
    rw [if_pos hth, e, hz0] at hw
    exact h.o0 hw.symm
  have hmv1 : SegMv P (P.alloc o) o := by
    rw [ha]
    refine ⟨rfl, fun j hj h0 h1 => ?_, fun o' h0 h1 => ?_, fun j hj h0 h1 => ?_⟩
    · show updI P.O z o j = _
      rw [updI_other _ _ _ _ (by rintro rfl; exact h0 hz0)]
    · have hc := countTo_upd P.O o' o z P.n hff
      rw [hz0, if_neg (fun e => h0 e.symm), if_neg (fun e => h1 e.symm)] at hc
      exact hc
    · show (if _ then _ else _) = _
      rw [if_neg]
      intro e
      have : j / 64 = z := by omega
      rw [this] at h0; exact h0 hz0
  have hown1 : ∀ f, P.owner f = o → (P.alloc o).owner f = o := by
    intro f hf
    have hth := P.owner_there f (by rw [hf]; exact h.o0)
    obtain ⟨s1, s2⟩ := (P.there_iff f).1 hth
    rw [ha]
    unfold Pool.owner
    rw [if_pos (by rw [Pool.there_iff]; exact ⟨s1, s2⟩)]
    show updI P.O z o _ = o
    unfold updI
    split
    · rfl
    · unfold Pool.owner at hf; rw [if_pos hth] at hf; exact hf
  have hownz : (P.alloc o).owner ((z : Int) + 1) = o := by
    rw [ha]; unfold Pool.owner
    rw [if_pos (by rw [Pool.there_iff]; exact ⟨by omega, by show (z : Int) + 1 ≤ P.n; omega⟩)]
    show updI P.O z o _ = o
    rw [show ((z : Int) + 1).toNat - 1 = z by omega, updI_same]
  have hno1 : (P.alloc o).owner (N n) ≠ 0 := by rw [hown1 _ (h.own n hn h0)]; exact h.o0
  obtain ⟨nb1, nb2⟩ := h.bd n hn h0
  have hcu := countTo_upd P.O o o z P.n hff
  rw [hz0, if_neg (fun e => h.o0 e.symm), if_pos rfl] at hcu
  have hfu := freeTo_upd P.O o z P.n hff
  rw [hz0, if_pos rfl, if_neg h.o0] at hfu
  have hOz : (P.alloc o).O = updI P.O z o := by rw [ha]
  have hnz : (P.alloc o).n = P.n := by rw [ha]
  -- entries in the pool with the new frame
  have he1 : ∀ m, m < 585 → N m ≠ 0 → ∀ j, j < 8 → Go.Proofs.Ytndnjimiabpkpaa.ent (P.alloc o) (N m) j = Go.Proofs.Ytndnjimiabpkpaa.ent P (N m) j := by
    intro m hm hm0 j hj
    refine ent_congr P _ _ _ hj fun q hq => ?_
    rw [ha]
    show (if _ then _ else _) = _
    have := hno m hm hm0
    rw [if_neg (by omega)]
  have hez : ∀ j, j < 8 → Go.Proofs.Ytndnjimiabpkpaa.ent (P.alloc o) ((z : Int) + 1) j = 0 := by
    intro j hj
    refine ent_zero _ _ _ hj fun q hq => ?_
    rw [ha]
    show (if _ then _ else _) = _
    rw [if_pos (by omega)]
  have hset : ∀ t' j, j < 8 → 1 ≤ t' → Go.Proofs.Ytndnjimiabpkpaa.ent ((P.alloc o).setE (N n) i (((z : Int) + 1) * 256 + 1)) t' j = if t' = N n ∧ j = i then ((z : Int) + 1) * 256 + 1 else Go.Proofs.Ytndnjimiabpkpaa.ent (P.alloc o) t' j :=
    fun t' j hj ht' => ent_setE _ _ _ _ _ _ hi hj hno1 nb1 ht' (by omega) (by omega)
  refine ⟨(z : Int) + 1, hr, by omega, by omega, ?_, hmv1.trans (setE_mv _ _ o _ _ hi (hown1 _ (h.own n hn h0)) h.o0), ?_, ?_⟩
  · have hN' : ∀ m, m ≠ 8 * n + 1 + i → updI N (8 * n + 1 + i) ((z : Int) + 1) m = N m := fun m hm => updI_other _ _ _ _ hm
    have hNc : updI N (8 * n + 1 + i) ((z : Int) + 1) (8 * n + 1 + i) = (z : Int) + 1 := updI_same _ _ _
    refine ⟨by rw [hN' 0 (by omega)]; exact h.root, h.r0, h.o0, fun m hm hm0 j hj => ?_, fun m m' hm hm' hm0 hm0' e => ?_, fun m hm hm0 => ?_, fun m hp hm hm0 => ?_, fun p hp hF => ?_, h.lf⟩
    · by_cases e : m = 8 * n + 1 + i
      · subst e
        rw [hNc, hset _ j hj (by omega), if_neg (by rintro ⟨e, _⟩; exact hno n hn h0 (by omega)), hez j hj]
        by_cases hb : 8 * (8 * n + 1 + i) + 1 + j < 585
        · rw [if_pos hb, hN' _ (by omega)]
          have : N (8 * (8 * n + 1 + i) + 1 + j) = 0 := by
            by_cases hq : N (8 * (8 * n + 1 + i) + 1 + j) = 0
            · exact hq
            · have := h.up _ (by omega) hb hq
              rw [show (8 * (8 * n + 1 + i) + 1 + j - 1) / 8 = 8 * n + 1 + i by omega] at this
              exact absurd hN this
          rw [this, if_pos rfl]
        · rw [if_neg hb]
          unfold leafE
          have : F (8 * (8 * n + 1 + i) + 1 + j - 585) = 0 := by
            by_cases hq : F (8 * (8 * n + 1 + i) + 1 + j - 585) = 0
            · exact hq
            · have := h.leafUp _ (by omega) hq
              rw [show 73 + (8 * (8 * n + 1 + i) + 1 + j - 585) / 8 = 8 * n + 1 + i by omega] at this
              exact absurd hN this
          rw [this, if_pos rfl]
      · rw [hN' m e] at hm0 ⊢
        have hb := h.bd m hm hm0
        rw [hset _ j hj hb.1]
        by_cases e2 : m = n ∧ j = i
        · obtain ⟨rfl, rfl⟩ := e2
          rw [if_pos ⟨rfl, rfl⟩, if_pos hc, hNc, if_neg (by omega)]
        · have e3 : ¬ (N m = N n ∧ j = i) := by
            rintro ⟨e4, e5⟩
            exact e2 ⟨h.inj m n hm hn hm0 h0 e4, e5⟩
          rw [if_neg e3, he1 m hm hm0 j hj, h.ent m hm hm0 j hj]
          by_cases hb : 8 * m + 1 + j < 585
          · rw [if_pos hb, if_pos hb, hN' _ (by intro e; exact e2 ⟨by omega, by omega⟩)]
          · rw [if_neg hb, if_neg hb]
    · by_cases e1 : m = 8 * n + 1 + i
      · by_cases e2 : m' = 8 * n + 1 + i
        · omega
        · rw [e1, hNc, hN' m' e2] at e
          rw [hN' m' e2] at hm0'
          exact absurd (by omega) (hno m' hm' hm0')
      · by_cases e2 : m' = 8 * n + 1 + i
        · rw [e2, hNc, hN' m e1] at e
          rw [hN' m e1] at hm0
          exact absurd (by omega) (hno m hm hm0)
        · rw [hN' m e1, hN' m' e2] at e
          rw [hN' m e1] at hm0
          rw [hN' m' e2] at hm0'
          exact h.inj m m' hm hm' hm0 hm0' e
    · rw [setE_owner]
      by_cases e : m = 8 * n + 1 + i
      · rw [e, hNc]; exact hownz
      · rw [hN' m e] at hm0 ⊢; exact hown1 _ (h.own m hm hm0)
    · by_cases e : m = 8 * n + 1 + i
      · rw [show (m - 1) / 8 = n by omega, hN' n (by omega)]; exact h0
      · rw [hN' m e] at hm0
        have := h.up m hp hm hm0
        rw [hN' _ (by intro e2; rw [e2] at this; exact this hN)]; exact this
    · have := h.leafUp p hp hF
      rw [hN' _ (by intro e2; rw [e2] at this; exact this hN)]; exact this
  · unfold Pool.left; rw [setE_n, setE_O, hOz, hnz]; omega
  · rw [setE_O, hOz]; omega

/-- The page's own entry is told. -/
theorem Tab.told (h : Tab P r o N F Y) (p : Nat) (hp : p < 4096) (h0 : N (73 + p / 8) ≠ 0) (f : Int) (b : Bool) (hf1 : 0 ≤ f) (hf2 : f ≤ 4294967295) :
    Tab (P.setE (N (73 + p / 8)) (p % 8) (if f = 0 then 0 else f * 256 + 1 + (if b then 2 else 0))) r o N (updI F p f) (updB Y p b) ∧ SegMv P (P.setE (N (73 + p / 8)) (p % 8) (if f = 0 then 0 else f * 256 + 1 + (if b then 2 else 0))) o := by
  obtain ⟨nb1, nb2⟩ := h.bd (73 + p / 8) (by omega) h0
  have hw := h.own (73 + p / 8) (by omega) h0
  have hno : P.owner (N (73 + p / 8)) ≠ 0 := by rw [hw]; exact h.o0
  have hx : 0 ≤ (if f = 0 then (0 : Int) else f * 256 + 1 + (if b then 2 else 0)) ∧ (if f = 0 then (0 : Int) else f * 256 + 1 + (if b then 2 else 0)) ≤ 18446744073709551615 := by
    cases b <;> simp <;> split <;> omega
  refine ⟨⟨h.root, h.r0, h.o0, fun m hm hm0 j hj => ?_, h.inj, fun m hm hm0 => by rw [setE_owner]; exact h.own m hm hm0, h.up, fun q hq hF => ?_, fun q hq => ?_⟩, setE_mv _ _ o _ _ (by omega) hw h.o0⟩
  · have hb := h.bd m hm hm0
    rw [ent_setE _ _ _ _ _ _ (by omega) hj hno nb1 hb.1 hx.1 hx.2]
    by_cases e : N m = N (73 + p / 8) ∧ j = p % 8
    · obtain ⟨e1, rfl⟩ := e
      obtain rfl := h.inj m (73 + p / 8) hm (by omega) hm0 h0 e1
      rw [if_pos ⟨rfl, rfl⟩, if_neg (show ¬ 8 * (73 + p / 8) + 1 + p % 8 < 585 by omega), show 8 * (73 + p / 8) + 1 + p % 8 - 585 = p by omega]
      unfold leafE updI updB
      rw [if_pos rfl, if_pos rfl]
    · rw [if_neg e, h.ent m hm hm0 j hj]
      by_cases hb : 8 * m + 1 + j < 585
      · rw [if_pos hb, if_pos hb]
      · rw [if_neg hb, if_neg hb]
        have hne : 8 * m + 1 + j - 585 ≠ p := by
          intro e2
          apply e
          have : m = 73 + p / 8 := by omega
          subst this
          exact ⟨rfl, by omega⟩
        unfold leafE updI updB
        rw [if_neg hne, if_neg hne]
  · by_cases e : q = p
    · subst e; exact h0
    · rw [updI_other _ _ _ _ e] at hF; exact h.leafUp q hq hF
  · unfold updI; split
    · exact ⟨hf1, hf2⟩
    · exact h.lf q hq
end
end Go.Proofs.Ytndnjimiabpkpaa
