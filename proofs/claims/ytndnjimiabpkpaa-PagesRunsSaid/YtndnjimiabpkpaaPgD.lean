/- A table of pages that is taken down: plainly; the contract of drop. -/
import Derived.Test.YtndnjimiabpkpaaPgF
namespace Go.Proofs.Ytndnjimiabpkpaa
open Go.RowKit

theorem cntN_congr (N M : Nat → Int) (k : Nat) (h : ∀ j, j < k → N j = M j) : cntN N k = cntN M k := by
  induction k with
  | zero => rfl
  | succ k ih => unfold cntN; rw [ih (fun j hj => h j (by omega)), h k (by omega)]
theorem cntN_cut (N : Nat → Int) (c k : Nat) (hc : c < k) (h : N c ≠ 0) : cntN (updI N c 0) k + 1 = cntN N k := by
  induction k with
  | zero => omega
  | succ k ih =>
    unfold cntN
    by_cases e : c = k
    · subst e
      rw [cntN_congr (updI N c 0) N c (fun j hj => updI_other _ _ _ _ (by omega)), updI_same, if_pos rfl, if_neg h]
    · have := ih (by omega)
      rw [updI_other _ _ _ _ (show k ≠ c by omega)]; omega

section
variable {P : Pool} {r o : Int} {N F : Nat → Int} {Y : Nat → Bool}
/-- A table below which nothing is, is freed, and its parent leads there no more. -/
theorem Tab.cut (h : Tab P r o N F Y) (n i : Nat) (hn : n < 585) (hi : i < 8) (h0 : N n ≠ 0) (hc : 8 * n + 1 + i < 585) (hN : N (8 * n + 1 + i) ≠ 0)
    (hk : ∀ j, j < 8 → 8 * (8 * n + 1 + i) + 1 + j < 585 → N (8 * (8 * n + 1 + i) + 1 + j) = 0) (hF : ∀ p, p < 4096 → 73 + p / 8 = 8 * n + 1 + i → F p = 0) :
    Tab ((P.free (N (8 * n + 1 + i))).setE (N n) i 0) r o (updI N (8 * n + 1 + i) 0) F Y ∧ SegMv P ((P.free (N (8 * n + 1 + i))).setE (N n) i 0) o ∧
      ((P.free (N (8 * n + 1 + i))).setE (N n) i 0).left = P.left + 1 ∧ countTo ((P.free (N (8 * n + 1 + i))).setE (N n) i 0).O o P.n + 1 = countTo P.O o P.n := by
  obtain ⟨c, hce⟩ : ∃ c, 8 * n + 1 + i = c := ⟨_, rfl⟩
  rw [hce] at hc hN hk hF ⊢
  have hwc := h.own c hc hN
  obtain ⟨t1, t2⟩ := h.bd c hc hN
  have hthc := P.owner_there _ (by rw [hwc]; exact h.o0)
  have hac : P.O ((N c).toNat - 1) = o := by unfold Pool.owner at hwc; rw [if_pos hthc] at hwc; exact hwc
  have hfr : P.free (N c) = ⟨P.n, updI P.O ((N c).toNat - 1) 0, P.D⟩ := by
    unfold Pool.free; rw [if_pos (by rw [hwc]; exact h.o0)]
  obtain ⟨nb1, nb2⟩ := h.bd n hn h0
  have hdiff : ∀ m, m < 585 → N m ≠ 0 → m ≠ c → (N m).toNat - 1 ≠ (N c).toNat - 1 := fun m hm hm0 hne e => by
    obtain ⟨b1, b2⟩ := h.bd m hm hm0
    exact hne (h.inj m c hm hc hm0 hN (by omega))
  have hown1 : ∀ m, m < 585 → N m ≠ 0 → m ≠ c → (P.free (N c)).owner (N m) = o := fun m hm hm0 hne => by
    obtain ⟨b1, b2⟩ := h.bd m hm hm0
    have hw := h.own m hm hm0
    have hth := P.owner_there _ (by rw [hw]; exact h.o0)
    unfold Pool.owner at hw
    rw [if_pos hth] at hw
    rw [hfr]; unfold Pool.owner
    rw [if_pos (by rw [Pool.there_iff]; exact ⟨b1, b2⟩)]
    show updI P.O _ 0 _ = o
    rw [updI_other _ _ _ _ (hdiff m hm hm0 hne)]; exact hw
  have hcu := countTo_upd P.O o 0 ((N c).toNat - 1) P.n (by omega)
  rw [hac, if_pos rfl, if_neg (fun e => h.o0 e.symm)] at hcu
  have hfu := freeTo_upd P.O 0 ((N c).toNat - 1) P.n (by omega)
  rw [hac, if_neg h.o0, if_pos rfl] at hfu
  have hmv1 : SegMv P (P.free (N c)) o := by
    rw [hfr]
    refine ⟨rfl, fun j hj h0 h1 => ?_, fun o' h0 h1 => ?_, fun _ _ _ _ => rfl⟩
    · show updI P.O _ 0 j = _
      rw [updI_other _ _ _ _ (by rintro rfl; exact h1 hac)]
    · have hc := countTo_upd P.O o' 0 ((N c).toNat - 1) P.n (by omega)
      rw [hac, if_neg (fun e => h1 e.symm), if_neg (fun e => h0 e.symm)] at hc
      exact hc
  have hDf : (P.free (N c)).D = P.D := by rw [hfr]
  have hOf : (P.free (N c)).O = updI P.O ((N c).toNat - 1) 0 := by rw [hfr]
  have hnf : (P.free (N c)).n = P.n := by rw [hfr]
  have hno1 : (P.free (N c)).owner (N n) ≠ 0 := by rw [hown1 n hn h0 (by omega)]; exact h.o0
  have hset : ∀ t' j, j < 8 → 1 ≤ t' → Go.Proofs.Ytndnjimiabpkpaa.ent ((P.free (N c)).setE (N n) i 0) t' j = if t' = N n ∧ j = i then 0 else Go.Proofs.Ytndnjimiabpkpaa.ent P t' j := fun t' j hj ht' => by
    rw [ent_setE _ _ _ _ _ _ hi hj hno1 nb1 ht' (by omega) (by omega)]
    have : Go.Proofs.Ytndnjimiabpkpaa.ent (P.free (N c)) t' j = Go.Proofs.Ytndnjimiabpkpaa.ent P t' j := by unfold Go.Proofs.Ytndnjimiabpkpaa.ent; rw [hDf]
    rw [this]
  have hN' : ∀ m, m ≠ c → updI N c 0 m = N m := fun m hm => updI_other _ _ _ _ hm
  have hNc : updI N c 0 c = 0 := updI_same _ _ _
  have hne : ∀ m, updI N c 0 m ≠ 0 → m ≠ c := fun m hm e => hm (by rw [e, hNc])
  refine ⟨⟨by rw [hN' 0 (by omega)]; exact h.root, h.r0, h.o0, fun m hm hm0 j hj => ?_, fun m m' hm hm' hm0 hm0' e => ?_, fun m hm hm0 => ?_, fun m hp hm hm0 => ?_, fun p hp hF' => ?_, h.lf⟩, hmv1.trans (setE_mv _ _ o _ _ hi (hown1 n hn h0 (by omega)) h.o0), by unfold Pool.left; rw [setE_n, setE_O, hOf, hnf]; omega, by rw [setE_O, hOf]; omega⟩
  · have hmc := hne m hm0
    rw [hN' m hmc] at hm0 ⊢
    have hb := h.bd m hm hm0
    rw [hset _ j hj hb.1]
    by_cases e2 : m = n ∧ j = i
    · obtain ⟨rfl, rfl⟩ := e2
      rw [if_pos ⟨rfl, rfl⟩, hce, if_pos hc, hNc, if_pos rfl]
    · have e3 : ¬ (N m = N n ∧ j = i) := by
        rintro ⟨e4, e5⟩
        exact e2 ⟨h.inj m n hm hn hm0 h0 e4, e5⟩
      rw [if_neg e3, h.ent m hm hm0 j hj]
      by_cases hb : 8 * m + 1 + j < 585
      · rw [if_pos hb, if_pos hb, hN' _ (by intro e; exact e2 ⟨by omega, by omega⟩)]
      · rw [if_neg hb, if_neg hb]
  · rw [hN' m (hne m hm0), hN' m' (hne m' hm0')] at e
    have a1 := hne m hm0; have a2 := hne m' hm0'
    rw [hN' m a1] at hm0; rw [hN' m' a2] at hm0'
    exact h.inj m m' hm hm' hm0 hm0' e
  · have a1 := hne m hm0
    rw [hN' m a1] at hm0 ⊢
    rw [setE_owner]; exact hown1 m hm hm0 a1
  · have a1 := hne m hm0
    rw [hN' m a1] at hm0
    have := h.up m hp hm hm0
    rw [hN' _ (by
      intro e2
      have : m = 8 * c + 1 + (m - 1) % 8 := by omega
      exact hm0 (by rw [this]; exact hk _ (by omega) (by omega)))]
    exact this
  · have := h.leafUp p hp hF'
    rw [hN' _ (by intro e2; exact hF' (hF p hp e2))]; exact this
end

theorem cntN_le (N : Nat → Int) (k : Nat) : cntN N k ≤ k := by
  induction k with
  | zero => exact Nat.le_refl _
  | succ k ih => unfold cntN; split <;> omega
/-- Node k lies below node m. -/
def desc (m k : Nat) : Prop := k ≠ 0 ∧ ((k - 1) / 8 = m ∨ ((k - 1) / 8 - 1) / 8 = m ∨ (((k - 1) / 8 - 1) / 8 - 1) / 8 = m)
def lvl (l m : Nat) : Prop := (l = 0 ∧ m = 0) ∨ (l = 1 ∧ 1 ≤ m ∧ m < 9) ∨ (l = 2 ∧ 9 ≤ m ∧ m < 73) ∨ (l = 3 ∧ 73 ≤ m ∧ m < 585)
def under (m p : Nat) : Prop := 73 + p / 8 = m ∨ desc m (73 + p / 8)
theorem desc_self (m : Nat) : ¬ desc m m := by unfold desc; omega
theorem desc_kid (m i : Nat) (hi : i < 8) : desc m (8 * m + 1 + i) := by unfold desc; omega
theorem desc_up (m i k : Nat) (hi : i < 8) (hk : k < 585) (h : desc (8 * m + 1 + i) k) : desc m k := by unfold desc at h ⊢; omega
theorem under_up (m i p : Nat) (hi : i < 8) (hp : p < 4096) (h : under (8 * m + 1 + i) p) : under m p := by
  unfold under at h ⊢
  rcases h with h | h
  · right; rw [h]; exact desc_kid m i hi
  · right; exact desc_up m i _ hi (by omega) h
theorem updB_self (Y : Nat → Bool) (p : Nat) : updB Y p (Y p) = Y := by
  funext j; unfold updB; split
  · rename_i h; rw [h]
  · rfl

/-- Of node m's branches the first k are taken down. -/
structure Dropped (w wx : World) (pb db ob : Nat) (P : Pool) (r o : Int) (N F : Nat → Int) (Y : Nat → Bool) (m k : Nat) (P' : Pool) (N' F' : Nat → Int) : Prop where
  pool : PoolAt wx pb db ob P'
  tab : Tab P' r o N' F' Y
  mv : SegMv P P' o
  le : cntN N' 585 ≤ cntN N 585
  left : P'.left = P.left + (cntN N 585 - cntN N' 585)
  cnt : countTo P'.O o P.n + (cntN N 585 - cntN N' 585) = countTo P.O o P.n
  out : ∀ j, j < 585 → ¬ desc m j → N' j = N j
  outF : ∀ p, p < 4096 → ¬ under m p → F' p = F p
  done : ∀ j, j < k → 8 * m + 1 + j < 585 → N' (8 * m + 1 + j) = 0
  doneF : ∀ j, j < k → 585 ≤ 8 * m + 1 + j → F' (8 * m + 1 + j - 585) = 0
  kept : Kept (PS pb db ob) w wx
section
variable {w wx wy : World} {pb db ob : Nat} {P P' P1 : Pool} {r o : Int} {N F N' F' N1 F1 : Nat → Int} {Y : Nat → Bool} {m k : Nat}
theorem Dropped.start (hP : PoolAt w pb db ob P) (hT : Tab P r o N F Y) : Dropped w w pb db ob P r o N F Y m 0 P N F :=
  ⟨hP, hT, SegMv.refl _ _, Nat.le_refl _, by omega, by omega, fun _ _ _ => rfl, fun _ _ _ => rfl, fun j h => absurd h (by omega), fun j h => absurd h (by omega), Kept.refl _ _⟩
theorem Dropped.skip (h : Dropped w wx pb db ob P r o N F Y m k P' N' F') (h1 : 8 * m + 1 + k < 585 → N' (8 * m + 1 + k) = 0) (h2 : 585 ≤ 8 * m + 1 + k → F' (8 * m + 1 + k - 585) = 0) : Dropped w wx pb db ob P r o N F Y m (k + 1) P' N' F' :=
  ⟨h.pool, h.tab, h.mv, h.le, h.left, h.cnt, h.out, h.outF, fun j hj hc => by
    by_cases e : j = k
    · subst e; exact h1 hc
    · exact h.done j (by omega) hc, fun j hj hc => by
    by_cases e : j = k
    · subst e; exact h2 hc
    · exact h.doneF j (by omega) hc, h.kept⟩
theorem Dropped.below (h : Dropped w wx pb db ob P r o N F Y m k P' N' F') (hb : Below wx.heap.size wx wy) : Dropped w wy pb db ob P r o N F Y m k P' N' F' :=
  ⟨h.pool.below hb, h.tab, h.mv, h.le, h.left, h.cnt, h.out, h.outF, h.done, h.doneF, h.kept.trans (Kept.of_below hb)⟩
/-- A page's entry is cleared. -/
theorem Dropped.leaf (h : Dropped w wx pb db ob P r o N F Y m k P' N' F') (hm : m < 585) (h0 : N' m ≠ 0) (hk : k < 8) (hc : 585 ≤ 8 * m + 1 + k)
    (hP : PoolAt wy pb db ob (P'.setE (N' m) k 0)) (hK : Kept (PS pb db ob) wx wy) : Dropped w wy pb db ob P r o N F Y m (k + 1) (P'.setE (N' m) k 0) N' (updI F' (8 * m + 1 + k - 585) 0) := by
  obtain ⟨p, hp⟩ : ∃ p, 8 * m + 1 + k - 585 = p := ⟨_, rfl⟩
  have e1 : 73 + p / 8 = m := by omega
  have e2 : p % 8 = k := by omega
  obtain ⟨hT, hM⟩ := h.tab.told p (by omega) (by rw [e1]; exact h0) 0 (Y p) (by omega) (by omega)
  rw [if_pos rfl, e1, e2, updB_self] at hT
  rw [if_pos rfl, e1, e2] at hM
  rw [hp]
  refine ⟨hP, hT, h.mv.trans hM, h.le, by unfold Pool.left; rw [setE_n, setE_O]; exact h.left, by rw [setE_O]; exact h.cnt, h.out, fun q hq hu => ?_, fun j hj hcj => ?_, fun j hj hcj => ?_, h.kept.trans hK⟩
  · rw [updI_other _ _ _ _ (by rintro rfl; exact hu (.inl e1))]; exact h.outF q hq hu
  · exact h.done j (by omega) hcj
  · by_cases e : j = k
    · subst e; rw [hp, updI_same]
    · rw [updI_other _ _ _ _ (by omega)]; exact h.doneF j (by omega) hcj
/-- A branch is taken down, its table freed, its entry cleared. -/
theorem Dropped.branch (h : Dropped w wx pb db ob P r o N F Y m k P' N' F') (hm : m < 585) (h0 : N' m ≠ 0) (hk : k < 8) (hc : 8 * m + 1 + k < 585) (hN : N' (8 * m + 1 + k) ≠ 0) {wb : World}
    (hB : Dropped wx wb pb db ob P' r o N' F' Y (8 * m + 1 + k) 8 P1 N1 F1)
    (hP : PoolAt wy pb db ob ((P1.free (N' (8 * m + 1 + k))).setE (N' m) k 0)) (hK : Kept (PS pb db ob) wb wy) :
    Dropped w wy pb db ob P r o N F Y m (k + 1) ((P1.free (N' (8 * m + 1 + k))).setE (N' m) k 0) (updI N1 (8 * m + 1 + k) 0) F1 ∧ cntN (updI N1 (8 * m + 1 + k) 0) 585 + 1 = cntN N1 585 := by
  have e1 : N1 (8 * m + 1 + k) = N' (8 * m + 1 + k) := hB.out _ hc (desc_self _)
  have e0 : N1 m = N' m := hB.out m hm (by unfold desc; omega)
  obtain ⟨hT, hM, hL, hC⟩ := hB.tab.cut m k hm hk (by rw [e0]; exact h0) hc (by rw [e1]; exact hN) (fun j hj hcj => hB.done j hj hcj) (fun p hp hpe => by
    have := hB.doneF (p % 8) (by omega) (by omega)
    rw [show 8 * (8 * m + 1 + k) + 1 + p % 8 - 585 = p by omega] at this; exact this)
  rw [e1, e0] at hT hM hL hC
  have hcc := cntN_cut N1 (8 * m + 1 + k) 585 hc (by rw [e1]; exact hN)
  have a1 := hB.le; have a2 := h.le; have a3 := hB.left; have a4 := h.left; have a5 := hB.cnt; have a6 := h.cnt
  rw [h.mv.n] at a5
  rw [hB.mv.n, h.mv.n] at hC
  refine ⟨⟨hP, hT, (h.mv.trans hB.mv).trans hM, by omega, by omega, by omega, fun j hj hd => ?_, fun p hp hu => ?_, fun j hj hcj => ?_, fun j hj hcj => ?_, (h.kept.trans hB.kept).trans hK⟩, hcc⟩
  · rw [updI_other _ _ _ _ (by rintro rfl; exact hd (desc_kid m k hk)), hB.out j hj (fun e => hd (desc_up m k j hk hj e))]; exact h.out j hj hd
  · rw [hB.outF p hp (fun e => hu (under_up m k p hk hp e))]; exact h.outF p hp hu
  · by_cases e : j = k
    · subst e; exact updI_same _ _ _
    · rw [updI_other _ _ _ _ (by omega), hB.out _ hcj (by unfold desc; omega)]; exact h.done j (by omega) hcj
  · omega
end

attribute [local irreducible] World.setCell World.alloc World.drew World.setRow Calls Code.wp row

def DropPost (pb db ob : Nat) (P : Pool) (r o : Int) (N F : Nat → Int) (Y : Nat → Bool) (m : Nat) (w : World) (e : Ending) (w' : World) : Prop :=
  ∃ P' N' F', e = .returned (.int .i64 ((cntN N 585 - cntN N' 585 : Nat) : Int)) ∧ Dropped w w' pb db ob P r o N F Y m 8 P' N' F'

set_option maxRecDepth 100000 in
set_option maxHeartbeats 4000000 in
theorem drop_any (pb db ob : Nat) (r o : Int) (Y : Nat → Bool) : ∀ (d l m : Nat) (P : Pool) (N F : Nat → Int) (w : World), l + d = 3 → lvl l m → PoolAt w pb db ob P → Tab P r o N F Y → N m ≠ 0 →
    Calls Try.prog 62 #[.pointer (some ⟨pb, 0, none⟩), .int .i64 (N m), .int .i64 l] w (DropPost pb db ob P r o N F Y m w) := by
  intro d
  induction d with
  | zero =>
    intro l m P N F w hl hv hP hT h0
    obtain rfl : l = 3 := by omega
    have hm : 73 ≤ m ∧ m < 585 := by unfold lvl at hv; omega
    obtain ⟨t, ht⟩ : ∃ t, N m = t := ⟨_, rfl⟩
    have HS := Lib.hid (Dropped.start (m := m) hP hT)
    have Ht := Lib.hid ht; have H0 := Lib.hid h0
    have hcl := cntN_le N 585
    rw [ht]
    clear hP hT h0 hv ht
    go_enter Try.func62, Try.ntmps62
    go_wp2_with fail
    go_loopg [7, 8, 9, 10] 8 (fun g n _ _ i wx => ∃ (k : Nat) (P' : Pool) (N' F' : Nat → Int), k + g = 8 ∧ i = .int .i64 k ∧ n = .int .i64 0 ∧ N' = N ∧ Dropped w wx pb db ob P r o N F Y m k P' N' F')
    case atStart => exact ⟨0, P, N, F, rfl, rfl, rfl, rfl, HS.out⟩
    case round =>
      clear HS
      obtain ⟨k, P', N', F', hk, rfl, rfl, hNN, hD⟩ := hrel
      subst hNN
      have HD := Lib.hid hD; clear hD
      by_cases hlt : k < 8
      · have hto : P'.owner t ≠ 0 := by rw [← Ht.out, HD.out.tab.own m hm.2 H0.out]; exact HD.out.tab.o0
        have hent := HD.out.tab.ent m hm.2 H0.out k hlt
        rw [if_neg (by omega), Ht.out] at hent
        have Hto := Lib.hid hto; have Hent := Lib.hid hent
        have hbd := HD.out.pool.bd
        have heb := ent_bd P' hbd t k
        clear hto hent hbd
        go_wp2_with fail
        refine (entry_any pb db ob P' t k _ HD.out.pool Hto.out hlt).mono ?_
        rintro e w2 ⟨rfl, hb2⟩
        have HD2 := Lib.hid (HD.out.below hb2)
        clear hb2
        by_cases hF : F' (8 * m + 1 + k - 585) = 0
        · have he : ent P' t k = 0 := by rw [Hent.out]; unfold leafE; rw [if_pos hF]
          have ha : bits .and .u64 0 1 = 0 := by decide
          have HF := Lib.hid hF
          rw [he]
          clear he hF heb
          go_wp2_with fail
          go_roundg (8 - (k + 1))
          case measure => omega
          case rel => exact ⟨k + 1, P', _, F', by omega, by go_num, rfl, rfl, HD2.out.skip (fun h => by omega) (fun _ => HF.out)⟩
        · have he : ent P' t k % 2 = 1 := by
            rw [Hent.out]; unfold leafE; rw [if_neg hF]; split <;> omega
          obtain ⟨x, hx⟩ : ∃ x, ent P' t k = x := ⟨_, rfl⟩
          rw [hx] at he heb ⊢
          have ha : bits .and .u64 x 1 = 1 := by rw [and1_u64 _ heb.1 heb.2]; exact he
          have hl3 : ¬ ((3 : Nat) : Int) < 3 := by omega
          clear he hx heb hF
          go_wp2_with fail
          refine (set_any pb db ob P' t k 0 _ HD2.out.pool hlt (by omega) (by omega)).mono ?_
          rintro e w3 ⟨rfl, hP3, hK3⟩
          have HD3 := Lib.hid (HD2.out.leaf hm.2 H0.out hlt (by omega) (by rw [Ht.out]; exact hP3) hK3)
          clear hP3 hK3
          go_wp2_with fail
          go_roundg (8 - (k + 1))
          case measure => omega
          case rel => exact ⟨k + 1, _, _, _, by omega, by go_num, rfl, rfl, HD3.out⟩
      · obtain rfl : k = 8 := by omega
        have hlt' : ¬ ((8 : Nat) : Int) < 8 := by omega
        clear hlt
        go_wp2_with fail
        go_ret
        exact ⟨P', _, F', by rw [Nat.sub_self]; rfl, HD.out⟩
  | succ d ih =>
    intro l m P N F w hl hv hP hT h0
    have hm : m < 73 := by unfold lvl at hv; omega
    have hv' : ∀ k, k < 8 → lvl (l + 1) (8 * m + 1 + k) := fun k hk => by unfold lvl at hv ⊢; omega
    have Hv := Lib.hid hv'
    obtain ⟨t, ht⟩ : ∃ t, N m = t := ⟨_, rfl⟩
    have HS := Lib.hid (Dropped.start (m := m) hP hT)
    have Ht := Lib.hid ht; have H0 := Lib.hid h0; have Ih := Lib.hid ih
    have hcl := cntN_le N 585
    have hl3 : (l : Int) < 3 := by omega
    have hpn := hP.hi
    rw [ht]
    clear hP hT h0 hv hv' ht ih
    go_enter Try.func62, Try.ntmps62
    go_wp2_with fail
    go_loopg [7, 8, 9, 10] 8 (fun g n _ _ i wx => ∃ (k : Nat) (P' : Pool) (N' F' : Nat → Int), k + g = 8 ∧ i = .int .i64 k ∧ n = .int .i64 ((cntN N 585 - cntN N' 585 : Nat) : Int) ∧ Dropped w wx pb db ob P r o N F Y m k P' N' F')
    case atStart => exact ⟨0, P, N, F, rfl, rfl, by rw [Nat.sub_self]; rfl, HS.out⟩
    case round =>
      clear HS
      obtain ⟨k, P', N', F', hk, rfl, rfl, hD⟩ := hrel
      have HD := Lib.hid hD
      have hle := hD.le
      obtain ⟨q, hq⟩ : ∃ q, cntN N 585 - cntN N' 585 = q := ⟨_, rfl⟩
      have hq585 : q ≤ 585 := by omega
      have Hq := Lib.hid hq
      rw [hq]
      have hNm : N' m = t := by rw [hD.out m (by omega) (desc_self m), Ht.out]
      have HNm := Lib.hid hNm
      have hpn' : P'.n = P.n := hD.mv.n
      clear hD hq hNm
      by_cases hlt : k < 8
      · have ht0 : t ≠ 0 := by rw [← Ht.out]; exact H0.out
        have hto : P'.owner t ≠ 0 := by rw [← HNm.out, HD.out.tab.own m (by omega) (by rw [HNm.out]; exact ht0)]; exact HD.out.tab.o0
        have hent := HD.out.tab.ent m (by omega) (by rw [HNm.out]; exact ht0) k hlt
        rw [if_pos (by omega), HNm.out] at hent
        have Hto := Lib.hid hto; have Hent := Lib.hid hent; have Ht0 := Lib.hid ht0
        clear hto hent ht0
        go_wp2_with fail
        refine (entry_any pb db ob P' t k _ HD.out.pool Hto.out hlt).mono ?_
        rintro e w2 ⟨rfl, hb2⟩
        have HD2 := Lib.hid (HD.out.below hb2)
        clear hb2 HD
        by_cases hc : N' (8 * m + 1 + k) = 0
        · have he : ent P' t k = 0 := by rw [Hent.out, if_pos hc]
          have ha : bits .and .u64 0 1 = 0 := by decide
          have Hc := Lib.hid hc
          rw [he]
          clear he hc hle hpn'
          go_wp2_with fail
          go_roundg (8 - (k + 1))
          case measure => omega
          case rel => exact ⟨k + 1, P', N', F', by omega, by go_num, by rw [Hq.out], HD2.out.skip (fun _ => Hc.out) (fun h => by omega)⟩
        · have he : ent P' t k = N' (8 * m + 1 + k) * 256 + 1 := by rw [Hent.out, if_neg hc]
          obtain ⟨b1, b2⟩ := HD2.out.tab.bd (8 * m + 1 + k) (by omega) hc
          obtain ⟨c, hcc⟩ : ∃ c, N' (8 * m + 1 + k) = c := ⟨_, rfl⟩
          rw [hcc] at he b1 b2 hc
          have Hcc := Lib.hid hcc; have Hc := Lib.hid hc
          have c3 : c ≤ 4096 := by omega
          have ha : bits .and .u64 (c * 256 + 1) 1 = 1 := by rw [and1_u64 _ (by omega) (by omega)]; omega
          have hd : (c * 256 + 1) / 256 = c := by omega
          rw [he]
          have ih' := Ih.out (l + 1) (8 * m + 1 + k) P' N' F' w2 (by omega) (Hv.out k hlt) HD2.out.pool HD2.out.tab (by rw [hcc]; exact hc)
          rw [hcc] at ih'
          have el : ((l + 1 : Nat) : Int) = (l : Int) + 1 := by omega
          rw [el] at ih'
          have Ih' := Lib.hid ih'
          clear he hcc hc hle hpn' el ih'
          go_wp2_with fail
          refine Ih'.out.mono ?_
          rintro e w3 ⟨P1, N1, F1, rfl, hD3⟩
          have HD3 := Lib.hid hD3
          have hle3 := hD3.le
          have hcl3 := cntN_le N' 585
          obtain ⟨q1, hq1⟩ : ∃ q1, cntN N' 585 - cntN N1 585 = q1 := ⟨_, rfl⟩
          have hq1b : q1 ≤ 585 := by omega
          have Hq1 := Lib.hid hq1
          rw [hq1]
          clear hD3 hle3 hcl3 hq1 Ih'
          go_wp2_with fail
          refine (free_any pb db ob P1 c _ HD3.out.pool).mono ?_
          rintro e w4 ⟨rfl, hP4, hK4⟩
          have HP4 := Lib.hid hP4; have HK4 := Lib.hid hK4
          clear hP4 hK4
          go_wp2_with fail
          refine (set_any pb db ob (P1.free c) t k 0 _ HP4.out hlt (by omega) (by omega)).mono ?_
          rintro e w5 ⟨rfl, hP5, hK5⟩
          obtain ⟨hD6, hcut⟩ := HD2.out.branch (by omega) (by rw [HNm.out]; exact Ht0.out) hlt (by omega) (by rw [Hcc.out]; exact Hc.out) HD3.out (by rw [HNm.out, Hcc.out]; exact hP5) (HK4.out.trans hK5)
          have HD6 := Lib.hid hD6
          have Hqq : Hid (cntN N 585 - cntN (updI N1 (8 * m + 1 + k) 0) 585 = q + (q1 + 1)) := by
            have h1 := Hq.out; have h2 := Hq1.out; have h3 := HD2.out.le; have h4 := HD3.out.le
            unfold Hid; omega
          clear hP5 hK5 hD6 hcut
          go_wp2_with fail
          go_roundg (8 - (k + 1))
          case measure => omega
          case rel => exact ⟨k + 1, _, _, _, by omega, by go_num, by rw [Hqq.out]; go_num, HD6.out⟩
      · obtain rfl : k = 8 := by omega
        have hlt' : ¬ ((8 : Nat) : Int) < 8 := by omega
        clear hlt hle hpn'
        go_wp2_with fail
        go_ret
        exact ⟨P', N', F', by rw [Hq.out]; rfl, HD.out⟩
end Go.Proofs.Ytndnjimiabpkpaa
