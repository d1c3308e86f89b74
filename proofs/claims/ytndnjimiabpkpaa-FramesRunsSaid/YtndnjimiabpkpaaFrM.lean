/- The list model of glacislaw06 in memory, and what each of a pool's calls does to it, plainly. -/
import Derived.Test.YtndnjimiabpkpaaFrFit
import Derived.Test.YtndnjimiabpkpaaStr
namespace Go.Proofs.Ytndnjimiabpkpaa
open Go.RowKit

/-- The model lies in memory: its struct at mb, the list of frames at dm, the owners at om; a charged frame's bytes in a block of its own, from lo on. -/
structure ModAt (w : World) (lo mb dm om : Nat) (P : Pool) : Prop where
  hm : Blk w mb #[.slice (some ⟨dm, 0, none⟩) P.n P.n, .slice (some ⟨om, 0, none⟩) P.n P.n] 47
  ho : Blk w om (row P.n fun i => .int .u64 (P.O i)) 27
  n1 : mb ≠ dm
  n2 : mb ≠ om
  n3 : dm ≠ om
  l1 : mb < lo
  l2 : dm < lo
  l3 : om < lo
  hd : ∃ (V : Nat → Value) (G : Nat → Nat), Blk w dm (row P.n V) 32 ∧
    (∀ i, i < P.n → P.O i ≠ 0 → V i = .slice (some ⟨G i, 0, none⟩) 64 64 ∧ Blk w (G i) (row 64 fun j => .int .u8 (P.D (i * 64 + j))) 5 ∧ lo ≤ G i) ∧
    ∀ i k, i < P.n → k < P.n → P.O i ≠ 0 → P.O k ≠ 0 → G i = G k → i = k

theorem ModAt.kept {S : Nat → Prop} {w w' : World} {lo mb dm om : Nat} {P : Pool} (h : ModAt w lo mb dm om P) (k : Kept S w w') (h1 : ¬ S mb) (h2 : ¬ S dm) (h3 : ¬ S om) (h4 : ∀ g, lo ≤ g → ¬ S g) : ModAt w' lo mb dm om P := by
  obtain ⟨V, G, hv, hg, hi⟩ := h.hd
  exact ⟨k.blk h.hm h1, k.blk h.ho h3, h.n1, h.n2, h.n3, h.l1, h.l2, h.l3, V, G, k.blk hv h2, fun i hi hO => ⟨(hg i hi hO).1, k.blk (hg i hi hO).2.1 (h4 _ (hg i hi hO).2.2), (hg i hi hO).2.2⟩, hi⟩
theorem ModAt.alloc {w : World} {lo mb dm om : Nat} {P : Pool} (h : ModAt w lo mb dm om P) (o : Obj) : ModAt (w.alloc o) lo mb dm om P :=
  h.kept (S := fun _ => False) ((Kept.refl _ _).alloc o) (fun h => h) (fun h => h) (fun h => h) (fun _ _ h => h)
theorem ModAt.drew {w : World} {lo mb dm om : Nat} {P : Pool} (h : ModAt w lo mb dm om P) : ModAt w.drew lo mb dm om P :=
  h.kept (S := fun _ => False) ((Kept.refl _ _).drew) (fun h => h) (fun h => h) (fun h => h) (fun _ _ h => h)
theorem ModAt.below {w w' : World} {lo mb dm om : Nat} {P : Pool} (h : ModAt w lo mb dm om P) (k : Below w.heap.size w w') : ModAt w' lo mb dm om P :=
  h.kept (S := fun _ => False) (Kept.of_below k) (fun h => h) (fun h => h) (fun h => h) (fun _ _ h => h)
/-- Nothing but the parts of the pool matters. -/
theorem ModAt.congr {w : World} {lo mb dm om : Nat} {P P' : Pool} (h : ModAt w lo mb dm om P) (e : P = P') : ModAt w lo mb dm om P' := e ▸ h

theorem ModAt.free {w : World} {lo mb dm om : Nat} {P : Pool} (h : ModAt w lo mb dm om P) (k : Nat) :
    ModAt (w.setCell ⟨om, k, none⟩ (.int .u64 0)) lo mb dm om ⟨P.n, updI P.O k 0, P.D⟩ := by
  obtain ⟨V, G, hv, hg, hi⟩ := h.hd
  refine ⟨h.hm.set_other (a := ⟨om, k, none⟩) (fun e => h.n2 e.symm) _, ?_, h.n1, h.n2, h.n3, h.l1, h.l2, h.l3, V, G, hv.set_other (a := ⟨om, k, none⟩) (fun e => h.n3 e.symm) _, ?_, ?_⟩
  · refine Blk.cells (h.ho.set k _) ?_
    rw [row_set]; refine row_congr fun i _ => ?_
    by_cases e : i = k
    · subst e; simp [updI]
    · simp [updI, e]
  · intro i hi' hO
    have hne : i ≠ k := by rintro rfl; exact hO (updI_same _ _ _)
    have hO' : P.O i ≠ 0 := by rwa [show (⟨P.n, updI P.O k 0, P.D⟩ : Pool).O i = P.O i from updI_other _ _ _ _ hne] at hO
    obtain ⟨e1, e2, e3⟩ := hg i hi' hO'
    exact ⟨e1, e2.set_other (a := ⟨om, k, none⟩) (by have := h.l3; show om ≠ _; omega) _, e3⟩
  · intro i j hi' hj hO hO' e
    have f : ∀ i, (⟨P.n, updI P.O k 0, P.D⟩ : Pool).O i ≠ 0 → P.O i ≠ 0 := fun i hO => by
      have hne : i ≠ k := by rintro rfl; exact hO (updI_same _ _ _)
      rwa [show (⟨P.n, updI P.O k 0, P.D⟩ : Pool).O i = P.O i from updI_other _ _ _ _ hne] at hO
    exact hi i j hi' hj (f i hO) (f j hO') e

/-- A new block with zeros, the owner and the place told. -/
theorem ModAt.charge {w : World} {lo mb dm om : Nat} {P : Pool} (h : ModAt w lo mb dm om P) (hlo : lo ≤ w.heap.size) (k : Nat) (o : Int) (z : Array Value) (hz : z = row 64 fun _ => .int .u8 0) :
    ModAt (((w.alloc (.cells z 5)).setCell ⟨om, k, none⟩ (.int .u64 o)).setCell ⟨dm, k, none⟩ (.slice (some ⟨w.heap.size, 0, none⟩) 64 64)) lo mb dm om
      ⟨P.n, updI P.O k o, fun j => if k * 64 ≤ j ∧ j < k * 64 + 64 then 0 else P.D j⟩ := by
  subst hz
  obtain ⟨V, G, hv, hg, hi⟩ := h.hd
  have a1 := h.l1; have a2 := h.l2; have a3 := h.l3
  refine ⟨((h.hm.alloc _).set_other (a := ⟨om, k, none⟩) (fun e => h.n2 e.symm) _).set_other (a := ⟨dm, k, none⟩) (fun e => h.n1 e.symm) _, ?_, h.n1, h.n2, h.n3, h.l1, h.l2, h.l3,
    (fun j => if j = k then .slice (some ⟨w.heap.size, 0, none⟩) 64 64 else V j), (fun j => if j = k then w.heap.size else G j), ?_, ?_, ?_⟩
  · refine Blk.cells (((h.ho.alloc _).set k _).set_other (a := ⟨dm, k, none⟩) h.n3 _) ?_
    rw [row_set]; refine row_congr fun i _ => ?_
    by_cases e : i = k
    · subst e; simp [updI]
    · simp [updI, e]
  · refine Blk.cells (((hv.alloc _).set_other (a := ⟨om, k, none⟩) (fun e => h.n3 e.symm) _).set k _) ?_
    rw [row_set]
  · intro i hi' hO
    by_cases e : i = k
    · subst e
      refine ⟨by simp, ?_, by simpa using hlo⟩
      show Blk _ (if i = i then _ else _) _ _
      rw [if_pos rfl]
      refine Blk.cells (((Blk.new w (row 64 fun _ => .int .u8 0) 5).set_other (a := ⟨om, i, none⟩) (by show om ≠ _; omega) _).set_other (a := ⟨dm, i, none⟩) (by show dm ≠ _; omega) _) ?_
      refine row_congr fun j hj => ?_
      show _ = Value.int .u8 (if _ then _ else _)
      rw [if_pos (by omega)]
    · have hO' : P.O i ≠ 0 := by rwa [show (⟨P.n, updI P.O k o, fun j => if k * 64 ≤ j ∧ j < k * 64 + 64 then 0 else P.D j⟩ : Pool).O i = P.O i from updI_other _ _ _ _ e] at hO
      obtain ⟨e1, e2, e3⟩ := hg i hi' hO'
      show (if i = k then _ else _) = Value.slice (some ⟨if i = k then _ else _, 0, none⟩) 64 64 ∧ Blk _ (if i = k then _ else _) _ _ ∧ lo ≤ (if i = k then _ else _)
      simp only [if_neg e]
      refine ⟨e1, Blk.cells (((e2.alloc _).set_other (a := ⟨om, k, none⟩) (by show om ≠ _; omega) _).set_other (a := ⟨dm, k, none⟩) (by show dm ≠ _; omega) _) ?_, e3⟩
      refine row_congr fun j hj => ?_
      show _ = Value.int .u8 (if _ then _ else _)
      rw [if_neg (by omega)]
  · intro i j hi' hj hO hO' e
    have f : ∀ i, i ≠ k → (⟨P.n, updI P.O k o, fun j => if k * 64 ≤ j ∧ j < k * 64 + 64 then 0 else P.D j⟩ : Pool).O i ≠ 0 → P.O i ≠ 0 := fun i hne hO => by
      rwa [show (⟨P.n, updI P.O k o, fun j => if k * 64 ≤ j ∧ j < k * 64 + 64 then 0 else P.D j⟩ : Pool).O i = P.O i from updI_other _ _ _ _ hne] at hO
    by_cases e1 : i = k
    · by_cases e2 : j = k
      · omega
      · have := (hg j hj (f j e2 hO')).2.1.lt
        simp only [if_pos e1, if_neg e2] at e; omega
    · by_cases e2 : j = k
      · have := (hg i hi' (f i e1 hO)).2.1.lt
        simp only [if_pos e2, if_neg e1] at e; omega
      · simp only [if_neg e1, if_neg e2] at e
        exact hi i j hi' hj (f i e1 hO) (f j e2 hO') e

/-- The bytes of frame k written in its own block g. -/
theorem ModAt.write {w w' : World} {lo mb dm om : Nat} {P : Pool} (h : ModAt w lo mb dm om P) (k q m : Nat) (hk : k < P.n) (hO : P.O k ≠ 0) (hq : q + m ≤ 64) (B : Nat → Int) (g : Nat)
    (hg : w.cell? ⟨dm, k, none⟩ = some (.slice (some ⟨g, 0, none⟩) 64 64)) (hK : Kept (fun b => b = g) w w')
    (hw : Blk w' g (row 64 fun j => .int .u8 (if q ≤ j ∧ j < q + m then B (j - q) else P.D (k * 64 + j))) 5) :
    ModAt w' lo mb dm om ⟨P.n, P.O, fun j => if k * 64 + q ≤ j ∧ j < k * 64 + q + m then B (j - (k * 64 + q)) else P.D j⟩ := by
  obtain ⟨V, G, hv, hG, hi⟩ := h.hd
  have a1 := h.l1; have a2 := h.l2; have a3 := h.l3
  obtain ⟨e1, e2, e3⟩ := hG k hk hO
  rw [hv.rowAt k hk, e1] at hg
  obtain rfl : G k = g := by injection hg with hg; injection hg with hg; injection hg with hg; injection hg
  refine ⟨hK.blk h.hm (by omega), hK.blk h.ho (by omega), h.n1, h.n2, h.n3, h.l1, h.l2, h.l3, V, G, hK.blk hv (by omega), ?_, hi⟩
  intro i hi' hO'
  by_cases e : i = k
  · subst e
    refine ⟨e1, Blk.cells hw (row_congr fun j hj => ?_), e3⟩
    show Value.int .u8 (if _ then _ else _) = Value.int .u8 (if _ then _ else _)
    by_cases c : q ≤ j ∧ j < q + m
    · rw [if_pos c, if_pos (by omega), show i * 64 + j - (i * 64 + q) = j - q by omega]
    · rw [if_neg c, if_neg (by omega)]
  · obtain ⟨f1, f2, f3⟩ := hG i hi' hO'
    refine ⟨f1, Blk.cells (hK.blk f2 (fun q => e (hi i k hi' hk hO' hO q))) (row_congr fun j hj => ?_), f3⟩
    show _ = Value.int .u8 (if _ then _ else _)
    rw [if_neg (by omega)]
end Go.Proofs.Ytndnjimiabpkpaa
