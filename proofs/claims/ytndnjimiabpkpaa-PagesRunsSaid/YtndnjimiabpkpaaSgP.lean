/- What resizing a segment does to a pool, plainly; a frame's number appended to a segment's list. -/
import Derived.Test.YtndnjimiabpkpaaSgD
import Derived.ArgAppend
namespace Go.Proofs.Ytndnjimiabpkpaa
open Go.RowKit

/-- From P to P' frames have been charged to o, or freed of it; nothing else. -/
structure SegMv (P P' : Pool) (o : Int) : Prop where
  n : P'.n = P.n
  O : ∀ i, i < P.n → P.O i ≠ 0 → P.O i ≠ o → P'.O i = P.O i
  cnt : ∀ o', o' ≠ 0 → o' ≠ o → countTo P'.O o' P.n = countTo P.O o' P.n
  D : ∀ i, i / 64 < P.n → P.O (i / 64) ≠ 0 → P.O (i / 64) ≠ o → P'.D i = P.D i
theorem SegMv.refl (P : Pool) (o : Int) : SegMv P P o := ⟨rfl, fun _ _ _ _ => rfl, fun _ _ _ => rfl, fun _ _ _ _ => rfl⟩
theorem SegMv.trans {P P' P'' : Pool} {o : Int} (h : SegMv P P' o) (k : SegMv P' P'' o) : SegMv P P'' o := by
  refine ⟨k.n.trans h.n, fun i hi h0 h1 => ?_, fun o' h0 h1 => ?_, fun i hi h0 h1 => ?_⟩
  · have e := h.O i hi h0 h1
    rw [k.O i (by rw [h.n]; exact hi) (by rw [e]; exact h0) (by rw [e]; exact h1), e]
  · have := k.cnt o' h0 h1
    rw [h.n] at this; rw [this, h.cnt o' h0 h1]
  · have e := h.O _ hi h0 h1
    rw [k.D i (by rw [h.n]; exact hi) (by rw [e]; exact h0) (by rw [e]; exact h1), h.D i hi h0 h1]
theorem SegMv.segIn {P P' : Pool} {o o' : Int} {M : List Int} (h : SegMv P P' o) (hM : SegIn P o' M) (hne : o' ≠ o) : SegIn P' o' M := by
  refine ⟨hM.nd, fun f hf => ?_, hM.o0, by rw [h.n, h.cnt o' hM.o0 hne]; exact hM.cnt⟩
  obtain ⟨t1, t2⟩ := hM.there hf
  have ha := hM.at hf
  unfold Pool.owner
  rw [if_pos ((P'.there_iff f).2 ⟨t1, by rw [h.n]; exact t2⟩), h.O _ (by omega) (by rw [ha]; exact hM.o0) (by rw [ha]; exact hne), ha]
theorem SegMv.segD {P P' : Pool} {o o' : Int} {M : List Int} (h : SegMv P P' o) (hM : SegIn P o' M) (hne : o' ≠ o) (j : Nat) (hj : j < M.length * 64) : segD P' M j = segD P M j := by
  have hm := getD_mem (show j / 64 < M.length by omega)
  obtain ⟨t1, t2⟩ := hM.there hm
  have ha := hM.at hm
  have e : (((M.getD (j / 64) 0).toNat - 1) * 64 + j % 64) / 64 = (M.getD (j / 64) 0).toNat - 1 := by omega
  unfold Go.Proofs.Ytndnjimiabpkpaa.segD
  refine h.D _ (by rw [e]; omega) (by rw [e, ha]; exact hM.o0) (by rw [e, ha]; exact hne)

/-- The last frame freed. -/
theorem SegIn.pop {P : Pool} {o : Int} {L : List Int} {f : Int} (h : SegIn P o (L ++ [f])) :
    SegIn (P.free f) o L ∧ SegMv P (P.free f) o ∧ (P.free f).left = P.left + 1 ∧ ∀ j, j < L.length * 64 → segD (P.free f) L j = segD P (L ++ [f]) j := by
  have hf : f ∈ L ++ [f] := by simp
  have ha := h.at hf
  obtain ⟨t1, t2⟩ := h.there hf
  have hfr : P.free f = ⟨P.n, updI P.O (f.toNat - 1) 0, P.D⟩ := by
    unfold Pool.free; rw [if_pos (by rw [h.own f hf]; exact h.o0)]
  have hnf : ∀ g ∈ L, g ≠ f := by
    intro g hg e
    have := List.nodup_append.1 h.nd
    exact this.2.2 g hg f (by simp) e
  rw [hfr]
  have hc := countTo_upd P.O o 0 (f.toNat - 1) P.n (by omega)
  rw [ha, if_pos rfl, if_neg (fun e => h.o0 e.symm)] at hc
  have hfre := freeTo_upd P.O 0 (f.toNat - 1) P.n (by omega)
  rw [ha, if_neg h.o0, if_pos rfl] at hfre
  have hcn := h.cnt
  simp only [List.length_append, List.length_cons, List.length_nil] at hcn
  refine ⟨⟨(List.nodup_append.1 h.nd).1, fun g hg => ?_, h.o0, by simp only at *; omega⟩, ⟨rfl, fun i hi h0 h1 => ?_, fun o' h0 h1 => ?_, fun _ _ _ _ => rfl⟩, by unfold Pool.left; simp only; omega, fun j hj => ?_⟩
  · have hg' : g ∈ L ++ [f] := by simp [hg]
    obtain ⟨s1, s2⟩ := h.there hg'
    have := hnf g hg
    unfold Pool.owner
    rw [if_pos (by rw [Pool.there_iff]; exact ⟨s1, s2⟩)]
    show updI P.O _ 0 _ = o
    rw [updI_other _ _ _ _ (by omega)]; exact h.at hg'
  · show updI P.O _ 0 i = _
    rw [updI_other _ _ _ _ (by rintro rfl; exact h1 ha)]
  · have hc := countTo_upd P.O o' 0 (f.toNat - 1) P.n (by omega)
    rw [ha, if_neg (fun e => h1 e.symm), if_neg (fun e => h0 e.symm)] at hc
    exact hc
  · show P.D _ = P.D _
    have e : (L ++ [f]).getD (j / 64) 0 = L.getD (j / 64) 0 := by
      have : j / 64 < L.length := by omega
      simp [List.getD, List.getElem?_append_left this]
    rw [e]

/-- The least free frame charged. -/
theorem SegIn.push {P : Pool} {o : Int} {L : List Int} (h : SegIn P o L) (hl : 1 ≤ P.left) :
    SegIn (P.alloc o) o (L ++ [P.allocRet o]) ∧ SegMv P (P.alloc o) o ∧ (P.alloc o).left + 1 = P.left ∧
    (∀ j, j < L.length * 64 → segD (P.alloc o) (L ++ [P.allocRet o]) j = segD P L j) ∧ ∀ j, L.length * 64 ≤ j → j < L.length * 64 + 64 → segD (P.alloc o) (L ++ [P.allocRet o]) j = 0 := by
  have hff : firstFree P.O P.n < P.n := by
    have h1 := firstFree_le P.O P.n
    rcases Nat.lt_or_ge (firstFree P.O P.n) P.n with h2 | h2
    · exact h2
    · have := (freeTo_pos P.O P.n).2 (by omega)
      unfold Pool.left at hl; omega
  have hz0 := firstFree_free P.O P.n hff
  obtain ⟨z, hz⟩ : ∃ z, firstFree P.O P.n = z := ⟨_, rfl⟩
  have hc : o ≠ 0 ∧ firstFree P.O P.n < P.n := ⟨h.o0, hff⟩
  have hr : P.allocRet o = (z : Int) + 1 := by unfold Pool.allocRet; rw [if_pos hc, hz]
  have ha : P.alloc o = ⟨P.n, updI P.O z o, fun j => if z * 64 ≤ j ∧ j < z * 64 + 64 then 0 else P.D j⟩ := by unfold Pool.alloc; rw [if_pos hc, hz]
  rw [hz] at hff hz0
  rw [hr, ha]
  have hno : ∀ g ∈ L, g.toNat - 1 ≠ z := fun g hg e => by
    have := h.at hg
    rw [e, hz0] at this; exact h.o0 this.symm
  have hcu := countTo_upd P.O o o z P.n hff
  rw [hz0, if_neg (fun e => h.o0 e.symm), if_pos rfl] at hcu
  have hfu := freeTo_upd P.O o z P.n hff
  rw [hz0, if_pos rfl, if_neg h.o0] at hfu
  have hcn := h.cnt
  refine ⟨⟨?_, fun g hg => ?_, h.o0, by simp only [List.length_append, List.length_cons, List.length_nil]; omega⟩, ⟨rfl, fun i hi h0 h1 => ?_, fun o' h0 h1 => ?_, fun i hi h0 h1 => ?_⟩, by unfold Pool.left; simp only; omega, fun j hj => ?_, fun j hj1 hj2 => ?_⟩
  · rw [List.nodup_append]
    refine ⟨h.nd, by simp, fun a hal b hb e => ?_⟩
    have hb : b = (z : Int) + 1 := by simpa using hb
    subst e; subst hb
    exact hno _ hal (by omega)
  · unfold Pool.owner
    rcases List.mem_append.1 hg with hg | hg
    · obtain ⟨s1, s2⟩ := h.there hg
      rw [if_pos (by rw [Pool.there_iff]; exact ⟨s1, s2⟩)]
      show updI P.O z o _ = o
      rw [updI_other _ _ _ _ (hno g hg)]; exact h.at hg
    · have hb : g = (z : Int) + 1 := by simpa using hg
      subst hb
      rw [if_pos (by rw [Pool.there_iff]; exact ⟨by omega, by show (z : Int) + 1 ≤ P.n; omega⟩)]
      show updI P.O z o _ = o
      rw [show ((z : Int) + 1).toNat - 1 = z by omega, updI_same]
  · show updI P.O z o i = _
    rw [updI_other _ _ _ _ (by rintro rfl; exact h0 hz0)]
  · have hc := countTo_upd P.O o' o z P.n hff
    rw [hz0, if_neg (fun e => h0 e.symm), if_neg (fun e => h1 e.symm)] at hc
    exact hc
  · show (if _ then _ else _) = _
    rw [if_neg]
    intro e
    have : i / 64 = z := by omega
    rw [this] at h0; exact h0 hz0
  · have e : (L ++ [(z : Int) + 1]).getD (j / 64) 0 = L.getD (j / 64) 0 := by
      have : j / 64 < L.length := by omega
      simp [List.getD, List.getElem?_append_left this]
    have hm := getD_mem (show j / 64 < L.length by omega)
    have := hno _ hm
    unfold segD
    rw [e]
    show (if _ then _ else _) = _
    rw [if_neg (by omega)]
  · have e : (L ++ [(z : Int) + 1]).getD (j / 64) 0 = (z : Int) + 1 := by
      have : j / 64 = L.length := by omega
      simp [List.getD, this]
    unfold segD
    rw [e]
    show (if _ then _ else _) = _
    rw [if_pos (by omega)]
end Go.Proofs.Ytndnjimiabpkpaa
