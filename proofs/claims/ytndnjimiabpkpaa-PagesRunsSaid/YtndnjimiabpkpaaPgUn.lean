/- undo, and Fill where there is too little room: nothing leads anywhere new. -/
import Derived.Test.YtndnjimiabpkpaaPgE
namespace Go.Proofs.Ytndnjimiabpkpaa
open Go.RowKit
attribute [local irreducible] World.setCell World.alloc World.drew World.setRow Calls Code.wp row

/-- Frames freed, one by one. -/
def freeAll (P : Pool) : List Int → Pool
  | [] => P
  | t :: ts => freeAll (P.free t) ts
theorem freeAll_append (P : Pool) (a b : List Int) : freeAll P (a ++ b) = freeAll (freeAll P a) b := by
  induction a generalizing P with
  | nil => rfl
  | cons t a ih => exact ih _
/-- One frame of o's freed. -/
theorem free_one (P : Pool) (t o : Int) (ho : o ≠ 0) (hw : P.owner t = o) :
    P.free t = ⟨P.n, updI P.O (t.toNat - 1) 0, P.D⟩ ∧ SegMv P (P.free t) o ∧ (P.free t).left = P.left + 1 ∧ countTo (P.free t).O o P.n + 1 = countTo P.O o P.n ∧ ∀ f, f ≠ t → 1 ≤ f → (P.free t).owner f = P.owner f := by
  have hth := P.owner_there _ (by rw [hw]; exact ho)
  obtain ⟨t1, t2⟩ := (P.there_iff t).1 hth
  have ha : P.O (t.toNat - 1) = o := by unfold Pool.owner at hw; rw [if_pos hth] at hw; exact hw
  have hfr : P.free t = ⟨P.n, updI P.O (t.toNat - 1) 0, P.D⟩ := by unfold Pool.free; rw [if_pos (by rw [hw]; exact ho)]
  have hcu := countTo_upd P.O o 0 (t.toNat - 1) P.n (by omega)
  rw [ha, if_pos rfl, if_neg (fun e => ho e.symm)] at hcu
  have hfu := freeTo_upd P.O 0 (t.toNat - 1) P.n (by omega)
  rw [ha, if_neg ho, if_pos rfl] at hfu
  refine ⟨hfr, ?_, by rw [hfr]; unfold Pool.left; simp only; omega, by rw [hfr]; simp only; omega, fun f hf hf1 => ?_⟩
  · rw [hfr]
    refine ⟨rfl, fun j hj h0 h1 => ?_, fun o' h0 h1 => ?_, fun _ _ _ _ => rfl⟩
    · show updI P.O _ 0 j = _
      rw [updI_other _ _ _ _ (by rintro rfl; exact h1 ha)]
    · have hc := countTo_upd P.O o' 0 (t.toNat - 1) P.n (by omega)
      rw [ha, if_neg (fun e => h1 e.symm), if_neg (fun e => h0 e.symm)] at hc
      exact hc
  · rw [hfr]
    unfold Pool.owner
    by_cases hb : f ≤ P.n
    · rw [if_pos (by rw [Pool.there_iff]; exact ⟨hf1, hb⟩), if_pos ((P.there_iff f).2 ⟨hf1, hb⟩)]
      show updI P.O _ 0 _ = _
      rw [updI_other _ _ _ _ (by omega)]
    · rw [if_neg (fun h => hb ((Pool.there_iff (⟨P.n, updI P.O (t.toNat - 1) 0, P.D⟩ : Pool) f).1 h).2), if_neg (fun h => hb ((P.there_iff f).1 h).2)]
/-- All of these freed. -/
theorem freeAll_spec (o : Int) (ho : o ≠ 0) : ∀ (ts : List Int) (P : Pool), ts.Nodup → (∀ t ∈ ts, P.owner t = o) →
    (freeAll P ts).n = P.n ∧ (freeAll P ts).D = P.D ∧ SegMv P (freeAll P ts) o ∧ (freeAll P ts).left = P.left + ts.length ∧ countTo (freeAll P ts).O o P.n + ts.length = countTo P.O o P.n ∧ ∀ f, f ∉ ts → 1 ≤ f → (freeAll P ts).owner f = P.owner f
  | [], P, _, _ => ⟨rfl, rfl, SegMv.refl _ _, rfl, rfl, fun _ _ _ => rfl⟩
  | t :: ts, P, hn, hw => by
    rw [List.nodup_cons] at hn
    obtain ⟨h1, h2, h3, h4, h5⟩ := free_one P t o ho (hw t (by simp))
    have hb : ∀ s ∈ ts, 1 ≤ s := fun s hs => ((P.there_iff s).1 (P.owner_there _ (by rw [hw s (by simp [hs])]; exact ho))).1
    obtain ⟨g1, g2, g3, g4, g5, g6⟩ := freeAll_spec o ho ts (P.free t) hn.2 (fun s hs => by
      rw [h5 s (fun e => hn.1 (e ▸ hs)) (hb s hs)]; exact hw s (by simp [hs]))
    have hnn : (P.free t).n = P.n := by rw [h1]
    have hDD : (P.free t).D = P.D := by rw [h1]
    show (freeAll (P.free t) ts).n = _ ∧ _
    refine ⟨g1.trans hnn, g2.trans hDD, h2.trans g3, by rw [show freeAll P (t :: ts) = freeAll (P.free t) ts from rfl, g4, h3, List.length_cons]; omega, ?_, fun f hf hf1 => ?_⟩
    · rw [hnn] at g5
      rw [show freeAll P (t :: ts) = freeAll (P.free t) ts from rfl, List.length_cons]; omega
    · rw [show freeAll P (t :: ts) = freeAll (P.free t) ts from rfl, g6 f (fun h => hf (by simp [h])) hf1]
      exact h5 f (fun e => hf (by simp [e])) hf1

section
variable {w wx : World} {pb db ob : Nat} {P P' : Pool} {r o : Int} {N N' F : Nat → Int} {Y : Nat → Bool} {p l a : Nat}
/-- The frames that were made on the way down. -/
def madeL (N' : Nat → Int) (p a l : Nat) : List Int := (List.range (l - a)).map fun j => N' (nd p (a + 1 + j))
theorem madeL_len (N' : Nat → Int) (p a l : Nat) : (madeL N' p a l).length = l - a := by simp [madeL]
/-- The undone way. -/
def undone (P' : Pool) (N N' : Nat → Int) (p a l : Nat) : Pool := freeAll (if a < l then P'.setE (N (nd p a)) (p / 8 ^ (3 - a) % 8) 0 else P') (madeL N' p a l)
theorem Down.undo (h : Down w wx pb db ob P r o N F Y p l a P' N') (hT : Tab P r o N F Y) (hp : p < 4096) (hl : l ≤ 3) :
    Tab (undone P' N N' p a l) r o N F Y ∧ SegMv P (undone P' N N' p a l) o ∧ (undone P' N N' p a l).left = P.left ∧ countTo (undone P' N N' p a l).O o P.n = countTo P.O o P.n := by
  have hal := h.al
  obtain ⟨P1, hP1⟩ : ∃ P1, (if a < l then P'.setE (N (nd p a)) (p / 8 ^ (3 - a) % 8) 0 else P') = P1 := ⟨_, rfl⟩
  have hnj : ∀ j, j < l - a → N' (nd p (a + 1 + j)) ≠ 0 := fun j hj => (h.new _).2 (.inr ⟨a + 1 + j, by omega, by omega, rfl⟩)
  have hN0 : ∀ j, a < j → j ≤ 3 → a < l → N (nd p j) = 0 := fun j h1 h2 h3 => hT.gap hp (a + 1) j (by omega) h2 (h.gap h3)
  have hna : N (nd p a) ≠ 0 := h.was a (Nat.le_refl _)
  have hna' : N' (nd p a) = N (nd p a) := h.old _ hna
  have hlt : ∀ j, nd p j < 585 := fun j => nd_lt p j hp
  have hown' : P'.owner (N (nd p a)) = o := by rw [← hna']; exact h.tab.own _ (hlt a) (by rw [hna']; exact hna)
  have hb' : 1 ≤ N (nd p a) := by rw [← hna']; exact (h.tab.bd _ (hlt a) (by rw [hna']; exact hna)).1
  have hi8 : p / 8 ^ (3 - a) % 8 < 8 := Nat.mod_lt _ (by omega)
  have hown1 : ∀ f, P1.owner f = P'.owner f := fun f => by rw [← hP1]; split <;> first | exact setE_owner _ _ _ _ _ | rfl
  have hn1 : P1.n = P'.n := by rw [← hP1]; split <;> first | exact setE_n _ _ _ _ | rfl
  have hO1 : P1.O = P'.O := by rw [← hP1]; split <;> first | exact setE_O _ _ _ _ | rfl
  have hmv1 : SegMv P' P1 o := by
    rw [← hP1]; split
    · exact setE_mv _ _ o _ _ hi8 hown' hT.o0
    · exact SegMv.refl _ _
  have hnd : (madeL N' p a l).Nodup := by
    unfold madeL
    refine List.Pairwise.map (R := fun x y : Nat => x < l - a ∧ y < l - a ∧ x ≠ y) _ (fun x y ⟨hx, hy, hxy⟩ e => ?_) ?_
    · have := h.tab.inj _ _ (hlt _) (hlt _) (hnj x hx) (hnj y hy) e
      have := nd_inj p _ _ hp (by omega) (by omega) this
      omega
    · exact List.Pairwise.imp_of_mem (fun {x y} hx hy hxy => ⟨by simpa using hx, by simpa using hy, hxy⟩) (List.nodup_range (n := l - a))
  have hmo : ∀ t ∈ madeL N' p a l, P1.owner t = o := fun t ht => by
    obtain ⟨j, hj, rfl⟩ := List.mem_map.1 ht
    rw [hown1]; exact h.tab.own _ (hlt _) (hnj j (by simpa using hj))
  obtain ⟨g1, g2, g3, g4, g5, g6⟩ := freeAll_spec o hT.o0 (madeL N' p a l) P1 hnd hmo
  have hE : undone P' N N' p a l = freeAll P1 (madeL N' p a l) := by unfold undone; rw [hP1]
  rw [hE]
  have hpn : P'.n = P.n := h.mv.n
  rw [hn1, hpn] at g5
  have hleft := h.left; have hcnt := h.cnt
  have hl1 : P1.left = P'.left := by unfold Pool.left; rw [hn1, hO1]
  rw [madeL_len] at g4 g5
  refine ⟨⟨hT.root, hT.r0, hT.o0, fun n hn h0 i hi => ?_, hT.inj, fun n hn h0 => ?_, hT.up, hT.leafUp, hT.lf⟩, h.mv.trans (hmv1.trans g3), by omega, by rw [hO1] at g5; omega⟩
  · -- the entries of what was there
    have hnn := h.old n h0
    have h0' : N' n ≠ 0 := by rw [hnn]; exact h0
    have hbn : 1 ≤ N n := by rw [← hnn]; exact (h.tab.bd n hn h0').1
    have e1 : Go.Proofs.Ytndnjimiabpkpaa.ent (freeAll P1 (madeL N' p a l)) (N n) i = Go.Proofs.Ytndnjimiabpkpaa.ent P1 (N n) i := by unfold Go.Proofs.Ytndnjimiabpkpaa.ent; rw [g2]
    rw [e1]
    have e2 := h.tab.ent n hn h0' i hi
    rw [hnn] at e2
    by_cases c : a < l ∧ n = nd p a ∧ i = p / 8 ^ (3 - a) % 8
    · obtain ⟨c1, rfl, rfl⟩ := c
      rw [← hP1, if_pos c1, ent_setE _ _ _ _ _ _ hi8 hi8 (by rw [hown']; exact hT.o0) hb' hb' (by omega) (by omega), if_pos ⟨rfl, rfl⟩, nd_step p a hp (by omega), if_pos (hlt _), hN0 (a + 1) (by omega) (by omega) c1, if_pos rfl]
    · have e3 : Go.Proofs.Ytndnjimiabpkpaa.ent P1 (N n) i = Go.Proofs.Ytndnjimiabpkpaa.ent P' (N n) i := by
        rw [← hP1]
        split
        · rename_i c1
          rw [ent_setE _ _ _ _ _ _ hi8 hi (by rw [hown']; exact hT.o0) hb' hbn (by omega) (by omega), if_neg]
          rintro ⟨e4, e5⟩
          refine c ⟨c1, ?_, e5⟩
          rw [← hnn, ← hna'] at e4
          exact h.tab.inj n _ hn (hlt a) h0' (by rw [hna']; exact hna) e4
        · rfl
      rw [e3, e2]
      by_cases hb : 8 * n + 1 + i < 585
      · rw [if_pos hb, if_pos hb]
        have : N' (8 * n + 1 + i) = N (8 * n + 1 + i) := by
          by_cases q : N (8 * n + 1 + i) = 0
          · by_cases q' : N' (8 * n + 1 + i) = 0
            · rw [q, q']
            · exfalso
              rcases (h.new _).1 q' with q2 | ⟨j, j1, j2, j3⟩
              · exact q2 q
              · have hup := nd_up p (j - 1) hp (by omega)
                rw [show j - 1 + 1 = j by omega, ← j3] at hup
                have hnj1 : n = nd p (j - 1) := by omega
                by_cases hj : j = a + 1
                · subst hj
                  refine c ⟨by omega, by rw [hnj1]; rfl, ?_⟩
                  have hs := nd_step p a hp (by omega)
                  rw [show nd p a = n by rw [hnj1]; rfl] at hs
                  omega
                · exact h0 (by rw [hnj1]; exact hN0 (j - 1) (by omega) (by omega) (by omega))
          · exact h.old _ q
        rw [this]
      · rw [if_neg hb, if_neg hb]
  · have hnn := h.old n h0
    have h0' : N' n ≠ 0 := by rw [hnn]; exact h0
    have hbn := (h.tab.bd n hn h0').1
    rw [hnn] at hbn
    rw [g6 (N n) ?_ hbn, hown1, ← hnn]
    · exact h.tab.own n hn h0'
    · intro hm
      obtain ⟨j, hj, e⟩ := List.mem_map.1 hm
      have hj' : j < l - a := by simpa using hj
      rw [← hnn] at e
      have := h.tab.inj _ n (hlt _) hn (hnj j hj') h0' e
      exact h0 (by rw [← this]; exact hN0 _ (by omega) (by omega) (by omega))
end

set_option maxHeartbeats 1000000 in
theorem undo_any (pb db ob : Nat) (P : Pool) (ts : List Int) (A : Option Addr) (C g : Nat) (t : Int) (i : Nat) (w : World) (hP : PoolAt w pb db ob P) (hi : i < 8) (hl : ts.length ≤ 3) (hA : 0 < ts.length → A = some ⟨g, 0, none⟩)
    (hc : ∀ j, j < ts.length → w.cell? ⟨g, j, none⟩ = some (.int .i64 (ts.getD j 0))) (hg : ¬ PS pb db ob g) :
    Calls Try.prog 56 #[.pointer (some ⟨pb, 0, none⟩), .slice A ts.length C, .int .i64 t, .int .i64 i] w fun e w' => e = .returned (.tuple #[]) ∧ PoolAt w' pb db ob (freeAll (if 0 < ts.length then P.setE t i 0 else P) ts) ∧ Kept (PS pb db ob) w w' := by
  have HP := Lib.hid hP; have HA := Lib.hid hA; have Hc := Lib.hid hc
  clear hP hA hc
  by_cases h0 : 0 < ts.length
  · obtain rfl := HA.out h0
    have h0' : (0 : Int) < (ts.length : Int) := by omega
    rw [if_pos h0]
    obtain ⟨n, hn⟩ : ∃ n, ts.length = n := ⟨_, rfl⟩
    have Hn := Lib.hid hn
    rw [hn] at h0 h0' hl Hc ⊢
    clear hn
    go_enter Try.func56, Try.ntmps56
    go_wp2_with fail
    refine (set_any pb db ob P t i 0 _ HP.out hi (by omega) (by omega)).mono ?_
    rintro e w2 ⟨rfl, hP2, hK2⟩
    have HP2 := Lib.hid hP2; have HK2 := Lib.hid hK2
    clear hP2 hK2
    go_wp2_with fail
    go_loopg [19] n (fun gh k wx => ∃ j : Nat, j + gh = n ∧ k = .int .i64 j ∧ PoolAt wx pb db ob (freeAll (P.setE t i 0) (ts.take j)) ∧ Kept (PS pb db ob) w wx)
    case atStart => exact ⟨0, by omega, rfl, HP2.out, HK2.out⟩
    case round =>
      obtain ⟨j, hj, rfl, hPj, hKj⟩ := hrel
      have HPj := Lib.hid hPj; have HKj := Lib.hid hKj
      clear hPj hKj
      by_cases hlt : j < n
      · have hjn : (j : Int) < (n : Int) := by omega
        have hcl : wr.cell? ⟨g, j, none⟩ = some (.int .i64 (ts.getD j 0)) := by
          rw [World.cell?_of_block (HKj.out.block g (cell_lt (Hc.out j hlt)) hg)]; exact Hc.out j hlt
        have hts : freeAll (P.setE t i 0) (ts.take (j + 1)) = (freeAll (P.setE t i 0) (ts.take j)).free (ts.getD j 0) := by
          have : ts.take (j + 1) = ts.take j ++ [ts.getD j 0] := by
            rw [List.take_succ_eq_append_getElem (by have := Hn.out; omega)]
            simp [List.getD, show j < ts.length by have := Hn.out; omega]
          rw [this, freeAll_append]; rfl
        have Hts := Lib.hid hts
        obtain ⟨f, hf⟩ : ∃ f, ts.getD j 0 = f := ⟨_, rfl⟩
        rw [hf] at hcl Hts
        clear hts hf
        go_wp2_with fail
        refine (free_any pb db ob _ f _ HPj.out).mono ?_
        rintro e w3 ⟨rfl, hP3, hK3⟩
        have HP3 := Lib.hid hP3; have HK3 := Lib.hid (HKj.out.trans hK3)
        clear hP3 hK3
        go_wp2_with fail
        go_roundg (n - (j + 1))
        case measure => omega
        case rel => exact ⟨j + 1, by omega, by go_num, by rw [Hts.out]; exact HP3.out, HK3.out⟩
      · obtain rfl : j = n := by omega
        go_wp2_with fail
        go_end0
        refine ⟨rfl, ?_, HKj.out⟩
        have := HPj.out
        rw [List.take_of_length_le (by have := Hn.out; omega)] at this
        exact this
  · have h0' : ts.length = 0 := by omega
    obtain rfl : ts = [] := List.eq_nil_of_length_eq_zero h0'
    go_enter Try.func56, Try.ntmps56
    go_wp2_with fail
    refine wp_loop_rounds 1 ?_; rw [rounds_succ]
    go_wp2_with fail
    go_end0
    exact ⟨rfl, HP.out, Kept.refl _ _⟩
end Go.Proofs.Ytndnjimiabpkpaa
