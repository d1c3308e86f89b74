/- Tables of pages: a new root; what another owner does; the law's own example (fit); the walk of PagesShare. -/
import Derived.Test.YtndnjimiabpkpaaPgF
import Derived.Test.YtndnjimiabpkpaaFrFit
namespace Go.Proofs.Ytndnjimiabpkpaa
open Go.RowKit

def rootN (r : Int) : Nat → Int := fun n => if n = 0 then r else 0
def noF : Nat → Int := fun _ => 0
def noY : Nat → Bool := fun _ => false
/-- A frame charged anew is the root of a table that leads nowhere. -/
theorem Tab.begin (P : Pool) (o : Int) (ho : o ≠ 0) (hl : 1 ≤ P.left) :
    ∃ r, P.allocRet o = r ∧ 1 ≤ r ∧ r ≤ P.n ∧ Tab (P.alloc o) r o (rootN r) noF noY ∧ SegMv P (P.alloc o) o ∧ (P.alloc o).left + 1 = P.left ∧ countTo (P.alloc o).O o P.n = countTo P.O o P.n + 1 := by
  have hff : firstFree P.O P.n < P.n := by
    have h1 := firstFree_le P.O P.n
    rcases Nat.lt_or_ge (firstFree P.O P.n) P.n with h2 | h2
    · exact h2
    · have := (freeTo_pos P.O P.n).2 (by omega)
      unfold Pool.left at hl; omega
  have hz0 := firstFree_free P.O P.n hff
  obtain ⟨z, hz⟩ : ∃ z, firstFree P.O P.n = z := ⟨_, rfl⟩
  have hcc : o ≠ 0 ∧ firstFree P.O P.n < P.n := ⟨ho, hff⟩
  have hr : P.allocRet o = (z : Int) + 1 := by unfold Pool.allocRet; rw [if_pos hcc, hz]
  have ha : P.alloc o = ⟨P.n, updI P.O z o, fun j => if z * 64 ≤ j ∧ j < z * 64 + 64 then 0 else P.D j⟩ := by unfold Pool.alloc; rw [if_pos hcc, hz]
  rw [hz] at hff hz0
  have hcu := countTo_upd P.O o o z P.n hff
  rw [hz0, if_neg (fun e => ho e.symm), if_pos rfl] at hcu
  have hfu := freeTo_upd P.O o z P.n hff
  rw [hz0, if_pos rfl, if_neg ho] at hfu
  have hroot : ∀ n, rootN ((z : Int) + 1) n ≠ 0 → n = 0 := fun n h => by
    unfold rootN at h; split at h
    · assumption
    · exact absurd rfl h
  have h00 : rootN ((z : Int) + 1) 0 = (z : Int) + 1 := rfl
  refine ⟨(z : Int) + 1, hr, by omega, by omega, ⟨h00, by omega, ho, fun n hn h0 i hi => ?_, fun n m _ _ h1 h2 _ => by rw [hroot n h1, hroot m h2], fun n hn h0 => ?_, fun n hp hn h0 => absurd (hroot n h0) (by omega), fun p _ h => absurd rfl h, fun p _ => ⟨by simp [noF], by simp [noF]⟩⟩, ?_, ?_, ?_⟩
  · obtain rfl := hroot n h0
    rw [h00, if_pos (by omega), ent_zero _ _ _ hi (fun q hq => by
      rw [ha]; show (if _ then _ else _) = _; rw [if_pos (by omega)])]
    have : rootN ((z : Int) + 1) (8 * 0 + 1 + i) = 0 := by unfold rootN; rw [if_neg (by omega)]
    rw [this, if_pos rfl]
  · obtain rfl := hroot n h0
    rw [h00, ha]; unfold Pool.owner
    rw [if_pos (by rw [Pool.there_iff]; exact ⟨by omega, by show (z : Int) + 1 ≤ P.n; omega⟩)]
    show updI P.O z o _ = o
    rw [show ((z : Int) + 1).toNat - 1 = z by omega, updI_same]
  · rw [ha]
    refine ⟨rfl, fun j hj h0 h1 => ?_, fun o' h0 h1 => ?_, fun j hj h0 h1 => ?_⟩
    · show updI P.O z o j = _
      rw [updI_other _ _ _ _ (by rintro rfl; exact h0 hz0)]
    · have hc := countTo_upd P.O o' o z P.n hff
      rw [hz0, if_neg (fun e => h0 e.symm), if_neg (fun e => h1 e.symm)] at hc
      exact hc
    · show (if _ then _ else _) = _
      rw [if_neg]
      intro e
      have : j / 64 = z := by omega
      rw [this] at h0; exact h0 hz0
  · rw [ha]; unfold Pool.left; simp only; omega
  · rw [ha]; exact hcu

/-- Another owner's doings leave a table alone. -/
theorem Tab.mv {P P' : Pool} {r o o' : Int} {N F : Nat → Int} {Y : Nat → Bool} (h : Tab P r o N F Y) (hm : SegMv P P' o') (hne : o ≠ o') : Tab P' r o N F Y := by
  refine ⟨h.root, h.r0, h.o0, fun n hn h0 i hi => ?_, h.inj, fun n hn h0 => ?_, h.up, h.leafUp, h.lf⟩
  · rw [← h.ent n hn h0 i hi]
    obtain ⟨b1, b2⟩ := h.bd n hn h0
    have hw := h.own n hn h0
    have hth := P.owner_there _ (by rw [hw]; exact h.o0)
    unfold Pool.owner at hw
    rw [if_pos hth] at hw
    refine ent_congr P P' _ _ hi fun j hj => ?_
    exact hm.D j (by omega) (by rw [hj, hw]; exact h.o0) (by rw [hj, hw]; exact hne)
  · obtain ⟨b1, b2⟩ := h.bd n hn h0
    have hw := h.own n hn h0
    have hth := P.owner_there _ (by rw [hw]; exact h.o0)
    unfold Pool.owner at hw ⊢
    rw [if_pos hth] at hw
    rw [if_pos (by rw [Pool.there_iff, hm.n]; exact ⟨b1, b2⟩), hm.O _ (by omega) (by rw [hw]; exact h.o0) (by rw [hw]; exact hne), hw]

theorem needT_root (r : Int) (p : Nat) : needT (rootN r) p = 3 := by
  unfold needT rootN
  rw [if_pos (by rw [if_neg]; show 1 + p / 512 ≠ 0; omega)]
/-- One path is there. -/
theorem needT_path (N : Nat → Int) (p q : Nat) (hp : p < 4096) (hq : q < 4096) (h : ∀ n, N n ≠ 0 ↔ n = 0 ∨ n = nd q 1 ∨ n = nd q 2 ∨ n = nd q 3) :
    needT N p = (if q / 8 = p / 8 then 0 else 1) + (if q / 64 = p / 64 then 0 else 1) + (if q / 512 = p / 512 then 0 else 1) := by
  have e : ∀ n, N n = 0 ↔ ¬ (n = 0 ∨ n = nd q 1 ∨ n = nd q 2 ∨ n = nd q 3) := fun n => by rw [← h n]; simp
  have h1 : N (nd p 1) = 0 ↔ ¬ q / 512 = p / 512 := by rw [e]; simp only [nd]; omega
  have h2 : N (nd p 2) = 0 ↔ ¬ q / 64 = p / 64 := by rw [e]; simp only [nd]; omega
  have h3 : N (nd p 3) = 0 ↔ ¬ q / 8 = p / 8 := by rw [e]; simp only [nd]; omega
  unfold needT
  by_cases c1 : q / 512 = p / 512
  · rw [if_neg (by rw [h1]; simp [c1])]
    by_cases c2 : q / 64 = p / 64
    · rw [if_neg (by rw [h2]; simp [c2])]
      by_cases c3 : q / 8 = p / 8
      · rw [if_neg (by rw [h3]; simp [c3]), if_pos c3, if_pos c2, if_pos c1]
      · rw [if_pos (h3.2 c3), if_neg c3, if_pos c2, if_pos c1]
    · rw [if_pos (h2.2 c2), if_neg (by omega), if_neg c2, if_pos c1]
  · rw [if_pos (h1.2 c1), if_neg (by omega), if_neg (by omega), if_neg c1]

attribute [local irreducible] World.setCell World.alloc World.drew World.setRow Calls Code.wp row

theorem rootN_path (r : Int) (hr : r ≠ 0) (N' : Nat → Int) (q : Nat) (h : ∀ n, N' n ≠ 0 ↔ rootN r n ≠ 0 ∨ n = nd q 1 ∨ n = nd q 2 ∨ n = nd q 3) : ∀ n, N' n ≠ 0 ↔ n = 0 ∨ n = nd q 1 ∨ n = nd q 2 ∨ n = nd q 3 := by
  intro n
  rw [h n]
  have : rootN r n ≠ 0 ↔ n = 0 := by
    unfold rootN
    by_cases e : n = 0
    · simp [e, hr]
    · simp [e]
  rw [this]

set_option maxHeartbeats 2000000 in
theorem fit07_any (w : World) :
    Calls Try.prog 36 #[] w fun e w' => e = .returned (.bool true) ∧ Below w.heap.size w w' := by
  go_enter Try.func36, Try.ntmps36
  go_wp2_with fail
  refine (new_any 20 _ (by omega) (by omega)).mono ?_
  rintro e w1 ⟨pb, db, ob, rfl, hP, l1, l2, l3, hb⟩
  have HP := Lib.hid hP; have Hb := Lib.hid hb; clear hP hb
  go_wp2_with fail
  refine (alloc_any pb db ob _ _ _ HP.out).mono ?_
  rintro e w2 ⟨rfl, hP2, hK2⟩
  obtain ⟨r, hr, r1, r2, hT, _, hleft, _⟩ := Tab.begin (newPool 20) 1 (by omega) (by decide)
  rw [hr]
  have HP2 := Lib.hid hP2; have Hb2 := Lib.hid (below_ps Hb.out hK2 l1 l2 l3); have HT := Lib.hid hT
  have hl19 : Hid (((newPool 20).alloc 1).left = 19) := by
    have e : (newPool 20).left = 20 := by decide
    unfold Hid; omega
  have hr0 : r ≠ 0 := by omega
  have Hr0 := Lib.hid hr0
  clear hP2 hK2 hT hleft hr hr0
  go_wp2_with fail
  refine (fill_yes pb db ob _ r 1 _ _ _ 9 20 8 true _ HP2.out HT.out (by omega) (by omega) (by omega) (by rw [needT_root]; decide) (by rw [needT_root]; have := hl19.out; omega)).mono ?_
  rintro e w3 ⟨rfl, P3, N3, hF3⟩
  have HF3 := Lib.hid hF3
  have Hb3 := Lib.hid (below_ps Hb2.out hF3.kept l1 l2 l3)
  have hn10 : needT N3 10 = 0 := by rw [needT_path N3 10 9 (by omega) (by omega) (rootN_path r Hr0.out N3 9 hF3.new)]; decide
  have Hn := Lib.hid hn10
  rw [needT_root]
  clear hF3 hn10
  go_wp2_with fail
  refine (fill_yes pb db ob _ r 1 _ _ _ 10 19 0 false _ HF3.out.pool HF3.out.tab (by omega) (by omega) (by omega) (by rw [Hn.out]; decide) (by rw [Hn.out]; omega)).mono ?_
  rintro e w4 ⟨rfl, P4, N4, hF4⟩
  have HF4 := Lib.hid hF4
  have Hb4 := Lib.hid (below_ps Hb3.out hF4.kept l1 l2 l3)
  rw [Hn.out]
  clear hF4
  go_wp2_with fail
  refine (walk_any pb db ob _ r 1 _ _ _ 9 _ HF4.out.pool HF4.out.tab (by omega)).mono ?_
  rintro e w5 ⟨rfl, hb5⟩
  have e1 : updI (updI noF 9 20) 10 19 9 = 20 := by decide
  have e2 : updB (updB noY 9 true) 10 false 9 = true := by decide
  rw [e1, e2]
  have Hb5 := Lib.hid (Hb4.out.trans (hb5.mono Hb4.out.size))
  clear hb5 e1 e2
  go_wp2_with fail
  go_ret
  exact ⟨by simp, Hb5.out⟩
end Go.Proofs.Ytndnjimiabpkpaa
