/- tables: how many tables the known pages want. -/
import Derived.Test.YtndnjimiabpkpaaPgAp
import Derived.Test.YtndnjimiabpkpaaMapD
import Derived.Test.YtndnjimiabpkpaaPgStops
namespace Go.Proofs.Ytndnjimiabpkpaa
open Go.RowKit
attribute [local irreducible] World.setCell World.alloc World.drew World.setRow Calls Code.wp row

def codeT (n : Nat) : Int := if n < 9 then 2097152 + (n - 1 : Nat) else if n < 73 then 1048576 + (n - 9 : Nat) else (n - 73 : Nat)
theorem codeT_inj {n m : Nat} (hn : 1 ≤ n) (hn2 : n < 585) (hm : 1 ≤ m) (hm2 : m < 585) (h : codeT n = codeT m) : n = m := by
  unfold codeT at h
  split at h <;> split at h <;> (try split at h) <;> (try split at h) <;> omega
theorem codeT_1 (p : Nat) (hp : p < 4096) : codeT (nd p 1) = 2097152 + (p : Int) / 512 := by
  show codeT (1 + p / 512) = _; unfold codeT; rw [if_pos (by omega)]; omega
theorem codeT_2 (p : Nat) (hp : p < 4096) : codeT (nd p 2) = 1048576 + (p : Int) / 64 := by
  show codeT (9 + p / 64) = _; unfold codeT; rw [if_neg (by omega), if_pos (by omega)]; omega
theorem codeT_3 (p : Nat) (hp : p < 4096) : codeT (nd p 3) = (p : Int) / 8 := by
  show codeT (73 + p / 8) = _; unfold codeT; rw [if_neg (by omega), if_neg (by omega)]; omega
theorem put_len (es : List (Int × Value)) (k : Int) (v : Value) : (put es k v).length = es.length + (if (look es k).isSome then 0 else 1) := by
  unfold put; split <;> simp

structure Coded (ss : List (Int × Value)) (M : Nat → Int) : Prop where
  len : ss.length + 1 = cntN M 585
  root : M 0 ≠ 0
  like : ∀ n, 1 ≤ n → n < 585 → ((look ss (codeT n)).isSome = true ↔ M n ≠ 0)
theorem Coded.nil : Coded [] (fun n => if n = 0 then 1 else 0) := by
  refine ⟨?_, by simp, fun n h1 h2 => by rw [look_nil]; simp; omega⟩
  decide +kernel
theorem Coded.put {ss : List (Int × Value)} {M : Nat → Int} (h : Coded ss M) (n : Nat) (h1 : 1 ≤ n) (h2 : n < 585) (v : Value) : Coded (put ss (codeT n) v) (updI M n 1) := by
  refine ⟨?_, ?_, fun m hm hm2 => ?_⟩
  · rw [put_len, cntN_add M n 585 h2 1 (by omega), ← h.len]
    by_cases c : M n = 0
    · have : ¬ (look ss (codeT n)).isSome = true := fun e => (h.like n h1 h2).1 e c
      rw [if_neg this, if_pos c]
    · rw [if_pos ((h.like n h1 h2).2 c), if_neg c]
  · rw [updI_other _ _ _ _ (by omega)]; exact h.root
  · rw [look_put]
    by_cases e : m = n
    · subst e; rw [if_pos rfl, updI_same]; simp
    · rw [if_neg (fun q => e (codeT_inj hm hm2 h1 h2 q)), updI_other _ _ _ _ e]; exact h.like m hm hm2

/-- The nodes on the ways to the pages of a list. -/
def Ways (M : Nat → Int) (es : List (Int × Value)) : Prop := ∀ n, M n ≠ 0 ↔ n = 0 ∨ ∃ q ∈ es, n = nd q.1.toNat 1 ∨ n = nd q.1.toNat 2 ∨ n = nd q.1.toNat 3
theorem Ways.nil : Ways (fun n => if n = 0 then 1 else 0) [] := by
  intro n; simp
theorem Ways.more {M : Nat → Int} {es : List (Int × Value)} (h : Ways M es) (q : Int × Value) : Ways (updI (updI (updI M (nd q.1.toNat 3) 1) (nd q.1.toNat 2) 1) (nd q.1.toNat 1) 1) (q :: es) := by
  intro n
  have hx : updI (updI (updI M (nd q.1.toNat 3) 1) (nd q.1.toNat 2) 1) (nd q.1.toNat 1) 1 n ≠ 0 ↔ M n ≠ 0 ∨ n = nd q.1.toNat 1 ∨ n = nd q.1.toNat 2 ∨ n = nd q.1.toNat 3 := by
    unfold updI
    by_cases e1 : n = nd q.1.toNat 1
    · simp [e1]
    · by_cases e2 : n = nd q.1.toNat 2
      · simp [e2]
      · by_cases e3 : n = nd q.1.toNat 3
        · simp [e3]
        · simp [e1, e2, e3]
  rw [hx, h n]
  constructor
  · rintro ((h | ⟨q', hq, h⟩) | h)
    · exact .inl h
    · exact .inr ⟨q', List.mem_cons_of_mem _ hq, h⟩
    · exact .inr ⟨q, List.mem_cons_self, h⟩
  · rintro (h | ⟨q', hq, h⟩)
    · exact .inl (.inl h)
    · rcases List.mem_cons.1 hq with rfl | hq
      · exact .inr h
      · exact .inl (.inr ⟨q', hq, h⟩)
theorem Ways.same {M M' : Nat → Int} {es es' : List (Int × Value)} (h : Ways M es) (h' : Ways M' es') (he : ∀ q, q ∈ es ↔ q ∈ es') : cntN M 585 = cntN M' 585 := by
  apply cntN_iff
  intro j _
  have h1 := h j; have h2 := h' j
  simp only [he] at h1
  have : M j ≠ 0 ↔ M' j ≠ 0 := h1.trans h2.symm
  constructor
  · intro e; exact Classical.byContradiction fun c => this.2 c e
  · intro e; exact Classical.byContradiction fun c => this.1 c e

theorem or_big (a : Nat) (k : Nat) (hk : k = 20 ∨ k = 21) (ha : a < 512) : bits .or .i64 ((2 ^ k : Nat) : Int) (a : Int) = ((2 ^ k + a : Nat) : Int) := by
  have e1 : (2 ^ k : Nat) = 2 ^ k * 1 := by omega
  rw [e1]
  have h2' : a < 2 ^ k := by obtain rfl | rfl := hk <;> omega
  have h3 : 2 ^ k * 1 < 2 ^ 22 := by obtain rfl | rfl := hk <;> omega
  show IntKind.i64.wrap ((BitVec.ofInt 64 ((2 ^ k * 1 : Nat) : Int) ||| BitVec.ofInt 64 (a : Int)).toNat : Int) = _
  rw [BitVec.toNat_or, BitVec.ofInt_natCast, BitVec.ofInt_natCast, BitVec.toNat_ofNat, BitVec.toNat_ofNat, Nat.mod_eq_of_lt (by omega), Nat.mod_eq_of_lt (by omega), ← Nat.two_pow_add_eq_or_of_lt h2']
  rw [IntWalk.i64_in _ (by omega)]

set_option maxRecDepth 100000 in
set_option maxHeartbeats 4000000 in
theorem tables_any (mb : Nat) (es : List (Int × Value)) (w : World) (hM : MapAt w mb es) (hk : ∀ q ∈ es, ∃ p : Nat, p < 4096 ∧ q.1 = (p : Int)) :
    Calls Try.prog 45 #[.map (some mb)] w fun e w' => ∃ n : Nat, e = .returned (.int .i64 n) ∧ (∀ M, Ways M es → n + 1 = cntN M 585) ∧ Below w.heap.size w w' := by
  have HM := Lib.hid hM; have Hk := Lib.hid hk
  have hml := hM.lt
  clear hM hk
  go_enter Try.func45, Try.ntmps45
  have hmm := run_makeMapIB
  obtain ⟨o2, hrg, hR2⟩ := RangeAt.begin (P := Try.prog) (HM.out.alloc (.map #[] 0)) Try.underlying28
  rw [World.size_alloc] at hR2
  go_wp2_with fail
  obtain ⟨sb, hsb⟩ : ∃ sb, sb = w.heap.size := ⟨_, rfl⟩
  obtain ⟨w1, hw1⟩ : ∃ w1 : World, w1 = w.alloc (.map #[] 0) := ⟨_, rfl⟩
  rw [← hsb, ← hw1]
  rw [← hw1, ← hsb] at hR2
  have HM1 : Hid (MapAt w1 mb es) := by rw [hw1]; exact HM.out.alloc _
  have HS1 : Hid (MapAt w1 sb []) := by rw [hw1, hsb]; exact MapAt.new _
  have HB1 : Hid (Below w.heap.size w w1) := by rw [hw1]; exact (Below.refl _ _).alloc (Nat.le_refl _) _
  have Hsb : Hid (sb = w.heap.size) := hsb
  have hmb : mb < sb := by omega
  clear hw1 hsb HM hml hmm hrg
  try simp only [World.size_alloc]
  obtain ⟨ib, hib⟩ : ∃ ib, ib = sb + 1 := ⟨_, rfl⟩
  obtain ⟨w2, hw2⟩ : ∃ w2 : World, w2 = w1.alloc o2 := ⟨_, rfl⟩
  rw [← hib, ← hw2] at hR2 ⊢
  have hs2 : sb < ib := by omega
  have HS2 : Hid (MapAt w2 sb []) := by rw [hw2]; exact HS1.out.alloc _
  have HB2 : Hid (Below w.heap.size w w2) := by rw [hw2]; exact HB1.out.alloc HB1.out.size _
  have HR2 := Lib.hid hR2
  have Hib : Hid (w.heap.size ≤ ib) := by rw [hib, Hsb.out]; exact Nat.le_succ _
  clear hw2 hib hR2 HM1 HS1 HB1
  go_loopg [4] es.length (fun g _ wx => ∃ left cur vis ss M, List.length left = g ∧ (∀ q, q ∈ es ↔ q ∈ left ∨ q ∈ vis) ∧ RangeAt wx ib mb left cur ∧ MapAt wx sb ss ∧ Coded ss M ∧ Ways M vis ∧ Below w.heap.size w wx)
  case atStart => exact ⟨es, none, [], [], _, rfl, fun q => by simp, HR2.out, HS2.out, .nil, .nil, HB2.out⟩
  case round =>
    clear HR2 HS2 HB2
    obtain ⟨left, cur, vis, ss, M, hlg, hsub, hR, hS, hC, hW, hB⟩ := hrel
    have HS := Lib.hid hS; have HB := Lib.hid hB; have HC := Lib.hid hC; have HW := Lib.hid hW
    have Hsub := Lib.hid hsub; have Hlg := Lib.hid hlg
    have hbz := hB.size
    clear hS hB hsub hlg hC hW
    rcases hR.next (P := Try.prog) 0 with ⟨hl0, hrun⟩ | ⟨q, l1, l2, hl, w8, hrun, hR8, hK8⟩
    · clear hR
      have hln := HS.out.run_len (P := Try.prog) Try.underlying28
      have Hl0 := Lib.hid hl0
      clear hl0
      go_wp2_with fail
      go_ret
      refine ⟨ss.length, rfl, fun M' hM' => ?_, HB.out⟩
      rw [HC.out.len]
      refine HW.out.same hM' fun x => ?_
      rw [Hsub.out, Hl0.out]; simp
    · clear hR
      obtain ⟨p, hp, hqp⟩ := Hk.out q (by rw [Hsub.out, hl]; simp)
      have HS8 := Lib.hid (HS.out.kept hK8 (show ¬ sb = ib by omega))
      have HB8 := Lib.hid (HB.out.trans (hK8.below (B := w.heap.size) hbz (fun i hi' e => by have := Hib.out; omega)))
      have hen := hR8.entry (P := Try.prog)
      rw [hqp] at hen hrun
      obtain ⟨w3, hu3, hS3, hK3⟩ := HS8.out.run_update (P := Try.prog) Try.underlying28 Try.underlying3 ((p : Int) / 8) (.bool true)
      obtain ⟨w4, hu4, hS4, hK4⟩ := hS3.run_update (P := Try.prog) Try.underlying28 Try.underlying3 (1048576 + (p : Int) / 64) (.bool true)
      obtain ⟨w5, hu5, hS5, hK5⟩ := hS4.run_update (P := Try.prog) Try.underlying28 Try.underlying3 (2097152 + (p : Int) / 512) (.bool true)
      have HK5 := Lib.hid ((hK3.trans hK4).trans hK5)
      have ho1 : bits .or .i64 1048576 ((p : Int) / 64) = 1048576 + (p : Int) / 64 := by have h := or_big (p / 64) 20 (.inl rfl) (by omega); simpa using h
      have ho2 : bits .or .i64 2097152 ((p : Int) / 512) = 2097152 + (p : Int) / 512 := by have h := or_big (p / 512) 21 (.inr rfl) (by omega); simpa using h
      have HR5 := Lib.hid (hR8.kept HK5.out (show ¬ ib = sb by omega) (by omega))
      have HB5 := Lib.hid (HB8.out.trans (HK5.out.below (B := w.heap.size) HB8.out.size (fun i hi e => by have := Hsb.out; omega)))
      have HC5 : Hid (Coded (put (put (put ss ((p : Int) / 8) (.bool true)) (1048576 + (p : Int) / 64) (.bool true)) (2097152 + (p : Int) / 512) (.bool true)) (updI (updI (updI M (nd p 3) 1) (nd p 2) 1) (nd p 1) 1)) := by
        have h1 := HC.out.put (nd p 3) (nd_pos p 2) (nd_lt p 3 hp) (.bool true)
        have h2 := h1.put (nd p 2) (nd_pos p 1) (nd_lt p 2 hp) (.bool true)
        have h3 := h2.put (nd p 1) (nd_pos p 0) (nd_lt p 1 hp) (.bool true)
        rw [codeT_1 p hp, codeT_2 p hp, codeT_3 p hp] at h3
        exact h3
      have HW5 : Hid (Ways (updI (updI (updI M (nd p 3) 1) (nd p 2) 1) (nd p 1) 1) (q :: vis)) := by
        have := HW.out.more q
        rw [show q.1.toNat = p by omega] at this
        exact this
      have HS5 := Lib.hid hS5
      have Hl := Lib.hid hl
      clear hl hR8 hK8 hS3 hS4 hS5 hK3 hK4 hK5
      go_wp2_with fail
      go_roundg (l1 ++ l2).length
      case measure => rw [← Hlg.out, Hl.out]; simp
      case rel =>
        refine ⟨l1 ++ l2, _, q :: vis, _, _, rfl, fun x => ?_, HR5.out, HS5.out, HC5.out, HW5.out, HB5.out⟩
        rw [Hsub.out, Hl.out]; simp; grind
end Go.Proofs.Ytndnjimiabpkpaa
