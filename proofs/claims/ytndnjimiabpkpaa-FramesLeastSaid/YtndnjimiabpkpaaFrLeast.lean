/- The walk of FramesLeast: it returns true, whatever the number and the list. -/
import Derived.Test.YtndnjimiabpkpaaFrFit
import Derived.Test.YtndnjimiabpkpaaMap
namespace Go.Proofs.Ytndnjimiabpkpaa
open Go.RowKit
attribute [local irreducible] World.setCell World.alloc World.drew World.setRow Calls Code.wp row

/-- The first k frames are charged in turn, all others free. -/
structure LeastA (P : Pool) (n k : Nat) : Prop where
  pn : P.n = n
  lo : ∀ j : Nat, j < k → P.O j = (j : Int) % 3 + 1
  hi : ∀ j : Nat, k ≤ j → P.O j = 0

theorem LeastA.new (n : Nat) : LeastA (newPool n) n 0 := ⟨rfl, fun j h => absurd h (by omega), fun _ _ => rfl⟩
theorem LeastA.step {P : Pool} {n k : Nat} (h : LeastA P n k) (hk : k < n) : P.allocRet ((k : Int) % 3 + 1) = k + 1 ∧ LeastA (P.alloc ((k : Int) % 3 + 1)) n (k + 1) := by
  have hf : firstFree P.O P.n = k := firstFree_eq _ _ _ (by rw [h.pn]; omega) (fun j hj => by rw [h.lo j hj]; omega) (fun _ => h.hi k (Nat.le_refl _))
  have hc : (k : Int) % 3 + 1 ≠ 0 ∧ firstFree P.O P.n < P.n := ⟨by omega, by rw [hf, h.pn]; exact hk⟩
  refine ⟨?_, ?_⟩
  · unfold Pool.allocRet; rw [if_pos hc, hf]
  · unfold Pool.alloc; rw [if_pos hc, hf]
    refine ⟨h.pn, fun j hj => ?_, fun j hj => ?_⟩
    · by_cases e : j = k
      · subst e; exact updI_same _ _ _
      · show updI P.O k ((k : Int) % 3 + 1) j = _
        rw [updI_other _ _ _ _ e]; exact h.lo j (by omega)
    · show updI P.O k ((k : Int) % 3 + 1) j = _
      rw [updI_other _ _ _ _ (by omega)]; exact h.hi j (by omega)

/-- The frames of the map are free, the others charged as they were. -/
structure LeastB (P : Pool) (n : Nat) (es : List (Int × Value)) : Prop where
  pn : P.n = n
  yes : ∀ j : Nat, j < n → (P.O j = 0 ↔ (look es ((j : Int) + 1)).isSome = true)
  no : ∀ j : Nat, j < n → P.O j ≠ 0 → P.O j = (j : Int) % 3 + 1
  all : ∀ k v, look es k = some v → v = .bool true
  left : freeTo P.O n = es.length

theorem freeTo_none (O : Nat → Int) (n : Nat) (h : ∀ j, j < n → O j ≠ 0) : freeTo O n = 0 := by
  induction n with
  | zero => rfl
  | succ n ih => unfold freeTo; rw [ih (fun j hj => h j (by omega)), if_neg (h n (by omega))]

theorem LeastB.start {P : Pool} {n : Nat} (h : LeastA P n n) : LeastB P n [] := by
  have hne : ∀ j, j < n → P.O j ≠ 0 := fun j hj => by rw [h.lo j hj]; omega
  exact ⟨h.pn, fun j hj => ⟨fun e => absurd e (hne j hj), fun e => by simp [look_nil] at e⟩, fun j hj _ => h.lo j hj, fun k v e => by simp [look_nil] at e, freeTo_none _ _ hne⟩

theorem LeastB.step {P : Pool} {n : Nat} {es : List (Int × Value)} (h : LeastB P n es) (f : Int) (h1 : 1 ≤ f) (h2 : f ≤ n) : LeastB (P.free f) n (put es f (.bool true)) := by
  obtain ⟨k, rfl⟩ : ∃ k : Nat, f = (k : Int) + 1 := ⟨(f - 1).toNat, by omega⟩
  have hk : k < n := by omega
  have hth : P.there ((k : Int) + 1) = true := (P.there_iff _).2 ⟨h1, by rw [h.pn]; exact h2⟩
  have how : P.owner ((k : Int) + 1) = P.O k := by
    unfold Pool.owner; rw [if_pos hth]; congr 1
  have e1 : ((k : Int) + 1).toNat - 1 = k := by omega
  by_cases h0 : P.O k = 0
  · have hf : P.free ((k : Int) + 1) = P := by unfold Pool.free; rw [how, h0]; simp
    have hs := (h.yes k hk).1 h0
    rw [hf]
    refine ⟨h.pn, fun j hj => ?_, h.no, fun j v e => ?_, ?_⟩
    · rw [look_put]
      by_cases e : (j : Int) + 1 = (k : Int) + 1
      · rw [if_pos e]
        have : j = k := by omega
        subst this; simp [h0]
      · rw [if_neg e]; exact h.yes j hj
    · rw [look_put] at e
      split at e
      · cases e; rfl
      · exact h.all _ _ e
    · rw [length_put, if_pos hs]; exact h.left
  · have hf : P.free ((k : Int) + 1) = ⟨P.n, updI P.O k 0, P.D⟩ := by unfold Pool.free; rw [how, if_pos h0, e1]
    have hs : ¬ (look es ((k : Int) + 1)).isSome = true := fun e => h0 ((h.yes k hk).2 e)
    rw [hf]
    have hup := freeTo_upd P.O 0 k n hk
    rw [if_neg h0, if_pos rfl, h.left] at hup
    refine ⟨h.pn, fun j hj => ?_, fun j hj hne => ?_, fun j v e => ?_, ?_⟩
    · show updI P.O k 0 j = 0 ↔ _
      rw [look_put]
      by_cases e : j = k
      · subst e; rw [updI_same, if_pos rfl]; simp
      · rw [updI_other _ _ _ _ e, if_neg (by omega)]; exact h.yes j hj
    · have hne' : updI P.O k 0 j ≠ 0 := hne
      show updI P.O k 0 j = _
      by_cases e : j = k
      · subst e; exact absurd (updI_same _ _ _) hne'
      · rw [updI_other _ _ _ _ e] at hne' ⊢; exact h.no j hj hne'
    · rw [look_put] at e
      split at e
      · cases e; rfl
      · exact h.all _ _ e
    · show freeTo (updI P.O k 0) n = _
      rw [length_put, if_neg hs]; omega

/-- Charged again from the least on, up to j. -/
structure LeastC (P : Pool) (n j : Nat) (es : List (Int × Value)) : Prop where
  pn : P.n = n
  lo : ∀ i, i < j → P.O i ≠ 0
  yes : ∀ i : Nat, j ≤ i → i < n → (P.O i = 0 ↔ (look es ((i : Int) + 1)).isSome = true)
  set : ∀ i : Nat, i < n → P.O i = 0 ∨ P.O i = 1 ∨ P.O i = 2 ∨ P.O i = 3 ∨ P.O i = 9
  all : ∀ k v, look es k = some v → v = .bool true
  left : freeTo P.O n + countTo P.O 9 n = es.length

theorem countTo_none (O : Nat → Int) (o : Int) (n : Nat) (h : ∀ j, j < n → O j ≠ o) : countTo O o n = 0 := by
  induction n with
  | zero => rfl
  | succ n ih => unfold countTo; rw [ih (fun j hj => h j (by omega)), if_neg (h n (by omega))]

theorem LeastC.start {P : Pool} {n : Nat} {es : List (Int × Value)} (h : LeastB P n es) : LeastC P n 0 es := by
  have h3 : ∀ i : Nat, i < n → P.O i = 0 ∨ P.O i = 1 ∨ P.O i = 2 ∨ P.O i = 3 ∨ P.O i = 9 := fun i hi => by
    by_cases e : P.O i = 0
    · exact .inl e
    · have := h.no i hi e; omega
  have h9 : countTo P.O 9 n = 0 := countTo_none _ _ _ fun j hj e => by
    have := h.no j hj (by omega); omega
  exact ⟨h.pn, fun i hi => absurd hi (by omega), fun i _ hi => h.yes i hi, h3, h.all, by rw [h9, h.left]; rfl⟩

theorem LeastC.skip {P : Pool} {n j : Nat} {es : List (Int × Value)} (h : LeastC P n j es) (hj : j < n) (hno : look es ((j : Int) + 1) = none) : LeastC P n (j + 1) es := by
  refine ⟨h.pn, fun i hi => ?_, fun i hi hin => h.yes i (by omega) hin, h.set, h.all, h.left⟩
  by_cases e : i = j
  · subst e
    intro h0
    have := (h.yes i (Nat.le_refl _) hj).1 h0
    rw [hno] at this; cases this
  · exact h.lo i (by omega)

theorem LeastC.step {P : Pool} {n j : Nat} {es : List (Int × Value)} (h : LeastC P n j es) (hj : j < n) (hs : (look es ((j : Int) + 1)).isSome = true) : P.allocRet 9 = (j : Int) + 1 ∧ LeastC (P.alloc 9) n (j + 1) es := by
  have h0 : P.O j = 0 := (h.yes j (Nat.le_refl _) hj).2 hs
  have hf : firstFree P.O P.n = j := firstFree_eq _ _ _ (by rw [h.pn]; omega) h.lo (fun _ => h0)
  have hc : (9 : Int) ≠ 0 ∧ firstFree P.O P.n < P.n := ⟨by omega, by rw [hf, h.pn]; exact hj⟩
  refine ⟨by unfold Pool.allocRet; rw [if_pos hc, hf], ?_⟩
  unfold Pool.alloc; rw [if_pos hc, hf]
  have hup := freeTo_upd P.O 9 j n hj
  rw [if_pos h0, if_neg (by omega)] at hup
  have hup9 := countTo_upd P.O 9 9 j n hj
  rw [if_neg (by omega), if_pos rfl] at hup9
  have hl := h.left
  refine ⟨h.pn, fun i hi => ?_, fun i hi hin => ?_, fun i hi => ?_, h.all, ?_⟩
  · show updI P.O j 9 i ≠ 0
    by_cases e : i = j
    · subst e; rw [updI_same]; omega
    · rw [updI_other _ _ _ _ e]; exact h.lo i (by omega)
  · show updI P.O j 9 i = 0 ↔ _
    rw [updI_other _ _ _ _ (by omega)]; exact h.yes i (by omega) hin
  · show updI P.O j 9 i = 0 ∨ updI P.O j 9 i = 1 ∨ updI P.O j 9 i = 2 ∨ updI P.O j 9 i = 3 ∨ updI P.O j 9 i = 9
    by_cases e : i = j
    · subst e; rw [updI_same]; omega
    · rw [updI_other _ _ _ _ e]; exact h.set i hi
  · show freeTo (updI P.O j 9) n + countTo (updI P.O j 9) 9 n = _
    omega

theorem count_all (O : Nat → Int) (n : Nat) (h : ∀ i : Nat, i < n → O i = 0 ∨ O i = 1 ∨ O i = 2 ∨ O i = 3 ∨ O i = 9) : freeTo O n + countTo O 1 n + countTo O 2 n + countTo O 3 n + countTo O 9 n = n := by
  induction n with
  | zero => rfl
  | succ n ih =>
    have := ih (fun i hi => h i (by omega))
    have hn := h n (by omega)
    unfold freeTo countTo
    rcases hn with e | e | e | e | e <;> rw [e] <;> simp <;> omega

theorem LeastC.last {P : Pool} {n : Nat} {es : List (Int × Value)} (h : LeastC P n n es) : P.left = 0 ∧ P.allocRet 9 = 0 ∧ P.alloc 9 = P ∧ countTo P.O 9 P.n = es.length ∧ countTo P.O 1 P.n + countTo P.O 2 P.n + countTo P.O 3 P.n + es.length = n ∧ es.length ≤ n := by
  have h0 : freeTo P.O n = 0 := freeTo_none _ _ h.lo
  have hff : firstFree P.O P.n = P.n := (freeTo_pos _ _).1 (by rw [h.pn]; exact h0)
  have hl := h.left
  have ha := count_all P.O n h.set
  refine ⟨by unfold Pool.left; rw [h.pn]; exact h0, ?_, ?_, by rw [h.pn]; omega, by rw [h.pn]; omega, by omega⟩
  · unfold Pool.allocRet; rw [if_neg (by omega)]
  · unfold Pool.alloc; rw [if_neg (by omega)]

theorem boolZero (w : World) : (zeroValue 4).run Try.prog w = .ok (.bool false) w := by kernel_rfl

set_option maxRecDepth 100000 in
set_option maxHeartbeats 2000000 in
theorem least_walk (n : Int) (a0 : Option Addr) (len cap : Nat) (zs : List Int) (w : World) (_ : (Lit.int .i64 n).wf = true) (hr : IsRow .i64 w a0 len cap zs) :
    Calls Try.prog 3 #[.int .i64 n, .slice a0 len cap] w fun e w' => e = .returned (.bool true) ∧ Below w.heap.size w w' := by
  obtain ⟨b, off, xs, hix, hcell, hblt, hmax, hxw⟩ := row_open (P := Try.prog) (T := 22) (E := 3) (by kernel_rfl) (fun w => by kernel_rfl) hr
  have hmax : len ≤ 9223372036854775807 := by unfold maxLen at hmax; omega
  have Hix := Lib.hid hix; clear hix
  have Hcell := Lib.hid hcell; clear hcell
  have Hblt := Lib.hid hblt; clear hblt hr
  have Hxw := Lib.hid hxw; clear hxw
  obtain ⟨q0, q1⟩ := tmod_bd n 30 (by omega)
  obtain ⟨m, hm⟩ : ∃ m : Nat, (n.tmod 30 + 30) % 30 = (m : Int) := ⟨((n.tmod 30 + 30) % 30).toNat, by omega⟩
  have hm30 : m < 30 := by omega
  have hmm := @run_makeMap Try.prog
  go_enter Try.func3, Try.ntmps3
  go_wp2_with fail
  refine (fit06_any _).mono ?_
  rintro e w1 ⟨rfl, hb1⟩
  have Hb1 := Lib.hid hb1; clear hb1
  by_cases hlen : 100 < len
  · go_wp2_with fail
    go_ret
    exact ⟨rfl, Hb1.out⟩
  · have hsz := Hb1.out.size
    go_wp2_with fail
    refine (new_any (m + 1) _ (by omega) (by omega)).mono ?_
    rintro e w2 ⟨pb, db, ob, rfl, hP, l1, l2, l3, hb2⟩
    have HP := Lib.hid hP; clear hP
    have Hb2 := Lib.hid (Hb1.out.trans (hb2.mono hsz)); clear hb2
    clear hm
    go_wp2_with fail
    go_loopg [6, 24] (m + 1) (fun g _ i wx => ∃ (k : Nat) (P : Pool), k + g = m + 1 ∧ i = .int .i64 k ∧ PoolAt wx pb db ob P ∧ LeastA P (m + 1) k ∧ Below w.heap.size w wx)
    case atStart => exact ⟨0, _, by omega, rfl, HP.out, LeastA.new _, Hb2.out⟩
    case round =>
      clear HP Hb2
      obtain ⟨k, P, hk, rfl, hP, hA, hb⟩ := hrel
      have HP := Lib.hid hP; clear hP
      have HA := Lib.hid hA; clear hA
      have Hb := Lib.hid hb; clear hb
      by_cases hlt : k < m + 1
      · have hst := (HA.out.step hlt).1
        have HA' := Lib.hid (HA.out.step hlt).2
        have hu : IntKind.u64.wrap ((k : Int) % 3 + 1) = (k : Int) % 3 + 1 := by
          simp [IntKind.wrap, IntKind.bits, IntKind.signed]; omega
        go_wp2_with fail
        refine (alloc_any pb db ob P _ _ HP.out).mono ?_
        rintro e w3 ⟨rfl, hP3, hK3⟩
        have HP3 := Lib.hid hP3
        have Hb3 := Lib.hid (below_ps Hb.out hK3 (by omega) (by omega) (by omega)); clear hP3 hK3
        have e3 : ((k : Int) + 1 != (k : Int) + 1) = false := by simp
        go_wp2_with fail
        go_roundg (m + 1 - (k + 1))
        case measure => omega
        case rel => exact ⟨k + 1, _, by omega, by go_num, HP3.out, HA'.out, Hb3.out⟩
      · have hkm : k = m + 1 := by omega
        have HB0 : Hid (LeastB P (m + 1) []) := LeastB.start (hkm ▸ HA.out)
        have hszr := Hb.out.size
        have hl1 := HP.out.hp.lt
        have hl2 := HP.out.hd.lt
        have hl3 := HP.out.ho.lt
        clear HA hkm
        go_wp2_with fail
        have HM0 := Lib.hid (MapAt.new wr)
        have HP0 := Lib.hid (HP.out.alloc (.map #[] 0))
        have Hb0 := Lib.hid (Hb.out.alloc hszr (.map #[] 0))
        obtain ⟨r, hr⟩ : ∃ r : Nat, r = wr.heap.size := ⟨_, rfl⟩
        rw [← hr] at HM0 hszr hl1 hl2 hl3 ⊢
        clear hr HP Hb
        go_loopg [9, 40] len (fun g _ i wx => ∃ (j : Nat) (P : Pool) (es : List (Int × Value)), j + g = len ∧ i = .int .i64 j ∧ PoolAt wx pb db ob P ∧ LeastB P (m + 1) es ∧ MapAt wx r es ∧ Below w.heap.size w wx)
        case atStart => exact ⟨0, _, _, by omega, rfl, HP0.out, HB0.out, HM0.out, Hb0.out⟩
        case round =>
          clear HP0 HB0 HM0 Hb0
          obtain ⟨j, P, es, hj, rfl, hP, hB, hM, hb⟩ := hrel
          have HP := Lib.hid hP; clear hP
          have HB := Lib.hid hB; clear hB
          have HM := Lib.hid hM; clear hM
          have Hb := Lib.hid hb; clear hb
          by_cases hlt : j < len
          · have hix := Hix.out j hlt
            have hc : wr.cell? ⟨b, off + j, none⟩ = some (.int .i64 (xs j)) := by
              rw [Hb.out.cell (p := ⟨b, off + j, none⟩) (Hblt.out (by omega))]; exact Hcell.out j hlt
            obtain ⟨p0, p1⟩ := tmod_bd (xs j) ((m : Int) + 1) (by omega)
            obtain ⟨f, hf, f0, f1⟩ : ∃ f : Int, (xs j).tmod ((m : Int) + 1) % ((m : Int) + 1) = f ∧ 0 ≤ f ∧ f < (m : Int) + 1 := ⟨_, rfl, Int.emod_nonneg _ (by omega), Int.emod_lt_of_pos _ (by omega)⟩
            have HB' := Lib.hid (HB.out.step (f + 1) (by omega) (by omega))
            go_wp2_with fail
            refine (free_any pb db ob P _ _ HP.out).mono ?_
            rintro e w5 ⟨rfl, hP5, hK5⟩
            have HM5 := Lib.hid (HM.out.kept hK5 (fun e => by rcases e with e | e | e <;> omega))
            have Hb5 := Lib.hid (below_ps Hb.out hK5 (by omega) (by omega) (by omega)); clear hK5
            obtain ⟨w6, hrun, hM6, hK6⟩ := HM5.out.run_update (P := Try.prog) (T := 28) (K := 3) (E := 4) (by kernel_rfl) (by kernel_rfl) (f + 1) (.bool true)
            have HP6 := Lib.hid (hP5.kept hK6 (by omega) (by omega) (by omega)); clear hP5
            have HM6 := Lib.hid hM6
            have Hb6 := Lib.hid (Hb5.out.trans (hK6.below Hb5.out.size (fun i hi e => by omega))); clear hK6 hM6
            go_wp2_with fail
            go_roundg (len - (j + 1))
            case measure => omega
            case rel => exact ⟨j + 1, _, _, by omega, by go_num, HP6.out, HB'.out, HM6.out, Hb6.out⟩
          · have hC0 := LeastC.start HB.out
            have HC0 := Lib.hid hC0; clear hC0
            have hleft : P.left = es.length := by unfold Pool.left; rw [HB.out.pn]; exact HB.out.left
            have hlen := HM.out.run_len (P := Try.prog) (T := 28) (K := 3) (E := 4) (by kernel_rfl) 3
            have e1 : ((es.length : Int) != (es.length : Int)) = false := by simp
            clear HB
            go_wp2_with fail
            refine (left_any pb db ob P _ HP.out).mono ?_
            rintro e w5 ⟨rfl, rfl⟩
            rw [hleft]
            clear hleft
            go_wp2_with fail
            clear hlen
            go_loopg [10] (m + 1) (fun g i wx => ∃ (j : Nat) (P : Pool), j + g = m + 1 ∧ i = .int .i64 ((j : Int) + 1) ∧ PoolAt wx pb db ob P ∧ LeastC P (m + 1) j es ∧ MapAt wx r es ∧ Below w.heap.size w wx)
            case atStart => exact ⟨0, P, by omega, rfl, HP.out, HC0.out, HM.out, Hb.out⟩
            case round =>
              clear HP HC0 HM Hb
              obtain ⟨j, P, hj, rfl, hP, hC, hM, hb⟩ := hrel
              have HP := Lib.hid hP; clear hP
              have HC := Lib.hid hC; clear hC
              have Hb := Lib.hid hb; clear hb
              by_cases hlt : j < m + 1
              · have hlk := hM.run_lookup (P := Try.prog) (T := 28) (K := 3) (E := 4) (by kernel_rfl) (by kernel_rfl) boolZero ((j : Int) + 1)
                have HM := Lib.hid hM; clear hM
                cases hl : look es ((j : Int) + 1) with
                | none =>
                  rw [hl] at hlk
                  have HC' := Lib.hid (HC.out.skip hlt hl); clear hl
                  go_wp2_with fail
                  go_roundg (m + 1 - (j + 1))
                  case measure => omega
                  case rel => exact ⟨j + 1, P, by omega, by go_num, HP.out, HC'.out, HM.out, Hb.out⟩
                | some v =>
                  rw [hl, HC.out.all _ _ hl] at hlk
                  have hst := (HC.out.step hlt (by rw [hl]; rfl)).1
                  have HC' := Lib.hid (HC.out.step hlt (by rw [hl]; rfl)).2; clear hl
                  have e3 : ((j : Int) + 1 != (j : Int) + 1) = false := by simp
                  go_wp2_with fail
                  refine (alloc_any pb db ob P _ _ HP.out).mono ?_
                  rintro e w5 ⟨rfl, hP5, hK5⟩
                  have HP5 := Lib.hid hP5
                  have HM5 := Lib.hid (HM.out.kept hK5 (fun e => by rcases e with e | e | e <;> omega))
                  have Hb5 := Lib.hid (below_ps Hb.out hK5 (by omega) (by omega) (by omega)); clear hK5 hP5
                  go_wp2_with fail
                  go_roundg (m + 1 - (j + 1))
                  case measure => omega
                  case rel => exact ⟨j + 1, _, by omega, by go_num, HP5.out, HC'.out, HM5.out, Hb5.out⟩
              · have hjm : j = m + 1 := by omega
                obtain ⟨g1, g2, g3, g4, g5, g6⟩ := LeastC.last (hjm ▸ HC.out)
                clear hjm HC
                obtain ⟨c1, hc1⟩ : ∃ c1, countTo P.O 1 P.n = c1 := ⟨_, rfl⟩
                obtain ⟨c2, hc2⟩ : ∃ c2, countTo P.O 2 P.n = c2 := ⟨_, rfl⟩
                obtain ⟨c3, hc3⟩ : ∃ c3, countTo P.O 3 P.n = c3 := ⟨_, rfl⟩
                obtain ⟨c9, hc9⟩ : ∃ c9, countTo P.O 9 P.n = c9 := ⟨_, rfl⟩
                rw [hc1, hc2, hc3] at g5
                rw [hc9] at g4
                have b1 : c1 + c2 + c3 ≤ m + 1 := by omega
                have e9 : ((c9 : Int) == (es.length : Int)) = true := by rw [g4]; simp
                have e6 : ((c1 : Int) + c2 + c3 == (m : Int) + 1 - (es.length : Int)) = true := by rw [beq_iff_eq]; omega
                have hlen := hM.run_len (P := Try.prog) (T := 28) (K := 3) (E := 4) (by kernel_rfl) 3
                have HM := Lib.hid hM; clear hM g4 g5
                have G3 := Lib.hid g3; clear g3
                go_wp2_with fail
                refine (left_any pb db ob P _ HP.out).mono ?_
                rintro e w5 ⟨rfl, rfl⟩
                go_wp2_with fail
                refine (alloc_any pb db ob P _ _ HP.out).mono ?_
                rintro e w5 ⟨rfl, hP5, hK5⟩
                rw [G3.out] at hP5
                have HP5 := Lib.hid hP5
                have HM5 := Lib.hid (HM.out.kept hK5 (fun e => by rcases e with e | e | e <;> omega))
                have hlen5 := HM5.out.run_len (P := Try.prog) (T := 28) (K := 3) (E := 4) (by kernel_rfl) 3
                have Hb5 := Lib.hid (below_ps Hb.out hK5 (by omega) (by omega) (by omega)); clear hK5 hP5 hlen
                go_wp2_with fail
                refine (count_any pb db ob P _ _ HP5.out).mono ?_
                rintro e w6 ⟨rfl, rfl⟩
                go_wp2_with fail
                refine (count_any pb db ob P _ _ HP5.out).mono ?_
                rintro e w6 ⟨rfl, rfl⟩
                go_wp2_with fail
                refine (count_any pb db ob P _ _ HP5.out).mono ?_
                rintro e w6 ⟨rfl, rfl⟩
                go_wp2_with fail
                refine (count_any pb db ob P _ _ HP5.out).mono ?_
                rintro e w6 ⟨rfl, rfl⟩
                go_wp2_with fail
                go_ret
                exact ⟨rfl, Hb5.out⟩
end Go.Proofs.Ytndnjimiabpkpaa
