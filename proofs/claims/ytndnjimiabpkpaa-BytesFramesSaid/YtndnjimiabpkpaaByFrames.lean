/- The walk of BytesFrames: pages have frames of their own, all charged to the owner. -/
import Derived.Test.YtndnjimiabpkpaaSgF
import Derived.Test.YtndnjimiabpkpaaMap
namespace Go.Proofs.Ytndnjimiabpkpaa
open Go.RowKit
attribute [local irreducible] World.setCell World.alloc World.drew World.setRow Calls Code.wp row

theorem frame_nat (sb si : Nat) (cs : Array Value) (lo : Nat) (v : Value) (L : List Int) (i : Nat) (w : World) (hS : SegAt w sb si cs lo v L) :
    Calls Try.prog 31 #[.pointer (some ⟨sb, si, none⟩), .int .i64 i] w fun e w' => e = .returned (.int .i64 (L.getD i 0)) ∧ w = w' := by
  by_cases h : i < L.length
  · exact frame_yes sb si cs lo v L i w hS h
  · have e : L.getD i 0 = 0 := by simp [List.getD, List.getElem?_eq_none (Nat.le_of_not_lt h)]
    rw [e]; exact frame_no sb si cs lo v L i w hS (.inr (by omega))
theorem sread_nil (pb : Nat) (w : World) :
    Calls Try.prog 30 #[.pointer none, .pointer (some ⟨pb, 0, none⟩), .int .i64 0, .int .i64 1] w fun e w' => e = .returned (.tuple #[.slice none 0 0, .bool false]) ∧ w = w' := by
  have hw : ∀ w, Calls Try.prog 50 #[.pointer none, .int .i64 0, .int .i64 1] w fun e w' => e = .returned (.bool false) ∧ w = w' := by
    intro w
    go_enter Try.func50, Try.ntmps50
    go_wp2_with (go_at_call 33; refine (size_nil _).mono ?_; rintro e w' ⟨rfl, rfl⟩)
    go_ret
    exact ⟨rfl, rfl⟩
  go_enter Try.func30, Try.ntmps30
  go_wp2_with fail
  refine (hw _).mono ?_
  rintro e w' ⟨rfl, rfl⟩
  go_wp2_with fail
  go_ret2
  exact ⟨rfl, rfl⟩
theorem resize_nil (pb : Nat) (o n : Int) (w : World) :
    Calls Try.prog 28 #[.pointer none, .pointer (some ⟨pb, 0, none⟩), .int .u64 o, .int .i64 n] w fun e w' => e = .returned (.bool false) ∧ ∃ k, w' = w.drewN k := by
  go_enter Try.func28, Try.ntmps28
  go_wp2_with fail
  go_quiet (fail)
  go_wp2_with fail
  go_ret
  exact ⟨rfl, _, rfl⟩
theorem boolZero' (w : World) : (zeroValue 4).run Try.prog w = .ok (.bool false) w := by kernel_rfl

set_option maxRecDepth 100000 in
set_option maxHeartbeats 4000000 in
theorem frames_walk (n k : Int) (w : World) (_ : (Lit.int .i64 n).wf = true) (_ : (Lit.int .i64 k).wf = true) :
    Calls Try.prog 9 #[.int .i64 n, .int .i64 k] w fun e w' => e = .returned (.bool true) ∧ Below w.heap.size w w' := by
  obtain ⟨n', hn, hn16⟩ : ∃ m : Nat, n % 16 = (m : Int) ∧ m < 16 := ⟨(n % 16).toNat, by omega, by omega⟩
  obtain ⟨k', hk, hk16⟩ : ∃ m : Nat, k % 16 = (m : Int) ∧ m < 16 := ⟨(k % 16).toNat, by omega, by omega⟩
  have hand : bits .and .i64 n 15 = (n' : Int) := by rw [and15, hn]
  have hand2 : bits .and .i64 k 15 = (k' : Int) := by rw [and15, hk]
  have hmm := @run_makeMap Try.prog
  clear hn hk
  go_enter Try.func9, Try.ntmps9
  go_wp2_with fail
  refine (fit14_any _).mono ?_
  rintro e w0 ⟨rfl, hb0⟩
  have Hb0 := Lib.hid hb0
  have hsz0 := hb0.size
  clear hb0
  go_wp2_with fail
  refine (new_any 40 _ (by omega) (by omega)).mono ?_
  rintro e w1 ⟨pb, db, ob, rfl, hP, l1, l2, l3, hb⟩
  have hb1 := Hb0.out.trans (hb.mono hsz0)
  have hsz := hb1.size
  have hlp : pb < w1.heap.size ∧ db < w1.heap.size ∧ ob < w1.heap.size := ⟨hP.hp.lt, hP.hd.lt, hP.ho.lt⟩
  have HB : Hid (w.heap.size ≤ pb ∧ w.heap.size ≤ db ∧ w.heap.size ≤ ob) := ⟨by omega, by omega, by omega⟩
  have HS : Hid (Seg ((w1.alloc (.cells #[.slice none 0 0] 54)).alloc (.cells #[.slice none 0 0] 54)) w1.heap.size 0 pb db ob #[.slice none 0 0] (w1.heap.size + 1) (.slice none 0 0) [] (newPool 40) 5) :=
    Seg.alloc ⟨seg_new w1, hP.alloc _, segIn_new 40 5 (by omega), by simp, hlp⟩ _
  have HT : Hid (Seg ((w1.alloc (.cells #[.slice none 0 0] 54)).alloc (.cells #[.slice none 0 0] 54)) (w1.heap.size + 1) 0 pb db ob #[.slice none 0 0] (w1.heap.size + 2) (.slice none 0 0) [] (newPool 40) 9) := by
    have h := seg_new (w1.alloc (.cells #[.slice none 0 0] 54))
    have e : (w1.alloc (.cells #[.slice none 0 0] 54)).heap.size = w1.heap.size + 1 := by simp
    rw [e] at h
    exact ⟨h, (hP.alloc _).alloc _, segIn_new 40 9 (by omega), by simp, by omega⟩
  have Hb := Lib.hid ((hb1.alloc hsz (.cells #[.slice none 0 0] 54)).alloc (by simp; omega) (.cells #[.slice none 0 0] 54))
  clear hP hb hlp l1 l2 l3 hb1
  go_wp2_with fail
  have hf1 : segR (newPool 40) [] 9 ((3 : Nat) : Int) = true := by decide
  refine (HT.out.resize 3 hf1).mono ?_
  rintro e w2 ⟨rfl, v2, L2, P2, hR2, hT2⟩
  have HS2 : Hid (Seg w2 w1.heap.size 0 pb db ob #[.slice none 0 0] (w1.heap.size + 1) (.slice none 0 0) [] P2 5) :=
    ⟨HS.out.seg.kept hR2.kept (by have := HS.out.lp; rintro ((e | e | e) | e | e) <;> first | omega | cases e) (fun g hg => by cases hg), hR2.pool, hR2.mv.segIn HS.out.inn (by omega), Nat.le_trans HS.out.lo hR2.kept.size, HS.out.lp⟩
  have Hb2 := Lib.hid (Hb.out.trans (HT.out.rs HB.out (by simp; omega) hR2.kept))
  have Hl2 : Hid (P2.left = 37) := by
    have h := hR2.left
    have e1 : (newPool 40).left = 40 := by decide
    simp at h; unfold Hid; omega
  clear hR2 hT2 hf1 HS HT
  go_wp2_with fail
  have hf2 : segR P2 [] 5 (n' : Int) = true := by rw [segR_iff]; have := Hl2.out; exact ⟨by omega, by omega, by simp; omega, by omega⟩
  refine (HS2.out.resize n' hf2).mono ?_
  rintro e w3 ⟨rfl, v3, L3, P3, hR3, hS3⟩
  have HS3 := Lib.hid hS3
  have Hlen3 := Lib.hid hR3.len
  have Hl3 : Hid (P3.left + n' = 37) := by have h := hR3.left; have := Hl2.out; simp at h; unfold Hid; omega
  have Hb3 := Lib.hid (Hb2.out.trans (HS2.out.rs HB.out Hb2.out.size hR3.kept))
  clear hR3 hS3 hf2
  have hsz3 := Hb3.out.size
  have hw3 := HS3.out.seg.hb.lt
  have hlp3 := HS3.out.lp
  go_wp2_with fail
  have HM4 := Lib.hid (MapAt.new w3)
  have HS4 := Lib.hid (HS3.out.alloc (.map #[] 0))
  have Hb4 := Lib.hid (Hb3.out.alloc hsz3 (.map #[] 0))
  obtain ⟨r, hr⟩ : ∃ r : Nat, r = w3.heap.size := ⟨_, rfl⟩
  have hrl : w.heap.size ≤ r := by omega
  have hrg : ∀ g, v3.ownBlock = some g → g < r := fun g hg => by have := (HS3.out.seg.hv.lt g hg).2; omega
  have Hrg := Lib.hid hrg
  have hr3 : w1.heap.size < r := by omega
  rw [← hr] at HM4 ⊢
  generalize hw4 : w3.alloc (.map #[] 0) = w4 at *
  clear hw4 hr hsz3 hw3 HS3 Hb3 hrg
  go_loopg [9, 10, 33] n' (fun g _ _ i wx => ∃ (j : Nat) (es : List (Int × Value)), j + g = n' ∧ i = .int .i64 j ∧ MapAt wx r es ∧ (∀ x, look es x ≠ none → ∃ q, q < j ∧ x = L3.getD q 0) ∧ Seg wx w1.heap.size 0 pb db ob ((#[.slice none 0 0] : Array Value).setIfInBounds 0 v3) (w1.heap.size + 1) v3 L3 P3 5 ∧ Below w.heap.size w wx)
  case atStart => exact ⟨0, [], by omega, rfl, HM4.out, fun x hx => absurd (look_nil x) hx, HS4.out, Hb4.out⟩
  case round =>
    clear HM4 HS4 Hb4
    obtain ⟨j, es, hj, rfl, hM, hes, hS, hb⟩ := hrel
    have HM := Lib.hid hM; have HS := Lib.hid hS; have Hb := Lib.hid hb; have Hes := Lib.hid hes
    clear hM hS hb hes
    by_cases hlt : j < n'
    · obtain ⟨f, hf⟩ : ∃ f, L3.getD j 0 = f := ⟨_, rfl⟩
      have hjl : j < L3.length := by have := Hlen3.out; omega
      have hmem : f ∈ L3 := by rw [← hf]; exact getD_mem hjl
      have hno : look es f = none := by
        rcases h : look es f with _ | y
        · rfl
        · obtain ⟨q, hq, e⟩ := Hes.out f (by rw [h]; simp)
          rw [← hf] at e
          have e1 : L3.getD j 0 = L3[j] := by simp [List.getD, hjl]
          have e2 : L3.getD q 0 = L3[q]'(by omega) := by simp [List.getD, show q < L3.length by omega]
          rw [e1, e2] at e
          exact absurd (nodup_inj HS.out.inn.nd hjl (by omega) e) (by omega)
      have hlk := HM.out.run_lookup (P := Try.prog) (T := 28) (K := 3) (E := 4) (by kernel_rfl) (by kernel_rfl) boolZero' f
      rw [hno] at hlk
      have Hf := Lib.hid hf
      have Hown : Hid (P3.owner f = 5) := HS.out.inn.own f hmem
      obtain ⟨w6, hrun, hM6, hK6⟩ := HM.out.run_update (P := Try.prog) (T := 28) (K := 3) (E := 4) (by kernel_rfl) (by kernel_rfl) f (.bool true)
      have HS6 : Hid (Seg w6 w1.heap.size 0 pb db ob ((#[.slice none 0 0] : Array Value).setIfInBounds 0 v3) (w1.heap.size + 1) v3 L3 P3 5) :=
        ⟨HS.out.seg.kept hK6 (by omega) (fun g hg => by have := Hrg.out g hg; omega), HS.out.pool.kept hK6 (by omega) (by omega) (by omega), HS.out.inn, Nat.le_trans HS.out.lo hK6.size, HS.out.lp⟩
      have HM6 := Lib.hid hM6
      have Hb6 := Lib.hid (Hb.out.trans (hK6.below Hb.out.size (fun i hi e => by omega)))
      clear hM6 hK6 hf hmem hno
      go_wp2_with fail
      refine (frame_nat _ 0 _ _ _ L3 j _ HS.out.seg).mono ?_
      rintro e w5 ⟨rfl, rfl⟩
      rw [Hf.out]
      go_wp2_with fail
      refine (owner_any pb db ob P3 f _ HS.out.pool).mono ?_
      rintro e w5 ⟨rfl, rfl⟩
      rw [Hown.out]
      go_wp2_with fail
      go_roundg (n' - (j + 1))
      case measure => omega
      case rel =>
        refine ⟨j + 1, _, by omega, by go_num, HM6.out, fun x hx => ?_, HS6.out, Hb6.out⟩
        rw [look_put] at hx
        by_cases e : x = f
        · exact ⟨j, by omega, by rw [e, Hf.out]⟩
        · rw [if_neg e] at hx
          obtain ⟨q, hq, e⟩ := Hes.out x hx
          exact ⟨q, by omega, e⟩
    · have hjn : ¬ j < n' := hlt
      clear hlt
      obtain ⟨first, hfirst⟩ : ∃ f, L3.getD 0 0 = f := ⟨_, rfl⟩
      have Hfirst := Lib.hid hfirst; clear hfirst
      go_wp2_with fail
      refine (frame_nat _ 0 _ _ _ L3 0 _ HS.out.seg).mono ?_
      rintro e w5 ⟨rfl, rfl⟩
      rw [Hfirst.out]
      have hf5 : segR P3 L3 5 (k' : Int) = true := by rw [segR_iff, Hlen3.out]; have := Hl3.out; exact ⟨by omega, by omega, by omega, by omega⟩
      have Hf5 := Lib.hid hf5; clear hf5
      go_wp2_with fail
      refine (HS.out.resize k' Hf5.out).mono ?_
      rintro e w6 ⟨rfl, v6, L6, P6, hR6, hS6⟩
      have HS6 := Lib.hid hS6
      have Hlen6 := Lib.hid hR6.len
      have Hl6 : Hid ((P6.left : Int) = 37 - (k' : Int)) := by have h := hR6.left; have := Hl3.out; have := Hlen3.out; unfold Hid; omega
      have Hc6 : Hid ((if (5 : Int) = 0 then (0 : Int) else (countTo P6.O 5 P6.n : Nat)) = (k' : Int)) := by
        unfold Hid; rw [if_neg (by omega), hS6.inn.cnt, hR6.len]
      have Hb6 := Lib.hid (Hb.out.trans (HS.out.rs HB.out Hb.out.size hR6.kept))
      have Hfi : Hid (0 < n' → 0 < k' → L6.getD 0 0 = first) := fun h1 h2 => by rw [hR6.first 0 h2 (by have := Hlen3.out; omega)]; exact Hfirst.out
      clear hR6 hS6
      have e1 : ((k' : Int) != (k' : Int)) = false := by simp
      have e2 : ((37 : Int) - (k' : Int) != 37 - (k' : Int)) = false := by simp
      go_wp2_with fail
      refine (count_any pb db ob P6 5 _ HS6.out.pool).mono ?_
      rintro e w7 ⟨rfl, rfl⟩
      rw [Hc6.out]
      go_wp2_with fail
      refine (left_any pb db ob P6 _ HS6.out.pool).mono ?_
      rintro e w7 ⟨rfl, rfl⟩
      rw [Hl6.out]
      have hcase : (0 < n' ∧ 0 < k') ∨ (0 < n' ∧ k' = 0) ∨ n' = 0 := by omega
      have Hk6 : Hid (L6.getD k' 0 = 0) := by unfold Hid; simp [List.getD, List.getElem?_eq_none (Nat.le_of_eq Hlen6.out)]
      have Hf0 : Hid (segR P6 L6 0 (k' : Int) = false) := by unfold Hid segR; simp
      have Hf17 : Hid (segR P6 L6 5 17 = false) := by unfold Hid segR; simp
      rcases hcase with ⟨g1, g2⟩ | ⟨g1, g2⟩ | g1
      · have hfe := Hfi.out g1 g2
        have Hfe := Lib.hid hfe; clear hfe
        have e3 : (first != first) = false := by simp
        have hmin : (0 : Int) < n' := by omega
        have hmin2 : (0 : Int) < k' := by omega
        go_wp2_with fail
        all_goals
          refine (frame_nat _ 0 _ _ _ L6 0 _ HS6.out.seg).mono ?_
          rintro e w7 ⟨rfl, rfl⟩
          rw [Hfe.out]
          go_wp2_with fail
          refine (sread_nil pb _).mono ?_
          rintro e w7 ⟨rfl, rfl⟩
          go_wp2_with fail
          refine (frame_no _ 0 _ _ _ L6 (-1) _ HS6.out.seg (.inl (by omega))).mono ?_
          rintro e w7 ⟨rfl, rfl⟩
          go_wp2_with fail
          refine (frame_nat _ 0 _ _ _ L6 k' _ HS6.out.seg).mono ?_
          rintro e w7 ⟨rfl, rfl⟩
          rw [Hk6.out]
          go_wp2_with fail
          refine (pages_nil _).mono ?_
          rintro e w7 ⟨rfl, rfl⟩
          go_wp2_with fail
          refine (size_nil _).mono ?_
          rintro e w7 ⟨rfl, rfl⟩
          go_wp2_with fail
          refine (resize_nil pb 1 0 _).mono ?_
          rintro e w7 ⟨rfl, q1, hw⟩
          have HS7 := Lib.hid (HS6.out.drewN q1)
          have Hb7 := Lib.hid (below_drewN Hb6.out q1)
          rw [← hw] at HS7 Hb7
          clear hw
          go_wp2_with fail
          refine (resize_no _ 0 pb db ob _ _ _ L6 P6 0 k' _ HS7.out.seg HS7.out.pool Hf0.out).mono ?_
          rintro e w8 ⟨rfl, q2, hw⟩
          have HS8 := Lib.hid (HS7.out.drewN q2)
          have Hb8 := Lib.hid (below_drewN Hb7.out q2)
          rw [← hw] at HS8 Hb8
          clear hw
          go_wp2_with fail
          refine (resize_no _ 0 pb db ob _ _ _ L6 P6 5 17 _ HS8.out.seg HS8.out.pool Hf17.out).mono ?_
          rintro e w9 ⟨rfl, q3, hw⟩
          have HS9 := Lib.hid (HS8.out.drewN q3)
          have Hb9 := Lib.hid (below_drewN Hb8.out q3)
          rw [← hw] at HS9 Hb9
          clear hw
          go_wp2_with fail
          go_ret
          exact ⟨by simp, Hb9.out⟩
      · have hnk : ¬ (0 : Int) < k' := by omega
        have hkn : ¬ (n' : Int) ≤ k' := by omega
        clear g1 g2
        go_wp2_with fail
        refine (sread_nil pb _).mono ?_
        rintro e w7 ⟨rfl, rfl⟩
        go_wp2_with fail
        refine (frame_no _ 0 _ _ _ L6 (-1) _ HS6.out.seg (.inl (by omega))).mono ?_
        rintro e w7 ⟨rfl, rfl⟩
        go_wp2_with fail
        refine (frame_nat _ 0 _ _ _ L6 k' _ HS6.out.seg).mono ?_
        rintro e w7 ⟨rfl, rfl⟩
        rw [Hk6.out]
        go_wp2_with fail
        refine (pages_nil _).mono ?_
        rintro e w7 ⟨rfl, rfl⟩
        go_wp2_with fail
        refine (size_nil _).mono ?_
        rintro e w7 ⟨rfl, rfl⟩
        go_wp2_with fail
        refine (resize_nil pb 1 0 _).mono ?_
        rintro e w7 ⟨rfl, q1, hw⟩
        have HS7 := Lib.hid (HS6.out.drewN q1)
        have Hb7 := Lib.hid (below_drewN Hb6.out q1)
        rw [← hw] at HS7 Hb7
        clear hw
        go_wp2_with fail
        refine (resize_no _ 0 pb db ob _ _ _ L6 P6 0 k' _ HS7.out.seg HS7.out.pool Hf0.out).mono ?_
        rintro e w8 ⟨rfl, q2, hw⟩
        have HS8 := Lib.hid (HS7.out.drewN q2)
        have Hb8 := Lib.hid (below_drewN Hb7.out q2)
        rw [← hw] at HS8 Hb8
        clear hw
        go_wp2_with fail
        refine (resize_no _ 0 pb db ob _ _ _ L6 P6 5 17 _ HS8.out.seg HS8.out.pool Hf17.out).mono ?_
        rintro e w9 ⟨rfl, q3, hw⟩
        have HS9 := Lib.hid (HS8.out.drewN q3)
        have Hb9 := Lib.hid (below_drewN Hb8.out q3)
        rw [← hw] at HS9 Hb9
        clear hw
        go_wp2_with fail
        go_ret
        exact ⟨by simp, Hb9.out⟩
      · have hnk : ¬ (0 : Int) < n' := by omega
        have hkn : (n' : Int) ≤ k' := by omega
        clear g1
        go_wp2_with fail
        refine (sread_nil pb _).mono ?_
        rintro e w7 ⟨rfl, rfl⟩
        go_wp2_with fail
        refine (frame_no _ 0 _ _ _ L6 (-1) _ HS6.out.seg (.inl (by omega))).mono ?_
        rintro e w7 ⟨rfl, rfl⟩
        go_wp2_with fail
        refine (frame_nat _ 0 _ _ _ L6 k' _ HS6.out.seg).mono ?_
        rintro e w7 ⟨rfl, rfl⟩
        rw [Hk6.out]
        go_wp2_with fail
        refine (pages_nil _).mono ?_
        rintro e w7 ⟨rfl, rfl⟩
        go_wp2_with fail
        refine (size_nil _).mono ?_
        rintro e w7 ⟨rfl, rfl⟩
        go_wp2_with fail
        refine (resize_nil pb 1 0 _).mono ?_
        rintro e w7 ⟨rfl, q1, hw⟩
        have HS7 := Lib.hid (HS6.out.drewN q1)
        have Hb7 := Lib.hid (below_drewN Hb6.out q1)
        rw [← hw] at HS7 Hb7
        clear hw
        go_wp2_with fail
        refine (resize_no _ 0 pb db ob _ _ _ L6 P6 0 k' _ HS7.out.seg HS7.out.pool Hf0.out).mono ?_
        rintro e w8 ⟨rfl, q2, hw⟩
        have HS8 := Lib.hid (HS7.out.drewN q2)
        have Hb8 := Lib.hid (below_drewN Hb7.out q2)
        rw [← hw] at HS8 Hb8
        clear hw
        go_wp2_with fail
        refine (resize_no _ 0 pb db ob _ _ _ L6 P6 5 17 _ HS8.out.seg HS8.out.pool Hf17.out).mono ?_
        rintro e w9 ⟨rfl, q3, hw⟩
        have HS9 := Lib.hid (HS8.out.drewN q3)
        have Hb9 := Lib.hid (below_drewN Hb8.out q3)
        rw [← hw] at HS9 Hb9
        clear hw
        go_wp2_with fail
        go_ret
        exact ⟨by simp, Hb9.out⟩
end Go.Proofs.Ytndnjimiabpkpaa
