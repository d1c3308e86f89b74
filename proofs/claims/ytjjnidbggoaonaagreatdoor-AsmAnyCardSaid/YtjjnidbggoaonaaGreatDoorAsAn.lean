/- The walk of AsmAny. -/
import Derived.Test.YtjjnidbggoaonaaGreatDoorAsFit
import Derived.Test.YtjjnidbggoaonaaGreatDoorAsIa
import Derived.Test.YtjjnidbggoaonaaGreatDoorAsAp
import Derived.Deep.LoopGhost
namespace Go.Proofs.YtjjnidbggoaonaaGreatDoor
open Go.RowKit Go.ChangeShapes
attribute [local irreducible] World.setCell World.alloc World.drew Calls Code.wp
attribute [local go_sem] Oper.semAt_some

theorem idx_SA (l : List UInt8) (i : Nat) (c : UInt8) (h : l[i]? = some c) (w : World) : (Instr.index 9 (S l) (.int .i64 (i : Int))).run Tryz.prog w = .ok (.int .u8 (c.toNat : Int)) w := by
  obtain ⟨hi, hc⟩ := List.getElem?_eq_some_iff.1 h
  rw [run_index_string _ _ _ _ _ Tryz.underlying9, dif_pos ⟨by omega, by rw [sz]; omega⟩]
  have : (⟨l.toArray⟩ : ByteArray)[((i : Nat) : Int).toNat]'(by rw [sz]; omega) = c := by
    show l.toArray[((i : Nat) : Int).toNat]'_ = c
    simp [hc]
  rw [this]
theorem nlines_take (l : List UInt8) (i : Nat) (c : UInt8) (h : l[i]? = some c) : nlines (l.take (i + 1)) = nlines (l.take i) + (if c = 10 then 1 else 0) := by
  obtain ⟨hi, hc⟩ := List.getElem?_eq_some_iff.1 h
  unfold nlines
  rw [List.take_succ_eq_append_getElem hi, hc, List.filter_append, List.length_append]
  by_cases e : c = 10
  · subst e; simp
  · have : (c == 10) = false := by simpa using e
    simp [this, e]
theorem nlines_le (l : List UInt8) : nlines l ≤ l.length + 1 := by
  unfold nlines
  have := List.length_filter_le (· == (10 : UInt8)) l
  omega

set_option maxRecDepth 100000 in
set_option maxHeartbeats 4000000 in
theorem any_walk (l : List UInt8) (w : World) (h : HasAz w) :
    Calls Tryz.prog 8 #[S l] w fun e w' => e = .returned (.bool true) ∧ Below w.heap.size w w' := by
  have H := Lib.hid h
  have Hfit := Lib.hid (fit24_any w h)
  clear h
  by_cases h3 : 3000 < l.length
  · have h3' : (3000 : Int) < l.length := by omega
    go_enter Tryz.func8, Tryz.ntmps8
    go_wp2_with fail
    refine Hfit.out.mono ?_
    rintro e w1 ⟨rfl, hb1⟩
    have HB1 := Lib.hid hb1
    clear hb1
    go_wp2_with fail
    go_ret
    exact ⟨rfl, HB1.out⟩
  have h3' : ¬ (3000 : Int) < l.length := by omega
  have Hasm := Lib.hid (fun w h => assemble_any l (by omega) (fun t _ ht => iaT_all t (by omega)) w h)
  have Hpl := Lib.hid (any_plain l)
  have hnl := nlines_le l
  go_enter Tryz.func8, Tryz.ntmps8
  go_wp2_with fail
  refine Hfit.out.mono ?_
  rintro e w1 ⟨rfl, hb1⟩
  have HB1 := Lib.hid hb1
  clear hb1
  go_wp2_with fail
  refine (Hasm.out _ (H.out.below HB1.out).base).mono ?_
  rintro e w2 ⟨v, rfl, hv, hb2⟩
  have HB2 := Lib.hid (bel_from HB1.out hb2)
  clear hb2
  obtain ⟨⟨L, k, m⟩, hr⟩ : ∃ r, assemble l = r := ⟨_, rfl⟩
  rw [hr] at hv Hpl ⊢
  have Hp : Hid ((k = 0 → m = 0 ∧ L.length % 8 = 0 ∧ L.length ≤ 1024) ∧ (k ≠ 0 → L = [] ∧ m ≤ nlines l ∧ (0 < m ∨ k = 7))) := Hpl.out
  have hv : StrIn w2 v L := hv
  obtain ⟨vx, vc, rfl, ⟨-, hcm⟩, -⟩ := hv
  have hLm : L.length ≤ 1024 := by
    by_cases hk : k = 0
    · exact (Hp.out.1 hk).2.2
    · rw [(Hp.out.2 hk).1]; simp
  obtain ⟨fb, hfb⟩ : ∃ fb, fb = w2.heap.size := ⟨_, rfl⟩
  obtain ⟨w3, hw3⟩ : ∃ w3 : World, w3 = w2.alloc (.cells #[.int .i64 (k : Nat), .int .i64 (m : Nat)] 30) := ⟨_, rfl⟩
  have HF3 : Hid (Blk w3 fb #[.int .i64 (k : Nat), .int .i64 (m : Nat)] 30) := by rw [hw3, hfb]; exact Blk.new _ _ _
  have HB3 : Hid (Below w.heap.size w w3) := by rw [hw3]; exact HB2.out.alloc HB2.out.size _
  clear hr hcm Hpl
  go_wp2_with fail
  rw [← hw3, ← hfb]
  clear hw3 hfb
  go_loopg [5, 6, 19] l.length (fun g vn _ vi wx => ∃ i : Nat, i + g = l.length ∧ vn = .int .i64 (nlines (l.take i) : Nat) ∧ vi = .int .i64 i ∧ wx = w3)
  case atStart => exact ⟨0, by omega, rfl, rfl, rfl⟩
  case round =>
    obtain ⟨i, hi, rfl, rfl, rfl⟩ := hrel
    by_cases hil : i < l.length
    · have hil' : (i : Int) < l.length := by omega
      obtain ⟨c, hc⟩ : ∃ c, l[i]? = some c := ⟨_, List.getElem?_eq_getElem hil⟩
      have hix := idx_SA l i c hc
      have HT := Lib.hid (nlines_take l i c hc)
      have hn1 := nlines_le (l.take i)
      rw [List.length_take] at hn1
      obtain ⟨N, hN⟩ : ∃ N, nlines (l.take i) = N := ⟨_, rfl⟩
      rw [hN] at HT hn1 ⊢
      have hwN : IntKind.i64.wrap ((N : Int) + 1) = N + 1 := IntWalk.i64_in _ (by omega)
      clear hc hN
      by_cases h10 : c = 10
      · subst h10
        rw [if_pos rfl] at HT
        go_wp2_with fail
        go_roundg (l.length - (i + 1))
        case measure => omega
        case rel => exact ⟨i + 1, by omega, by rw [HT.out]; rfl, by go_num, rfl⟩
      · have hcb : ((c.toNat : Int) == 10) = false := by
          simp only [beq_eq_false_iff_ne, ne_eq]
          intro e
          exact h10 (UInt8.toNat_inj.1 (by rw [show c.toNat = 10 by omega]; rfl))
        rw [if_neg h10] at HT
        clear h10
        go_wp2_with fail
        go_roundg (l.length - (i + 1))
        case measure => omega
        case rel => exact ⟨i + 1, by omega, by rw [HT.out]; rfl, by go_num, rfl⟩
    · obtain rfl : i = l.length := by omega
      rw [List.take_length]
      obtain ⟨N, hN⟩ : ∃ N, nlines l = N := ⟨_, rfl⟩
      rw [hN] at Hp hnl ⊢
      clear hN
      have hf := HF3.out.cell
      by_cases hk : k = 0
      · obtain ⟨rfl, q1, q2⟩ := Hp.out.1 hk
        subst hk
        have q3 : (L.length : Int).tmod 8 = 0 := by rw [Int.tmod_eq_emod_of_nonneg (by omega)]; omega
        have q4 : (L.length : Int) ≤ 1024 := by omega
        go_wp2_with fail
        go_ret
        exact ⟨rfl, HB3.out⟩
      · obtain ⟨rfl, q1, q2⟩ := Hp.out.2 hk
        have q3 : ((k : Int) == 0) = false := by simp; omega
        have q4 : (0 : Int) ≤ m := by omega
        have q5 : (m : Int) ≤ N := by omega
        rcases Nat.eq_zero_or_pos m with h0 | h0
        · obtain rfl : k = 7 := by omega
          subst h0
          go_wp2_with fail
          go_ret
          exact ⟨rfl, HB3.out⟩
        · have q6 : (0 : Int) < m := by omega
          go_wp2_with fail
          go_ret
          exact ⟨rfl, HB3.out⟩
theorem any_law (s : ByteArray) (W : World) (_ : s.size ≤ maxLen) (h : HasAz W) :
    Calls Tryz.prog 8 #[.string s] W fun e w' => e = .returned (.bool true) ∧ Below W.heap.size W w' := by
  have := any_walk s.data.toList W h
  have e : S s.data.toList = .string s := by show Value.string ⟨s.data.toList.toArray⟩ = _; simp
  rwa [e] at this
end Go.Proofs.YtjjnidbggoaonaaGreatDoor
