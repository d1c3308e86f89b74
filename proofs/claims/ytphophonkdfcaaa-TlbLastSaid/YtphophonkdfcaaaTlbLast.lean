/- The walk of TlbLast: it returns true, whatever the list. -/
import Derived.Test.YtphophonkdfcaaaTlbRunsP
import Derived.Deep.LoopGhost
import Derived.Deep.DeepCutAuto
import Derived.Deep.CutBlock
import Derived.Lib.SmallJoins
namespace Go.Proofs.Ytphophonkdfcaaa
open Go.RowKit
attribute [local irreducible] World.setCell World.alloc World.drew Calls Code.wp

theorem own_kept {S : Nat → Prop} {w w' : World} {base e size n : Nat} {v : Value} {xs : List Value} (h : w.ownsRow base e size v n xs) (k : Kept S w w') (hs : ∀ g, v.ownBlock = some g → ¬ S g) : w'.ownsRow base e size v n xs := by
  obtain ⟨h1, h2⟩ := h
  refine ⟨h1, h2.imp id ?_⟩
  rintro ⟨g, cap, cur, hv, hg, hh, r⟩
  refine ⟨g, cap, cur, hv, hg, ?_, r⟩
  rw [k.block g (Array.getElem?_eq_some_iff.1 hh).1 (hs g (by rw [hv]; rfl))]
  exact hh

theorem Blk.grown {w w' : World} {b t : Nat} {c : Array Value} {row : Option Nat} (h : Blk w b c t) (hg : w.grownBy w' row) (hne : row = some b → False) : Blk w' b c t := by
  have := hg.block b h.lt (fun e => hne e.symm)
  unfold Blk at h ⊢; rw [this]; exact h

theorem Pl.find_put {t : Pl} (g : t.Good) (p f : Int) (hf : 1 ≤ f) (rw : Bool) : (t.put p f rw).find p false = f := by
  have gg := g.put p f rw
  have hn0 := g.n0
  have hn4 := g.n4
  obtain ⟨k, hk, e⟩ : ∃ k : Nat, k < 4 ∧ ((t.put p f rw).p k = p ∧ (t.put p f rw).f k = f) := by
    unfold Pl.put
    rw [if_neg (by omega)]
    by_cases h0 : t.atTo p 4 < 0
    · rw [if_pos h0]; exact ⟨t.n.toNat, by omega, by simp [Pl.store, upd], by simp [Pl.store, upd]⟩
    · rw [if_neg h0]
      have := t.atTo_bd p 4
      exact ⟨(t.atTo p 4).toNat, by omega, by simp [Pl.store, upd], by simp [Pl.store, upd]⟩
  generalize t.put p f rw = s at gg e
  have hk1 : s.hit p false k = true := by simp [Pl.hit, e.1, e.2]; omega
  rw [find_at s p false k hk (fun j hj => ?_) hk1, e.2]
  cases hh : s.hit p false j
  · rfl
  · simp [Pl.hit] at hh hk1
    have := gg.u j k (by omega) hk hh.1 hk1.1 (by rw [hh.2, hk1.2])
    omega

theorem Pl.put_w {t : Pl} (h : ∀ k, t.w k = false) (p f : Int) (k : Nat) : (t.put p f false).w k = false := by
  unfold Pl.put
  (repeat' split)
  · exact h k
  · simp only [Pl.store, upd]; split
    · rfl
    · exact h k
  · simp only [Pl.store, upd]; split
    · rfl
    · exact h k

theorem Pl.find_w {t : Pl} (h : ∀ k, t.w k = false) (p : Int) : t.find p true = 0 := by
  simp [Pl.find, Pl.hit, h]

theorem Pl.len_find {t : Pl} (p : Int) (h : t.find p false ≠ 0) : t.lenTo 4 ≠ 0 := by
  intro hl
  have b0 := t.lenTo_bd 0; have b1 := t.lenTo_bd 1; have b2 := t.lenTo_bd 2; have b3 := t.lenTo_bd 3
  have e4 : t.lenTo 4 = t.lenTo 3 + (if t.f 3 != 0 then 1 else 0) := rfl
  have e3 : t.lenTo 3 = t.lenTo 2 + (if t.f 2 != 0 then 1 else 0) := rfl
  have e2 : t.lenTo 2 = t.lenTo 1 + (if t.f 1 != 0 then 1 else 0) := rfl
  have e1 : t.lenTo 1 = t.lenTo 0 + (if t.f 0 != 0 then 1 else 0) := rfl
  have z3 : t.f 3 = 0 := by by_cases z : t.f 3 = 0; exact z; rw [if_pos (by simpa using z)] at e4; omega
  have z2 : t.f 2 = 0 := by by_cases z : t.f 2 = 0; exact z; rw [if_pos (by simpa using z)] at e3; rw [z3] at e4; simp at e4; omega
  have z1 : t.f 1 = 0 := by by_cases z : t.f 1 = 0; exact z; rw [if_pos (by simpa using z)] at e2; rw [z3] at e4; rw [z2] at e3; simp at e4 e3; omega
  have z0 : t.f 0 = 0 := by by_cases z : t.f 0 = 0; exact z; rw [if_pos (by simpa using z)] at e1; rw [z3] at e4; rw [z2] at e3; rw [z1] at e2; simp at e4 e3 e2; omega
  exact h (by simp [Pl.find, Pl.hit, z0, z1, z2, z3])

/-- The four first puts. -/
def lastBase : Nat → Pl
  | 0 => Pl.zero
  | k + 1 => (lastBase k).put (1000 + k) 9 false
theorem lastBase_n (k : Nat) : 0 ≤ (lastBase k).n ∧ (lastBase k).n < 4 := by
  induction k with
  | zero => exact ⟨by decide, by decide⟩
  | succ k ih => exact Pl.put_n _ _ _ _ ih.1 ih.2

/-- The puts of the list. -/
def lastTo (xs : Nat → Int) : Nat → Pl
  | 0 => Pl.zero
  | j + 1 => (lastTo xs j).put (xs j % 65536) (xs j % 65536 + 1) false
theorem lastTo_good (xs : Nat → Int) (j : Nat) : (lastTo xs j).Good ∧ ∀ k, (lastTo xs j).w k = false := by
  induction j with
  | zero => exact ⟨Pl.zero_good, fun _ => rfl⟩
  | succ j ih => exact ⟨ih.1.put _ _ _, fun k => Pl.put_w ih.2 _ _ k⟩
theorem lastTo_find (xs : Nat → Int) (j : Nat) : (lastTo xs (j + 1)).find (xs j % 65536) false = xs j % 65536 + 1 ∧ (lastTo xs (j + 1)).find (xs j % 65536) true = 0 :=
  ⟨Pl.find_put (lastTo_good xs j).1 _ _ (by omega) _, Pl.find_w (lastTo_good xs (j + 1)).2 _⟩
theorem lastTo_len (xs : Nat → Int) (j : Nat) : (lastTo xs j).lenTo 4 ≤ 4 ∧ ((lastTo xs j).lenTo 4 = 0 ↔ j = 0) := by
  refine ⟨by have := (lastTo xs j).lenTo_bd 4; omega, fun h => ?_, fun h => by subst h; rfl⟩
  cases j with
  | zero => rfl
  | succ j =>
    exfalso
    refine Pl.len_find (xs j % 65536) ?_ h
    rw [(lastTo_find xs j).1]; omega

theorem last_info : (Try.prog.info? 3).map (fun i => (i.zero, i.size, i.bytes)) = some (some (.int .i64 0), 1, 8) := by kernel_rfl

set_option maxRecDepth 100000 in
set_option maxHeartbeats 2000000 in
theorem last_walk (a0 : Option Addr) (len cap : Nat) (zs : List Int) (w : World) (hr : IsRow .i64 w a0 len cap zs) :
    Calls Try.prog 5 #[.slice a0 len cap] w fun e w' => e = .returned (.bool true) ∧ Below w.heap.size w w' := by
  obtain ⟨b, off, xs, hix, hcell, hblt, hmax, _⟩ := row_open (P := Try.prog) (T := 22) (E := 3) (by kernel_rfl) (fun w => by kernel_rfl) hr
  have hmax : len ≤ 9223372036854775807 := by unfold maxLen at hmax; omega
  have Hix := Lib.hid hix; clear hix
  have Hcell := Lib.hid hcell; clear hcell
  have Hblt := Lib.hid hblt; clear hblt hr
  obtain ⟨i0, hi, hz0, hz1, hz2⟩ := info_parts last_info
  have Hi := Lib.hid hi; have Hz0 := Lib.hid hz0; have Hz1 := Lib.hid hz1; have Hz2 := Lib.hid hz2
  clear hi hz0 hz1 hz2
  go_enter Try.func5, Try.ntmps5
  go_wp2_with fail
  refine (fit_any _).mono ?_
  rintro e w1 ⟨rfl, hb1⟩
  have Hb1 := Lib.hid hb1; clear hb1
  by_cases hlen : 200 < len
  · go_wp2_with fail
    go_ret
    exact ⟨rfl, Hb1.out⟩
  · have hsz := Hb1.out.size
    go_wp2_with fail
    go_loopg [4, 14] 4 (fun g _ i wx => ∃ k : Nat, k + g = 4 ∧ i = .int .i64 k ∧ Blk wx w1.heap.size (lastBase k).cells 28 ∧ Below w.heap.size w wx)
    case atStart => exact ⟨0, by omega, rfl, Blk.new _ _ _, Hb1.out.alloc hsz _⟩
    case round =>
      obtain ⟨k, hk, rfl, hB, hb⟩ := hrel
      have HB := Lib.hid hB; clear hB
      have Hb := Lib.hid hb; clear hb
      by_cases hlt : k < 4
      · go_wp2_with fail
        refine (put_all _ (lastBase k) _ _ _ _ HB.out (lastBase_n k).1 (lastBase_n k).2).mono ?_
        rintro e w2 ⟨rfl, hB1, hK1⟩
        have HB1 := Lib.hid hB1; clear hB1
        have HK1 := Lib.hid hK1; clear hK1
        go_wp2_with fail
        go_roundg (3 - k)
        case measure => omega
        case rel => exact ⟨k + 1, by omega, by go_num, HB1.out, Hb.out.trans (HK1.out.below Hb.out.size (fun j hj e => by omega))⟩
      · have hB4 := HB.out.lt
        go_wp2_with fail
        refine (flush_any _ (lastBase k) _ HB.out).mono ?_
        rintro e w2 ⟨rfl, hB2, hK2⟩
        have HB2 := Lib.hid hB2; clear hB2
        have Hb2 := Lib.hid (Hb.out.trans (hK2.below Hb.out.size (fun j hj e => by omega))); clear hK2
        go_wp2_with fail
        refine (len_any _ Pl.zero _ HB2.out).mono ?_
        rintro e w3 ⟨rfl, hb3⟩
        have HB3 := Lib.hid (HB2.out.below hb3 HB2.out.lt)
        have Hb3 := Lib.hid (Hb2.out.trans (hb3.mono Hb2.out.size)); clear hb3
        have e1 : (Pl.zero.lenTo 4 != 0) = false := by decide
        go_wp2_with fail
        refine (find_any _ Pl.zero _ _ _ HB3.out).mono ?_
        rintro e w4 ⟨rfl, hb4⟩
        have HB4 := Lib.hid (HB3.out.below hb4 HB3.out.lt)
        have Hb4 := Lib.hid (Hb3.out.trans (hb4.mono Hb3.out.size)); clear hb4
        have e2 : (Pl.zero.find 1000 false != 0) = false := by decide
        have hsz4 := HB4.out.lt
        clear HB HB2 HB3 Hb Hb2 Hb3 hk hlt hB4
        go_wp2_with fail
        go_loopg [5, 7, 30] len (fun g sv _ i wx => ∃ (j : Nat) (ys : List Int), j + g = len ∧ i = .int .i64 j ∧ Blk wx w1.heap.size (lastTo xs j).cells 28 ∧ Below w.heap.size w wx ∧ wx.ownsRow (w1.heap.size + 1) 3 1 sv ys.length (ys.map (Value.int .i64)) ∧ ys.length ≤ j ∧ (ys.length = 0 ↔ j = 0))
        case atStart => exact ⟨0, [], by omega, rfl, HB4.out, Hb4.out, World.ownsRow_nil _ _ _ _, by simp, by simp⟩
        case round =>
          clear HB4 Hb4
          obtain ⟨j, ys, hj, rfl, hB, hb, hown, hle, hiff⟩ := hrel
          have HB := Lib.hid hB; clear hB
          have Hb := Lib.hid hb; clear hb
          have Hown := Lib.hid hown; clear hown
          have Hiff := Lib.hid hiff; clear hiff
          by_cases hlt : j < len
          · have hix := Hix.out j hlt
            have hc : wr.cell? ⟨b, off + j, none⟩ = some (.int .i64 (xs j)) := by
              rw [Hb.out.cell (p := ⟨b, off + j, none⟩) (Hblt.out (by omega))]; exact Hcell.out j hlt
            have hm := and65535 (xs j)
            have Hf := Lib.hid (lastTo_find xs j)
            go_wp2_with fail
            refine (put_all _ (lastTo xs j) _ _ _ _ HB.out (lastTo_good xs j).1.n0 (lastTo_good xs j).1.n4).mono ?_
            rintro e w5 ⟨rfl, hB5, hK5⟩
            have HB5 : Hid (Blk w5 w1.heap.size (lastTo xs (j + 1)).cells 28) := hB5
            have Hown5 : Hid (w5.ownsRow (w1.heap.size + 1) 3 1 _ ys.length (ys.map (Value.int .i64))) := own_kept Hown.out hK5 (fun g hg e => by
              have := (Hown.out.lt g hg).1; omega)
            have Hb5 := Lib.hid (Hb.out.trans (hK5.below Hb.out.size (fun i hi e => by omega)))
            clear hK5 hB5 hc HB Hb Hown
            have hlt5 := HB5.out.lt
            rcases Hown5.out.2 with ⟨hv, h0⟩ | ⟨g, cap', cur, hv, hg, _⟩
            · subst hv
              have hy0 : ys.length ≤ 200 := by omega
              have Hy : Hid (ys.length = 0) := h0
              clear h0
              go_wp2_with (at_builtin; refine wpList_append_own _ rfl _ _ 22 rfl (w1.heap.size + 1) 3 i0 (.int .i64 0) 1 8 Try.underlying22 Hi.out Hz0.out Hz1.out Hz2.out rfl (by decide) _ _ _ rfl (Hown5.out.alloc _) ⟨w5.heap.size, 0, none⟩ 1 1 [.int .i64 (xs j % 65536)] rfl rfl (cell_one_new _ _ _) (fun u hu => by simp at hu; subst hu; rfl) (by unfold maxLen; omega) (by omega) (by simp; omega) ?_; intro v' w6 hown6 hgrow6 _)
              have HB6 : Hid (Blk w6 w1.heap.size (lastTo xs (j + 1)).cells 28) := (HB5.out.alloc _).grown hgrow6 (fun e => by have := Hown5.out.lt _ e; omega)
              have Hb6 : Hid (Below w.heap.size w w6) := (Hb5.out.alloc Hb5.out.size _).grown hgrow6 (by have := Hb5.out.size; simp; omega) (fun k hk => by have := Hown5.out.lt k hk; omega)
              obtain ⟨ys', hys⟩ : ∃ ys' : List Int, ys' = ys ++ [xs j % 65536] := ⟨_, rfl⟩
              have Hown6 : Hid (w6.ownsRow (w1.heap.size + 1) 3 1 v' ys'.length (ys'.map (Value.int .i64))) := by rw [hys]; simpa [Hid] using hown6
              have Hl6 : Hid (ys'.length ≤ j + 1 ∧ (ys'.length = 0 ↔ j + 1 = 0)) := by rw [hys]; constructor <;> simp <;> omega
              clear hys hown6 hgrow6
              refine (find_any _ _ _ _ _ HB6.out).mono ?_
              rintro e w7 ⟨rfl, hb7⟩
              have HB7 := Lib.hid (HB6.out.below hb7 HB6.out.lt)
              have Hb7 := Lib.hid (Hb6.out.trans (hb7.mono Hb6.out.size))
              have Hown7 := Lib.hid (own_kept (S := fun _ => False) Hown6.out (Kept.of_below hb7) (fun _ _ h => h)); clear hb7
              rw [Hf.out.1]
              have e3 : (xs j % 65536 + 1 != xs j % 65536 + 1) = false := by simp
              go_wp2_with fail
              refine (find_any _ _ _ _ _ HB7.out).mono ?_
              rintro e w8 ⟨rfl, hb8⟩
              have HB8 := Lib.hid (HB7.out.below hb8 HB7.out.lt)
              have Hb8 := Lib.hid (Hb7.out.trans (hb8.mono Hb7.out.size))
              have Hown8 := Lib.hid (own_kept (S := fun _ => False) Hown7.out (Kept.of_below hb8) (fun _ _ h => h)); clear hb8
              rw [Hf.out.2]
              go_wp2_with fail
              go_roundg (len - (j + 1))
              case measure => omega
              case rel => exact ⟨j + 1, ys', by omega, by go_num, HB8.out, Hb8.out, Hown8.out, Hl6.out.1, Hl6.out.2⟩
            · subst hv
              by_cases h0 : ys.length = 0
              · have h0b : ((ys.length : Int) == 0) = true := by simpa using h0
                clear h0
                go_wp2_with (at_builtin; refine wpList_append_own _ rfl _ _ 22 rfl (w1.heap.size + 1) 3 i0 (.int .i64 0) 1 8 Try.underlying22 Hi.out Hz0.out Hz1.out Hz2.out rfl (by decide) _ _ _ rfl (Hown5.out.alloc _) ⟨w5.heap.size, 0, none⟩ 1 1 [.int .i64 (xs j % 65536)] rfl rfl (cell_one_new _ _ _) (fun u hu => by simp at hu; subst hu; rfl) (by unfold maxLen; omega) (by omega) (by simp; omega) ?_; intro v' w6 hown6 hgrow6 _)
                have HB6 : Hid (Blk w6 w1.heap.size (lastTo xs (j + 1)).cells 28) := (HB5.out.alloc _).grown hgrow6 (fun e => by have := Hown5.out.lt _ e; omega)
                have Hb6 : Hid (Below w.heap.size w w6) := (Hb5.out.alloc Hb5.out.size _).grown hgrow6 (by have := Hb5.out.size; simp; omega) (fun k hk => by have := Hown5.out.lt k hk; omega)
                obtain ⟨ys', hys⟩ : ∃ ys' : List Int, ys' = ys ++ [xs j % 65536] := ⟨_, rfl⟩
                have Hown6 : Hid (w6.ownsRow (w1.heap.size + 1) 3 1 v' ys'.length (ys'.map (Value.int .i64))) := by rw [hys]; simpa [Hid] using hown6
                have Hl6 : Hid (ys'.length ≤ j + 1 ∧ (ys'.length = 0 ↔ j + 1 = 0)) := by rw [hys]; constructor <;> simp <;> omega
                clear hys hown6 hgrow6
                refine (find_any _ _ _ _ _ HB6.out).mono ?_
                rintro e w7 ⟨rfl, hb7⟩
                have HB7 := Lib.hid (HB6.out.below hb7 HB6.out.lt)
                have Hb7 := Lib.hid (Hb6.out.trans (hb7.mono Hb6.out.size))
                have Hown7 := Lib.hid (own_kept (S := fun _ => False) Hown6.out (Kept.of_below hb7) (fun _ _ h => h)); clear hb7
                rw [Hf.out.1]
                have e3 : (xs j % 65536 + 1 != xs j % 65536 + 1) = false := by simp
                go_wp2_with fail
                refine (find_any _ _ _ _ _ HB7.out).mono ?_
                rintro e w8 ⟨rfl, hb8⟩
                have HB8 := Lib.hid (HB7.out.below hb8 HB7.out.lt)
                have Hb8 := Lib.hid (Hb7.out.trans (hb8.mono Hb7.out.size))
                have Hown8 := Lib.hid (own_kept (S := fun _ => False) Hown7.out (Kept.of_below hb8) (fun _ _ h => h)); clear hb8
                rw [Hf.out.2]
                go_wp2_with fail
                go_roundg (len - (j + 1))
                case measure => omega
                case rel => exact ⟨j + 1, ys', by omega, by go_num, HB8.out, Hb8.out, Hown8.out, Hl6.out.1, Hl6.out.2⟩
              · have h0b : ((ys.length : Int) == 0) = false := by simpa using h0
                have hyp : 0 < ys.length := by omega
                clear h0
                obtain ⟨q, hq⟩ : ∃ q : Int, w5.cell? ⟨g, ys.length - 1, none⟩ = some (.int .i64 q) := by
                  refine ⟨ys[ys.length - 1], ?_⟩
                  rw [Hown5.out.cellAt (ys.length - 1) (by omega), List.getElem?_map, List.getElem?_eq_getElem (by omega)]
                  rfl
                by_cases hqp : q = xs j % 65536
                · have hqb : (q != xs j % 65536) = false := by simpa using hqp
                  clear hqp
                  go_wp2_with fail
                  have HB6 := HB5
                  have Hb6 := Hb5
                  have Hown6 := Hown5
                  obtain ⟨ys', hys⟩ : ∃ ys' : List Int, ys' = ys := ⟨_, rfl⟩
                  have Hl6 : Hid (ys.length ≤ j + 1 ∧ (ys.length = 0 ↔ j + 1 = 0)) := by constructor <;> omega
                  refine (find_any _ _ _ _ _ HB6.out).mono ?_
                  rintro e w7 ⟨rfl, hb7⟩
                  have HB7 := Lib.hid (HB6.out.below hb7 HB6.out.lt)
                  have Hb7 := Lib.hid (Hb6.out.trans (hb7.mono Hb6.out.size))
                  have Hown7 := Lib.hid (own_kept (S := fun _ => False) Hown6.out (Kept.of_below hb7) (fun _ _ h => h)); clear hb7
                  rw [Hf.out.1]
                  have e3 : (xs j % 65536 + 1 != xs j % 65536 + 1) = false := by simp
                  go_wp2_with fail
                  refine (find_any _ _ _ _ _ HB7.out).mono ?_
                  rintro e w8 ⟨rfl, hb8⟩
                  have HB8 := Lib.hid (HB7.out.below hb8 HB7.out.lt)
                  have Hb8 := Lib.hid (Hb7.out.trans (hb8.mono Hb7.out.size))
                  have Hown8 := Lib.hid (own_kept (S := fun _ => False) Hown7.out (Kept.of_below hb8) (fun _ _ h => h)); clear hb8
                  rw [Hf.out.2]
                  go_wp2_with fail
                  go_roundg (len - (j + 1))
                  case measure => omega
                  case rel => exact ⟨j + 1, ys, by omega, by go_num, HB8.out, Hb8.out, Hown8.out, Hl6.out.1, Hl6.out.2⟩
                · have hqb : (q != xs j % 65536) = true := by simpa using hqp
                  clear hqp
                  go_wp2_with (at_builtin; refine wpList_append_own _ rfl _ _ 22 rfl (w1.heap.size + 1) 3 i0 (.int .i64 0) 1 8 Try.underlying22 Hi.out Hz0.out Hz1.out Hz2.out rfl (by decide) _ _ _ rfl (Hown5.out.alloc _) ⟨w5.heap.size, 0, none⟩ 1 1 [.int .i64 (xs j % 65536)] rfl rfl (cell_one_new _ _ _) (fun u hu => by simp at hu; subst hu; rfl) (by unfold maxLen; omega) (by omega) (by simp; omega) ?_; intro v' w6 hown6 hgrow6 _)
                  have HB6 : Hid (Blk w6 w1.heap.size (lastTo xs (j + 1)).cells 28) := (HB5.out.alloc _).grown hgrow6 (fun e => by have := Hown5.out.lt _ e; omega)
                  have Hb6 : Hid (Below w.heap.size w w6) := (Hb5.out.alloc Hb5.out.size _).grown hgrow6 (by have := Hb5.out.size; simp; omega) (fun k hk => by have := Hown5.out.lt k hk; omega)
                  obtain ⟨ys', hys⟩ : ∃ ys' : List Int, ys' = ys ++ [xs j % 65536] := ⟨_, rfl⟩
                  have Hown6 : Hid (w6.ownsRow (w1.heap.size + 1) 3 1 v' ys'.length (ys'.map (Value.int .i64))) := by rw [hys]; simpa [Hid] using hown6
                  have Hl6 : Hid (ys'.length ≤ j + 1 ∧ (ys'.length = 0 ↔ j + 1 = 0)) := by rw [hys]; constructor <;> simp <;> omega
                  clear hys hown6 hgrow6
                  refine (find_any _ _ _ _ _ HB6.out).mono ?_
                  rintro e w7 ⟨rfl, hb7⟩
                  have HB7 := Lib.hid (HB6.out.below hb7 HB6.out.lt)
                  have Hb7 := Lib.hid (Hb6.out.trans (hb7.mono Hb6.out.size))
                  have Hown7 := Lib.hid (own_kept (S := fun _ => False) Hown6.out (Kept.of_below hb7) (fun _ _ h => h)); clear hb7
                  rw [Hf.out.1]
                  have e3 : (xs j % 65536 + 1 != xs j % 65536 + 1) = false := by simp
                  go_wp2_with fail
                  refine (find_any _ _ _ _ _ HB7.out).mono ?_
                  rintro e w8 ⟨rfl, hb8⟩
                  have HB8 := Lib.hid (HB7.out.below hb8 HB7.out.lt)
                  have Hb8 := Lib.hid (Hb7.out.trans (hb8.mono Hb7.out.size))
                  have Hown8 := Lib.hid (own_kept (S := fun _ => False) Hown7.out (Kept.of_below hb8) (fun _ _ h => h)); clear hb8
                  rw [Hf.out.2]
                  go_wp2_with fail
                  go_roundg (len - (j + 1))
                  case measure => omega
                  case rel => exact ⟨j + 1, ys', by omega, by go_num, HB8.out, Hb8.out, Hown8.out, Hl6.out.1, Hl6.out.2⟩
          · obtain rfl : len = j := by omega
            have hll := lastTo_len xs len
            go_wp2_with fail
            refine (put_nil _ _ _ _).mono ?_
            rintro e w5 ⟨rfl, rfl⟩
            go_wp2_with fail
            refine (flush_nil _).mono ?_
            rintro e w5 ⟨rfl, rfl⟩
            go_wp2_with fail
            refine (find_nil _ _ _).mono ?_
            rintro e w5 ⟨rfl, rfl⟩
            go_wp2_with fail
            refine (len_nil _).mono ?_
            rintro e w5 ⟨rfl, rfl⟩
            go_wp2_with fail
            refine (len_any _ _ _ HB.out).mono ?_
            rintro e w5 ⟨rfl, hb5⟩
            have HB5 := Lib.hid (HB.out.below hb5 HB.out.lt)
            have Hb5 := Lib.hid (Hb.out.trans (hb5.mono Hb.out.size)); clear hb5
            have hle4 := hll.1
            have Hll := Lib.hid hll; clear hll
            rcases Hown.out.2 with ⟨hv, h0⟩ | ⟨g, cap', cur, hv, hg, _⟩
            · subst hv
              go_wp2_with fail
              refine (len_any _ _ _ HB5.out).mono ?_
              rintro e w6 ⟨rfl, hb6⟩
              have Hb6 := Lib.hid (Hb5.out.trans (hb6.mono Hb5.out.size)); clear hb6
              have e4 : ((lastTo xs len).lenTo 4 == 0) = true := by rw [beq_iff_eq, Hll.out.2]; exact Hiff.out.1 h0
              go_wp2_with fail
              go_ret
              exact ⟨rfl, Hb6.out⟩
            · subst hv
              by_cases h0 : ys.length = 0
              · have h0b : ((ys.length : Int) == 0) = true := by simpa using h0
                go_wp2_with fail
                refine (len_any _ _ _ HB5.out).mono ?_
                rintro e w6 ⟨rfl, hb6⟩
                have Hb6 := Lib.hid (Hb5.out.trans (hb6.mono Hb5.out.size)); clear hb6
                have e4 : ((lastTo xs len).lenTo 4 == 0) = true := by rw [beq_iff_eq, Hll.out.2]; exact Hiff.out.1 h0
                go_wp2_with fail
                go_ret
                exact ⟨rfl, Hb6.out⟩
              · have h0b : ((ys.length : Int) == 0) = false := by simpa using h0
                go_wp2_with fail
                refine (len_any _ _ _ HB5.out).mono ?_
                rintro e w6 ⟨rfl, hb6⟩
                have Hb6 := Lib.hid (Hb5.out.trans (hb6.mono Hb5.out.size)); clear hb6
                have e4 : ((lastTo xs len).lenTo 4 == 0) = false := by rw [beq_eq_false_iff_ne]; exact fun h => h0 (Hiff.out.2 (Hll.out.2.1 h))
                go_wp2_with fail
                go_ret
                exact ⟨rfl, Hb6.out⟩
end Go.Proofs.Ytphophonkdfcaaa
