/- What config.Right asks of maps and slots. -/
import Derived.Test.YtjjnidbggoaonaaGreatDoorWoL
import Derived.Test.YtjjnidbggoaonaaGreatDoorWoD
import Derived.Deep.LoopGhost
import Derived.Laws.AppendOwnNone
import Derived.Test.YtjjnidbggoaonaaGreatDoorZaB
/- Maps and slots that may be. -/
namespace Go.Proofs.YtjjnidbggoaonaaGreatDoor
open Go.RowKit
attribute [local irreducible] World.setCell World.alloc World.drew Calls Code.wp
attribute [local go_sem] Oper.semAt_some

def I64 (x : Int) : Prop := -9223372036854775808 ≤ x ∧ x ≤ 9223372036854775807
structure WMap.bd (m : WMap) : Prop where
  a : I64 m.at_
  s : 0 ≤ m.seg ∧ m.seg ≤ 18446744073709551615
  f : I64 m.from_
  n : I64 m.n
set_option maxRecDepth 100000 in
set_option maxHeartbeats 4000000 in
theorem fits_any (m : WMap) (h : m.bd) (w : World) :
    Calls Tryz.prog 121 #[.agg #[.int .i64 m.at_, .int .u64 m.seg, .int .i64 m.from_, .int .i64 m.n, .bool m.wr]] w fun e w' => e = .returned (.bool m.fits) ∧ Below w.heap.size w w' := by
  obtain ⟨a1, a2⟩ := h.a; obtain ⟨s1, s2⟩ := h.s; obtain ⟨f1, f2⟩ := h.f; obtain ⟨n1, n2⟩ := h.n
  obtain ⟨at_, seg, fr, n, wr⟩ := m
  simp only at a1 a2 s1 s2 f1 f2 n1 n2 ⊢
  have hF : WMap.fits ⟨at_, seg, fr, n, wr⟩ = decide (1 ≤ n ∧ n ≤ 16 ∧ 0 ≤ at_ ∧ at_ ≤ 4096 - n ∧ 0 ≤ fr ∧ fr ≤ 16 - n ∧ seg ≠ 0) := rfl
  have HF := Lib.hid hF
  clear hF
  have HB : Hid (Below w.heap.size w (w.alloc (.cells #[.int .i64 at_, .int .u64 seg, .int .i64 fr, .int .i64 n, .bool wr] 157))) := (Below.refl _ w).alloc (Nat.le_refl _) _
  by_cases c1 : 1 ≤ n
  rotate_left
  · have Hd : Hid (WMap.fits ⟨at_, seg, fr, n, wr⟩ = false) := by show _ = _; rw [HF.out, decide_eq_false (by omega)]
    go_enter Tryz.func121, Tryz.ntmps121
    go_wp2_with fail
    go_ret
    exact ⟨by rw [Hd.out]; rfl, HB.out⟩
  by_cases c2 : n ≤ 16
  rotate_left
  · have Hd : Hid (WMap.fits ⟨at_, seg, fr, n, wr⟩ = false) := by show _ = _; rw [HF.out, decide_eq_false (by omega)]
    go_enter Tryz.func121, Tryz.ntmps121
    go_wp2_with fail
    go_ret
    exact ⟨by rw [Hd.out]; rfl, HB.out⟩
  have w1 : IntKind.i64.wrap (4096 - n) = 4096 - n := IntWalk.i64_in _ (by omega)
  have w2 : IntKind.i64.wrap (16 - n) = 16 - n := IntWalk.i64_in _ (by omega)
  by_cases c3 : 0 ≤ at_
  rotate_left
  · have Hd : Hid (WMap.fits ⟨at_, seg, fr, n, wr⟩ = false) := by show _ = _; rw [HF.out, decide_eq_false (by omega)]
    go_enter Tryz.func121, Tryz.ntmps121
    go_wp2_with fail
    go_ret
    exact ⟨by rw [Hd.out]; rfl, HB.out⟩
  by_cases c4 : at_ ≤ 4096 - n
  rotate_left
  · have Hd : Hid (WMap.fits ⟨at_, seg, fr, n, wr⟩ = false) := by show _ = _; rw [HF.out, decide_eq_false (by omega)]
    go_enter Tryz.func121, Tryz.ntmps121
    go_wp2_with fail
    go_ret
    exact ⟨by rw [Hd.out]; rfl, HB.out⟩
  by_cases c5 : 0 ≤ fr
  rotate_left
  · have Hd : Hid (WMap.fits ⟨at_, seg, fr, n, wr⟩ = false) := by show _ = _; rw [HF.out, decide_eq_false (by omega)]
    go_enter Tryz.func121, Tryz.ntmps121
    go_wp2_with fail
    go_ret
    exact ⟨by rw [Hd.out]; rfl, HB.out⟩
  by_cases c6 : fr ≤ 16 - n
  rotate_left
  · have Hd : Hid (WMap.fits ⟨at_, seg, fr, n, wr⟩ = false) := by show _ = _; rw [HF.out, decide_eq_false (by omega)]
    go_enter Tryz.func121, Tryz.ntmps121
    go_wp2_with fail
    go_ret
    exact ⟨by rw [Hd.out]; rfl, HB.out⟩
  by_cases c7 : seg = 0
  · have Hd : Hid (WMap.fits ⟨at_, seg, fr, n, wr⟩ = false) := by show _ = _; rw [HF.out, decide_eq_false (by omega)]
    subst c7
    go_enter Tryz.func121, Tryz.ntmps121
    go_wp2_with fail
    go_ret
    exact ⟨by rw [Hd.out]; rfl, HB.out⟩
  · have Hd : Hid (WMap.fits ⟨at_, seg, fr, n, wr⟩ = true) := by show _ = _; rw [HF.out, decide_eq_true (by omega)]
    have c7b : (seg != 0) = true := by simpa using c7
    go_enter Tryz.func121, Tryz.ntmps121
    go_wp2_with fail
    go_ret
    exact ⟨by rw [Hd.out]; rfl, HB.out⟩
end Go.Proofs.YtjjnidbggoaonaaGreatDoor
/- Lists of slots and of maps that may be; labels that own nothing. -/
namespace Go.Proofs.YtjjnidbggoaonaaGreatDoor
open Go.RowKit
attribute [local irreducible] World.setCell World.alloc World.drew Calls Code.wp
attribute [local go_sem] Oper.semAt_some

theorem SlotsIn.at {w : World} {a : Option Addr} {c : Nat} {ss : List (Int × Int)} (h : SlotsIn w (.slice a ss.length c) ss) {k : Nat} {s : Int × Int} (hk : ss[k]? = some s) :
    ∃ b, a = some ⟨b, 0, none⟩ ∧ b < w.heap.size ∧ w.cell? ⟨b, k * 2, none⟩ = some (.int .u64 s.1) ∧ w.cell? ⟨b, k * 2 + 1, none⟩ = some (.int .i64 s.2) := by
  obtain ⟨b, rfl, hb, hc⟩ := RowAt.cells h (by have := (List.getElem?_eq_some_iff.1 hk).1; omega)
  have e0 := flat_at slotV 2 (fun _ => rfl) ss k s hk 0 (by omega)
  have e1 := flat_at slotV 2 (fun _ => rfl) ss k s hk 1 (by omega)
  exact ⟨b, rfl, hb, hc _ _ (by rw [Nat.add_zero] at e0; rw [e0]; rfl), hc _ _ (by rw [e1]; rfl)⟩
theorem MapsIn.at {w : World} {a : Option Addr} {c : Nat} {ms : List WMap} (h : MapsIn w (.slice a ms.length c) ms) {k : Nat} {m : WMap} (hk : ms[k]? = some m) :
    ∃ b, a = some ⟨b, 0, none⟩ ∧ b < w.heap.size ∧ w.cell? ⟨b, k * 5, none⟩ = some (.int .i64 m.at_) ∧ w.cell? ⟨b, k * 5 + 1, none⟩ = some (.int .u64 m.seg) ∧ w.cell? ⟨b, k * 5 + 2, none⟩ = some (.int .i64 m.from_) ∧ w.cell? ⟨b, k * 5 + 3, none⟩ = some (.int .i64 m.n) ∧ w.cell? ⟨b, k * 5 + 4, none⟩ = some (.bool m.wr) := by
  obtain ⟨b, rfl, hb, hc⟩ := RowAt.cells h (by have := (List.getElem?_eq_some_iff.1 hk).1; omega)
  have e0 := flat_at mapV 5 (fun _ => rfl) ms k m hk 0 (by omega)
  have e := fun i hi => flat_at mapV 5 (fun _ => rfl) ms k m hk i hi
  exact ⟨b, rfl, hb, hc _ _ (by rw [Nat.add_zero] at e0; rw [e0]; rfl), hc _ _ (by rw [e 1 (by omega)]; rfl), hc _ _ (by rw [e 2 (by omega)]; rfl), hc _ _ (by rw [e 3 (by omega)]; rfl), hc _ _ (by rw [e 4 (by omega)]; rfl)⟩
theorem take_all {α : Type} (f : α → Bool) {l : List α} {k : Nat} {x : α} (h : l[k]? = some x) (h1 : (l.take k).all f = true) (h2 : f x = true) : (l.take (k + 1)).all f = true := by
  rw [List.take_add_one, h, List.all_append, h1]
  simp [h2]
theorem all_not {α : Type} (f : α → Bool) {l : List α} {k : Nat} {x : α} (h : l[k]? = some x) (h2 : f x = false) : l.all f = false := by
  rw [List.all_eq_false]
  exact ⟨x, List.mem_of_getElem? h, by simp [h2]⟩
set_option maxRecDepth 100000 in
set_option maxHeartbeats 4000000 in
theorem slotsR_any (ss : List (Int × Int)) (v : Value) (w : World) (h : SlotsIn w v ss) (hb : ∀ s ∈ ss, I64 s.2) (hl : ss.length ≤ 100000) :
    Calls Tryz.prog 46 #[v] w fun e w' => e = .returned (.bool (slotsRight ss)) ∧ Below w.heap.size w w' := by
  obtain ⟨a, c, rfl, hc1, hc2⟩ := RowAt.form h
  have HS := Lib.hid (fun w' (k : Below w.heap.size w w') => (RowAt.below h k (Nat.le_refl _) : SlotsIn w' _ ss))
  have Hb := Lib.hid hb
  have hR : slotsRight ss = (ss.all (fun s => decide (1 ≤ s.2 ∧ s.2 ≤ 16)) && decide (1 ≤ ss.length ∧ ss.length ≤ 8)) := rfl
  have HR := Lib.hid hR
  clear h hb hR
  go_enter Tryz.func46, Tryz.ntmps46
  go_wp2_with fail
  go_loopg [4, 7] ss.length (fun g _ vi wx => ∃ k : Nat, k + g = ss.length ∧ vi = .int .i64 k ∧ Hid (Below w.heap.size w wx) ∧ Hid ((ss.take k).all (fun s => decide (1 ≤ s.2 ∧ s.2 ≤ 16)) = true))
  case atStart => exact ⟨0, by omega, rfl, Lib.hid (Below.refl _ _), Lib.hid rfl⟩
  case round =>
    obtain ⟨k, hk, rfl, HB, HA⟩ := hrel
    by_cases hlt : k < ss.length
    · have hlt' : (k : Int) < ss.length := by omega
      obtain ⟨s, hs⟩ : ∃ s, ss[k]? = some s := ⟨_, List.getElem?_eq_getElem hlt⟩
      obtain ⟨b, rfl, -, s0, s1⟩ := SlotsIn.at (HS.out _ HB.out) hs
      obtain ⟨g1, g2⟩ := Hb.out s (List.mem_of_getElem? hs)
      have HBn : Hid (Below w.heap.size w (wr.alloc (.cells #[.int .u64 s.1, .int .i64 s.2] 110))) := HB.out.alloc HB.out.size _
      have Hn := Lib.hid (fun h2 => all_not (fun s : Int × Int => decide (1 ≤ s.2 ∧ s.2 ≤ 16)) hs h2)
      have Hy := Lib.hid (fun h2 => take_all (fun s : Int × Int => decide (1 ≤ s.2 ∧ s.2 ≤ 16)) hs HA.out h2)
      clear hs
      by_cases c1 : s.2 < 1
      · have Hd : Hid (slotsRight ss = false) := by show _ = _; rw [HR.out, Hn.out (decide_eq_false (by omega)), Bool.false_and]
        go_wp2_with fail
        go_ret
        exact ⟨by rw [Hd.out]; rfl, HBn.out⟩
      · by_cases c2 : 16 < s.2
        · have Hd : Hid (slotsRight ss = false) := by show _ = _; rw [HR.out, Hn.out (decide_eq_false (by omega)), Bool.false_and]
          go_wp2_with fail
          go_ret
          exact ⟨by rw [Hd.out]; rfl, HBn.out⟩
        · have HA2 := Lib.hid (Hy.out (decide_eq_true (by omega)))
          go_wp2_with fail
          go_roundg (ss.length - (k + 1))
          case measure => omega
          case rel => exact ⟨k + 1, by omega, by go_num, HBn, HA2⟩
    · obtain rfl : k = ss.length := by omega
      rw [List.take_length] at HA
      by_cases c1 : 1 ≤ ss.length
      · have c1' : (1 : Int) ≤ ss.length := by omega
        by_cases c2 : ss.length ≤ 8
        · have c2' : (ss.length : Int) ≤ 8 := by omega
          have Hd : Hid (slotsRight ss = true) := by show _ = _; rw [HR.out, HA.out, decide_eq_true (by omega)]; rfl
          go_wp2_with fail
          go_ret
          exact ⟨by rw [Hd.out]; rfl, HB.out⟩
        · have c2' : ¬ (ss.length : Int) ≤ 8 := by omega
          have Hd : Hid (slotsRight ss = false) := by show _ = _; rw [HR.out, HA.out, decide_eq_false (by omega)]; rfl
          go_wp2_with fail
          go_ret
          exact ⟨by rw [Hd.out]; rfl, HB.out⟩
      · have c1' : ¬ (1 : Int) ≤ ss.length := by omega
        have Hd : Hid (slotsRight ss = false) := by show _ = _; rw [HR.out, HA.out, decide_eq_false (by omega)]; rfl
        go_wp2_with fail
        go_ret
        exact ⟨by rw [Hd.out]; rfl, HB.out⟩
theorem mapsR_stop : ∀ {l : List WMap} {e : Int} {k : Nat} {m : WMap} {e' : Int}, l[k]? = some m → (mapsR e l = mapsR e' (l.drop k)) → (m.fits = false ∨ m.at_ < e') → mapsR e l = false := by
  intro l e k m e' h h1 h2
  obtain ⟨a1, a2⟩ := List.getElem?_eq_some_iff.1 h
  rw [h1, List.drop_eq_getElem_cons a1, a2]
  unfold mapsR
  rcases h2 with h2 | h2
  · rw [h2, Bool.false_and]
  · rw [decide_eq_false (by omega), Bool.false_and, Bool.and_false]
theorem mapsR_next {l : List WMap} {e : Int} {k : Nat} {m : WMap} {e' : Int} (h : l[k]? = some m) (h1 : mapsR e l = mapsR e' (l.drop k)) (h2 : m.fits = true) (h3 : e' ≤ m.at_) : mapsR e l = mapsR (m.at_ + m.n) (l.drop (k + 1)) := by
  obtain ⟨a1, a2⟩ := List.getElem?_eq_some_iff.1 h
  rw [h1, List.drop_eq_getElem_cons a1, a2]
  conv => lhs; unfold mapsR
  rw [h2, decide_eq_true h3, Bool.true_and, Bool.true_and]
set_option maxRecDepth 100000 in
set_option maxHeartbeats 4000000 in
theorem mapsR_any (ms : List WMap) (v : Value) (w : World) (h : MapsIn w v ms) (hb : ∀ m ∈ ms, m.bd) (hl : ms.length ≤ 100000) :
    Calls Tryz.prog 80 #[v] w fun e w' => e = .returned (.bool (mapsRight ms)) ∧ Below w.heap.size w w' := by
  obtain ⟨a, c, rfl, hc1, hc2⟩ := RowAt.form h
  have HS := Lib.hid (fun w' (k : Below w.heap.size w w') => (RowAt.below h k (Nat.le_refl _) : MapsIn w' _ ms))
  have Hb := Lib.hid hb
  have hR : mapsRight ms = (mapsR 0 ms && decide (ms.length ≤ 16)) := rfl
  have HR := Lib.hid hR
  clear h hb hR
  go_enter Tryz.func80, Tryz.ntmps80
  go_wp2_with fail
  go_loopg [3, 5, 8] ms.length (fun g ve _ vi wx => ∃ (k : Nat) (e : Int), k + g = ms.length ∧ vi = .int .i64 k ∧ ve = .int .i64 e ∧ 0 ≤ e ∧ e ≤ 10000 ∧ Hid (Below w.heap.size w wx) ∧ Hid (mapsR 0 ms = mapsR e (ms.drop k)))
  case atStart => exact ⟨0, 0, by omega, rfl, rfl, by omega, by omega, Lib.hid (Below.refl _ _), Lib.hid rfl⟩
  case round =>
    obtain ⟨k, e, hk, rfl, rfl, e0, e1, HB, HA⟩ := hrel
    by_cases hlt : k < ms.length
    · have hlt' : (k : Int) < ms.length := by omega
      obtain ⟨m, hm⟩ : ∃ m, ms[k]? = some m := ⟨_, List.getElem?_eq_getElem hlt⟩
      obtain ⟨b, rfl, -, m0, m1, m2, m3, m4⟩ := MapsIn.at (HS.out _ HB.out) hm
      have hbd := Hb.out m (List.mem_of_getElem? hm)
      have HBn : Hid (Below w.heap.size w (wr.alloc (.cells #[.int .i64 m.at_, .int .u64 m.seg, .int .i64 m.from_, .int .i64 m.n, .bool m.wr] 157))) := HB.out.alloc HB.out.size _
      have Hz : Hid (Blk (wr.alloc (.cells #[.int .i64 m.at_, .int .u64 m.seg, .int .i64 m.from_, .int .i64 m.n, .bool m.wr] 157)) wr.heap.size #[.int .i64 m.at_, .int .u64 m.seg, .int .i64 m.from_, .int .i64 m.n, .bool m.wr] 157) := Blk.new _ _ _
      have Hn := Lib.hid (fun h2 => mapsR_stop hm HA.out h2)
      have Hy := Lib.hid (fun h2 h3 => mapsR_next hm HA.out h2 h3)
      have Hf := Lib.hid (fun w => fits_any m hbd w)
      have hfit : m.fits = true → 0 ≤ m.at_ + m.n ∧ m.at_ + m.n ≤ 4096 := fun h => by unfold WMap.fits at h; rw [decide_eq_true_eq] at h; omega
      have Hfit := Lib.hid hfit
      obtain ⟨wz, hwz⟩ : ∃ wz : World, wz = wr.alloc (.cells #[.int .i64 m.at_, .int .u64 m.seg, .int .i64 m.from_, .int .i64 m.n, .bool m.wr] 157) := ⟨_, rfl⟩
      obtain ⟨zb, hzb⟩ : ∃ zb, zb = wr.heap.size := ⟨_, rfl⟩
      rw [← hwz] at HBn Hz
      rw [← hzb] at Hz
      have hcz := Hz.out.cell
      clear hm hbd hfit
      go_wp2_with fail
      rw [← hwz, ← hzb]
      clear hwz hzb
      refine (Hf.out _).mono ?_
      rintro ez w2 ⟨rfl, hb2⟩
      have HB2 := Lib.hid (bel_from HBn.out hb2)
      have Hz2 := Lib.hid (Blk.below Hz.out hb2 Hz.out.lt)
      have hcz2 := Hz2.out.cell
      clear hb2 hcz
      cases hfit : m.fits with
      | false =>
        have Hd : Hid (mapsRight ms = false) := by show _ = _; rw [HR.out, Hn.out (.inl hfit), Bool.false_and]
        clear hfit
        go_wp2_with fail
        go_ret
        exact ⟨by rw [Hd.out]; rfl, HB2.out⟩
      | true =>
        have hf2 := Hfit.out hfit
        by_cases c1 : m.at_ < e
        · have Hd : Hid (mapsRight ms = false) := by show _ = _; rw [HR.out, Hn.out (.inr c1), Bool.false_and]
          clear hfit
          go_wp2_with fail
          go_ret
          exact ⟨by rw [Hd.out]; rfl, HB2.out⟩
        · have HA2 := Lib.hid (Hy.out hfit (by omega))
          have hw : IntKind.i64.wrap (m.at_ + m.n) = m.at_ + m.n := IntWalk.i64_in _ (by omega)
          clear hfit
          go_wp2_with fail
          go_roundg (ms.length - (k + 1))
          case measure => omega
          case rel => exact ⟨k + 1, m.at_ + m.n, by omega, by go_num, rfl, by omega, by omega, HB2, HA2⟩
    · obtain rfl : k = ms.length := by omega
      rw [List.drop_length] at HA
      by_cases c1 : ms.length ≤ 16
      · have c1' : (ms.length : Int) ≤ 16 := by omega
        have Hd : Hid (mapsRight ms = true) := by show _ = _; rw [HR.out, HA.out, decide_eq_true c1]; rfl
        go_wp2_with fail
        go_ret
        exact ⟨by rw [Hd.out]; rfl, HB.out⟩
      · have c1' : ¬ (ms.length : Int) ≤ 16 := by omega
        have Hd : Hid (mapsRight ms = false) := by show _ = _; rw [HR.out, decide_eq_false c1, Bool.and_false]
        go_wp2_with fail
        go_ret
        exact ⟨by rw [Hd.out]; rfl, HB.out⟩
end Go.Proofs.YtjjnidbggoaonaaGreatDoor
/- What a label owns; whether it is plain; segments of maps. -/
namespace Go.Proofs.YtjjnidbggoaonaaGreatDoor
open Go.RowKit
attribute [local irreducible] World.setCell World.alloc World.drew World.setRow Calls Code.wp
attribute [local go_sem] Oper.semAt_some

/-- The categories that a label owns. -/
def ownsL (ps : List (Nat × Nat)) : List Nat := (ps.filter fun p => decide (p.2 = 0)).map (·.1)
def u32V (c : Nat) : Value := .int .u32 (c : Nat)
theorem info_u32 : (Tryz.prog.info? 79).map (fun i => (i.zero, i.size, i.bytes)) = some (some (.int .u32 0), 1, 4) := by kernel_rfl
theorem one_new (w : World) (v : Value) (t : TypeId) : ∀ (j : Nat) (u : Value), [v][j]? = some u → (w.alloc (.cells #[v] t)).cell? ((⟨w.heap.size, 0, none⟩ : Addr).add j) = some u := by
  intro j u h
  have hj : j = 0 := by
    rcases Nat.eq_zero_or_pos j with e | e
    · exact e
    · rw [List.getElem?_eq_none (by simp; omega)] at h; cases h
  subst hj
  rw [Addr.add_lit, (Blk.new w #[v] t).cell]
  simpa using h
set_option maxRecDepth 100000 in
set_option maxHeartbeats 4000000 in
theorem owns_any (l : Lab) (v : Value) (w : World) (h : LabIn w v l) (hl : l.ps.length ≤ 1000) :
    Calls Tryz.prog 120 #[v] w fun e w' => ∃ r, e = .returned r ∧ w'.ownsRow w.heap.size 79 1 r (ownsL l.ps).length ((ownsL l.ps).map u32V) ∧ Below w.heap.size w w' := by
  obtain ⟨s, rfl, hps⟩ := h
  obtain ⟨a, c, rfl, hc1, hc2⟩ := RowAt.form hps
  have HS := Lib.hid (fun w' (k : Below w.heap.size w w') => (RowAt.below hps k (Nat.le_refl _) : PairsIn w' _ l.ps))
  obtain ⟨i0, hi, hz0, hz1, hz2⟩ := info_parts info_u32
  have Hi := Lib.hid hi; have Hz0 := Lib.hid hz0; have Hz1 := Lib.hid hz1; have Hz2 := Lib.hid hz2
  have HB0 : Hid (Below w.heap.size w (w.alloc (.cells #[.int .i64 (l.d : Nat), .slice a l.ps.length c] 104))) := (Below.refl _ w).alloc (Nat.le_refl _) _
  clear hi hz0 hz1 hz2 hps
  go_enter Tryz.func120, Tryz.ntmps120
  go_wp2_with fail
  go_loopg [3, 5, 9] l.ps.length (fun g vo _ vi wx => ∃ k : Nat, k + g = l.ps.length ∧ vi = .int .i64 k ∧ Hid (wx.ownsRow w.heap.size 79 1 vo (ownsL (l.ps.take k)).length ((ownsL (l.ps.take k)).map u32V)) ∧ Hid (Below w.heap.size w wx))
  case atStart => exact ⟨0, by omega, rfl, Lib.hid (World.ownsRow_nil _ _ _ _), HB0⟩
  case round =>
    obtain ⟨k, hk, rfl, HO, HB⟩ := hrel
    by_cases hlt : k < l.ps.length
    · have hlt' : (k : Int) < l.ps.length := by omega
      obtain ⟨⟨x, y⟩, hq⟩ : ∃ q, l.ps[k]? = some q := ⟨_, List.getElem?_eq_getElem hlt⟩
      obtain ⟨b, rfl, -, q0, q1⟩ := PairsIn.at (HS.out _ HB.out) hq
      simp only at q0 q1
      have hsz := HB.out.size
      have hnl : (ownsL (l.ps.take k)).length ≤ 1000 := by
        unfold ownsL
        rw [List.length_map]
        have h1 := List.length_filter_le (fun p : Nat × Nat => decide (p.2 = 0)) (l.ps.take k)
        rw [List.length_take] at h1
        omega
      have hnx : ownsL (l.ps.take (k + 1)) = ownsL (l.ps.take k) ++ (if y = 0 then [x] else []) := by
        unfold ownsL
        rw [List.take_add_one, hq, List.filter_append, List.map_append]
        by_cases e : y = 0 <;> simp [e]
      have HBn : Hid (Below w.heap.size w (wr.alloc (.cells #[.int .u32 (x : Nat), .int .i64 (y : Nat)] 144))) := HB.out.alloc hsz _
      have HOn : Hid ((wr.alloc (.cells #[.int .u32 (x : Nat), .int .i64 (y : Nat)] 144)).ownsRow w.heap.size 79 1 u3 (ownsL (l.ps.take k)).length ((ownsL (l.ps.take k)).map u32V)) := HO.out.alloc _
      have hcz := (Blk.new wr #[.int .u32 (x : Nat), .int .i64 (y : Nat)] 144).cell
      have hsw : wr.heap.size + 1 = (wr.alloc (.cells #[.int .u32 (x : Nat), .int .i64 (y : Nat)] 144)).heap.size := by rw [World.size_alloc]
      have hone := one_new (wr.alloc (.cells #[.int .u32 (x : Nat), .int .i64 (y : Nat)] 144)) (.int .u32 (x : Nat)) 79
      rw [← hsw] at hone
      have Hone := Lib.hid hone
      clear hsw hone
      clear hq
      by_cases e : y = 0
      · rw [if_pos e] at hnx
        have Hnx := Lib.hid hnx
        subst e
        clear hnx
        go_wp2_with (at_builtin; refine wpList_append_own _ rfl _ _ 195 rfl w.heap.size 79 i0 (.int .u32 0) 1 4 Tryz.underlying195 Hi.out Hz0.out Hz1.out Hz2.out rfl (by decide) _ _ _ rfl (HOn.out.alloc _) ⟨wr.heap.size + 1, 0, none⟩ 1 1 [.int .u32 (x : Nat)] rfl rfl Hone.out (fun u hu => by simp at hu; subst hu; rfl) (by unfold maxLen; omega) (by omega) (by rw [World.size_alloc, World.size_alloc]; omega) ?_; intro v' w6 hown6 hgrow6 _)
        have HO6 : Hid (w6.ownsRow w.heap.size 79 1 v' (ownsL (l.ps.take (k + 1))).length ((ownsL (l.ps.take (k + 1))).map u32V)) := by
          rw [Hnx.out, List.map_append, List.length_append]
          exact hown6
        have HB6 : Hid (Below w.heap.size w w6) := (HBn.out.alloc (by rw [World.size_alloc]; omega) _).grown hgrow6 (by rw [World.size_alloc, World.size_alloc]; omega) (fun k hk => (HOn.out.lt k hk).1)
        clear hown6 hgrow6
        go_wp2_with fail
        go_roundg (l.ps.length - (k + 1))
        case measure => omega
        case rel => exact ⟨k + 1, by omega, by go_num, HO6, HB6⟩
      · rw [if_neg e, List.append_nil] at hnx
        have HO6 : Hid ((wr.alloc (.cells #[.int .u32 (x : Nat), .int .i64 (y : Nat)] 144)).ownsRow w.heap.size 79 1 u3 (ownsL (l.ps.take (k + 1))).length ((ownsL (l.ps.take (k + 1))).map u32V)) := by
          show World.ownsRow _ _ _ _ _ _ _
          rw [hnx]; exact HOn.out
        have eb : ((y : Int) == 0) = false := by simp; omega
        clear hnx
        go_wp2_with fail
        go_roundg (l.ps.length - (k + 1))
        case measure => omega
        case rel => exact ⟨k + 1, by omega, by go_num, HO6, HBn⟩
    · obtain rfl : k = l.ps.length := by omega
      rw [List.take_length] at HO
      go_wp2_with fail
      go_ret
      exact ⟨_, rfl, HO.out, HB.out⟩
set_option maxRecDepth 100000 in
set_option maxHeartbeats 2000000 in
theorem plain_lab_any (l : Lab) (v : Value) (w : World) (h : LabIn w v l) (hl : l.ps.length ≤ 1000) :
    Calls Tryz.prog 79 #[v] w fun e w' => e = .returned (.bool l.plain) ∧ Below w.heap.size w w' := by
  have hlen : l.plain = decide ((ownsL l.ps).length = 0) := by
    unfold Lab.plain ownsL
    rw [List.length_map]
    cases e : l.ps.all fun p => decide (p.2 ≠ 0) with
    | true =>
      symm
      rw [decide_eq_true_eq, List.length_eq_zero_iff, List.filter_eq_nil_iff]
      intro p hp
      have := List.all_eq_true.1 e p hp
      simpa using this
    | false =>
      symm
      rw [decide_eq_false_iff_not]
      intro h0
      rw [List.length_eq_zero_iff, List.filter_eq_nil_iff] at h0
      rw [List.all_eq_false] at e
      obtain ⟨p, hp, h1⟩ := e
      exact h1 (by have := h0 p hp; simpa using this)
  have Hlen := Lib.hid hlen
  obtain ⟨s, rfl, hps⟩ := h
  obtain ⟨wz, hwz⟩ : ∃ wz : World, wz = w.alloc (.cells #[.int .i64 (l.d : Nat), s] 104) := ⟨_, rfl⟩
  obtain ⟨a, c, rfl, hc1, hc2⟩ := RowAt.form hps
  have HBz : Hid (Below w.heap.size w wz) := by rw [hwz]; exact (Below.refl _ w).alloc (Nat.le_refl _) _
  have Ho := Lib.hid (owns_any l (.agg #[.int .i64 (l.d : Nat), .slice a l.ps.length c]) wz ⟨_, rfl, RowAt.below hps HBz.out (Nat.le_refl _)⟩ hl)
  clear hlen hps
  go_enter Tryz.func79, Tryz.ntmps79
  go_wp2_with fail
  rw [← hwz]
  refine Ho.out.mono ?_
  rintro e w1 ⟨r, rfl, hr, hb⟩
  have HB1 := Lib.hid (bel_from HBz.out hb)
  obtain ⟨ra, rc, rfl, -, -⟩ := RowAt.form (RowAt.own hr)
  clear hr hb hwz
  cases hd : decide ((ownsL l.ps).length = 0) with
  | true =>
    have h0 : (((ownsL l.ps).length : Int) == 0) = true := by rw [decide_eq_true_eq] at hd; simp [hd]
    have Hd := Lib.hid hd
    clear hd
    go_wp2_with fail
    go_ret
    exact ⟨by rw [Hlen.out, Hd.out]; rfl, HB1.out⟩
  | false =>
    have h0 : (((ownsL l.ps).length : Int) == 0) = false := by rw [decide_eq_false_iff_not] at hd; simp; intro e; exact hd (by rw [e]; rfl)
    have Hd := Lib.hid hd
    clear hd
    go_wp2_with fail
    go_ret
    exact ⟨by rw [Hlen.out, Hd.out]; rfl, HB1.out⟩
end Go.Proofs.YtjjnidbggoaonaaGreatDoor
/- Objects in memory; the home of an object; the segments of its maps. -/
namespace Go.Proofs.YtjjnidbggoaonaaGreatDoor
open Go.RowKit
attribute [local irreducible] World.setCell World.alloc World.drew World.setRow Calls Code.wp
attribute [local go_sem] Oper.semAt_some

theorem results_ct {fn : Func} {t p : Tmp} {ty : TypeId} (h : fn.results = #[.cell p ty, .tmp t]) (tmps : Array Value) (w : World) (ad : Addr) (v : Value)
    (hp : tmps.getD p undef = .pointer (some ad)) (hL : (loadVar ty ad).run Tryz.prog w = .ok v w) :
    (results fn tmps).run Tryz.prog w = .ok (.tuple #[v, tmps.getD t undef]) w := by
  have hp' : tmps[p]?.getD undef = .pointer (some ad) := by simpa using hp
  simp [results, h, hp', asAddr, hL, Result.andThen]
theorem load_label (w : World) (lb : Nat) (cs : Array Value) (hs : cs.size = 2) (h : Blk w lb cs 104) : (loadVar 104 ⟨lb, 0, none⟩).run Tryz.prog w = .ok (.agg cs) w :=
  run_loadVar_row w lb 104 104 cs (0, 0) _ h Tryz.underlying104 rfl (by rw [hs]; kernel_rfl)
/-- The cells of an object of a list. -/
theorem ObjsIn.at {w : World} {a : Option Addr} {c : Nat} {os : List WObj} (h : ObjsIn w (.slice a os.length c) os) {k : Nat} {o : WObj} (hk : os[k]? = some o) :
    ∃ (b : Nat) (s : OSl), a = some ⟨b, 0, none⟩ ∧ b < w.heap.size ∧ ObjV w o s.ls s.lc s.vd s.vm ∧ ∀ i, i < 12 → w.cell? ⟨b, k * 12 + i, none⟩ = (objC o s.ls s.lc s.vd s.vm)[i]? := by
  obtain ⟨ss, h1, h2, h3⟩ := h
  have hlt := (List.getElem?_eq_some_iff.1 hk).1
  obtain ⟨s, hs⟩ : ∃ s, ss[k]? = some s := ⟨_, List.getElem?_eq_getElem (by omega)⟩
  obtain ⟨b, rfl, hb, hc⟩ := RowAt.cells h3 (by omega)
  refine ⟨b, s, rfl, hb, h2 k o s hk hs, fun i hi => ?_⟩
  have e := objsC_at os ss h1 k o s hk hs i hi
  have hl : i < (objC o s.ls s.lc s.vd s.vm).length := hi
  rw [List.getElem?_eq_getElem hl] at e ⊢
  exact hc _ _ e
/-- Numbers of an object are of 64 bits. -/
structure WObj.bd (o : WObj) : Prop where
  k : I64 o.kind
  p : I64 o.parent
  pg : I64 o.pages
  nm : I64 o.names
  sp : I64 o.space
  pc : I64 o.pc
  ms : ∀ m ∈ o.maps, m.bd
  lab : o.lab.d ≤ 1000 ∧ o.lab.ps.length ≤ 1000 ∧ ∀ q ∈ o.lab.ps, q.1 < 4294967296 ∧ q.2 ≤ 1000
  clr : o.clr.d ≤ 1000 ∧ o.clr.ps.length ≤ 1000 ∧ ∀ q ∈ o.clr.ps, q.1 < 4294967296 ∧ q.2 ≤ 1000
  ln : o.data.length ≤ 100000 ∧ o.maps.length ≤ 100000
set_option maxRecDepth 100000 in
set_option maxHeartbeats 4000000 in
theorem segs_any (x y z : Int) (sv : Value) (oa : Option Addr) (n oc : Nat) (hn : n ≤ 100000) (ms : List WMap) (v : Value) (w : World) (h : MapsIn w v ms) (hb : ∀ m ∈ ms, m.bd) (hl : ms.length ≤ 100000) :
    Calls Tryz.prog 81 #[.agg #[.int .i64 x, .int .i64 y, .int .i64 z, sv, .slice oa n oc], v] w fun e w' => e = .returned (.bool (ms.all fun m => decide (m.seg ≤ (n : Int)))) ∧ Below w.heap.size w w' := by
  obtain ⟨a, c, rfl, hc1, hc2⟩ := RowAt.form h
  obtain ⟨wa, hwa⟩ : ∃ wa : World, wa = w.alloc (.cells #[.int .i64 x, .int .i64 y, .int .i64 z, sv, .slice oa n oc] 57) := ⟨_, rfl⟩
  obtain ⟨xb, hxb⟩ : ∃ xb, xb = w.heap.size := ⟨_, rfl⟩
  have HX : Hid (Blk wa xb #[.int .i64 x, .int .i64 y, .int .i64 z, sv, .slice oa n oc] 57) := by rw [hwa, hxb]; exact Blk.new _ _ _
  have HBa : Hid (Below w.heap.size w wa) := by rw [hwa]; exact (Below.refl _ w).alloc (Nat.le_refl _) _
  have HS := Lib.hid (fun w' (k : Below w.heap.size w w') => (RowAt.below h k (Nat.le_refl _) : MapsIn w' _ ms))
  have Hb := Lib.hid hb
  have Hxb := Lib.hid hxb
  have hw : IntKind.u64.wrap (n : Int) = n := IntWalk.u64_in _ (by omega)
  clear h hb
  go_enter Tryz.func81, Tryz.ntmps81
  go_wp2_with fail
  rw [← hwa, ← hxb]
  clear hwa hxb
  go_loopg [6, 9] ms.length (fun g _ vi wx => ∃ k : Nat, k + g = ms.length ∧ vi = .int .i64 k ∧ Hid (Below w.heap.size w wx) ∧ Hid (Blk wx xb #[.int .i64 x, .int .i64 y, .int .i64 z, sv, .slice oa n oc] 57) ∧ Hid ((ms.take k).all (fun m => decide (m.seg ≤ (n : Int))) = true))
  case atStart => exact ⟨0, by omega, rfl, HBa, HX, Lib.hid rfl⟩
  case round =>
    obtain ⟨k, hk, rfl, HB, HX, HA⟩ := hrel
    by_cases hlt : k < ms.length
    · have hlt' : (k : Int) < ms.length := by omega
      obtain ⟨m, hm⟩ : ∃ m, ms[k]? = some m := ⟨_, List.getElem?_eq_getElem hlt⟩
      obtain ⟨b, rfl, -, m0, m1, m2, m3, m4⟩ := MapsIn.at (HS.out _ HB.out) hm
      have hbd := (Hb.out m (List.mem_of_getElem? hm)).s
      have HBn : Hid (Below w.heap.size w (wr.alloc (.cells #[.int .i64 m.at_, .int .u64 m.seg, .int .i64 m.from_, .int .i64 m.n, .bool m.wr] 157))) := HB.out.alloc HB.out.size _
      have HXn : Hid (Blk (wr.alloc (.cells #[.int .i64 m.at_, .int .u64 m.seg, .int .i64 m.from_, .int .i64 m.n, .bool m.wr] 157)) xb #[.int .i64 x, .int .i64 y, .int .i64 z, sv, .slice oa n oc] 57) := HX.out.alloc _
      have hcx := HXn.out.cell
      have hcz := (Blk.new wr #[.int .i64 m.at_, .int .u64 m.seg, .int .i64 m.from_, .int .i64 m.n, .bool m.wr] 157).cell
      by_cases c1 : (n : Int) < m.seg
      · have Hd : Hid ((ms.all fun m => decide (m.seg ≤ (n : Int))) = false) := all_not (fun m : WMap => decide (m.seg ≤ (n : Int))) hm (decide_eq_false (by omega))
        clear hm
        go_wp2_with fail
        go_ret
        exact ⟨by rw [Hd.out]; rfl, HBn.out⟩
      · have HA2 := Lib.hid (take_all (fun m : WMap => decide (m.seg ≤ (n : Int))) hm HA.out (decide_eq_true (by omega)))
        clear hm
        go_wp2_with fail
        go_roundg (ms.length - (k + 1))
        case measure => omega
        case rel => exact ⟨k + 1, by omega, by go_num, HBn, HXn, HA2⟩
    · obtain rfl : k = ms.length := by omega
      rw [List.take_length] at HA
      go_wp2_with fail
      go_ret
      exact ⟨by rw [HA.out]; rfl, HB.out⟩
set_option maxRecDepth 100000 in
set_option maxHeartbeats 1000000 in
theorem lab_of_any (d : Nat) (w : World) :
    Calls Tryz.prog 117 #[.int .i64 (d : Int)] w fun e w' => e = .returned (.agg #[.int .i64 (d : Int), .slice none 0 0]) ∧ Below w.heap.size w w' := by
  have HB : Hid (Below w.heap.size w (w.alloc (.cells #[.int .i64 (d : Int), .slice none 0 0] 104))) := (Below.refl _ w).alloc (Nat.le_refl _) _
  have HF : Hid (Blk (w.alloc (.cells #[.int .i64 (d : Int), .slice none 0 0] 104)) w.heap.size #[.int .i64 (d : Int), .slice none 0 0] 104) := Blk.new _ _ _
  go_enter Tryz.func117, Tryz.ntmps117
  go_wp2_with fail
  refine bodyPost_ret (results_cell_row rfl _ _ w.heap.size _ _ (0, 0) _ rfl HF.out Tryz.underlying104 rfl (by kernel_rfl)) rfl ?_
  exact ⟨rfl, HB.out⟩
end Go.Proofs.YtjjnidbggoaonaaGreatDoor
