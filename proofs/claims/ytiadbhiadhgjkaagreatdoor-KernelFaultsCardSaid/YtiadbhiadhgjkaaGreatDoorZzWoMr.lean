/- Of the proof of this claim: a joined text. -/
import Derived.Test.YtiadbhiadhgjkaaGreatDoorZzKm
import Derived.Test.YtiadbhiadhgjkaaGreatDoorZzLib
import Derived.Deep.LoopGhost
import Derived.Laws.AppendOwnNone
set_option maxRecDepth 100000
set_option maxHeartbeats 4000000
namespace Go.Proofs.YtiadbhiadhgjkaaGreatDoor
open Go.RowKit
attribute [local irreducible] World.setCell World.alloc World.drew Calls Code.wp
attribute [local go_sem] Oper.semAt_some
def I64 (x : Int) : Prop := -9223372036854775808 <= x /\ x <= 9223372036854775807
structure WMap.bd (m : WMap) : Prop where
 a : I64 m.at_
 s : 0 <= m.seg /\ m.seg <= 18446744073709551615
 f : I64 m.from_
 n : I64 m.n
theorem mfits_any (m : WMap) (h : m.bd) (w : World) :
  Calls Tryz.prog 109 #[.agg #[.int .i64 m.at_, .int .u64 m.seg, .int .i64 m.from_, .int .i64 m.n, .bool m.wr]] w fun e w' => e = .returned (.bool m.fits) /\ Below w.heap.size w w' := by
 obtain ⟨a1, a2⟩ := h.a; obtain ⟨s1, s2⟩ := h.s; obtain ⟨f1, f2⟩ := h.f; obtain ⟨n1, n2⟩ := h.n;obtain ⟨at_, seg, fr, n, wr⟩ := m;simp only at a1 a2 s1 s2 f1 f2 n1 n2 ⊢;have hF : WMap.fits ⟨at_, seg, fr, n, wr⟩ = decide (1 <= n /\ n <= 16 /\ 0 <= at_ /\ at_ <= 4096 - n /\ 0 <= fr /\ fr <= 16 - n /\ seg ≠ 0) := rfl;have HF := Lib.hid hF;clear hF;have HB : Hid (Below w.heap.size w (w.alloc (.cells #[.int .i64 at_, .int .u64 seg, .int .i64 fr, .int .i64 n, .bool wr] 125))) := (Below.refl _ w).alloc (Nat.le_refl _) _;by_cases c1 : 1 <= n
 rotate_left
 ·have Hd : Hid (WMap.fits ⟨at_, seg, fr, n, wr⟩ = false) := by show _ = _; rw [HF.out, decide_eq_false (by omega)]
  go_enter Tryz.func109, Tryz.ntmps109
  go_wp2_with fail
  go_ret;exact ⟨by rw [Hd.out]; rfl, HB.out⟩
 by_cases c2 : n <= 16
 rotate_left
 ·have Hd : Hid (WMap.fits ⟨at_, seg, fr, n, wr⟩ = false) := by show _ = _; rw [HF.out, decide_eq_false (by omega)]
  go_enter Tryz.func109, Tryz.ntmps109
  go_wp2_with fail
  go_ret;exact ⟨by rw [Hd.out]; rfl, HB.out⟩
 have w1 : IntKind.i64.wrap (4096 - n) = 4096 - n := IntWalk.i64_in _ (by omega);have w2 : IntKind.i64.wrap (16 - n) = 16 - n := IntWalk.i64_in _ (by omega);by_cases c3 : 0 <= at_
 rotate_left
 ·have Hd : Hid (WMap.fits ⟨at_, seg, fr, n, wr⟩ = false) := by show _ = _; rw [HF.out, decide_eq_false (by omega)]
  go_enter Tryz.func109, Tryz.ntmps109
  go_wp2_with fail
  go_ret;exact ⟨by rw [Hd.out]; rfl, HB.out⟩
 by_cases c4 : at_ <= 4096 - n
 rotate_left
 ·have Hd : Hid (WMap.fits ⟨at_, seg, fr, n, wr⟩ = false) := by show _ = _; rw [HF.out, decide_eq_false (by omega)]
  go_enter Tryz.func109, Tryz.ntmps109
  go_wp2_with fail
  go_ret;exact ⟨by rw [Hd.out]; rfl, HB.out⟩
 by_cases c5 : 0 <= fr
 rotate_left
 ·have Hd : Hid (WMap.fits ⟨at_, seg, fr, n, wr⟩ = false) := by show _ = _; rw [HF.out, decide_eq_false (by omega)]
  go_enter Tryz.func109, Tryz.ntmps109
  go_wp2_with fail
  go_ret;exact ⟨by rw [Hd.out]; rfl, HB.out⟩
 by_cases c6 : fr <= 16 - n
 rotate_left
 ·have Hd : Hid (WMap.fits ⟨at_, seg, fr, n, wr⟩ = false) := by show _ = _; rw [HF.out, decide_eq_false (by omega)]
  go_enter Tryz.func109, Tryz.ntmps109
  go_wp2_with fail
  go_ret;exact ⟨by rw [Hd.out]; rfl, HB.out⟩
 by_cases c7 : seg = 0
 ·have Hd : Hid (WMap.fits ⟨at_, seg, fr, n, wr⟩ = false) := by show _ = _; rw [HF.out, decide_eq_false (by omega)]
  subst c7;go_enter Tryz.func109, Tryz.ntmps109
  go_wp2_with fail
  go_ret;exact ⟨by rw [Hd.out]; rfl, HB.out⟩
 ·have Hd : Hid (WMap.fits ⟨at_, seg, fr, n, wr⟩ = true) := by show _ = _; rw [HF.out, decide_eq_true (by omega)]
  have c7b : (seg != 0) = true := by simpa using c7
  go_enter Tryz.func109, Tryz.ntmps109
  go_wp2_with fail
  go_ret;exact ⟨by rw [Hd.out]; rfl, HB.out⟩
theorem SlotsIn.at {w : World} {a : Option Addr} {c : Nat} {ss : List (Int × Int)} (h : SlotsIn w (.slice a ss.length c) ss) {k : Nat} {s : Int × Int} (hk : ss[k]? = some s) :
  ∃ b, a = some ⟨b, 0, none⟩ /\ b < w.heap.size /\ w.cell? ⟨b, k * 2, none⟩ = some (.int .u64 s.1) /\ w.cell? ⟨b, k * 2 + 1, none⟩ = some (.int .i64 s.2) := by
 obtain ⟨b, rfl, hb, hc⟩ := RowAt.cells h (by have := (List.getElem?_eq_some_iff.1 hk).1; omega);have e0 := flat_at slotV 2 (fun _ => rfl) ss k s hk 0 (by omega);have e1 := flat_at slotV 2 (fun _ => rfl) ss k s hk 1 (by omega);exact ⟨b, rfl, hb, hc _ _ (by rw [Nat.add_zero] at e0; rw [e0]; rfl), hc _ _ (by rw [e1]; rfl)⟩
theorem MapsIn.at {w : World} {a : Option Addr} {c : Nat} {ms : List WMap} (h : MapsIn w (.slice a ms.length c) ms) {k : Nat} {m : WMap} (hk : ms[k]? = some m) :
  ∃ b, a = some ⟨b, 0, none⟩ /\ b < w.heap.size /\ w.cell? ⟨b, k * 5, none⟩ = some (.int .i64 m.at_) /\ w.cell? ⟨b, k * 5 + 1, none⟩ = some (.int .u64 m.seg) /\ w.cell? ⟨b, k * 5 + 2, none⟩ = some (.int .i64 m.from_) /\ w.cell? ⟨b, k * 5 + 3, none⟩ = some (.int .i64 m.n) /\ w.cell? ⟨b, k * 5 + 4, none⟩ = some (.bool m.wr) := by
 obtain ⟨b, rfl, hb, hc⟩ := RowAt.cells h (by have := (List.getElem?_eq_some_iff.1 hk).1; omega);have e0 := flat_at mapV 5 (fun _ => rfl) ms k m hk 0 (by omega);have e := fun i hi => flat_at mapV 5 (fun _ => rfl) ms k m hk i hi
 exact ⟨b, rfl, hb, hc _ _ (by rw [Nat.add_zero] at e0; rw [e0]; rfl), hc _ _ (by rw [e 1 (by omega)]; rfl), hc _ _ (by rw [e 2 (by omega)]; rfl), hc _ _ (by rw [e 3 (by omega)]; rfl), hc _ _ (by rw [e 4 (by omega)]; rfl)⟩
theorem take_all {α : Type} (f : α -> Bool) {l : List α} {k : Nat} {x : α} (h : l[k]? = some x) (h1 : (l.take k).all f = true) (h2 : f x = true) : (l.take (k + 1)).all f = true := by
 rw [List.take_add_one, h, List.all_append, h1];simp [h2]
theorem all_not {α : Type} (f : α -> Bool) {l : List α} {k : Nat} {x : α} (h : l[k]? = some x) (h2 : f x = false) : l.all f = false := by
 rw [List.all_eq_false];exact ⟨x, List.mem_of_getElem? h, by simp [h2]⟩
theorem slotsR_any (ss : List (Int × Int)) (v : Value) (w : World) (h : SlotsIn w v ss) (hb : ∀ s ∈ ss, I64 s.2) (hl : ss.length <= 100000) :
  Calls Tryz.prog 59 #[v] w fun e w' => e = .returned (.bool (slotsRight ss)) /\ Below w.heap.size w w' := by
 obtain ⟨a, c, rfl, hc1, hc2⟩ := RowAt.form h;have HS := Lib.hid (fun w' (k : Below w.heap.size w w') => (RowAt.below h k (Nat.le_refl _) : SlotsIn w' _ ss));have Hb := Lib.hid hb;have hR : slotsRight ss = (ss.all (fun s => decide (1 <= s.2 /\ s.2 <= 16)) && decide (1 <= ss.length /\ ss.length <= 8)) := rfl;have HR := Lib.hid hR;clear h hb hR;go_enter Tryz.func59, Tryz.ntmps59
 go_wp2_with fail
 go_loopg [4, 7] ss.length (fun g _ vi wx => ∃ k : Nat, k + g = ss.length /\ vi = .int .i64 k /\ Hid (Below w.heap.size w wx) /\ Hid ((ss.take k).all (fun s => decide (1 <= s.2 /\ s.2 <= 16)) = true))
 case atStart => exact ⟨0, by omega, rfl, Lib.hid (Below.refl _ _), Lib.hid rfl⟩
 case round =>
  obtain ⟨k, hk, rfl, HB, HA⟩ := hrel;by_cases hlt : k < ss.length
  ·have hlt' : (k : Int) < ss.length := by omega
   obtain ⟨s, hs⟩ : ∃ s, ss[k]? = some s := ⟨_, List.getElem?_eq_getElem hlt⟩;obtain ⟨b, rfl, -, s0, s1⟩ := SlotsIn.at (HS.out _ HB.out) hs;obtain ⟨g1, g2⟩ := Hb.out s (List.mem_of_getElem? hs);have HBn : Hid (Below w.heap.size w (wr.alloc (.cells #[.int .u64 s.1, .int .i64 s.2] 127))) := HB.out.alloc HB.out.size _;have Hn := Lib.hid (fun h2 => all_not (fun s : Int × Int => decide (1 <= s.2 /\ s.2 <= 16)) hs h2);have Hy := Lib.hid (fun h2 => take_all (fun s : Int × Int => decide (1 <= s.2 /\ s.2 <= 16)) hs HA.out h2);clear hs;by_cases c1 : s.2 < 1
   ·have Hd : Hid (slotsRight ss = false) := by show _ = _; rw [HR.out, Hn.out (decide_eq_false (by omega)), Bool.false_and]
    go_wp2_with fail
    go_ret;exact ⟨by rw [Hd.out]; rfl, HBn.out⟩
   ·by_cases c2 : 16 < s.2
    ·have Hd : Hid (slotsRight ss = false) := by show _ = _; rw [HR.out, Hn.out (decide_eq_false (by omega)), Bool.false_and]
     go_wp2_with fail
     go_ret;exact ⟨by rw [Hd.out]; rfl, HBn.out⟩
    ·have HA2 := Lib.hid (Hy.out (decide_eq_true (by omega)))
     go_wp2_with fail
     go_roundg (ss.length - (k + 1))
     case measure => omega
     case rel => exact ⟨k + 1, by omega, by go_num, HBn, HA2⟩
  ·obtain rfl : k = ss.length := by omega
   rw [List.take_length] at HA;by_cases c1 : 1 <= ss.length
   ·have c1' : (1 : Int) <= ss.length := by omega
    by_cases c2 : ss.length <= 8
    ·have c2' : (ss.length : Int) <= 8 := by omega
     have Hd : Hid (slotsRight ss = true) := by show _ = _; rw [HR.out, HA.out, decide_eq_true (by omega)]; rfl
     go_wp2_with fail
     go_ret;exact ⟨by rw [Hd.out]; rfl, HB.out⟩
    ·have c2' : ¬ (ss.length : Int) <= 8 := by omega
     have Hd : Hid (slotsRight ss = false) := by show _ = _; rw [HR.out, HA.out, decide_eq_false (by omega)]; rfl
     go_wp2_with fail
     go_ret;exact ⟨by rw [Hd.out]; rfl, HB.out⟩
   ·have c1' : ¬ (1 : Int) <= ss.length := by omega
    have Hd : Hid (slotsRight ss = false) := by show _ = _; rw [HR.out, HA.out, decide_eq_false (by omega)]; rfl
    go_wp2_with fail
    go_ret;exact ⟨by rw [Hd.out]; rfl, HB.out⟩
theorem mapsR_stop : ∀ {l : List WMap} {e : Int} {k : Nat} {m : WMap} {e' : Int}, l[k]? = some m -> (mapsR e l = mapsR e' (l.drop k)) -> (m.fits = false \/ m.at_ < e') -> mapsR e l = false := by
 intro l e k m e' h h1 h2;obtain ⟨a1, a2⟩ := List.getElem?_eq_some_iff.1 h;rw [h1, List.drop_eq_getElem_cons a1, a2];unfold mapsR;rcases h2 with h2 | h2
 ·rw [h2, Bool.false_and]
 ·rw [decide_eq_false (by omega), Bool.false_and, Bool.and_false]
theorem mapsR_next {l : List WMap} {e : Int} {k : Nat} {m : WMap} {e' : Int} (h : l[k]? = some m) (h1 : mapsR e l = mapsR e' (l.drop k)) (h2 : m.fits = true) (h3 : e' <= m.at_) : mapsR e l = mapsR (m.at_ + m.n) (l.drop (k + 1)) := by
 obtain ⟨a1, a2⟩ := List.getElem?_eq_some_iff.1 h;rw [h1, List.drop_eq_getElem_cons a1, a2];conv => lhs; unfold mapsR
 rw [h2, decide_eq_true h3, Bool.true_and, Bool.true_and]
theorem mapsR_any (ms : List WMap) (v : Value) (w : World) (h : MapsIn w v ms) (hb : ∀ m ∈ ms, m.bd) (hl : ms.length <= 100000) :
  Calls Tryz.prog 82 #[v] w fun e w' => e = .returned (.bool (mapsRight ms)) /\ Below w.heap.size w w' := by
 obtain ⟨a, c, rfl, hc1, hc2⟩ := RowAt.form h;have HS := Lib.hid (fun w' (k : Below w.heap.size w w') => (RowAt.below h k (Nat.le_refl _) : MapsIn w' _ ms));have Hb := Lib.hid hb;have hR : mapsRight ms = (mapsR 0 ms && decide (ms.length <= 16)) := rfl;have HR := Lib.hid hR;clear h hb hR;go_enter Tryz.func82, Tryz.ntmps82
 go_wp2_with fail
 go_loopg [3, 5, 8] ms.length (fun g ve _ vi wx => ∃ (k : Nat) (e : Int), k + g = ms.length /\ vi = .int .i64 k /\ ve = .int .i64 e /\ 0 <= e /\ e <= 10000 /\ Hid (Below w.heap.size w wx) /\ Hid (mapsR 0 ms = mapsR e (ms.drop k)))
 case atStart => exact ⟨0, 0, by omega, rfl, rfl, by omega, by omega, Lib.hid (Below.refl _ _), Lib.hid rfl⟩
 case round =>
  obtain ⟨k, e, hk, rfl, rfl, e0, e1, HB, HA⟩ := hrel;by_cases hlt : k < ms.length
  ·have hlt' : (k : Int) < ms.length := by omega
   obtain ⟨m, hm⟩ : ∃ m, ms[k]? = some m := ⟨_, List.getElem?_eq_getElem hlt⟩;obtain ⟨b, rfl, -, m0, m1, m2, m3, m4⟩ := MapsIn.at (HS.out _ HB.out) hm;have hbd := Hb.out m (List.mem_of_getElem? hm);have HBn : Hid (Below w.heap.size w (wr.alloc (.cells #[.int .i64 m.at_, .int .u64 m.seg, .int .i64 m.from_, .int .i64 m.n, .bool m.wr] 125))) := HB.out.alloc HB.out.size _;have Hz : Hid (Blk (wr.alloc (.cells #[.int .i64 m.at_, .int .u64 m.seg, .int .i64 m.from_, .int .i64 m.n, .bool m.wr] 125)) wr.heap.size #[.int .i64 m.at_, .int .u64 m.seg, .int .i64 m.from_, .int .i64 m.n, .bool m.wr] 125) := Blk.new _ _ _;have Hn := Lib.hid (fun h2 => mapsR_stop hm HA.out h2);have Hy := Lib.hid (fun h2 h3 => mapsR_next hm HA.out h2 h3);have Hf := Lib.hid (fun w => mfits_any m hbd w);have hfit : m.fits = true -> 0 <= m.at_ + m.n /\ m.at_ + m.n <= 4096 := fun h => by unfold WMap.fits at h; rw [decide_eq_true_eq] at h; omega
   have Hfit := Lib.hid hfit;obtain ⟨wz, hwz⟩ : ∃ wz : World, wz = wr.alloc (.cells #[.int .i64 m.at_, .int .u64 m.seg, .int .i64 m.from_, .int .i64 m.n, .bool m.wr] 125) := ⟨_, rfl⟩;obtain ⟨zb, hzb⟩ : ∃ zb, zb = wr.heap.size := ⟨_, rfl⟩;rw [<- hwz] at HBn Hz;rw [<- hzb] at Hz;have hcz := Hz.out.cell;clear hm hbd hfit;go_wp2_with fail
   rw [<- hwz, <- hzb];clear hwz hzb;refine (Hf.out _).mono ?_;rintro ez w2 ⟨rfl, hb2⟩;have HB2 := Lib.hid (bel_from HBn.out hb2);have Hz2 := Lib.hid (Blk.below Hz.out hb2 Hz.out.lt);have hcz2 := Hz2.out.cell;clear hb2 hcz
   cases hfit : m.fits with
   | false =>
    have Hd : Hid (mapsRight ms = false) := by show _ = _; rw [HR.out, Hn.out (.inl hfit), Bool.false_and]
    clear hfit;go_wp2_with fail
    go_ret;exact ⟨by rw [Hd.out]; rfl, HB2.out⟩
   | true =>
    have hf2 := Hfit.out hfit;by_cases c1 : m.at_ < e
    ·have Hd : Hid (mapsRight ms = false) := by show _ = _; rw [HR.out, Hn.out (.inr c1), Bool.false_and]
     clear hfit;go_wp2_with fail
     go_ret;exact ⟨by rw [Hd.out]; rfl, HB2.out⟩
    ·have HA2 := Lib.hid (Hy.out hfit (by omega))
     have hw : IntKind.i64.wrap (m.at_ + m.n) = m.at_ + m.n := IntWalk.i64_in _ (by omega);clear hfit;go_wp2_with fail
     go_roundg (ms.length - (k + 1))
     case measure => omega
     case rel => exact ⟨k + 1, m.at_ + m.n, by omega, by go_num, rfl, by omega, by omega, HB2, HA2⟩
  ·obtain rfl : k = ms.length := by omega
   rw [List.drop_length] at HA;by_cases c1 : ms.length <= 16
   ·have c1' : (ms.length : Int) <= 16 := by omega
    have Hd : Hid (mapsRight ms = true) := by show _ = _; rw [HR.out, HA.out, decide_eq_true c1]; rfl
    go_wp2_with fail
    go_ret;exact ⟨by rw [Hd.out]; rfl, HB.out⟩
   ·have c1' : ¬ (ms.length : Int) <= 16 := by omega
    have Hd : Hid (mapsRight ms = false) := by show _ = _; rw [HR.out, decide_eq_false c1, Bool.and_false]
    go_wp2_with fail
    go_ret;exact ⟨by rw [Hd.out]; rfl, HB.out⟩
end Go.Proofs.YtiadbhiadhgjkaaGreatDoor
namespace Go.Proofs.YtiadbhiadhgjkaaGreatDoor
open Go.RowKit
attribute [local irreducible] World.setCell World.alloc World.drew World.setRow Calls Code.wp
attribute [local go_sem] Oper.semAt_some
def ownsL (ps : List (Nat × Nat)) : List Nat := (ps.filter fun p => decide (p.2 = 0)).map (·.1)
def u32V (c : Nat) : Value := .int .u32 (c : Nat)
theorem info_u32 : (Tryz.prog.info? 71).map (fun i => (i.zero, i.size, i.bytes)) = some (some (.int .u32 0), 1, 4) := by kernel_rfl
theorem one_new (w : World) (v : Value) (t : TypeId) : ∀ (j : Nat) (u : Value), [v][j]? = some u -> (w.alloc (.cells #[v] t)).cell? ((⟨w.heap.size, 0, none⟩ : Addr).add j) = some u := by
 intro j u h
 have hj : j = 0 := by
  rcases Nat.eq_zero_or_pos j with e | e
  ·exact e
  ·rw [List.getElem?_eq_none (by simp; omega)] at h; cases h
 subst hj;rw [Addr.add_lit, (Blk.new w #[v] t).cell];simpa using h
theorem owns_any (l : Lab) (v : Value) (w : World) (h : LabIn w v l) (hl : l.ps.length <= 1000) :
  Calls Tryz.prog 9 #[v] w fun e w' => ∃ r, e = .returned r /\ w'.ownsRow w.heap.size 71 1 r (ownsL l.ps).length ((ownsL l.ps).map u32V) /\ Below w.heap.size w w' := by
 obtain ⟨s, rfl, hps⟩ := h;obtain ⟨a, c, rfl, hc1, hc2⟩ := RowAt.form hps;have HS := Lib.hid (fun w' (k : Below w.heap.size w w') => (RowAt.below hps k (Nat.le_refl _) : PairsIn w' _ l.ps));obtain ⟨i0, hi, hz0, hz1, hz2⟩ := info_parts info_u32;have Hi := Lib.hid hi; have Hz0 := Lib.hid hz0; have Hz1 := Lib.hid hz1; have Hz2 := Lib.hid hz2;have HB0 : Hid (Below w.heap.size w (w.alloc (.cells #[.int .i64 (l.d : Nat), .slice a l.ps.length c] 43))) := (Below.refl _ w).alloc (Nat.le_refl _) _;clear hi hz0 hz1 hz2 hps;go_enter Tryz.func9, Tryz.ntmps9
 go_wp2_with fail
 go_loopg [3, 5, 9] l.ps.length (fun g vo _ vi wx => ∃ k : Nat, k + g = l.ps.length /\ vi = .int .i64 k /\ Hid (wx.ownsRow w.heap.size 71 1 vo (ownsL (l.ps.take k)).length ((ownsL (l.ps.take k)).map u32V)) /\ Hid (Below w.heap.size w wx))
 case atStart => exact ⟨0, by omega, rfl, Lib.hid (World.ownsRow_nil _ _ _ _), HB0⟩
 case round =>
  obtain ⟨k, hk, rfl, HO, HB⟩ := hrel;by_cases hlt : k < l.ps.length
  ·have hlt' : (k : Int) < l.ps.length := by omega
   obtain ⟨⟨x, y⟩, hq⟩ : ∃ q, l.ps[k]? = some q := ⟨_, List.getElem?_eq_getElem hlt⟩;obtain ⟨b, rfl, -, q0, q1⟩ := PairsIn.at (HS.out _ HB.out) hq;simp only at q0 q1;have hsz := HB.out.size
   have hnl : (ownsL (l.ps.take k)).length <= 1000 := by
    unfold ownsL;rw [List.length_map];have h1 := List.length_filter_le (fun p : Nat × Nat => decide (p.2 = 0)) (l.ps.take k);rw [List.length_take] at h1;omega
   have hnx : ownsL (l.ps.take (k + 1)) = ownsL (l.ps.take k) ++ (if y = 0 then [x] else []) := by
    unfold ownsL;rw [List.take_add_one, hq, List.filter_append, List.map_append];by_cases e : y = 0 <;> simp [e]
   have HBn : Hid (Below w.heap.size w (wr.alloc (.cells #[.int .u32 (x : Nat), .int .i64 (y : Nat)] 111))) := HB.out.alloc hsz _;have HOn : Hid ((wr.alloc (.cells #[.int .u32 (x : Nat), .int .i64 (y : Nat)] 111)).ownsRow w.heap.size 71 1 u3 (ownsL (l.ps.take k)).length ((ownsL (l.ps.take k)).map u32V)) := HO.out.alloc _;have hcz := (Blk.new wr #[.int .u32 (x : Nat), .int .i64 (y : Nat)] 111).cell;have hsw : wr.heap.size + 1 = (wr.alloc (.cells #[.int .u32 (x : Nat), .int .i64 (y : Nat)] 111)).heap.size := by rw [World.size_alloc]
   have hone := one_new (wr.alloc (.cells #[.int .u32 (x : Nat), .int .i64 (y : Nat)] 111)) (.int .u32 (x : Nat)) 71;rw [<- hsw] at hone;have Hone := Lib.hid hone;clear hsw hone;clear hq;by_cases e : y = 0
   ·rw [if_pos e] at hnx
    have Hnx := Lib.hid hnx;subst e;clear hnx;go_wp2_with (at_builtin; refine wpList_append_own _ rfl _ _ 69 rfl w.heap.size 71 i0 (.int .u32 0) 1 4 Tryz.underlying69 Hi.out Hz0.out Hz1.out Hz2.out rfl (by decide) _ _ _ rfl (HOn.out.alloc _) ⟨wr.heap.size + 1, 0, none⟩ 1 1 [.int .u32 (x : Nat)] rfl rfl Hone.out (fun u hu => by simp at hu; subst hu; rfl) (by unfold maxLen; omega) (by omega) (by rw [World.size_alloc, World.size_alloc]; omega) ?_; intro v' w6 hown6 hgrow6 _)
    have HO6 : Hid (w6.ownsRow w.heap.size 71 1 v' (ownsL (l.ps.take (k + 1))).length ((ownsL (l.ps.take (k + 1))).map u32V)) := by
     rw [Hnx.out, List.map_append, List.length_append];exact hown6
    have HB6 : Hid (Below w.heap.size w w6) := (HBn.out.alloc (by rw [World.size_alloc]; omega) _).grown hgrow6 (by rw [World.size_alloc, World.size_alloc]; omega) (fun k hk => (HOn.out.lt k hk).1);clear hown6 hgrow6;go_wp2_with fail
    go_roundg (l.ps.length - (k + 1))
    case measure => omega
    case rel => exact ⟨k + 1, by omega, by go_num, HO6, HB6⟩
   ·rw [if_neg e, List.append_nil] at hnx
    have HO6 : Hid ((wr.alloc (.cells #[.int .u32 (x : Nat), .int .i64 (y : Nat)] 111)).ownsRow w.heap.size 71 1 u3 (ownsL (l.ps.take (k + 1))).length ((ownsL (l.ps.take (k + 1))).map u32V)) := by
     show World.ownsRow _ _ _ _ _ _ _
     rw [hnx]; exact HOn.out
    have eb : ((y : Int) == 0) = false := by simp; omega
    clear hnx;go_wp2_with fail
    go_roundg (l.ps.length - (k + 1))
    case measure => omega
    case rel => exact ⟨k + 1, by omega, by go_num, HO6, HBn⟩
  ·obtain rfl : k = l.ps.length := by omega
   rw [List.take_length] at HO;go_wp2_with fail
   go_ret;exact ⟨_, rfl, HO.out, HB.out⟩
theorem plain_lab_any (l : Lab) (v : Value) (w : World) (h : LabIn w v l) (hl : l.ps.length <= 1000) :
  Calls Tryz.prog 81 #[v] w fun e w' => e = .returned (.bool l.plain) /\ Below w.heap.size w w' := by
 have hlen : l.plain = decide ((ownsL l.ps).length = 0) := by
  unfold Lab.plain ownsL;rw [List.length_map]
  cases e : l.ps.all fun p => decide (p.2 ≠ 0) with
  | true =>
   symm
   rw [decide_eq_true_eq, List.length_eq_zero_iff, List.filter_eq_nil_iff];intro p hp;have := List.all_eq_true.1 e p hp;simpa using this
  | false =>
   symm
   rw [decide_eq_false_iff_not];intro h0;rw [List.length_eq_zero_iff, List.filter_eq_nil_iff] at h0;rw [List.all_eq_false] at e;obtain ⟨p, hp, h1⟩ := e;exact h1 (by have := h0 p hp; simpa using this)
 have Hlen := Lib.hid hlen;obtain ⟨s, rfl, hps⟩ := h;obtain ⟨wz, hwz⟩ : ∃ wz : World, wz = w.alloc (.cells #[.int .i64 (l.d : Nat), s] 43) := ⟨_, rfl⟩;obtain ⟨a, c, rfl, hc1, hc2⟩ := RowAt.form hps;have HBz : Hid (Below w.heap.size w wz) := by rw [hwz]; exact (Below.refl _ w).alloc (Nat.le_refl _) _
 have Ho := Lib.hid (owns_any l (.agg #[.int .i64 (l.d : Nat), .slice a l.ps.length c]) wz ⟨_, rfl, RowAt.below hps HBz.out (Nat.le_refl _)⟩ hl);clear hlen hps;go_enter Tryz.func81, Tryz.ntmps81
 go_wp2_with fail
 rw [<- hwz];refine Ho.out.mono ?_;rintro e w1 ⟨r, rfl, hr, hb⟩;have HB1 := Lib.hid (bel_from HBz.out hb);obtain ⟨ra, rc, rfl, -, -⟩ := RowAt.form (RowAt.own hr);clear hr hb hwz
 cases hd : decide ((ownsL l.ps).length = 0) with
 | true =>
  have h0 : (((ownsL l.ps).length : Int) == 0) = true := by rw [decide_eq_true_eq] at hd; simp [hd]
  have Hd := Lib.hid hd;clear hd;go_wp2_with fail
  go_ret;exact ⟨by rw [Hlen.out, Hd.out]; rfl, HB1.out⟩
 | false =>
  have h0 : (((ownsL l.ps).length : Int) == 0) = false := by rw [decide_eq_false_iff_not] at hd; simp; intro e; exact hd (by rw [e]; rfl)
  have Hd := Lib.hid hd;clear hd;go_wp2_with fail
  go_ret;exact ⟨by rw [Hlen.out, Hd.out]; rfl, HB1.out⟩
end Go.Proofs.YtiadbhiadhgjkaaGreatDoor
namespace Go.Proofs.YtiadbhiadhgjkaaGreatDoor
open Go.RowKit
structure Pool where
 n : Nat
 O : Nat -> Int
 D : Nat -> Int
def freeTo (O : Nat -> Int) : Nat -> Nat
 | 0 => 0
 | k + 1 => freeTo O k + (if O k = 0 then 1 else 0)
def firstFree (O : Nat -> Int) : Nat -> Nat
 | 0 => 0
 | k + 1 => if firstFree O k < k then firstFree O k else if O k = 0 then k else k + 1
def countTo (O : Nat -> Int) (o : Int) : Nat -> Nat
 | 0 => 0
 | k + 1 => countTo O o k + (if O k = o then 1 else 0)
theorem freeTo_le (O : Nat -> Int) (k : Nat) : freeTo O k <= k := by
 induction k with
 | zero => exact Nat.le_refl _
 | succ k ih => unfold freeTo; split <;> omega
theorem countTo_zero (O : Nat -> Int) (k : Nat) : countTo O 0 k = freeTo O k := by
 induction k with
 | zero => rfl
 | succ k ih => unfold countTo freeTo; rw [ih]
theorem firstFree_le (O : Nat -> Int) (k : Nat) : firstFree O k <= k := by
 induction k with
 | zero => exact Nat.le_refl _
 | succ k ih => unfold firstFree; (repeat' split) <;> omega
theorem firstFree_none (O : Nat -> Int) (k j : Nat) (h : j < firstFree O k) : O j ≠ 0 := by
 induction k with
 | zero => simp [firstFree] at h
 | succ k ih =>
  unfold firstFree at h;by_cases h1 : firstFree O k < k
  ·rw [if_pos h1] at h; exact ih h
  ·rw [if_neg h1] at h
   have h2 := firstFree_le O k;have h3 : firstFree O k = k := by omega
   by_cases h4 : O k = 0
   ·rw [if_pos h4] at h; exact ih (by omega)
   ·rw [if_neg h4] at h
    by_cases h5 : j = k
    ·subst h5; exact h4
    ·exact ih (by omega)
theorem firstFree_free (O : Nat -> Int) (k : Nat) (h : firstFree O k < k) : O (firstFree O k) = 0 := by
 induction k with
 | zero => omega
 | succ k ih =>
  by_cases h1 : firstFree O k < k
  ·have e : firstFree O (k + 1) = firstFree O k := by rw [firstFree, if_pos h1]
   rw [e]; exact ih h1
  ·by_cases h4 : O k = 0
   ·have e : firstFree O (k + 1) = k := by rw [firstFree, if_neg h1, if_pos h4]
    rw [e]; exact h4
   ·have e : firstFree O (k + 1) = k + 1 := by rw [firstFree, if_neg h1, if_neg h4]
    omega
theorem firstFree_eq (O : Nat -> Int) (k i : Nat) (hi : i <= k) (h1 : ∀ j, j < i -> O j ≠ 0) (h2 : i < k -> O i = 0) : firstFree O k = i := by
 rcases Nat.lt_trichotomy (firstFree O k) i with h | h | h
 ·exact absurd (firstFree_free O k (by omega)) (h1 _ h)
 ·exact h
 ·have := firstFree_le O k
  exact absurd (h2 (by omega)) (firstFree_none O k i h)
theorem freeTo_pos (O : Nat -> Int) (k : Nat) : freeTo O k = 0 ↔ firstFree O k = k := by
 induction k with
 | zero => simp [freeTo, firstFree]
 | succ k ih =>
  have h2 := firstFree_le O k;by_cases h4 : O k = 0
  ·have e1 : freeTo O (k + 1) = freeTo O k + 1 := by rw [freeTo, if_pos h4]
   have e2 : firstFree O (k + 1) <= k := by rw [firstFree, if_pos h4]; split <;> omega
   omega
  ·have e1 : freeTo O (k + 1) = freeTo O k := by rw [freeTo, if_neg h4]; rfl
   by_cases h1 : firstFree O k < k
   ·have e : firstFree O (k + 1) = firstFree O k := by rw [firstFree, if_pos h1]
    rw [e1, e]; omega
   ·have e : firstFree O (k + 1) = k + 1 := by rw [firstFree, if_neg h1, if_neg h4]
    rw [e1, e]; omega
def updI (O : Nat -> Int) (i : Nat) (v : Int) : Nat -> Int := fun j => if j = i then v else O j
theorem updI_same (O : Nat -> Int) (i : Nat) (v : Int) : updI O i v i = v := by simp [updI]
theorem updI_other (O : Nat -> Int) (i j : Nat) (v : Int) (h : j ≠ i) : updI O i v j = O j := by simp [updI, h]
theorem countTo_upd_ge (O : Nat -> Int) (o v : Int) (i k : Nat) (h : k <= i) : countTo (updI O i v) o k = countTo O o k := by
 induction k with
 | zero => rfl
 | succ k ih => unfold countTo; rw [ih (by omega), updI_other _ _ _ _ (by omega)]
theorem countTo_upd (O : Nat -> Int) (o v : Int) (i k : Nat) (h : i < k) : countTo (updI O i v) o k + (if O i = o then 1 else 0) = countTo O o k + (if v = o then 1 else 0) := by
 induction k with
 | zero => omega
 | succ k ih =>
  unfold countTo;by_cases e : k = i
  ·subst e
   rw [countTo_upd_ge O o v k k (Nat.le_refl _), updI_same]; omega
  ·have := ih (by omega)
   rw [updI_other _ _ _ _ e]; omega
theorem freeTo_upd (O : Nat -> Int) (v : Int) (i k : Nat) (h : i < k) : freeTo (updI O i v) k + (if O i = 0 then 1 else 0) = freeTo O k + (if v = 0 then 1 else 0) := by
 rw [<- countTo_zero, <- countTo_zero]; exact countTo_upd O 0 v i k h
def Pool.left (P : Pool) : Nat := freeTo P.O P.n
def Pool.there (P : Pool) (f : Int) : Bool := decide (1 <= f) && decide (f <= P.n)
def Pool.owner (P : Pool) (f : Int) : Int := if P.there f then P.O (f.toNat - 1) else 0
def Pool.fits (P : Pool) (f off n : Int) : Bool := (P.owner f != 0) && decide (0 <= n) && decide (n <= 64) && decide (0 <= off) && decide (off <= 64 - n)
def Pool.allocRet (P : Pool) (owner : Int) : Int := if owner ≠ 0 /\ firstFree P.O P.n < P.n then firstFree P.O P.n + 1 else 0
def Pool.alloc (P : Pool) (owner : Int) : Pool :=
 if owner ≠ 0 /\ firstFree P.O P.n < P.n then ⟨P.n, updI P.O (firstFree P.O P.n) owner, fun j => if firstFree P.O P.n * 64 <= j /\ j < firstFree P.O P.n * 64 + 64 then 0 else P.D j⟩ else P
def Pool.free (P : Pool) (f : Int) : Pool := if P.owner f ≠ 0 then ⟨P.n, updI P.O (f.toNat - 1) 0, P.D⟩ else P
def Pool.write (P : Pool) (f off : Int) (m : Nat) (B : Nat -> Int) : Pool :=
 if P.fits f off m then ⟨P.n, P.O, fun j => if (f.toNat - 1) * 64 + off.toNat <= j /\ j < (f.toNat - 1) * 64 + off.toNat + m then B (j - ((f.toNat - 1) * 64 + off.toNat)) else P.D j⟩ else P
theorem Pool.there_iff (P : Pool) (f : Int) : P.there f = true ↔ 1 <= f /\ f <= P.n := by simp [Pool.there]
theorem Pool.owner_there (P : Pool) (f : Int) (h : P.owner f ≠ 0) : P.there f = true := by
 unfold Pool.owner at h; split at h
 ·assumption
 ·exact absurd rfl h
theorem Pool.fits_iff (P : Pool) (f off n : Int) : P.fits f off n = true ↔ P.owner f ≠ 0 /\ 0 <= n /\ n <= 64 /\ 0 <= off /\ off <= 64 - n := by
 simp [Pool.fits, and_assoc]
structure PoolAt (w : World) (pb db ob : Nat) (P : Pool) : Prop where
 hp : Blk w pb #[.slice (some ⟨db, 0, none⟩) P.n P.n, .slice (some ⟨ob, 0, none⟩) P.n P.n, .int .i64 P.left] 184
 hd : Blk w db (row (P.n * 64) fun i => .int .u8 (P.D i)) 186
 ho : Blk w ob (row P.n fun i => .int .u64 (P.O i)) 37
 n1 : pb ≠ db
 n2 : pb ≠ ob
 n3 : db ≠ ob
 lo : 1 <= P.n
 hi : P.n <= 4096
 bd : ∀ i, 0 <= P.D i /\ P.D i <= 255
def PS (pb db ob : Nat) : Nat -> Prop := fun k => k = pb \/ k = db \/ k = ob
theorem PoolAt.kept {S : Nat -> Prop} {w w' : World} {pb db ob : Nat} {P : Pool} (h : PoolAt w pb db ob P) (k : Kept S w w') (h1 : ¬ S pb) (h2 : ¬ S db) (h3 : ¬ S ob) : PoolAt w' pb db ob P :=
 ⟨k.blk h.hp h1, k.blk h.hd h2, k.blk h.ho h3, h.n1, h.n2, h.n3, h.lo, h.hi, h.bd⟩
theorem PoolAt.below {w w' : World} {pb db ob : Nat} {P : Pool} (h : PoolAt w pb db ob P) (k : Below w.heap.size w w') : PoolAt w' pb db ob P :=
 h.kept (S := fun _ => False) (Kept.of_below k) (fun h => h) (fun h => h) (fun h => h)
theorem PoolAt.drew {w : World} {pb db ob : Nat} {P : Pool} (h : PoolAt w pb db ob P) : PoolAt w.drew pb db ob P :=
 ⟨h.hp, h.hd, h.ho, h.n1, h.n2, h.n3, h.lo, h.hi, h.bd⟩
end Go.Proofs.YtiadbhiadhgjkaaGreatDoor
namespace Go.Proofs.YtiadbhiadhgjkaaGreatDoor
open Go.RowKit
attribute [local irreducible] World.setCell World.alloc World.drew World.setRow Calls Code.wp row
theorem left_any (pb db ob : Nat) (P : Pool) (w : World) (hP : PoolAt w pb db ob P) :
  Calls Tryz.prog 62 #[.pointer (some ⟨pb, 0, none⟩)] w fun e w' => e = .returned (.int .i64 P.left) /\ w = w' := by
 have hc := hP.hp.cell;clear hP;go_enter Tryz.func62, Tryz.ntmps62
 go_wp2
 go_ret;exact ⟨rfl, rfl⟩
theorem there_any (pb db ob : Nat) (P : Pool) (f : Int) (w : World) (hP : PoolAt w pb db ob P) :
  Calls Tryz.prog 132 #[.pointer (some ⟨pb, 0, none⟩), .int .i64 f] w fun e w' => e = .returned (.bool (P.there f)) /\ w = w' := by
 have hc := hP.hp.cell;clear hP;have ht : P.there f = (decide (1 <= f) && decide (f <= P.n)) := rfl;have Ht := Lib.hid ht; clear ht;by_cases h1 : 1 <= f
 ·have h1b : decide (1 <= f) = true := by simpa using h1
  go_enter Tryz.func132, Tryz.ntmps132
  go_wp2
  all_goals go_ret
  all_goals exact ⟨by rw [Ht.out, h1b]; simp, rfl⟩
 ·have h1b : decide (1 <= f) = false := by simpa using h1
  go_enter Tryz.func132, Tryz.ntmps132
  go_wp2
  all_goals go_ret
  all_goals exact ⟨by rw [Ht.out, h1b]; simp, rfl⟩
theorem owner_any (pb db ob : Nat) (P : Pool) (f : Int) (w : World) (hP : PoolAt w pb db ob P) :
  Calls Tryz.prog 108 #[.pointer (some ⟨pb, 0, none⟩), .int .i64 f] w fun e w' => e = .returned (.int .u64 (P.owner f)) /\ w = w' := by
 have hc := hP.hp.cell;have hw : P.owner f = if P.there f then P.O (f.toNat - 1) else 0 := rfl
 by_cases ht : P.there f = true
 ·obtain ⟨h1, h2⟩ := (P.there_iff f).1 ht
  obtain ⟨k, rfl⟩ : ∃ k : Nat, f = (k : Int) + 1 := ⟨(f - 1).toNat, by omega⟩;have ho := hP.ho.rowAt k (by omega);have hhi := hP.hi;have HP := Lib.hid hP; clear hP;rw [if_pos ht] at hw;have e : ((k : Int) + 1).toNat - 1 = k := by omega
  rw [e] at hw;have Hw := Lib.hid hw; clear hw e;have Ht := Lib.hid ht; clear ht;go_enter Tryz.func108, Tryz.ntmps108
  go_wp2_with fail
  refine (there_any pb db ob P _ _ HP.out).mono ?_;rintro e w' ⟨rfl, rfl⟩;rw [Ht.out];go_wp2_with fail
  go_ret;exact ⟨by rw [Hw.out]; rfl, rfl⟩
 ·rw [if_neg ht] at hw
  have ht' : P.there f = false := by simpa using ht
  have Hw := Lib.hid hw; clear hw;have HP := Lib.hid hP; clear hP;have Ht := Lib.hid ht'; clear ht ht';go_enter Tryz.func108, Tryz.ntmps108
  go_wp2_with fail
  refine (there_any pb db ob P _ _ HP.out).mono ?_;rintro e w' ⟨rfl, rfl⟩;rw [Ht.out];go_wp2_with fail
  go_ret;exact ⟨by rw [Hw.out]; rfl, rfl⟩
theorem fits_any (pb db ob : Nat) (P : Pool) (f off n : Int) (w : World) (hP : PoolAt w pb db ob P) :
  Calls Tryz.prog 79 #[.pointer (some ⟨pb, 0, none⟩), .int .i64 f, .int .i64 off, .int .i64 n] w fun e w' => e = .returned (.bool (P.fits f off n)) /\ w = w' := by
 have hw : P.fits f off n = ((((P.owner f != 0) && decide (0 <= n)) && decide (n <= 64)) && decide (0 <= off) && decide (off <= 64 - n)) := rfl;have Hw := Lib.hid hw; clear hw;have HP := Lib.hid hP; clear hP
 cases e1 : (P.owner f != 0)
 ·go_enter Tryz.func79, Tryz.ntmps79
  go_wp2_with (go_at_call 108; refine (owner_any pb db ob P _ _ HP.out).mono ?_; rintro e w' ⟨rfl, rfl⟩)
  go_ret;exact ⟨by rw [Hw.out, e1]; rfl, rfl⟩
 by_cases h2 : 0 <= n
 ·by_cases h3 : n <= 64
  ·by_cases h4 : 0 <= off
   ·go_enter Tryz.func79, Tryz.ntmps79
    go_wp2_with (go_at_call 108; refine (owner_any pb db ob P _ _ HP.out).mono ?_; rintro e w' ⟨rfl, rfl⟩)
    go_ret;exact ⟨by rw [Hw.out, e1]; simp [h2, h3, h4], rfl⟩
   ·go_enter Tryz.func79, Tryz.ntmps79
    go_wp2_with (go_at_call 108; refine (owner_any pb db ob P _ _ HP.out).mono ?_; rintro e w' ⟨rfl, rfl⟩)
    go_ret;exact ⟨by rw [Hw.out, e1]; simp; omega, rfl⟩
  ·go_enter Tryz.func79, Tryz.ntmps79
   go_wp2_with (go_at_call 108; refine (owner_any pb db ob P _ _ HP.out).mono ?_; rintro e w' ⟨rfl, rfl⟩)
   go_ret;exact ⟨by rw [Hw.out, e1]; simp; omega, rfl⟩
 ·go_enter Tryz.func79, Tryz.ntmps79
  go_wp2_with (go_at_call 108; refine (owner_any pb db ob P _ _ HP.out).mono ?_; rintro e w' ⟨rfl, rfl⟩)
  go_ret;exact ⟨by rw [Hw.out, e1]; simp; omega, rfl⟩
end Go.Proofs.YtiadbhiadhgjkaaGreatDoor
