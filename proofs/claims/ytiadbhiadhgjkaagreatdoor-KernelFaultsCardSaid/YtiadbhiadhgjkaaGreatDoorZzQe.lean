/- Of the proof of this claim: a joined text. -/
import Derived.Test.YtiadbhiadhgjkaaGreatDoorZzNh
import Derived.KernelRfl
set_option maxRecDepth 100000
namespace Go.Proofs.YtiadbhiadhgjkaaGreatDoor
def isDone (K : Km) : Option Bool := if K.nc = 1 then match K.obj 6 with
 | none => some true
 | some o => if o.kind = 3 then some (decide (o.th.state = 0) && decide (o.th.cont.phase = 0)) else none else none
theorem isDone_spec {K : Km} {t : Bool} (h : isDone K = some t) : K.nc = 1 /\ ((K.obj 6 = none /\ t = true) \/ ∃ o, K.obj 6 = some o /\ o.kind = 3 /\ t = (decide (o.th.state = 0) && decide (o.th.cont.phase = 0))) := by
 unfold isDone at h;split at h
 ·rename_i hn
  refine ⟨hn, ?_⟩
  cases ho : K.obj 6 with
  | none => rw [ho] at h; cases h; exact .inl ⟨rfl, rfl⟩
  | some o =>
   rw [ho] at h;simp only at h;split at h
   ·rename_i hk; cases h; exact .inr ⟨o, rfl, hk, rfl⟩
   ·cases h
 ·cases h
def doneK (mic : Km -> Ob -> Option (Km × Int)) (wt : Km -> Ob -> Nat -> Option (Km × Int)) : Nat -> Km -> Option (Option Km)
 | 0, _ => some none
 | m + 1, K => match K.pickT mic wt 0 with
  | none => none
  | some p => match isDone p.1 with
   | none => none
   | some true => some (some p.1)
   | some false => doneK mic wt m p.1
def haltL : Line := ⟨0, 0, 0, 0, 0, 0, ⟨1, 0, 0, 0, 0⟩⟩
def insL (x : Ins) : Line := ⟨0, 0, 0, 0, 0, 0, x⟩
def faultI (i y : Nat) : Ins := match i with
 | 0 => ⟨19, 1, 15, 0, (y : Int) * 8 + 8192⟩
 | 1 => ⟨22, 1, 15, 0, 0⟩
 | 2 => ⟨7, 1, 2, 3, 0⟩
 | 3 => ⟨19, 1, 15, 0, (y : Int) + 1⟩
 | 4 => ⟨30, 14, 0, 0, 0⟩
 | _ => ⟨29, 14, 0, 0, 1000⟩
def faultW (i : Nat) : Int := ([3, 3, 5, 6, 0, 3] : List Int).getD i 0
def runOk (mic : Km -> Ob -> Option (Km × Int)) (wt : Km -> Ob -> Nat -> Option (Km × Int)) (n : Nat) (p : ProgK) (chk : Option Km -> Bool) : Bool := match newK (worldK [p] 0) with
 | none => false
 | some K0 => match doneK mic wt n K0 with
  | none => false
  | some r => chk r
theorem runOk_spec {mic : Km -> Ob -> Option (Km × Int)} {wt : Km -> Ob -> Nat -> Option (Km × Int)} {n : Nat} {p : ProgK} {chk : Option Km -> Bool} (h : runOk mic wt n p chk = true) : ∃ K0 r, newK (worldK [p] 0) = some K0 /\ doneK mic wt n K0 = some r /\ chk r = true := by
 unfold runOk at h;split at h
 ·cases h
 ·rename_i K0 hK
  split at h
  ·cases h
  ·rename_i r hr
   exact ⟨K0, r, hK, hr, h⟩
def faultChk (i : Nat) : Option Km -> Bool
 | none => false
 | some K => (match K.obj 6 with
  | some o => decide (o.th.fault = faultW i) && decide (o.th.state = 0)
  | none => false) && (match K.obj 3 with
  | some o => decide (o.kind = 2) && decide (o.pages = 2) && decide ((List.range 128).map o.data = labelsB.map fun b => (b.toNat : Int))
  | none => false)
def faultP (i y : Nat) : ProgK := ⟨[insL (faultI i y), haltL], labOne, 0⟩
def faultOk (i y : Nat) : Bool := runOk noMic noWt 600 (faultP i y) (faultChk i)
theorem fault_0 : (List.range 8).all (faultOk 0) = true := by kernel_rfl
theorem fault_1 : (List.range 8).all (faultOk 1) = true := by kernel_rfl
theorem fault_2 : (List.range 8).all (faultOk 2) = true := by kernel_rfl
theorem fault_3 : (List.range 7).all (faultOk 3) = true := by kernel_rfl
theorem fault_5 : (List.range 8).all (faultOk 5) = true := by kernel_rfl
def beginsOk (p : ProgK) : Bool := match bootAll (km0 (worldK [p] 0)) [1] (worldK [p] 0).objs with
 | some q => goodMaps q.2 (worldK [p] 0).objs
 | none => false
theorem fault_maps : (List.range 6).all (fun i => (List.range 8).all fun y => beginsOk (faultP i y)) = true := by kernel_rfl
def loopOk : Bool := runOk noMic noWt 600 (faultP 4 0) Option.isNone
theorem fault_4 : loopOk = true := by kernel_rfl
theorem newK_allok {c : WCfg} {K : Km} (h : newK c = some K) (hg : ∀ K1 made, bootAll (km0 c) [1] c.objs = some (K1, made) -> goodMaps made c.objs = true) : AllOk K := by
 obtain ⟨hr, K1, made, K2, h1, h2, h3, rfl⟩ := newK_spec h
 have h0 : AllOk (km0 c) := fun n s hs => by
  unfold km0 at hs;simp only at hs;split at hs
  ·cases hs; rfl
  ·cases hs
 have hB : AllOk K2 := AllOk.fillAll (h0.bootAll h1) (hg _ _ h1) h2;exact (show AllOk (startK K2 c made) from hB)
theorem begins_ok {p : ProgK} {K : Km} (h : beginsOk p = true) (hK : newK (worldK [p] 0) = some K) : AllOk K /\ K.nc = 1 := by
 refine ⟨newK_allok hK (fun K1 made hb => ?_), ?_⟩
 ·unfold beginsOk at h
  rw [hb] at h;exact h
 ·obtain ⟨-, K1, made, K2, -, -, -, rfl⟩ := newK_spec hK
  rfl
theorem doneK_done {mic : Km -> Ob -> Option (Km × Int)} {wt : Km -> Ob -> Nat -> Option (Km × Int)} : ∀ {m : Nat} {K K' : Km}, doneK mic wt m K = some (some K') -> isDone K' = some true
 | 0, K, K', h => by unfold doneK at h; cases h
 | m + 1, K, K', h => by
  unfold doneK at h;split at h
  ·cases h
  ·split at h
   ·cases h
   ·rename_i p hp ht
    cases h; exact ht
   ·exact doneK_done h
theorem fault_all (i y : Nat) (hi : i < 6) (hy : y < 8) (hn : ¬ (i = 3 /\ y = 7)) : ∃ K0 r, newK (worldK [faultP i y] 0) = some K0 /\ AllOk K0 /\ K0.nc = 1 /\ doneK noMic noWt 600 K0 = some r /\
  ((i = 4 /\ r = none) \/ (i ≠ 4 /\ ∃ K o6 o3, r = some K /\ K.obj 6 = some o6 /\ o6.kind = 3 /\ o6.th.fault = faultW i /\ o6.th.state = 0 /\ K.obj 3 = some o3 /\ o3.kind = 2 /\ o3.pages = 2 /\ (List.range 128).map o3.data = labelsB.map fun b => (b.toNat : Int))) := by
 have hm : beginsOk (faultP i y) = true := by
  have := List.all_eq_true.1 fault_maps i (List.mem_range.2 hi);exact List.all_eq_true.1 this y (List.mem_range.2 hy)
 by_cases h4 : i = 4
 ·subst h4
  obtain ⟨K0, r, hK, hd, hr⟩ := runOk_spec (show runOk noMic noWt 600 (faultP 4 y) Option.isNone = true from fault_4);obtain ⟨ha, hc⟩ := begins_ok hm hK
  cases r with
  | some K => cases hr
  | none => exact ⟨K0, none, hK, ha, hc, hd, .inl ⟨rfl, rfl⟩⟩
 ·have h : faultOk i y = true := by
   have hb : ∀ {f : Nat -> Bool} {n : Nat}, (List.range n).all f = true -> y < n -> f y = true := fun q hlt => List.all_eq_true.1 q y (List.mem_range.2 hlt)
   obtain rfl | rfl | rfl | rfl | rfl : i = 0 \/ i = 1 \/ i = 2 \/ i = 3 \/ i = 5 := by omega
   ·exact hb fault_0 hy
   ·exact hb fault_1 hy
   ·exact hb fault_2 hy
   ·exact hb fault_3 (by omega)
   ·exact hb fault_5 hy
  obtain ⟨K0, r, hK, hd, hr⟩ := runOk_spec h;obtain ⟨ha, hc⟩ := begins_ok hm hK
  cases r with
  | none => cases hr
  | some K =>
   unfold faultChk at hr;rw [Bool.and_eq_true] at hr;obtain ⟨h6, h3⟩ := hr;obtain ⟨-, hob⟩ := isDone_spec (doneK_done hd)
   cases e6 : K.obj 6 with
   | none => rw [e6] at h6; cases h6
   | some o6 =>
    rw [e6] at h6 hob
    cases e3 : K.obj 3 with
    | none => rw [e3] at h3; cases h3
    | some o3 =>
     rw [e3] at h3;simp only [Bool.and_eq_true, decide_eq_true_eq] at h6 h3;obtain ⟨h31, h33⟩ := h3;obtain ⟨h31, h32⟩ := h31;rcases hob with ⟨e, -⟩ | ⟨o, e, hk, -⟩
     ·cases e
     ·cases e
      exact ⟨K0, some K, hK, ha, hc, hd, .inr ⟨h4, K, _, o3, rfl, e6, hk, h6.1, h6.2, e3, h31, h32, h33⟩⟩
theorem faultI_ok : ∀ i, i < 6 -> ∀ y, y < 8 -> (faultI i y).right = true /\ -2147483648 <= (faultI i y).imm /\ (faultI i y).imm <= 2147483647 := by decide
theorem fault_line_ok (i y : Nat) (hi : i < 6) (hy : y < 8) : (insL (faultI i y)).ok := by
 obtain ⟨h1, h2, h3⟩ := faultI_ok i hi y hy;exact ⟨⟨by show (0 : Int) <= 0; decide, by show (0 : Int) <= 50; decide⟩, ⟨⟨by show (-2147483648 : Int) <= 0; decide, by show (0 : Int) <= 2147483647; decide⟩, ⟨by show (-2147483648 : Int) <= 0; decide, by show (0 : Int) <= 2147483647; decide⟩, ⟨by show (-2147483648 : Int) <= 0; decide, by show (0 : Int) <= 2147483647; decide⟩, ⟨by show (-2147483648 : Int) <= 0; decide, by show (0 : Int) <= 2147483647; decide⟩, ⟨by show (-2147483648 : Int) <= 0; decide, by show (0 : Int) <= 2147483647; decide⟩⟩, fun _ => ⟨h1, h2, h3⟩⟩
end Go.Proofs.YtiadbhiadhgjkaaGreatDoor
