/- Of the proof of this claim: a joined text. -/
import Derived.Test.YtiadbhiadhgjkaaGreatDoorZzNb
import Derived.Test.YtiadbhiadhgjkaaGreatDoorZzLn
set_option maxRecDepth 100000
set_option maxHeartbeats 4000000
namespace Go.Proofs.YtiadbhiadhgjkaaGreatDoor
open Go.RowKit
attribute [local irreducible] World.setCell World.alloc World.drew World.setRow Calls Code.wp
def lo (c : Nat) : List (Nat × Nat) -> Nat
 | [] => 0
 | p :: r => if p.1 < c then lo c r + 1 else 0
theorem lo_len (c : Nat) : ∀ l, lo c l <= l.length
 | [] => Nat.le_refl _
 | p :: r => by
  unfold lo; split
  ·have := lo_len c r; simp only [List.length_cons]; omega
  ·omega
theorem lo_spec (d c : Nat) : ∀ (last : Nat) (l : List (Nat × Nat)) (h : Nat) (p : Nat × Nat), pairsR d last l = true -> l[h]? = some p -> (p.1 < c ↔ h < lo c l)
 | _, [], h, p, _, e => by simp at e
 | last, q :: r, 0, p, hr, e => by
  obtain rfl : q = p := by simpa using e
  unfold lo; split
  ·rename_i hq; exact ⟨fun _ => by omega, fun _ => hq⟩
  ·rename_i hq; exact ⟨fun x => absurd x hq, fun x => by omega⟩
 | last, q :: r, h + 1, p, hr, e => by
  have e' : r[h]? = some p := by simpa using e
  unfold pairsR at hr;rw [Bool.and_eq_true] at hr;have ih := lo_spec d c q.1 r h p hr.2 e';unfold lo; split
  ·rw [ih]; omega
  ·rename_i hq
   have := pairsR_pos hr.2 p (List.mem_of_getElem? e');constructor
   ·intro x; omega
   ·intro x; omega
def hasC (c : Nat) (l : List (Nat × Nat)) : Bool := match l[lo c l]? with
 | some p => decide (p.1 = c)
 | none => false
def cmpC (p : Nat × Nat) (c : Nat) : Int := if p.1 < c then -1 else if c < p.1 then 1 else 0
theorem findc_any (p : Nat × Nat) (c : Nat) (w : World) : Calls Tryz.prog 46 #[.agg #[.int .u32 (p.1 : Nat), .int .i64 (p.2 : Nat)], .int .u32 (c : Nat)] w fun e w' => e = .returned (.int .i64 (cmpC p c)) /\ Below w.heap.size w w' := by
 have HB : Hid (Below w.heap.size w (w.alloc (.cells #[.int .u32 (p.1 : Nat), .int .i64 (p.2 : Nat)] 111))) := (Below.refl _ w).alloc (Nat.le_refl _) _;obtain ⟨x, y⟩ := p;by_cases h1 : x < c
 ·have e1 : (x : Int) < (c : Int) := by omega
  have hr : cmpC (x, y) c = -1 := if_pos h1;rw [hr];clear hr h1;go_enter Tryz.func46, Tryz.ntmps46
  go_wp2_with fail
  go_ret;exact ⟨rfl, HB.out⟩
 ·have e1 : ¬ ((x : Int) < (c : Int)) := by omega
  by_cases h2 : c < x
  ·have e2 : (c : Int) < (x : Int) := by omega
   have hr : cmpC (x, y) c = 1 := by unfold cmpC; rw [if_neg h1, if_pos h2]
   rw [hr];clear hr h1 h2;go_enter Tryz.func46, Tryz.ntmps46
   go_wp2_with fail
   go_ret;exact ⟨rfl, HB.out⟩
  ·have e2 : ¬ ((c : Int) < (x : Int)) := by omega
   have hr : cmpC (x, y) c = 0 := by unfold cmpC; rw [if_neg h1, if_neg h2]
   rw [hr];clear hr h1 h2;go_enter Tryz.func46, Tryz.ntmps46
   go_wp2_with fail
   go_ret;exact ⟨rfl, HB.out⟩
theorem bsf_any (d : Nat) (ps : List (Nat × Nat)) (c : Nat) (v : Value) (w : World) (hps : pairsR d 0 ps = true) (hn : ps.length <= 1000) (h : PairsIn w v ps) :
  Calls Tryz.prog 45 #[v, .int .u32 (c : Nat), .func (.func 46) #[] #[]] w fun e w' => e = .returned (.tuple #[.int .i64 (lo c ps : Nat), .bool (hasC c ps)]) /\ Below w.heap.size w w' := by
 obtain ⟨la, lc, rfl, -, -⟩ := RowAt.form h;have HL := Lib.hid h; have HPs := Lib.hid hps;have hlo := lo_len c ps;clear h hps;go_enter Tryz.func45, Tryz.ntmps45
 go_upto_block 0 with fail
 go_cut [9] (fun vi wx => vi = .int .i64 (lo c ps : Nat) /\ Hid (Below w.heap.size w wx))
 case first =>
  go_wp2_with fail
  go_loopg [9, 10] ps.length (fun gg vi vj wx => ∃ i j : Nat, i + gg = j /\ j <= ps.length /\ i <= lo c ps /\ lo c ps <= j /\ vi = .int .i64 i /\ vj = .int .i64 j /\ Hid (Below w.heap.size w wx))
  case atStart => exact ⟨0, ps.length, by omega, Nat.le_refl _, by omega, hlo, rfl, rfl, Lib.hid (Below.refl _ _)⟩
  case round =>
   obtain ⟨i, j, hg, hj, hi1, hj1, rfl, rfl, HB⟩ := hrel;by_cases hlt : i < j
   ·have hlt' : (i : Int) < j := by omega
    obtain ⟨h, hh⟩ : ∃ h : Nat, h = (i + j) / 2 := ⟨_, rfl⟩;have hhj : h < j := by omega
    have hih : i <= h := by omega
    obtain ⟨p, hp⟩ : ∃ p, ps[h]? = some p := ⟨_, List.getElem?_eq_getElem (by omega)⟩;have hsp := lo_spec d c 0 ps h p HPs.out hp;obtain ⟨pb, hpb, hpbl, hcells⟩ := RowAt.cells HL.out (by omega);subst hpb
    have x0 : wr.cell? ⟨pb, h * 2, none⟩ = some (.int .u32 (p.1 : Nat)) := by
     rw [HB.out.cell (p := ⟨pb, h * 2, none⟩) hpbl];exact hcells _ _ ((flat_at pairV 2 (fun _ => rfl) ps h p hp 0 (by omega)).trans rfl)
    have x1 : wr.cell? ⟨pb, h * 2 + 1, none⟩ = some (.int .i64 (p.2 : Nat)) := by
     rw [HB.out.cell (p := ⟨pb, h * 2 + 1, none⟩) hpbl];exact hcells _ _ ((flat_at pairV 2 (fun _ => rfl) ps h p hp 1 (by omega)).trans rfl)
    have hsum : IntKind.i64.wrap ((i : Int) + j) = (i : Int) + j := IntWalk.i64_in _ (by omega);have Hc := Lib.hid (findc_any p c wr);have Hsp := Lib.hid hsp;have hdv : ((i : Int) + (j : Int)) / 2 = (h : Int) := by omega
    clear hcells hp hsp hh;go_wp2_with fail
    refine Hc.out.mono ?_;rintro e w5 ⟨rfl, hb5⟩;have HB5 : Hid (Below w.heap.size w w5) := bel_from HB.out hb5;clear hb5;by_cases hpc : p.1 < c
    ·have hcm : cmpC p c = -1 := if_pos hpc
     have hhl := Hsp.out.1 hpc;have hs2 : IntKind.i64.wrap ((h : Int) + 1) = (h : Int) + 1 := IntWalk.i64_in _ (by omega);rw [hcm];go_wp2_with fail
     go_roundg (j - (h + 1))
     case measure => omega
     case rel => exact ⟨h + 1, j, by omega, hj, by omega, hj1, by go_num, rfl, HB5⟩
    ·have hcm : ¬ cmpC p c < 0 := by unfold cmpC; rw [if_neg hpc]; split <;> omega
     have hhl : ¬ h < lo c ps := fun q => hpc (Hsp.out.2 q)
     go_wp2_with fail
     go_roundg (h - i)
     case measure => omega
     case rel => exact ⟨i, h, by omega, by omega, hi1, by omega, rfl, rfl, HB5⟩
   ·have hlt' : ¬ ((i : Int) < j) := by omega
    obtain rfl : i = lo c ps := by omega
    go_wp2_with fail
    go_meet;exact ⟨rfl, HB⟩
 case rest =>
  rename World => w3
  obtain ⟨rfl, HB⟩ := hcut;by_cases hlt : lo c ps < ps.length
  ·have hlt' : ((lo c ps : Nat) : Int) < ps.length := by omega
   obtain ⟨p, hp⟩ : ∃ p, ps[lo c ps]? = some p := ⟨_, List.getElem?_eq_getElem hlt⟩;have hsp := lo_spec d c 0 ps _ p HPs.out hp
   have hr : hasC c ps = (cmpC p c == 0) := by
    unfold hasC cmpC;rw [hp];have : ¬ p.1 < c := fun q => Nat.lt_irrefl _ (hsp.1 q)
    rw [if_neg this];by_cases e : p.1 = c
    ·rw [if_neg (by omega)]; simp [e]
    ·rw [if_pos (by omega)]; simp [e]
   obtain ⟨pb, hpb, hpbl, hcells⟩ := RowAt.cells HL.out (by omega);subst hpb
   have x0 : w3.cell? ⟨pb, lo c ps * 2, none⟩ = some (.int .u32 (p.1 : Nat)) := by
    rw [HB.out.cell (p := ⟨pb, lo c ps * 2, none⟩) hpbl];exact hcells _ _ ((flat_at pairV 2 (fun _ => rfl) ps _ p hp 0 (by omega)).trans rfl)
   have x1 : w3.cell? ⟨pb, lo c ps * 2 + 1, none⟩ = some (.int .i64 (p.2 : Nat)) := by
    rw [HB.out.cell (p := ⟨pb, lo c ps * 2 + 1, none⟩) hpbl];exact hcells _ _ ((flat_at pairV 2 (fun _ => rfl) ps _ p hp 1 (by omega)).trans rfl)
   have Hc := Lib.hid (findc_any p c w3);have HR := Lib.hid hr;clear hcells hp hsp hr;go_wp2_with fail
   refine Hc.out.mono ?_;rintro e w5 ⟨rfl, hb5⟩;have HB5 : Hid (Below w.heap.size w w5) := bel_from HB.out hb5;clear hb5;go_wp2_with fail
   exact bodyPost_ret (v := .tuple #[.int .i64 (lo c ps : Nat), .bool (cmpC p c == 0)]) (by simp [results, Tryz.results45, go_sem]) rfl ⟨by rw [HR.out], HB5.out⟩
  ·have hlt' : ¬ (((lo c ps : Nat) : Int) < ps.length) := by omega
   have hr : hasC c ps = false := by
    unfold hasC;rw [List.getElem?_eq_none (by omega)]
   have HR := Lib.hid hr;clear hr;go_wp2_with fail
   exact bodyPost_ret (v := .tuple #[.int .i64 (lo c ps : Nat), .bool false]) (by simp [results, Tryz.results45, go_sem]) rfl ⟨by rw [HR.out], HB.out⟩
theorem labIn_slice {w : World} {v : Value} {l : Lab} (h : LabIn w v l) : ∃ a c, v = .agg #[.int .i64 (l.d : Nat), .slice a l.ps.length c] /\ PairsIn w (.slice a l.ps.length c) l.ps := by
 obtain ⟨s, rfl, h1⟩ := h;obtain ⟨a, c, rfl, -, -⟩ := RowAt.form h1;exact ⟨a, c, rfl, h1⟩
theorem lfind_any (l : Lab) (d : Nat) (c : Nat) (v : Value) (w : World) (hps : pairsR d 0 l.ps = true) (hn : l.ps.length <= 1000) (h : LabIn w v l) :
  Calls Tryz.prog 19 #[v, .int .u32 (c : Nat)] w fun e w' => e = .returned (.tuple #[.int .i64 (lo c l.ps : Nat), .bool (hasC c l.ps)]) /\ Below w.heap.size w w' := by
 obtain ⟨a, k, rfl, h1⟩ := labIn_slice h;have HB : Hid (Below w.heap.size w (w.alloc (.cells #[.int .i64 (l.d : Nat), .slice a l.ps.length k] 43))) := Lib.hid ((Below.refl _ w).alloc (Nat.le_refl _) _);have Hc := Lib.hid (bsf_any d l.ps c _ _ hps hn (RowAt.below h1 HB.out (Nat.le_refl _)));clear h h1;go_enter Tryz.func19, Tryz.ntmps19
 go_wp2_with fail
 refine Hc.out.mono ?_;rintro e w5 ⟨rfl, hb5⟩;have HB5 : Hid (Below w.heap.size w w5) := bel_from HB.out hb5;clear hb5;go_wp2_with fail
 exact bodyPost_ret (v := .tuple #[.int .i64 (lo c l.ps : Nat), .bool (hasC c l.ps)]) (by simp [results, Tryz.results19, go_sem]) rfl ⟨rfl, HB5.out⟩
end Go.Proofs.YtiadbhiadhgjkaaGreatDoor
