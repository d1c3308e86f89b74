/- Of the proof of this claim: a joined text. -/
import Derived.Test.YtiadbhiadhgjkaaGreatDoorZzWoHm
import Derived.ArgAppend
import Derived.Maps.AppendAt
set_option maxRecDepth 100000
set_option maxHeartbeats 2000000
namespace Go.Proofs.YtiadbhiadhgjkaaGreatDoor
open Go.RowKit
attribute [local irreducible] World.setCell World.alloc World.drew World.setRow Calls Code.wp row
structure SegPut (P P' : Pool) (L : List Int) (q d : Nat) (B : Nat -> Int) : Prop where
 n : P'.n = P.n
 O : P'.O = P.O
 D : ∀ j, j < L.length * 64 -> segD P' L j = if q <= j /\ j < q + d then B (j - q) else segD P L j
 other : ∀ i, (∀ f ∈ L, i / 64 ≠ f.toNat - 1) -> P'.D i = P.D i
theorem SegPut.refl (P : Pool) (L : List Int) (q : Nat) (B : Nat -> Int) : SegPut P P L q 0 B :=
 ⟨rfl, rfl, fun j _ => by rw [if_neg (by omega)], fun _ _ => rfl⟩
theorem SegPut.owner {P P' : Pool} {L : List Int} {q d : Nat} {B : Nat -> Int} (h : SegPut P P' L q d B) (f : Int) : P'.owner f = P.owner f := by
 unfold Pool.owner Pool.there; rw [h.n, h.O]
theorem SegPut.segIn {P P' : Pool} {L M : List Int} {q d : Nat} {B : Nat -> Int} {o : Int} (h : SegPut P P' L q d B) (hI : SegIn P o M) : SegIn P' o M :=
 ⟨hI.nd, fun f hf => by rw [h.owner]; exact hI.own f hf, hI.o0, by rw [h.n, h.O]; exact hI.cnt⟩
theorem nodup_inj {L : List Int} (h : L.Nodup) {i j : Nat} (hi : i < L.length) (hj : j < L.length) (e : L[i] = L[j]) : i = j := by
 have hp := List.pairwise_iff_getElem.1 h;rcases Nat.lt_trichotomy i j with g | g | g
 ·exact absurd e (hp i j hi hj g)
 ·exact g
 ·exact absurd e.symm (hp j i hj hi g)
theorem SegPut.step {P P' : Pool} {L : List Int} {q d k : Nat} {B : Nat -> Int} {o : Int} (h : SegPut P P' L q d B) (hI : SegIn P o L) (hk : (q + d) % 64 + k <= 64) (hp : q + d + k <= L.length * 64) (h1 : 1 <= k) (C : Nat -> Int) (hC : ∀ j, j < k -> C j = B (d + j)) (fr off : Int) (hfr : L.getD ((q + d) / 64) 0 = fr) (hoff : off = ((q + d : Nat) : Int) % 64) (hfit : P'.fits fr off k = true) :
  SegPut P (P'.write fr off k C) L q (d + k) B := by
 have hw : P'.write fr off k C = ⟨P'.n, P'.O, fun j => if (fr.toNat - 1) * 64 + off.toNat <= j /\ j < (fr.toNat - 1) * 64 + off.toNat + k then C (j - ((fr.toNat - 1) * 64 + off.toNat)) else P'.D j⟩ := by
  unfold Pool.write; rw [if_pos hfit]
 rw [hw];have hol : off.toNat = (q + d) % 64 := by omega
 rw [hol];have hpl : (q + d) / 64 < L.length := by omega
 have hmem : fr ∈ L := by rw [<- hfr]; exact getD_mem hpl
 have t := hI.there hmem;refine ⟨h.n, h.O, fun j hj => ?_, fun i hi => ?_⟩
 ·have hD := h.D j hj
  show (if _ then _ else _) = _
  have hm := getD_mem (show j / 64 < L.length by omega);have tj := hI.there hm;by_cases e : j / 64 = (q + d) / 64
  ·rw [e, hfr]
   by_cases c : q + d <= j /\ j < q + d + k
   ·rw [if_pos (by omega), if_pos (by omega), hC _ (by omega)]
    congr 1; omega
   ·rw [if_neg (by omega)]
    have hD' : P'.D ((fr.toNat - 1) * 64 + j % 64) = if q <= j /\ j < q + d then B (j - q) else segD P L j := by
     rw [<- hD]; unfold segD; rw [e, hfr]
    rw [hD'];by_cases c2 : q <= j /\ j < q + d
    ·rw [if_pos c2, if_pos (by omega)]
    ·rw [if_neg c2, if_neg (by omega)]
  ·have hne : (L.getD (j / 64) 0) ≠ fr := by
    intro he;rw [<- hfr] at he;have g1 : L.getD (j / 64) 0 = L[j / 64]'(by omega) := by simp [List.getD, show j / 64 < L.length by omega]
    have g2 : L.getD ((q + d) / 64) 0 = L[(q + d) / 64]'hpl := by simp [List.getD, hpl]
    rw [g1, g2] at he;exact e (nodup_inj hI.nd (by omega) hpl he)
   rw [if_neg (by omega)];have : P'.D (((L.getD (j / 64) 0).toNat - 1) * 64 + j % 64) = segD P' L j := rfl
   rw [this, hD];by_cases c2 : q <= j /\ j < q + d
   ·rw [if_pos c2, if_pos (by omega)]
   ·rw [if_neg c2, if_neg (by omega)]
 ·have := hi fr hmem
  show (if _ then _ else _) = _
  rw [if_neg (by omega)];exact h.other i hi
theorem swrite_yes (sb si pb db ob : Nat) (cs : Array Value) (lo : Nat) (v : Value) (L : List Int) (P : Pool) (o : Int) (q : Nat) (a : Option Addr) (m c : Nat) (B : Nat -> Int) (w : World) (hS : SegAt w sb si cs lo v L) (hP : PoolAt w pb db ob P) (hI : SegIn P o L) (hf : segW L q m = true)
  (hb : ∀ w', Kept (PS pb db ob) w w' -> BytesIn w' a m B) (hB : ∀ j, 0 <= B j /\ B j <= 255) (hmc : m <= c) (hcm : c <= maxLen) (n1 : ¬ PS pb db ob sb) (n2 : ∀ g, v.ownBlock = some g -> ¬ PS pb db ob g) :
  Calls Tryz.prog 64 #[.pointer (some ⟨sb, si, none⟩), .pointer (some ⟨pb, 0, none⟩), .int .i64 q, .slice a m c] w fun e w' =>
   e = .returned (.bool true) /\ ∃ P', PoolAt w' pb db ob P' /\ SegPut P P' L q m B /\ Kept (PS pb db ob) w w' := by
 obtain ⟨f1, f2, f3, f4⟩ := (segW_iff _ _ _).1 hf;have hqm : q + m <= L.length * 64 := by unfold segS at f3 f4; omega
 have h16 := hS.h16;have HS := Lib.hid hS; have HP := Lib.hid hP; have HI := Lib.hid hI; have Hf := Lib.hid hf; have Hb := Lib.hid hb; have HB := Lib.hid hB;unfold maxLen at hcm;clear hS hP hI hf hb hB f1 f2 f3 f4;go_enter Tryz.func64, Tryz.ntmps64
 go_wp2_with fail
 refine (within_any sb si cs lo v L _ _ _ HS.out).mono ?_;rintro e w' ⟨rfl, rfl⟩;rw [Hf.out];go_wp2_with fail
 go_loopg [2, 3, 9] m (fun g so sb' _ wx => ∃ (d : Nat) (a' : Option Addr) (P' : Pool), d + g = m /\ so = .int .i64 ((q + d : Nat) : Int) /\ sb' = .slice a' (m - d) (c - d) /\ (m - d = 0 \/ ∃ bb bo, a = some ⟨bb, bo, none⟩ /\ a' = some ⟨bb, bo + d, none⟩) /\ PoolAt wx pb db ob P' /\ SegPut P P' L q d B /\ Kept (PS pb db ob) w wx)
 case atStart =>
  refine ⟨0, a, P, by omega, by simp, by simp, ?_, HP.out, SegPut.refl _ _ _ _, Kept.refl _ _⟩;rcases Hb.out w (Kept.refl _ _) with h0 | ⟨bb, bo, h1, _⟩
  ·exact .inl (by omega)
  ·exact .inr ⟨bb, bo, h1, by rw [h1]; rfl⟩
 case round =>
  obtain ⟨d, a', P', hd, rfl, rfl, ha', hP', hD', hK⟩ := hrel;have Ha' := Lib.hid ha'; have HP' := Lib.hid hP'; have HD' := Lib.hid hD'; have HK := Lib.hid hK;clear ha' hP' hD' hK;by_cases hlt : d < m
  ·obtain ⟨p, hp⟩ : ∃ p, q + d = p := ⟨_, rfl⟩
   obtain ⟨r, hr⟩ : ∃ r, m - d = r := ⟨_, rfl⟩;obtain ⟨rc, hrc⟩ : ∃ rc, c - d = rc := ⟨_, rfl⟩;obtain ⟨k, hk⟩ : ∃ k, min r (64 - p % 64) = k := ⟨_, rfl⟩;have hk1 : 1 <= k := by omega
   have hk2 : k <= r := by omega
   have hk3 : p % 64 + k <= 64 := by omega
   have hpl : p / 64 < L.length := by omega
   rw [hp, hr, hrc];obtain ⟨bb, bo, ha, rfl⟩ := Ha'.out.resolve_left (by omega);have hSr := HS.out.kept HK.out n1 n2;obtain ⟨a2, cap, g, hv, g1, g2, g3, g4⟩ := hSr.hv.open;have ha2 := g3 (by omega);subst ha2;have hcl := g4 (p / 64) hpl;have hcs := hSr.cell;rw [hv] at hcs;obtain ⟨fr, hfr⟩ : ∃ fr, L.getD (p / 64) 0 = fr := ⟨_, rfl⟩;rw [hfr] at hcl;have hmem : fr ∈ L := by rw [<- hfr]; exact getD_mem hpl
   obtain ⟨t1, t2⟩ := HI.out.there hmem
   have hfit : P'.fits fr ((p : Int) % 64) ((k : Nat) : Int) = true := by
    rw [P'.fits_iff, HD'.out.owner, HI.out.own fr hmem];exact ⟨HI.out.o0, by omega, by omega, by omega, by omega⟩
   have Hfr := Lib.hid hfr; have Hfit := Lib.hid hfit; have Hp := Lib.hid hp; have Hr := Lib.hid hr; have Hrc := Lib.hid hrc; have Ha := Lib.hid ha;have hkc : (r : Int) <= 64 - (p : Int) % 64 /\ k = r \/ ¬ (r : Int) <= 64 - (p : Int) % 64 /\ k = 64 - p % 64 := by omega
   have hpn : p <= 1024 := by omega
   have hrn : r <= 1024 := by omega
   have hrc1 : r <= rc := by omega
   have hrc2 : rc <= 9223372036854775807 := by omega
   clear hSr g4 g3 hv hfr hmem hfit hk ha
   have key : ∀ (kk : Int) (cc : Nat), kk = (k : Int) -> ∀ wx, PoolAt wx pb db ob P' -> Kept (PS pb db ob) w wx -> Calls Tryz.prog 90 #[.pointer (some ⟨pb, 0, none⟩), .int .i64 fr, .int .i64 ((p : Int) % 64), .slice (some ⟨bb, bo + d, none⟩) k cc] wx fun e w' =>
     e = .returned (.bool true) /\ PoolAt w' pb db ob (P'.write fr ((p : Int) % 64) k fun j => B (d + j)) /\ Kept (PS pb db ob) wx w' := by
    rintro kk cc rfl wx hPx hKx;refine write_yes pb db ob P' _ _ _ _ _ _ _ hPx Hfit.out (.inr ⟨bb, bo + d, rfl, fun j hj => ?_⟩) (fun j _ => HB.out _);rcases Hb.out wx hKx with h0 | ⟨b2, o2, h1, h2⟩
    ·omega
    ·have e := Ha.out
     rw [h1] at e;injection e with e; injection e with e1 e2 _
     subst e1 e2;rw [Nat.add_assoc];exact h2 (d + j) (by have := Hr.out; omega)
   have Key := Lib.hid key; clear key;rcases hkc with ⟨hc, hkr⟩ | ⟨hc, hkr⟩
   ·subst hkr
    go_wp2_with fail
    have hq1 : (p : Int).tdiv 64 = (p : Int) / 64 := Int.tdiv_eq_ediv_of_nonneg (by omega);have hq2 : (p : Int).tmod 64 = (p : Int) % 64 := Int.tmod_eq_emod_of_nonneg (by omega);have hq3 : IntKind.i64.wrap ((p : Int) / 64) = (p : Int) / 64 := IntWalk.i64_in _ (by omega);have hq4 : IntKind.i64.wrap ((p : Int) % 64) = (p : Int) % 64 := IntWalk.i64_in _ (by omega);have hq5 : (0 : Int) <= (p : Int) / 64 := by omega
    have hq6 : (p : Int) / 64 < L.length := by omega
    have hq7 : ((p : Int) / 64).toNat = p / 64 := by omega
    have hk0 : (0 : Int) <= k := by omega
    have hkr' : (k : Int) <= rc := by omega
    obtain ⟨ob', hob⟩ : ∃ ob' : Nat, (if rc = k then bo + d else bo + d + k) = ob' := ⟨_, rfl⟩
    have hsl : ∀ w, (Instr.slice 63 (.slice (some ⟨bb, bo + d, none⟩) k rc) (some (.int .i64 k)) none none).run Tryz.prog w = .ok (.slice (some ⟨bb, ob', none⟩) (k - k) (rc - k)) w := by
     intro w;have hk5 : (k : Int) <= k := by omega
     go_simp
     rw [<- hob]; split <;> rfl
    have Hob := Lib.hid hob; clear hob;go_still_tail 14, (by kernel_rfl)
    rw [drew_eq wr];go_wp2_with fail
    refine (Key.out _ _ rfl _ HP'.out.drew HK.out.drew).mono ?_;rintro e w5 ⟨rfl, hP5, hK5⟩;have HP5 := Lib.hid hP5; have HK5 := Lib.hid (HK.out.drew.trans hK5);clear hP5 hK5 hq1 hq2 hq3 hq4 hq5 hq6 hq7;have hpk : IntKind.i64.wrap ((p : Int) + k) = (p : Int) + k := IntWalk.i64_in _ (by omega);go_wp2_with fail
    go_quiet (fail)
    go_wp2_with fail
    go_roundg (m - (d + k))
    case measure => have := Hr.out; omega
    case rel =>
     refine ⟨d + k, some ⟨bb, ob', none⟩, _, by have := Hr.out; omega, by have := Hp.out; congr 1; omega, ?_, ?_, HP5.out.drewN _, ?_, HK5.out.drewN _⟩
     ·have h1 := Hr.out; have h2 := Hrc.out
      congr 1 <;> omega
     ·by_cases e0 : m - (d + k) = 0
      ·exact .inl e0
      ·refine .inr ⟨bb, bo, Ha.out, ?_⟩
       have h1 := Hr.out; have h2 := Hrc.out;rw [<- Hob.out, if_neg (by omega), Nat.add_assoc]
     ·exact HD'.out.step HI.out (by rw [Hp.out]; exact hk3) (by have := Hp.out; have := Hr.out; omega) hk1 _ (fun _ _ => rfl) fr _ (by rw [Hp.out]; exact Hfr.out) (by rw [Hp.out]) Hfit.out
   ·have Hkr := Lib.hid hkr; clear hkr
    go_wp2_with fail
    rw [show (64 : Int) - (p : Int) % 64 = (k : Int) by have := Hkr.out; omega];have hq1 : (p : Int).tdiv 64 = (p : Int) / 64 := Int.tdiv_eq_ediv_of_nonneg (by omega);have hq2 : (p : Int).tmod 64 = (p : Int) % 64 := Int.tmod_eq_emod_of_nonneg (by omega);have hq3 : IntKind.i64.wrap ((p : Int) / 64) = (p : Int) / 64 := IntWalk.i64_in _ (by omega);have hq4 : IntKind.i64.wrap ((p : Int) % 64) = (p : Int) % 64 := IntWalk.i64_in _ (by omega);have hq5 : (0 : Int) <= (p : Int) / 64 := by omega
    have hq6 : (p : Int) / 64 < L.length := by omega
    have hq7 : ((p : Int) / 64).toNat = p / 64 := by omega
    have hk0 : (0 : Int) <= k := by omega
    have hkr' : (k : Int) <= rc := by omega
    obtain ⟨ob', hob⟩ : ∃ ob' : Nat, (if rc = k then bo + d else bo + d + k) = ob' := ⟨_, rfl⟩
    have hsl : ∀ w, (Instr.slice 63 (.slice (some ⟨bb, bo + d, none⟩) r rc) (some (.int .i64 k)) none none).run Tryz.prog w = .ok (.slice (some ⟨bb, ob', none⟩) (r - k) (rc - k)) w := by
     intro w;have hk5 : (k : Int) <= r := by omega
     go_simp
     rw [<- hob]; split <;> rfl
    have Hob := Lib.hid hob; clear hob;go_still_tail 14, (by kernel_rfl)
    rw [drew_eq wr];go_wp2_with fail
    refine (Key.out _ _ rfl _ HP'.out.drew HK.out.drew).mono ?_;rintro e w5 ⟨rfl, hP5, hK5⟩;have HP5 := Lib.hid hP5; have HK5 := Lib.hid (HK.out.drew.trans hK5);clear hP5 hK5 hq1 hq2 hq3 hq4 hq5 hq6 hq7;have hpk : IntKind.i64.wrap ((p : Int) + k) = (p : Int) + k := IntWalk.i64_in _ (by omega);go_wp2_with fail
    go_quiet (fail)
    go_wp2_with fail
    go_roundg (m - (d + k))
    case measure => have := Hr.out; omega
    case rel =>
     refine ⟨d + k, some ⟨bb, ob', none⟩, _, by have := Hr.out; omega, by have := Hp.out; congr 1; omega, ?_, ?_, HP5.out.drewN _, ?_, HK5.out.drewN _⟩
     ·have h1 := Hr.out; have h2 := Hrc.out
      congr 1 <;> omega
     ·by_cases e0 : m - (d + k) = 0
      ·exact .inl e0
      ·refine .inr ⟨bb, bo, Ha.out, ?_⟩
       have h1 := Hr.out; have h2 := Hrc.out;rw [<- Hob.out, if_neg (by omega), Nat.add_assoc]
     ·exact HD'.out.step HI.out (by rw [Hp.out]; exact hk3) (by have := Hp.out; have := Hr.out; omega) hk1 _ (fun _ _ => rfl) fr _ (by rw [Hp.out]; exact Hfr.out) (by rw [Hp.out]) Hfit.out
  ·obtain rfl : d = m := by omega
   go_wp2_with fail
   go_ret;exact ⟨rfl, P', HP'.out, HD'.out, HK.out⟩
end Go.Proofs.YtiadbhiadhgjkaaGreatDoor
namespace Go.Proofs.YtiadbhiadhgjkaaGreatDoor
open Go.RowKit
structure SegMv (P P' : Pool) (o : Int) : Prop where
 n : P'.n = P.n
 O : ∀ i, i < P.n -> P.O i ≠ 0 -> P.O i ≠ o -> P'.O i = P.O i
 cnt : ∀ o', o' ≠ 0 -> o' ≠ o -> countTo P'.O o' P.n = countTo P.O o' P.n
 D : ∀ i, i / 64 < P.n -> P.O (i / 64) ≠ 0 -> P.O (i / 64) ≠ o -> P'.D i = P.D i
theorem SegMv.refl (P : Pool) (o : Int) : SegMv P P o := ⟨rfl, fun _ _ _ _ => rfl, fun _ _ _ => rfl, fun _ _ _ _ => rfl⟩
theorem SegMv.trans {P P' P'' : Pool} {o : Int} (h : SegMv P P' o) (k : SegMv P' P'' o) : SegMv P P'' o := by
 refine ⟨k.n.trans h.n, fun i hi h0 h1 => ?_, fun o' h0 h1 => ?_, fun i hi h0 h1 => ?_⟩
 ·have e := h.O i hi h0 h1
  rw [k.O i (by rw [h.n]; exact hi) (by rw [e]; exact h0) (by rw [e]; exact h1), e]
 ·have := k.cnt o' h0 h1
  rw [h.n] at this; rw [this, h.cnt o' h0 h1]
 ·have e := h.O _ hi h0 h1
  rw [k.D i (by rw [h.n]; exact hi) (by rw [e]; exact h0) (by rw [e]; exact h1), h.D i hi h0 h1]
theorem SegMv.segIn {P P' : Pool} {o o' : Int} {M : List Int} (h : SegMv P P' o) (hM : SegIn P o' M) (hne : o' ≠ o) : SegIn P' o' M := by
 refine ⟨hM.nd, fun f hf => ?_, hM.o0, by rw [h.n, h.cnt o' hM.o0 hne]; exact hM.cnt⟩;obtain ⟨t1, t2⟩ := hM.there hf;have ha := hM.at hf;unfold Pool.owner;rw [if_pos ((P'.there_iff f).2 ⟨t1, by rw [h.n]; exact t2⟩), h.O _ (by omega) (by rw [ha]; exact hM.o0) (by rw [ha]; exact hne), ha]
theorem SegMv.segD {P P' : Pool} {o o' : Int} {M : List Int} (h : SegMv P P' o) (hM : SegIn P o' M) (hne : o' ≠ o) (j : Nat) (hj : j < M.length * 64) : segD P' M j = segD P M j := by
 have hm := getD_mem (show j / 64 < M.length by omega);obtain ⟨t1, t2⟩ := hM.there hm;have ha := hM.at hm;have e : (((M.getD (j / 64) 0).toNat - 1) * 64 + j % 64) / 64 = (M.getD (j / 64) 0).toNat - 1 := by omega
 unfold Go.Proofs.YtiadbhiadhgjkaaGreatDoor.segD;refine h.D _ (by rw [e]; omega) (by rw [e, ha]; exact hM.o0) (by rw [e, ha]; exact hne)
theorem SegIn.pop {P : Pool} {o : Int} {L : List Int} {f : Int} (h : SegIn P o (L ++ [f])) :
  SegIn (P.free f) o L /\ SegMv P (P.free f) o /\ (P.free f).left = P.left + 1 /\ ∀ j, j < L.length * 64 -> segD (P.free f) L j = segD P (L ++ [f]) j := by
 have hf : f ∈ L ++ [f] := by simp
 have ha := h.at hf;obtain ⟨t1, t2⟩ := h.there hf
 have hfr : P.free f = ⟨P.n, updI P.O (f.toNat - 1) 0, P.D⟩ := by
  unfold Pool.free; rw [if_pos (by rw [h.own f hf]; exact h.o0)]
 have hnf : ∀ g ∈ L, g ≠ f := by
  intro g hg e;have := List.nodup_append.1 h.nd;exact this.2.2 g hg f (by simp) e
 rw [hfr];have hc := countTo_upd P.O o 0 (f.toNat - 1) P.n (by omega);rw [ha, if_pos rfl, if_neg (fun e => h.o0 e.symm)] at hc;have hfre := freeTo_upd P.O 0 (f.toNat - 1) P.n (by omega);rw [ha, if_neg h.o0, if_pos rfl] at hfre;have hcn := h.cnt;simp only [List.length_append, List.length_cons, List.length_nil] at hcn;refine ⟨⟨(List.nodup_append.1 h.nd).1, fun g hg => ?_, h.o0, by simp only at *; omega⟩, ⟨rfl, fun i hi h0 h1 => ?_, fun o' h0 h1 => ?_, fun _ _ _ _ => rfl⟩, by unfold Pool.left; simp only; omega, fun j hj => ?_⟩
 ·have hg' : g ∈ L ++ [f] := by simp [hg]
  obtain ⟨s1, s2⟩ := h.there hg';have := hnf g hg;unfold Pool.owner;rw [if_pos (by rw [Pool.there_iff]; exact ⟨s1, s2⟩)];show updI P.O _ 0 _ = o
  rw [updI_other _ _ _ _ (by omega)]; exact h.at hg'
 ·show updI P.O _ 0 i = _
  rw [updI_other _ _ _ _ (by rintro rfl; exact h1 ha)]
 ·have hc := countTo_upd P.O o' 0 (f.toNat - 1) P.n (by omega)
  rw [ha, if_neg (fun e => h1 e.symm), if_neg (fun e => h0 e.symm)] at hc;exact hc
 ·show P.D _ = P.D _
  have e : (L ++ [f]).getD (j / 64) 0 = L.getD (j / 64) 0 := by
   have : j / 64 < L.length := by omega
   simp [List.getD, List.getElem?_append_left this]
  rw [e]
theorem SegIn.push {P : Pool} {o : Int} {L : List Int} (h : SegIn P o L) (hl : 1 <= P.left) :
  SegIn (P.alloc o) o (L ++ [P.allocRet o]) /\ SegMv P (P.alloc o) o /\ (P.alloc o).left + 1 = P.left /\
  (∀ j, j < L.length * 64 -> segD (P.alloc o) (L ++ [P.allocRet o]) j = segD P L j) /\ ∀ j, L.length * 64 <= j -> j < L.length * 64 + 64 -> segD (P.alloc o) (L ++ [P.allocRet o]) j = 0 := by
 have hff : firstFree P.O P.n < P.n := by
  have h1 := firstFree_le P.O P.n;rcases Nat.lt_or_ge (firstFree P.O P.n) P.n with h2 | h2
  ·exact h2
  ·have := (freeTo_pos P.O P.n).2 (by omega)
   unfold Pool.left at hl; omega
 have hz0 := firstFree_free P.O P.n hff;obtain ⟨z, hz⟩ : ∃ z, firstFree P.O P.n = z := ⟨_, rfl⟩;have hc : o ≠ 0 /\ firstFree P.O P.n < P.n := ⟨h.o0, hff⟩;have hr : P.allocRet o = (z : Int) + 1 := by unfold Pool.allocRet; rw [if_pos hc, hz]
 have ha : P.alloc o = ⟨P.n, updI P.O z o, fun j => if z * 64 <= j /\ j < z * 64 + 64 then 0 else P.D j⟩ := by unfold Pool.alloc; rw [if_pos hc, hz]
 rw [hz] at hff hz0;rw [hr, ha]
 have hno : ∀ g ∈ L, g.toNat - 1 ≠ z := fun g hg e => by
  have := h.at hg;rw [e, hz0] at this; exact h.o0 this.symm
 have hcu := countTo_upd P.O o o z P.n hff;rw [hz0, if_neg (fun e => h.o0 e.symm), if_pos rfl] at hcu;have hfu := freeTo_upd P.O o z P.n hff;rw [hz0, if_pos rfl, if_neg h.o0] at hfu;have hcn := h.cnt;refine ⟨⟨?_, fun g hg => ?_, h.o0, by simp only [List.length_append, List.length_cons, List.length_nil]; omega⟩, ⟨rfl, fun i hi h0 h1 => ?_, fun o' h0 h1 => ?_, fun i hi h0 h1 => ?_⟩, by unfold Pool.left; simp only; omega, fun j hj => ?_, fun j hj1 hj2 => ?_⟩
 ·rw [List.nodup_append]
  refine ⟨h.nd, by simp, fun a hal b hb e => ?_⟩;have hb : b = (z : Int) + 1 := by simpa using hb
  subst e; subst hb;exact hno _ hal (by omega)
 ·unfold Pool.owner
  rcases List.mem_append.1 hg with hg | hg
  ·obtain ⟨s1, s2⟩ := h.there hg
   rw [if_pos (by rw [Pool.there_iff]; exact ⟨s1, s2⟩)];show updI P.O z o _ = o
   rw [updI_other _ _ _ _ (hno g hg)]; exact h.at hg
  ·have hb : g = (z : Int) + 1 := by simpa using hg
   subst hb;rw [if_pos (by rw [Pool.there_iff]; exact ⟨by omega, by show (z : Int) + 1 <= P.n; omega⟩)];show updI P.O z o _ = o
   rw [show ((z : Int) + 1).toNat - 1 = z by omega, updI_same]
 ·show updI P.O z o i = _
  rw [updI_other _ _ _ _ (by rintro rfl; exact h0 hz0)]
 ·have hc := countTo_upd P.O o' o z P.n hff
  rw [hz0, if_neg (fun e => h0 e.symm), if_neg (fun e => h1 e.symm)] at hc;exact hc
 ·show (if _ then _ else _) = _
  rw [if_neg];intro e;have : i / 64 = z := by omega
  rw [this] at h0; exact h0 hz0
 ·have e : (L ++ [(z : Int) + 1]).getD (j / 64) 0 = L.getD (j / 64) 0 := by
   have : j / 64 < L.length := by omega
   simp [List.getD, List.getElem?_append_left this]
  have hm := getD_mem (show j / 64 < L.length by omega);have := hno _ hm;unfold segD;rw [e];show (if _ then _ else _) = _
  rw [if_neg (by omega)]
 ·have e : (L ++ [(z : Int) + 1]).getD (j / 64) 0 = (z : Int) + 1 := by
   have : j / 64 = L.length := by omega
   simp [List.getD, this]
  unfold segD;rw [e];show (if _ then _ else _) = _
  rw [if_pos (by omega)]
theorem infoInt : (Tryz.prog.info? 3).map (fun i => (i.zero, i.size, i.bytes)) = some (some (.int .i64 0), 1, 8) := by kernel_rfl
theorem FrIn.of_own {w : World} {lo : Nat} {v : Value} {L : List Int} {x : Int} (h : w.ownsRow lo 3 1 v (L.length + 1) (L.map (Value.int .i64) ++ [.int .i64 x])) : FrIn w lo v (L ++ [x]) := by
 obtain ⟨g, cap, cur, rfl, h1, h2, h3, h4, h5, h6⟩ := h.2.resolve_left (by rintro ⟨_, h0⟩; omega);refine .inr ⟨g, cap, cur, by simp, h1, h2, by simpa using h3, h4, .inl (by omega), by omega, fun j hj => ?_⟩;have hj' : j < L.length + 1 := by simpa using hj
 have : cur.toList[j]? = (L.map (Value.int .i64) ++ [Value.int .i64 x])[j]? := by
  rw [<- h6, List.getElem?_take, if_pos (by omega)]
 rw [<- Array.getElem?_toList, this];have e : L.map (Value.int .i64) ++ [Value.int .i64 x] = (L ++ [x]).map (Value.int .i64) := by simp
 rw [e, List.getElem?_map, List.getElem?_eq_getElem hj];simp only [Option.map_some, List.getD, List.getElem?_eq_getElem hj, Option.getD_some]
theorem append_fr {w : World} {lo : Nat} {v : Value} {L : List Int} (x : Int) {nb nc : Nat} (ty : TypeId) (h : FrIn w lo v L) (hlo : lo <= w.heap.size) (hn : w.cell? ⟨nb, 0, none⟩ = some (.int .i64 x)) (h16 : L.length <= 16) :
  ∃ v' w', (Builtin.append_ #[34, 34] ty #[v, .slice (some ⟨nb, 0, none⟩) 1 nc]).run Tryz.prog w = .ok v' w' /\ FrIn w' lo v' (L ++ [x]) /\ Kept (fun k => v.ownBlock = some k) w w' /\ ∀ g, v'.ownBlock = some g -> v.ownBlock = some g \/ w.heap.size <= g := by
 obtain ⟨i0, hi, hz0, hz1, hz2⟩ := info_parts infoInt
 have hnews : ∀ j u, [Value.int .i64 x][j]? = some u -> w.cell? ((⟨nb, 0, none⟩ : Addr).add j) = some u := by
  intro j u h
  have hj : j = 0 := by
   rcases Nat.eq_zero_or_pos j with e | e
   ·exact e
   ·rw [List.getElem?_eq_none (by simp; omega)] at h; cases h
  subst hj;rw [Addr.add_lit, hn]; simpa using h
 have hown : w.ownsRow lo 3 1 v L.length (L.map (Value.int .i64)) -> ∃ v' w', (Builtin.append_ #[34, 34] ty #[v, .slice (some ⟨nb, 0, none⟩) 1 nc]).run Tryz.prog w = .ok v' w' /\ FrIn w' lo v' (L ++ [x]) /\ Kept (fun k => v.ownBlock = some k) w w' /\ ∀ g, v'.ownBlock = some g -> v.ownBlock = some g \/ w.heap.size <= g := by
  intro ho;obtain ⟨v', w', hr, ho', hg, _, hb⟩ := run_append_own_at (P := Tryz.prog) w lo 34 ty 3 i0 (.int .i64 0) 1 8 Tryz.underlying34 hi hz0 hz1 hz2 rfl (by decide) v L.length _ ho ⟨nb, 0, none⟩ 1 nc [.int .i64 x] rfl hnews (fun u hu => by simp at hu; subst hu; rfl) (by unfold maxLen; omega) (by omega) hlo;refine ⟨v', w', hr, FrIn.of_own ho', ⟨hg.os, hg.tape, hg.output, hg.size, fun k hk hs => hg.block k hk (fun e => hs e.symm)⟩, fun g hg' => ?_⟩;rcases hb with e | e
  ·exact .inl (by rw [<- e]; exact hg')
  ·right; rw [e] at hg'; injection hg' with hg'; omega
 rcases h with ⟨rfl, rfl⟩ | ⟨g, cap, cur, rfl, h1, h2, h3, h4, h5, h6, h7⟩
 ·exact hown (World.ownsRow_nil _ _ _ _)
 ·by_cases hc : cap = cur.size
  ·refine hown ⟨by simp, .inr ⟨g, cap, cur, rfl, h1, h2, h3, h4, by omega, ?_⟩⟩
   refine List.ext_getElem? fun j => ?_
   rw [List.getElem?_take, List.getElem?_map];by_cases hj : j < L.length
   ·rw [if_pos (by omega), Array.getElem?_toList, h7 j hj]
    simp [List.getD, hj]
   ·rw [if_neg (by omega)]; simp [Nat.le_of_not_lt hj]
  ·have hcl : cap = L.length := h5.resolve_left hc
   have holds : ∀ j u, (L.map (Value.int .i64))[j]? = some u -> w.cell? ((⟨g, 0, none⟩ : Addr).add j) = some u := by
    intro j u hu;rw [List.getElem?_map] at hu;by_cases hj : j < L.length
    ·rw [Addr.add_lit, Nat.zero_add, Blk.cell (b := g) h2, h7 j hj]
     simp [hj] at hu;rw [<- hu]; simp [List.getD, hj]
    ·simp [Nat.le_of_not_lt hj] at hu
   obtain ⟨v', w', hr, ho', hg⟩ := run_append_arg_grows (P := Tryz.prog) w 34 ty 3 i0 (.int .i64 0) 1 8 Tryz.underlying34 hi hz0 hz1 hz2 rfl (by decide) ⟨g, 0, none⟩ L.length cap (L.map (Value.int .i64)) (by simp) holds ⟨nb, 0, none⟩ 1 nc [.int .i64 x] rfl hnews (by omega) (by unfold maxLen; omega) (by omega)
   have hlow : w'.ownsRow lo 3 1 v' (L.length + 1) (L.map (Value.int .i64) ++ [.int .i64 x]) :=
    ⟨ho'.1, ho'.2.imp id fun ⟨g, cap, cur, h1, h2, h3⟩ => ⟨g, cap, cur, h1, Nat.le_trans hlo h2, h3⟩⟩
   exact ⟨v', w', hr, FrIn.of_own hlow, ⟨hg.os, hg.tape, hg.output, hg.size, fun k hk _ => hg.block k hk (by simp)⟩, fun k hk => .inr (ho'.lt k hk).1⟩
theorem FrIn.cut {w : World} {lo g cap n : Nat} {L : List Int} {f : Int} (h : FrIn w lo (.slice (some ⟨g, 0, none⟩) n cap) (L ++ [f])) : FrIn w lo (.slice (some ⟨g, 0, none⟩) L.length L.length) L := by
 rcases h with ⟨h, _⟩ | ⟨g', cap', cur, e, h1, h2, h3, h4, h5, h6, h7⟩
 ·cases h
 ·injection e with e1 e2 e3
  injection e1 with e1; injection e1 with e1 _ _
  subst e1;have hl : (L ++ [f]).length = L.length + 1 := by simp
  refine .inr ⟨g, L.length, cur, rfl, h1, h2, Nat.le_refl _, by omega, .inr rfl, by omega, fun j hj => ?_⟩;rw [h7 j (by omega)];simp [List.getD, List.getElem?_append_left hj]
theorem ex_append1 {P : Program} {a : Act} {w w' : World} {d : Option Tmp} {t : TypeId} {p : String} {e : Array Edge} {g : Option (Nat × Bool)} {T : TypeId} {x y : Operand} {u v r : Value} (hx : a.eval x = u) (hy : a.eval y = v) (hr : (Builtin.append_ #[T, T] t #[u, v]).run P w = .ok r w') :
  (execOp a.eval ⟨d, .call { callee := .builtin .append, args := #[x, y], argTypes := #[T, T] }, t, p, e, g⟩).run P w = .ok (.value r) w' := by
 simp only [execOp, resolve, invoke, builtin, Sem.run_bind, Sem.run_pure, Result.andThen_ok, List.map_toArray, List.map_cons, List.map_nil, hx, hy, hr]
end Go.Proofs.YtiadbhiadhgjkaaGreatDoor
