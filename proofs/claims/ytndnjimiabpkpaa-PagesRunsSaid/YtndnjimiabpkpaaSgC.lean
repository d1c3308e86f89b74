/- Contracts of segments: Write. -/
import Derived.Test.YtndnjimiabpkpaaSgB
namespace Go.Proofs.Ytndnjimiabpkpaa
open Go.RowKit
attribute [local irreducible] World.setCell World.alloc World.drew World.setRow Calls Code.wp row

theorem swrite_no (sb si pb : Nat) (cs : Array Value) (lo : Nat) (v : Value) (L : List Int) (off : Int) (a : Option Addr) (m c : Nat) (w : World) (hS : SegAt w sb si cs lo v L) (hf : segW L off m = false) :
    Calls Try.prog 29 #[.pointer (some ⟨sb, si, none⟩), .pointer (some ⟨pb, 0, none⟩), .int .i64 off, .slice a m c] w fun e w' => e = .returned (.bool false) ∧ w = w' := by
  have HS := Lib.hid hS; have Hf := Lib.hid hf; clear hS hf
  go_enter Try.func29, Try.ntmps29
  go_wp2_with fail
  refine (within_any sb si cs lo v L _ _ _ HS.out).mono ?_
  rintro e w' ⟨rfl, rfl⟩
  rw [Hf.out]
  go_wp2_with fail
  go_ret
  exact ⟨rfl, rfl⟩

/-- P' is P, the bytes q .. q + d of the segment L being B 0, B 1, .. -/
structure SegPut (P P' : Pool) (L : List Int) (q d : Nat) (B : Nat → Int) : Prop where
  n : P'.n = P.n
  O : P'.O = P.O
  D : ∀ j, j < L.length * 64 → segD P' L j = if q ≤ j ∧ j < q + d then B (j - q) else segD P L j
  other : ∀ i, (∀ f ∈ L, i / 64 ≠ f.toNat - 1) → P'.D i = P.D i
theorem SegPut.refl (P : Pool) (L : List Int) (q : Nat) (B : Nat → Int) : SegPut P P L q 0 B :=
  ⟨rfl, rfl, fun j _ => by rw [if_neg (by omega)], fun _ _ => rfl⟩
theorem SegPut.owner {P P' : Pool} {L : List Int} {q d : Nat} {B : Nat → Int} (h : SegPut P P' L q d B) (f : Int) : P'.owner f = P.owner f := by
  unfold Pool.owner Pool.there; rw [h.n, h.O]
theorem SegPut.segIn {P P' : Pool} {L M : List Int} {q d : Nat} {B : Nat → Int} {o : Int} (h : SegPut P P' L q d B) (hI : SegIn P o M) : SegIn P' o M :=
  ⟨hI.nd, fun f hf => by rw [h.owner]; exact hI.own f hf, hI.o0, by rw [h.n, h.O]; exact hI.cnt⟩
/-- Of other frames nothing is changed. -/
theorem SegPut.apart {P P' : Pool} {L M : List Int} {q d : Nat} {B : Nat → Int} {o o' : Int} (h : SegPut P P' L q d B) (hL : SegIn P o L) (hM : SegIn P o' M) (hne : o ≠ o') (j : Nat) (hj : j < M.length * 64) : segD P' M j = segD P M j := by
  unfold segD
  refine h.other _ fun f hf e => ?_
  have hm := getD_mem (show j / 64 < M.length by omega)
  have t1 := hM.there hm
  have t2 := hL.there hf
  have e1 : ((M.getD (j / 64) 0).toNat - 1) * 64 + j % 64 = j % 64 + ((M.getD (j / 64) 0).toNat - 1) * 64 := by omega
  rw [e1, Nat.add_mul_div_right _ _ (by omega), Nat.div_eq_of_lt (Nat.mod_lt _ (by omega)), Nat.zero_add] at e
  have a1 := hL.at hf
  have a2 := hM.at hm
  rw [e, a1] at a2
  exact hne a2

theorem nodup_inj {L : List Int} (h : L.Nodup) {i j : Nat} (hi : i < L.length) (hj : j < L.length) (e : L[i] = L[j]) : i = j := by
  have hp := List.pairwise_iff_getElem.1 h
  rcases Nat.lt_trichotomy i j with g | g | g
  · exact absurd e (hp i j hi hj g)
  · exact g
  · exact absurd e.symm (hp j i hj hi g)

/-- A stretch within one page written. -/
theorem SegPut.step {P P' : Pool} {L : List Int} {q d k : Nat} {B : Nat → Int} {o : Int} (h : SegPut P P' L q d B) (hI : SegIn P o L) (hk : (q + d) % 64 + k ≤ 64) (hp : q + d + k ≤ L.length * 64) (h1 : 1 ≤ k) (C : Nat → Int) (hC : ∀ j, j < k → C j = B (d + j)) (fr off : Int) (hfr : L.getD ((q + d) / 64) 0 = fr) (hoff : off = ((q + d : Nat) : Int) % 64) (hfit : P'.fits fr off k = true) :
    SegPut P (P'.write fr off k C) L q (d + k) B := by
  have hw : P'.write fr off k C = ⟨P'.n, P'.O, fun j => if (fr.toNat - 1) * 64 + off.toNat ≤ j ∧ j < (fr.toNat - 1) * 64 + off.toNat + k then C (j - ((fr.toNat - 1) * 64 + off.toNat)) else P'.D j⟩ := by
    unfold Pool.write; rw [if_pos hfit]
  rw [hw]
  have hol : off.toNat = (q + d) % 64 := by omega
  rw [hol]
  have hpl : (q + d) / 64 < L.length := by omega
  have hmem : fr ∈ L := by rw [← hfr]; exact getD_mem hpl
  have t := hI.there hmem
  refine ⟨h.n, h.O, fun j hj => ?_, fun i hi => ?_⟩
  · have hD := h.D j hj
    show (if _ then _ else _) = _
    have hm := getD_mem (show j / 64 < L.length by omega)
    have tj := hI.there hm
    by_cases e : j / 64 = (q + d) / 64
    · rw [e, hfr]
      by_cases c : q + d ≤ j ∧ j < q + d + k
      · rw [if_pos (by omega), if_pos (by omega), hC _ (by omega)]
        congr 1; omega
      · rw [if_neg (by omega)]
        have hD' : P'.D ((fr.toNat - 1) * 64 + j % 64) = if q ≤ j ∧ j < q + d then B (j - q) else segD P L j := by
          rw [← hD]; unfold segD; rw [e, hfr]
        rw [hD']
        by_cases c2 : q ≤ j ∧ j < q + d
        · rw [if_pos c2, if_pos (by omega)]
        · rw [if_neg c2, if_neg (by omega)]
    · have hne : (L.getD (j / 64) 0) ≠ fr := by
        intro he
        rw [← hfr] at he
        have g1 : L.getD (j / 64) 0 = L[j / 64]'(by omega) := by simp [List.getD, show j / 64 < L.length by omega]
        have g2 : L.getD ((q + d) / 64) 0 = L[(q + d) / 64]'hpl := by simp [List.getD, hpl]
        rw [g1, g2] at he
        exact e (nodup_inj hI.nd (by omega) hpl he)
      rw [if_neg (by omega)]
      have : P'.D (((L.getD (j / 64) 0).toNat - 1) * 64 + j % 64) = segD P' L j := rfl
      rw [this, hD]
      by_cases c2 : q ≤ j ∧ j < q + d
      · rw [if_pos c2, if_pos (by omega)]
      · rw [if_neg c2, if_neg (by omega)]
  · have := hi fr hmem
    show (if _ then _ else _) = _
    rw [if_neg (by omega)]
    exact h.other i hi

set_option maxRecDepth 100000 in
set_option maxHeartbeats 2000000 in
theorem swrite_yes (sb si pb db ob : Nat) (cs : Array Value) (lo : Nat) (v : Value) (L : List Int) (P : Pool) (o : Int) (q : Nat) (a : Option Addr) (m c : Nat) (B : Nat → Int) (w : World) (hS : SegAt w sb si cs lo v L) (hP : PoolAt w pb db ob P) (hI : SegIn P o L) (hf : segW L q m = true)
    (hb : ∀ w', Kept (PS pb db ob) w w' → BytesIn w' a m B) (hB : ∀ j, 0 ≤ B j ∧ B j ≤ 255) (hmc : m ≤ c) (hcm : c ≤ maxLen) (n1 : ¬ PS pb db ob sb) (n2 : ∀ g, v.ownBlock = some g → ¬ PS pb db ob g) :
    Calls Try.prog 29 #[.pointer (some ⟨sb, si, none⟩), .pointer (some ⟨pb, 0, none⟩), .int .i64 q, .slice a m c] w fun e w' =>
      e = .returned (.bool true) ∧ ∃ P', PoolAt w' pb db ob P' ∧ SegPut P P' L q m B ∧ Kept (PS pb db ob) w w' := by
  obtain ⟨f1, f2, f3, f4⟩ := (segW_iff _ _ _).1 hf
  have hqm : q + m ≤ L.length * 64 := by unfold segS at f3 f4; omega
  have h16 := hS.h16
  have HS := Lib.hid hS; have HP := Lib.hid hP; have HI := Lib.hid hI; have Hf := Lib.hid hf; have Hb := Lib.hid hb; have HB := Lib.hid hB
  unfold maxLen at hcm
  clear hS hP hI hf hb hB f1 f2 f3 f4
  go_enter Try.func29, Try.ntmps29
  go_wp2_with fail
  refine (within_any sb si cs lo v L _ _ _ HS.out).mono ?_
  rintro e w' ⟨rfl, rfl⟩
  rw [Hf.out]
  go_wp2_with fail
  go_loopg [2, 3, 9] m (fun g so sb' _ wx => ∃ (d : Nat) (a' : Option Addr) (P' : Pool), d + g = m ∧ so = .int .i64 ((q + d : Nat) : Int) ∧ sb' = .slice a' (m - d) (c - d) ∧ (m - d = 0 ∨ ∃ bb bo, a = some ⟨bb, bo, none⟩ ∧ a' = some ⟨bb, bo + d, none⟩) ∧ PoolAt wx pb db ob P' ∧ SegPut P P' L q d B ∧ Kept (PS pb db ob) w wx)
  case atStart =>
    refine ⟨0, a, P, by omega, by simp, by simp, ?_, HP.out, SegPut.refl _ _ _ _, Kept.refl _ _⟩
    rcases Hb.out w (Kept.refl _ _) with h0 | ⟨bb, bo, h1, _⟩
    · exact .inl (by omega)
    · exact .inr ⟨bb, bo, h1, by rw [h1]; rfl⟩
  case round =>
    obtain ⟨d, a', P', hd, rfl, rfl, ha', hP', hD', hK⟩ := hrel
    have Ha' := Lib.hid ha'; have HP' := Lib.hid hP'; have HD' := Lib.hid hD'; have HK := Lib.hid hK
    clear ha' hP' hD' hK
    by_cases hlt : d < m
    · obtain ⟨p, hp⟩ : ∃ p, q + d = p := ⟨_, rfl⟩
      obtain ⟨r, hr⟩ : ∃ r, m - d = r := ⟨_, rfl⟩
      obtain ⟨rc, hrc⟩ : ∃ rc, c - d = rc := ⟨_, rfl⟩
      obtain ⟨k, hk⟩ : ∃ k, min r (64 - p % 64) = k := ⟨_, rfl⟩
      have hk1 : 1 ≤ k := by omega
      have hk2 : k ≤ r := by omega
      have hk3 : p % 64 + k ≤ 64 := by omega
      have hpl : p / 64 < L.length := by omega
      rw [hp, hr, hrc]
      obtain ⟨bb, bo, ha, rfl⟩ := Ha'.out.resolve_left (by omega)
      have hSr := HS.out.kept HK.out n1 n2
      obtain ⟨a2, cap, g, hv, g1, g2, g3, g4⟩ := hSr.hv.open
      have ha2 := g3 (by omega)
      subst ha2
      have hcl := g4 (p / 64) hpl
      have hcs := hSr.cell
      rw [hv] at hcs
      obtain ⟨fr, hfr⟩ : ∃ fr, L.getD (p / 64) 0 = fr := ⟨_, rfl⟩
      rw [hfr] at hcl
      have hmem : fr ∈ L := by rw [← hfr]; exact getD_mem hpl
      obtain ⟨t1, t2⟩ := HI.out.there hmem
      have hfit : P'.fits fr ((p : Int) % 64) ((k : Nat) : Int) = true := by
        rw [P'.fits_iff, HD'.out.owner, HI.out.own fr hmem]
        exact ⟨HI.out.o0, by omega, by omega, by omega, by omega⟩
      have Hfr := Lib.hid hfr; have Hfit := Lib.hid hfit; have Hp := Lib.hid hp; have Hr := Lib.hid hr; have Hrc := Lib.hid hrc; have Ha := Lib.hid ha
      have hkc : (r : Int) ≤ 64 - (p : Int) % 64 ∧ k = r ∨ ¬ (r : Int) ≤ 64 - (p : Int) % 64 ∧ k = 64 - p % 64 := by omega
      have hpn : p ≤ 1024 := by omega
      have hrn : r ≤ 1024 := by omega
      have hrc1 : r ≤ rc := by omega
      have hrc2 : rc ≤ 9223372036854775807 := by omega
      clear hSr g4 g3 hv hfr hmem hfit hk ha
      have key : ∀ (kk : Int) (cc : Nat), kk = (k : Int) → ∀ wx, PoolAt wx pb db ob P' → Kept (PS pb db ob) w wx → Calls Try.prog 22 #[.pointer (some ⟨pb, 0, none⟩), .int .i64 fr, .int .i64 ((p : Int) % 64), .slice (some ⟨bb, bo + d, none⟩) k cc] wx fun e w' =>
          e = .returned (.bool true) ∧ PoolAt w' pb db ob (P'.write fr ((p : Int) % 64) k fun j => B (d + j)) ∧ Kept (PS pb db ob) wx w' := by
        rintro kk cc rfl wx hPx hKx
        refine write_yes pb db ob P' _ _ _ _ _ _ _ hPx Hfit.out (.inr ⟨bb, bo + d, rfl, fun j hj => ?_⟩) (fun j _ => HB.out _)
        rcases Hb.out wx hKx with h0 | ⟨b2, o2, h1, h2⟩
        · omega
        · have e := Ha.out
          rw [h1] at e
          injection e with e; injection e with e1 e2 _
          subst e1 e2
          rw [Nat.add_assoc]
          exact h2 (d + j) (by have := Hr.out; omega)
      have Key := Lib.hid key; clear key
      rcases hkc with ⟨hc, hkr⟩ | ⟨hc, hkr⟩
      · subst hkr
        go_wp2_with fail
        have hq1 : (p : Int).tdiv 64 = (p : Int) / 64 := Int.tdiv_eq_ediv_of_nonneg (by omega)
        have hq2 : (p : Int).tmod 64 = (p : Int) % 64 := Int.tmod_eq_emod_of_nonneg (by omega)
        have hq3 : IntKind.i64.wrap ((p : Int) / 64) = (p : Int) / 64 := IntWalk.i64_in _ (by omega)
        have hq4 : IntKind.i64.wrap ((p : Int) % 64) = (p : Int) % 64 := IntWalk.i64_in _ (by omega)
        have hq5 : (0 : Int) ≤ (p : Int) / 64 := by omega
        have hq6 : (p : Int) / 64 < L.length := by omega
        have hq7 : ((p : Int) / 64).toNat = p / 64 := by omega
        have hk0 : (0 : Int) ≤ k := by omega
        have hkr' : (k : Int) ≤ rc := by omega
        obtain ⟨ob', hob⟩ : ∃ ob' : Nat, (if rc = k then bo + d else bo + d + k) = ob' := ⟨_, rfl⟩
        have hsl : ∀ w, (Instr.slice 32 (.slice (some ⟨bb, bo + d, none⟩) k rc) (some (.int .i64 k)) none none).run Try.prog w = .ok (.slice (some ⟨bb, ob', none⟩) (k - k) (rc - k)) w := by
          intro w
          have hk5 : (k : Int) ≤ k := by omega
          go_simp
          rw [← hob]; split <;> rfl
        have Hob := Lib.hid hob; clear hob
        go_still_tail 14, (by kernel_rfl)
        rw [drew_eq wr]
        go_wp2_with fail
        refine (Key.out _ _ rfl _ HP'.out.drew HK.out.drew).mono ?_
        rintro e w5 ⟨rfl, hP5, hK5⟩
        have HP5 := Lib.hid hP5; have HK5 := Lib.hid (HK.out.drew.trans hK5)
        clear hP5 hK5 hq1 hq2 hq3 hq4 hq5 hq6 hq7
        have hpk : IntKind.i64.wrap ((p : Int) + k) = (p : Int) + k := IntWalk.i64_in _ (by omega)
        go_wp2_with fail
        go_quiet (fail)
        go_wp2_with fail
        go_roundg (m - (d + k))
        case measure => have := Hr.out; omega
        case rel =>
          refine ⟨d + k, some ⟨bb, ob', none⟩, _, by have := Hr.out; omega, by have := Hp.out; congr 1; omega, ?_, ?_, HP5.out.drewN _, ?_, HK5.out.drewN _⟩
          · have h1 := Hr.out; have h2 := Hrc.out
            congr 1 <;> omega
          · by_cases e0 : m - (d + k) = 0
            · exact .inl e0
            · refine .inr ⟨bb, bo, Ha.out, ?_⟩
              have h1 := Hr.out; have h2 := Hrc.out
              rw [← Hob.out, if_neg (by omega), Nat.add_assoc]
          · exact HD'.out.step HI.out (by rw [Hp.out]; exact hk3) (by have := Hp.out; have := Hr.out; omega) hk1 _ (fun _ _ => rfl) fr _ (by rw [Hp.out]; exact Hfr.out) (by rw [Hp.out]) Hfit.out
      · have Hkr := Lib.hid hkr; clear hkr
        go_wp2_with fail
        rw [show (64 : Int) - (p : Int) % 64 = (k : Int) by have := Hkr.out; omega]
        have hq1 : (p : Int).tdiv 64 = (p : Int) / 64 := Int.tdiv_eq_ediv_of_nonneg (by omega)
        have hq2 : (p : Int).tmod 64 = (p : Int) % 64 := Int.tmod_eq_emod_of_nonneg (by omega)
        have hq3 : IntKind.i64.wrap ((p : Int) / 64) = (p : Int) / 64 := IntWalk.i64_in _ (by omega)
        have hq4 : IntKind.i64.wrap ((p : Int) % 64) = (p : Int) % 64 := IntWalk.i64_in _ (by omega)
        have hq5 : (0 : Int) ≤ (p : Int) / 64 := by omega
        have hq6 : (p : Int) / 64 < L.length := by omega
        have hq7 : ((p : Int) / 64).toNat = p / 64 := by omega
        have hk0 : (0 : Int) ≤ k := by omega
        have hkr' : (k : Int) ≤ rc := by omega
        obtain ⟨ob', hob⟩ : ∃ ob' : Nat, (if rc = k then bo + d else bo + d + k) = ob' := ⟨_, rfl⟩
        have hsl : ∀ w, (Instr.slice 32 (.slice (some ⟨bb, bo + d, none⟩) r rc) (some (.int .i64 k)) none none).run Try.prog w = .ok (.slice (some ⟨bb, ob', none⟩) (r - k) (rc - k)) w := by
          intro w
          have hk5 : (k : Int) ≤ r := by omega
          go_simp
          rw [← hob]; split <;> rfl
        have Hob := Lib.hid hob; clear hob
        go_still_tail 14, (by kernel_rfl)
        rw [drew_eq wr]
        go_wp2_with fail
        refine (Key.out _ _ rfl _ HP'.out.drew HK.out.drew).mono ?_
        rintro e w5 ⟨rfl, hP5, hK5⟩
        have HP5 := Lib.hid hP5; have HK5 := Lib.hid (HK.out.drew.trans hK5)
        clear hP5 hK5 hq1 hq2 hq3 hq4 hq5 hq6 hq7
        have hpk : IntKind.i64.wrap ((p : Int) + k) = (p : Int) + k := IntWalk.i64_in _ (by omega)
        go_wp2_with fail
        go_quiet (fail)
        go_wp2_with fail
        go_roundg (m - (d + k))
        case measure => have := Hr.out; omega
        case rel =>
          refine ⟨d + k, some ⟨bb, ob', none⟩, _, by have := Hr.out; omega, by have := Hp.out; congr 1; omega, ?_, ?_, HP5.out.drewN _, ?_, HK5.out.drewN _⟩
          · have h1 := Hr.out; have h2 := Hrc.out
            congr 1 <;> omega
          · by_cases e0 : m - (d + k) = 0
            · exact .inl e0
            · refine .inr ⟨bb, bo, Ha.out, ?_⟩
              have h1 := Hr.out; have h2 := Hrc.out
              rw [← Hob.out, if_neg (by omega), Nat.add_assoc]
          · exact HD'.out.step HI.out (by rw [Hp.out]; exact hk3) (by have := Hp.out; have := Hr.out; omega) hk1 _ (fun _ _ => rfl) fr _ (by rw [Hp.out]; exact Hfr.out) (by rw [Hp.out]) Hfit.out
    · obtain rfl : d = m := by omega
      go_wp2_with fail
      go_ret
      exact ⟨rfl, P', HP'.out, HD'.out, HK.out⟩
end Go.Proofs.Ytndnjimiabpkpaa
