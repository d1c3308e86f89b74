/- Of the proof of this claim: a joined text. -/
import Derived.Test.YtiadbhiadhgjkaaGreatDoorZzNm
import Derived.Test.YtiadbhiadhgjkaaGreatDoorZzNh
import Derived.Test.YtiadbhiadhgjkaaGreatDoorZzLn
import Derived.KernelRfl
set_option maxRecDepth 100000
set_option maxHeartbeats 4000000
namespace Go.Proofs.YtiadbhiadhgjkaaGreatDoor
open Go.RowKit
attribute [local irreducible] World.setCell World.alloc World.drew World.setRow Calls Code.wp
theorem PV.lab_good (p : PV) : goodLab p.lab := by
 rw [PV.lab_eq];by_cases h : p.good = true
 ·rw [if_pos h]
  unfold PV.good at h;rw [Bool.and_eq_true] at h;exact h
 ·rw [if_neg h]
  exact ⟨by decide, by decide⟩
theorem i64_small {x : Int} (h : -1000000 <= x /\ x <= 1000000) : I64 x := ⟨by omega, by omega⟩
theorem right_bd {l : Lab} (h : l.right = true) : l.d <= 1000 /\ l.ps.length <= 1000 /\ ∀ q ∈ l.ps, q.1 < 4294967296 /\ q.2 <= 1000 := by
 obtain ⟨⟨d1, d4⟩, hn, hp⟩ := Lab.right_spec h;exact ⟨by omega, by omega, fun q hq => by have := hp q hq; omega⟩
theorem worldO_bd (n : Int) (p : ProgK) (hn : 0 <= n /\ n <= 1000) (hr : p.lab.right = true) : ∀ o ∈ worldO n p, o.bd := by
 intro o ho;have l0 : lab0.d <= 1000 /\ lab0.ps.length <= 1000 /\ ∀ q ∈ lab0.ps, q.1 < 4294967296 /\ q.2 <= 1000 := ⟨by decide, by decide, fun q hq => by cases hq⟩;have z : I64 0 := ⟨by decide, by decide⟩;simp [worldO] at ho;rcases ho with rfl | rfl | rfl
 ·exact ⟨i64_small ⟨by show (-1000000 : Int) <= 3; decide, by show (3 : Int) <= 1000000; decide⟩, i64_small ⟨by show (-1000000 : Int) <= p.home % 2; omega, by show p.home % 2 <= 1000000; omega⟩, z, z, i64_small ⟨by show (-1000000 : Int) <= n + 2; omega, by show n + 2 <= 1000000; omega⟩, z, (fun m hm => by cases hm), right_bd hr, right_bd (by show labThree.right = true; decide), ⟨by show 0 <= 100000; omega, by show 0 <= 100000; omega⟩⟩
 ·refine ⟨i64_small ⟨by show (-1000000 : Int) <= 4; decide, by show (4 : Int) <= 1000000; decide⟩, z, z, z, z, z, fun m hm => ?_, right_bd (by show labOne.right = true; decide), l0, ⟨by show 0 <= 100000; omega, by show 3 <= 100000; omega⟩⟩
  simp at hm;rcases hm with rfl | rfl | rfl
  ·exact ⟨z, ⟨by show 0 <= n + 3; omega, by show n + 3 <= 18446744073709551615; omega⟩, z, i64_small ⟨by show (-1000000 : Int) <= 9; decide, by show (9 : Int) <= 1000000; decide⟩⟩
  ·exact ⟨i64_small ⟨by show (-1000000 : Int) <= 32; decide, by show (32 : Int) <= 1000000; decide⟩, ⟨by show (0 : Int) <= 2; decide, by show (2 : Int) <= 18446744073709551615; decide⟩, z, i64_small ⟨by show (-1000000 : Int) <= 2; decide, by show (2 : Int) <= 1000000; decide⟩⟩
  ·exact ⟨i64_small ⟨by show (-1000000 : Int) <= 34; decide, by show (34 : Int) <= 1000000; decide⟩, ⟨by show (0 : Int) <= 3; decide, by show (3 : Int) <= 18446744073709551615; decide⟩, z, i64_small ⟨by show (-1000000 : Int) <= 1; decide, by show (1 : Int) <= 1000000; decide⟩⟩
 ·have hl := codeU_len p.lines
  exact ⟨i64_small ⟨by show (-1000000 : Int) <= 2; decide, by show (2 : Int) <= 1000000; decide⟩, z, i64_small ⟨by show (-1000000 : Int) <= 9; decide, by show (9 : Int) <= 1000000; decide⟩, z, z, z, (fun m hm => by cases hm), right_bd (by show labOne.right = true; decide), l0, ⟨by show ((codeU p.lines).take 576).length <= 100000; omega, by show 0 <= 100000; omega⟩⟩
theorem worldP_bd : ∀ (l : List ProgK) (n : Int), (0 <= n /\ n + 3 * (l.length : Int) <= 1000) -> (∀ p ∈ l, p.lab.right = true) -> ∀ o ∈ worldP n l, o.bd
 | [], _, _, _, o, ho => by cases ho
 | p :: r, n, hn, h, o, ho => by
  rw [List.length_cons] at hn;rcases List.mem_append.1 (show o ∈ worldO n p ++ worldP (n + 3) r from ho) with ho | ho
  ·exact worldO_bd n p (by omega) (h p (List.mem_cons_self ..)) o ho
  ·exact worldP_bd r (n + 3) (by omega) (fun q hq => h q (List.mem_cons_of_mem _ hq)) o ho
theorem labels_len : labelsB.length = 128 := by decide +kernel
theorem worldH_bd : ∀ o ∈ worldH, o.bd := by
 intro o ho;have l0 : lab0.d <= 1000 /\ lab0.ps.length <= 1000 /\ ∀ q ∈ lab0.ps, q.1 < 4294967296 /\ q.2 <= 1000 := ⟨by decide, by decide, fun q hq => by cases hq⟩;have z : I64 0 := ⟨by decide, by decide⟩;have hs : ∀ x : Int, -1000000 <= x /\ x <= 1000000 -> I64 x := fun x => i64_small
 have h1 := right_bd (show labOne.right = true by decide);have h2 := right_bd (show labUp.right = true by decide);simp [worldH] at ho;rcases ho with rfl | rfl | rfl | rfl
 ·exact ⟨hs 1 (by decide), z, hs 120 (by decide), hs 40 (by decide), z, z, (fun m hm => by cases hm), h1, l0, ⟨by show 0 <= 100000; omega, by show 0 <= 100000; omega⟩⟩
 ·exact ⟨hs 2 (by decide), z, hs 2 (by decide), z, z, z, (fun m hm => by cases hm), h1, l0, ⟨by show labelsB.length <= 100000; rw [labels_len]; omega, by show 0 <= 100000; omega⟩⟩
 ·exact ⟨hs 2 (by decide), z, hs 1 (by decide), z, z, z, (fun m hm => by cases hm), h2, l0, ⟨by show 3 <= 100000; omega, by show 0 <= 100000; omega⟩⟩
 ·exact ⟨hs 6 (by decide), z, z, z, z, z, (fun m hm => by cases hm), h2, l0, ⟨by show 0 <= 100000; omega, by show 0 <= 100000; omega⟩⟩
theorem worldK_bd (l : List ProgK) (c : Int) (h : ∀ p ∈ l, p.lab.right = true) : (worldK l c).bd := by
 have hl : (l.take 4).length <= 4 := by rw [List.length_take]; omega
 have hlen : (worldK l c).objs.length = 4 + 3 * (l.take 4).length := by rw [worldK_objs, List.length_append, worldP_len]; rfl
 refine ⟨⟨i64_small ⟨by show (-1000000 : Int) <= c % 2 + 1; omega, by show c % 2 + 1 <= 1000000; omega⟩, i64_small ⟨by show (-1000000 : Int) <= 600; decide, by show (600 : Int) <= 1000000; decide⟩, i64_small ⟨by show (-1000000 : Int) <= 200; decide, by show (200 : Int) <= 1000000; decide⟩⟩, fun s hs => ?_, fun o ho => ?_, ⟨by show 3 <= 100000; omega, by omega⟩⟩
 ·have hs' : s ∈ [((0 : Int), (2 : Int)), (1, 1), (0, 1)] := hs
  simp at hs';rcases hs' with rfl | rfl | rfl <;> exact ⟨⟨by decide, by decide⟩, i64_small (by decide)⟩
 ·rw [worldK_objs] at ho
  rcases List.mem_append.1 ho with ho | ho
  ·exact worldH_bd o ho
  ·exact worldP_bd _ 4 ⟨by omega, by omega⟩ (fun p hp => h p (List.mem_of_mem_take hp)) o ho
theorem fitE_eq : fitE = some (0, 6, 1) := by decide +kernel
theorem fitG : (bootAll (km0 (worldK [haltP] 1)) [1] (worldK [haltP] 1).objs).map (fun p => goodMaps p.2 (worldK [haltP] 1).objs) = some true := by decide +kernel
theorem fit_plain : ∃ K K', newK (worldK [haltP] 1) = some K /\ K.pickT noMic noWt 0 = some (K', ⟨0, 6, 1⟩) /\ K.nc = 2 /\ KOk K := by
 have h := fitE_eq;unfold fitE at h
 cases hK : newK (worldK [haltP] 1) with
 | none => rw [hK] at h; cases h
 | some K =>
  rw [hK] at h;simp only [Option.bind_some] at h
  cases hp : K.pickT noMic noWt 0 with
  | none => rw [hp] at h; cases h
  | some r =>
   rw [hp] at h;obtain ⟨K', a, b, c⟩ := r;simp only [Option.map_some, Option.some.injEq, Prod.mk.injEq] at h;obtain ⟨rfl, rfl, rfl⟩ := h;refine ⟨K, K', rfl, hp, ?_, newK_kok hK (fun K1 made hb => ?_)⟩
   ·obtain ⟨-, K1, made, K2, -, -, -, rfl⟩ := newK_spec hK
    rfl
   ·have := fitG
    rw [hb] at this;simpa using this
theorem noMic_ok : MicOk (fun _ _ => True) noMic := fun _ _ _ _ _ _ _ _ _ _ _ _ _ h => by cases h
theorem noWt_ok : WtOk (fun _ _ => True) noWt := fun _ _ _ _ _ _ _ _ _ _ _ _ _ _ h => by cases h
def pv0 : PV := ⟨[], ⟨0, []⟩, 0⟩
theorem pv0_in (w : World) : ProgsIn (w.alloc (.cells #[.slice none 0 0, .int .i64 0, .slice none 0 0, .int .i64 0] 100)) (.slice (some ⟨w.heap.size, 0, none⟩) 1 1) [pv0] (fun _ => (.slice none 0 0, .slice none 0 0)) := by
 have hB := Blk.new w #[.slice none 0 0, .int .i64 0, .slice none 0 0, .int .i64 0] 100;refine ⟨fun j p hj => ?_, _, 1, rfl, Nat.le_refl _, by unfold maxLen; decide, .inr ⟨_, 0, rfl, hB.lt, fun j p hj i hi => ?_⟩⟩
 ·match j, hj with
  | 0, hj => cases hj; exact ⟨RowAt.nil _ _, ⟨none, 0, rfl, Nat.le_refl _, Nat.zero_le _, .inl rfl⟩⟩
 ·match j, hj with
  | 0, hj =>
   cases hj;rw [show 0 + 0 * 4 + i = i by omega];refine (hB.cell i).trans ?_;match i, hi with
   | 0, _ => rfl
   | 1, _ => rfl
   | 2, _ => rfl
   | 3, _ => rfl
theorem pv0_ok : pv0.ok := ⟨Nat.zero_le _, fun l hl => (by cases hl), fun n hn => (by cases hn)⟩
theorem pv0_plain : [pv0].map PV.plain = [haltP] := by
 have : pv0.lab = labOne := by rw [PV.lab_eq]; split <;> rfl
 show [(⟨[], pv0.lab, 0⟩ : ProgK)] = _
 rw [this]; rfl
theorem fit22_any (w : World) : Calls Tryz.prog 6 #[] w fun e w' => e = .returned (.bool true) /\ Below w.heap.size w w' := by
 have HW : Hid (Calls Tryz.prog 12 #[.slice (some ⟨w.heap.size, 0, none⟩) 1 1, .int .i64 1] (w.alloc (.cells #[.slice none 0 0, .int .i64 0, .slice none 0 0, .int .i64 0] 100)) fun e w' => ∃ u, e = .returned u /\ CfgIn w' u (worldK [haltP] 1) /\ Below w.heap.size w w') := Lib.hid (by
  refine (world_any [pv0] _ _ 1 _ (pv0_in w) (fun p hp => by simp at hp; subst hp; exact pv0_ok) (by omega)).mono ?_;rintro e w' ⟨u, h1, h2, h3⟩;rw [pv0_plain] at h2;exact ⟨u, h1, h2, bel_from ((Below.refl _ w).alloc (Nat.le_refl _) _) h3⟩)
 obtain ⟨K, K', hK, hres, hnc, hok⟩ := fit_plain;have HKn := Lib.hid hK; have HRes := Lib.hid hres; have Hnc := Lib.hid hnc; have Hok := Lib.hid hok;clear hK hres hnc hok;go_enter Tryz.func6, Tryz.ntmps6
 go_wp2_with fail
 refine HW.out.mono ?_;rintro e w1 ⟨u, rfl, hC, hb1⟩;obtain ⟨sv, ov, rfl, hS, hO⟩ := hC;obtain ⟨sa, sc, rfl, -, -⟩ := RowAt.form hS;obtain ⟨oa, oc, rfl, -, -⟩ := hO.form
 have HNew : Hid (∀ W, Below w1.heap.size w1 W -> Calls Tryz.prog 17 #[.agg #[.int .i64 (worldK [haltP] 1).cores, .int .i64 (worldK [haltP] 1).frames, .int .i64 (worldK [haltP] 1).names, .slice sa (worldK [haltP] 1).slots.length sc, .slice oa (worldK [haltP] 1).objs.length oc]] W fun e w' => ∃ kb, e = .returned (.tuple #[.pointer (some ⟨kb, 0, none⟩), .int .i64 0]) /\ Below W.heap.size W w' /\ ∃ g, KIn w' g K /\ Inv g K /\ g.kb = kb /\ ∀ b, b < W.heap.size -> g.A b = none) := Lib.hid (fun W hW => by
  exact knew_any W (worldK [haltP] 1) _ K ⟨_, _, rfl, RowAt.below hS hW (Nat.le_refl _), hO.below hW (Nat.le_refl _)⟩ (worldK_bd _ _ (fun p hp => by simp at hp; subst hp; decide)) HKn.out)
 have HB1 := Lib.hid hb1;clear hS hO hb1 HW;go_wp2_with fail
 refine (HNew.out _ ((Below.refl _ w1).alloc (Nat.le_refl _) _)).mono ?_;rintro e w2 ⟨kb, rfl, hb2, g, hk, hi, hkb, hfree⟩
 have hb12 : Below w.heap.size w w2 := by
  have h1 := (Below.refl w1.heap.size w1).alloc (Nat.le_refl _) (.cells #[.int .i64 (worldK [haltP] 1).cores, .int .i64 (worldK [haltP] 1).frames, .int .i64 (worldK [haltP] 1).names, .slice sa (worldK [haltP] 1).slots.length sc, .slice oa (worldK [haltP] 1).objs.length oc] 81);exact bel_from (bel_from HB1.out h1) hb2
 have HSt : Hid (Calls Tryz.prog 18 #[.pointer (some ⟨kb, 0, none⟩), .agg #[.int .i64 0, .int .i64 0, .slice none 0 0]] w2 fun e w' => e = .returned (.agg #[.int .i64 0, .int .u64 6, .int .i64 1]) /\ Below w.heap.size w w') := Lib.hid (by
  rw [<- hkb];refine (step_pick (Q := fun _ _ => True) (fun _ _ _ _ _ _ => trivial) noMic_ok noWt_ok w2 g K K' 0 0 ⟨0, 6, 1⟩ none 0 0 hk hi Hok.out trivial (by rw [Hnc.out]; omega) (by decide) (by decide) (by rw [Int.zero_emod]; exact HRes.out)).mono ?_;rintro e w' ⟨h1, g', h2⟩;refine ⟨h1, hb12.trans (h2.ext.kept.below hb12.size (fun b hb q => q (hfree b ?_)))⟩;have h3 := HB1.out.size;rw [World.size_alloc];omega)
 clear hb2 hk hi hkb hfree hb12 HNew;go_wp2_with fail
 refine HSt.out.mono ?_;rintro e w3 ⟨rfl, hb3⟩;have HB3 := Lib.hid hb3;clear hb3 HSt;go_wp2_with fail
 go_ret;exact ⟨rfl, HB3.out.alloc HB3.out.size _⟩
structure WorkK (w0 : World) (lo : Nat) (kb : Nat) (K : Km) (g : Gh) (w : World) : Prop where
 bel : Below w0.heap.size w0 w
 le0 : w0.heap.size <= lo
 kin : KIn w g K
 inv : Inv g K
 kb : g.kb = kb
 free : ∀ b, b < lo -> g.A b = none
 le : lo <= w.heap.size
theorem WorkK.step {w0 : World} {lo kb : Nat} {K K' : Km} {g g' : Gh} {w w' : World} (h : WorkK w0 lo kb K g w) (m : MSt w g K' w' g') : WorkK w0 lo kb K' g' w' /\ Below lo w w' :=
 ⟨⟨h.bel.trans ((m.ext.kept.below h.le (fun b hb q => q (h.free b hb))).mono h.le0), h.le0, m.kin, m.inv, m.ext.al.kb.trans h.kb, fun b hb => m.ext.tag b (Nat.lt_of_lt_of_le hb h.le) (h.free b hb), Nat.le_trans h.le m.ext.kept.size⟩, m.ext.kept.below h.le (fun b hb q => q (h.free b hb))⟩
end Go.Proofs.YtiadbhiadhgjkaaGreatDoor
