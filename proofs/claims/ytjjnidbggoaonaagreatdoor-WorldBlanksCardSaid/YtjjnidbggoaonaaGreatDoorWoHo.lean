/- The home of an object. -/
import Derived.Test.YtjjnidbggoaonaaGreatDoorZaD
namespace Go.Proofs.YtjjnidbggoaonaaGreatDoor
open Go.RowKit
attribute [local irreducible] World.setCell World.alloc World.drew World.setRow Calls Code.wp
attribute [local go_sem] Oper.semAt_some

theorem ObjsIn.form {w : World} {v : Value} {os : List WObj} (h : ObjsIn w v os) : ∃ a c, v = .slice a os.length c ∧ os.length ≤ c ∧ c ≤ maxLen := by
  obtain ⟨ss, _, _, h3⟩ := h
  exact RowAt.form h3
set_option maxRecDepth 100000 in
set_option maxHeartbeats 4000000 in
theorem home_any (x y z : Int) (sv ov : Value) (os : List WObj) (i : Nat) (o : WObj) (w : World) (hO : ObjsIn w ov os) (hi : os[i]? = some o) (hp : I64 o.parent) (hn : os.length ≤ 100000) :
    Calls Tryz.prog 75 #[.agg #[.int .i64 x, .int .i64 y, .int .i64 z, sv, ov], .int .i64 (i : Int)] w fun e w' => ∃ (dv : Int) (ha : Option Addr) (hl hc : Nat), e = .returned (.tuple #[.agg #[.int .i64 dv, .slice ha hl hc], .bool (homeL os i o).isSome]) ∧ (∀ h, homeL os i o = some h → LabIn w' (.agg #[.int .i64 dv, .slice ha hl hc]) h) ∧ Below w.heap.size w w' := by
  obtain ⟨a, c, rfl, hc1, hc2⟩ := hO.form
  have hlt := (List.getElem?_eq_some_iff.1 hi).1
  obtain ⟨p1, p2⟩ := hp
  obtain ⟨wa, hwa⟩ : ∃ wa : World, wa = (w.alloc (.cells #[.int .i64 x, .int .i64 y, .int .i64 z, sv, .slice a os.length c] 57)).alloc (.cells #[.int .i64 0, .slice none 0 0] 104) := ⟨_, rfl⟩
  obtain ⟨xb, hxb⟩ : ∃ xb, xb = w.heap.size := ⟨_, rfl⟩
  have HX : Hid (Blk wa xb #[.int .i64 x, .int .i64 y, .int .i64 z, sv, .slice a os.length c] 57) := by rw [hwa, hxb]; exact (Blk.new _ _ _).alloc _
  have HL : Hid (Blk wa (xb + 1) #[.int .i64 0, .slice none 0 0] 104) := by
    rw [hwa, hxb]
    have := Blk.new (w.alloc (.cells #[.int .i64 x, .int .i64 y, .int .i64 z, sv, .slice a os.length c] 57)) #[.int .i64 0, .slice none 0 0] 104
    rw [World.size_alloc] at this
    exact this
  have HBa : Hid (Below w.heap.size w wa) := by rw [hwa]; exact ((Below.refl _ w).alloc (Nat.le_refl _) _).alloc (by rw [World.size_alloc]; omega) _
  have HOa := Lib.hid (hO.below HBa.out (Nat.le_refl _))
  obtain ⟨b, s, rfl, hb, hV, hcell⟩ := HOa.out.at hi
  have q1 : wa.cell? ⟨b, i * 12 + 1, none⟩ = some (.int .i64 o.parent) := by rw [hcell 1 (by omega)]; rfl
  have hcx := HX.out.cell
  have Hxb := Lib.hid hxb
  have hi' : (i : Int) < os.length := by omega
  have hB2 : ∀ v1 v2 wq, Below wa.heap.size wa wq → Blk wq (xb + 1) #[.int .i64 0, .slice none 0 0] 104 ∧ Below w.heap.size w ((wq.setCell ⟨xb + 1, 0, none⟩ v1).setCell ⟨xb + 1, 1, none⟩ v2) ∧ Blk ((wq.setCell ⟨xb + 1, 0, none⟩ v1).setCell ⟨xb + 1, 1, none⟩ v2) (xb + 1) #[v1, v2] 104 := fun v1 v2 wq hq => by
    have h1 := Blk.below HL.out hq HL.out.lt
    exact ⟨h1, ((bel_from HBa.out hq).setCell (p := ⟨xb + 1, 0, none⟩) (by rw [Hxb.out]; exact Nat.le_succ _) _).setCell (p := ⟨xb + 1, 1, none⟩) (by rw [Hxb.out]; exact Nat.le_succ _) _, ((h1.set 0 v1).set 1 v2).cells rfl⟩
  have HB2 := Lib.hid hB2
  have Hi := Lib.hid hi
  clear hcell hV hO hi hB2
  go_enter Tryz.func75, Tryz.ntmps75
  go_upto_region 1 with fail
  rw [← hwa, ← hxb]
  clear hwa hxb
  by_cases c0 : o.parent = 0
  · have Hh : Hid (homeL os i o = some ⟨2, []⟩) := by show _ = _; unfold homeL; rw [if_pos c0]
    have c0b : (o.parent == 0) = true := by simpa using c0
    have Hof := Lib.hid (fun w => lab_of_any 2 w)
    clear c0
    go_wp2_with fail
    refine (Hof.out _).mono ?_
    rintro e w1 ⟨rfl, hb1⟩
    obtain ⟨g1, g2, g3⟩ := HB2.out (.int .i64 2) (.slice none 0 0) w1 hb1
    have G2 := Lib.hid g2; have G3 := Lib.hid g3
    have hf1 := g1.free
    have hc1x := g1.cell
    clear hb1 g1 g2 g3
    go_wp2_with fail
    refine bodyPost_ret (results_ct rfl _ _ ⟨xb + 1, 0, none⟩ _ rfl (load_label _ _ _ rfl G3.out)) rfl ?_
    refine ⟨_, _, _, _, by rw [Hh.out]; rfl, fun h e => ?_, G2.out⟩
    rw [Hh.out] at e
    cases e
    exact ⟨_, rfl, RowAt.nil _ _⟩
  · have c0b : (o.parent == 0) = false := by simpa using c0
    obtain ⟨g1, g2, g3⟩ := HB2.out (.int .i64 0) (.slice none 0 0) wa (Below.refl _ _)
    have G2 := Lib.hid g2; have G3 := Lib.hid g3
    have hf1 := g1.free
    have hc1x := g1.cell
    clear g2 g3
    by_cases c1 : o.parent < 0
    · have Hh : Hid (homeL os i o = none) := by show _ = _; unfold homeL; rw [if_neg c0, if_pos (.inl c1)]
      clear c0
      go_wp2_with fail
      refine bodyPost_ret (results_ct rfl _ _ ⟨xb + 1, 0, none⟩ _ rfl (load_label _ _ _ rfl G3.out)) rfl ?_
      exact ⟨_, _, _, _, by rw [Hh.out]; rfl, (fun h e => by rw [Hh.out] at e; cases e), G2.out⟩
    · by_cases c2 : (i : Int) < o.parent
      · have Hh : Hid (homeL os i o = none) := by show _ = _; unfold homeL; rw [if_neg c0, if_pos (.inr c2)]
        clear c0
        go_wp2_with fail
        refine bodyPost_ret (results_ct rfl _ _ ⟨xb + 1, 0, none⟩ _ rfl (load_label _ _ _ rfl G3.out)) rfl ?_
        exact ⟨_, _, _, _, by rw [Hh.out]; rfl, (fun h e => by rw [Hh.out] at e; cases e), G2.out⟩
      · obtain ⟨j, hj⟩ : ∃ j : Nat, o.parent = (j : Int) + 1 := ⟨o.parent.toNat - 1, by omega⟩
        have hjl : j < os.length := by omega
        obtain ⟨q, hq⟩ : ∃ q, os[j]? = some q := ⟨_, List.getElem?_eq_getElem hjl⟩
        obtain ⟨b', s', e', -, hV', hcell'⟩ := HOa.out.at hq
        cases e'
        have r0 : wa.cell? ⟨b, j * 12, none⟩ = some (.int .i64 q.kind) := by have := hcell' 0 (by omega); rw [Nat.add_zero] at this; rw [this]; rfl
        have r2 : wa.cell? ⟨b, j * 12 + 2, none⟩ = some (.int .i64 (q.lab.d : Nat)) := by rw [hcell' 2 (by omega)]; rfl
        have r3 : wa.cell? ⟨b, j * 12 + 3, none⟩ = some s'.ls := by rw [hcell' 3 (by omega)]; rfl
        have hjw : IntKind.i64.wrap (o.parent - 1) = (j : Int) := by rw [hj, IntWalk.i64_in _ (by omega)]; omega
        have hjl' : (j : Int) < os.length := by omega
        have hj0 : (0 : Int) ≤ j := by omega
        have hHm : homeL os i o = if q.kind = 1 then some q.lab else none := by
          unfold homeL
          rw [if_neg c0, if_neg (by omega), show o.parent.toNat - 1 = j by omega, hq]
        have HHm := Lib.hid hHm
        have HV := Lib.hid hV'
        obtain ⟨pa, pc, hps, -, -⟩ := RowAt.form hV'.lab
        rw [hps] at r3
        have Hps := Lib.hid hps
        clear hcell' hV' hq hHm c0 hps
        by_cases c3 : q.kind = 1
        · have c3b : (q.kind != 1) = false := by simp [c3]
          have Hh : Hid (homeL os i o = some q.lab) := by show _ = _; rw [HHm.out, if_pos c3]
          obtain ⟨g1, g2, g3⟩ := HB2.out (.int .i64 (q.lab.d : Nat)) (.slice pa q.lab.ps.length pc) wa (Below.refl _ _)
          have K2 := Lib.hid g2; have K3 := Lib.hid g3
          clear g1 g2 g3 c3
          go_wp2_with fail
          refine bodyPost_ret (results_ct rfl _ _ ⟨xb + 1, 0, none⟩ _ rfl (load_label _ _ _ rfl K3.out)) rfl ?_
          refine ⟨_, _, _, _, by rw [Hh.out]; rfl, (fun h e => ?_), K2.out⟩
          rw [Hh.out] at e
          cases e
          refine ⟨_, rfl, ?_⟩
          have hv := HV.out.lab
          rw [Hps.out] at hv
          refine RowAt.kept hv (((Kept.refl (· = xb + 1) wa).setIn (xb + 1) 0 _ rfl).setIn (xb + 1) 1 _ rfl) (fun b cs fz e hh => ?_)
          have := HL.out
          unfold Blk at this
          rw [e, this] at hh
          simp at hh
        · have c3b : (q.kind != 1) = true := by simpa using c3
          have Hh : Hid (homeL os i o = none) := by show _ = _; rw [HHm.out, if_neg c3]
          clear c3
          go_wp2_with fail
          refine bodyPost_ret (results_ct rfl _ _ ⟨xb + 1, 0, none⟩ _ rfl (load_label _ _ _ rfl G3.out)) rfl ?_
          exact ⟨_, _, _, _, by rw [Hh.out]; rfl, (fun h e => by rw [Hh.out] at e; cases e), G2.out⟩
end Go.Proofs.YtjjnidbggoaonaaGreatDoor
