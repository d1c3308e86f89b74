/- glacislaw25: the example; a configuration comes back from its text: the walk. -/
import Derived.Test.YtjjnidbggoaonaaGreatDoorWoPg
import Derived.Test.YtjjnidbggoaonaaGreatDoorWoPs
import Derived.Test.YtjjnidbggoaonaaGreatDoorWoPr
import Derived.Test.YtjjnidbggoaonaaGreatDoorWoAl
namespace Go.Proofs.YtjjnidbggoaonaaGreatDoor
open Go.RowKit
attribute [local irreducible] World.setCell World.alloc World.drew World.setRow Calls Code.wp
attribute [local go_sem] Oper.semAt_some

theorem objP_len {o : WObj} (h : o.ok) (hm : o.kind = 4 → o.maps.length ≤ 16) : (objP o).length ≤ 300 + o.data.length := by
  have h1 := labP_len h.lab
  unfold objP
  simp only [List.length_append, putL_len]
  split
  · simp only [List.length_append, putL_len]; omega
  · split
    · simp only [List.length_append, putL_len]; omega
    · split
      · rename_i h4
        have := hm h4
        simp only [List.length_append, putL_len, mapsP_len]; omega
      · split
        · rename_i h35
          have := labP_len (h.k35 h35).1
          simp only [List.length_append, putL_len]; omega
        · simp only [List.length_nil]; omega
theorem objsP_len : ∀ (l : List WObj), (∀ o ∈ l, o.ok ∧ (o.kind = 4 → o.maps.length ≤ 16)) → (l.flatMap objP).length ≤ l.length * 300 + (l.map fun o => o.data.length).sum
  | [], _ => Nat.zero_le _
  | o :: l, h => by
    have h1 := objP_len (h o List.mem_cons_self).1 (h o List.mem_cons_self).2
    have h2 := objsP_len l fun x hx => h x (List.mem_cons_of_mem _ hx)
    rw [List.flatMap_cons, List.length_append, List.map_cons, List.sum_cons, List.length_cons]
    omega
theorem right_maps {c : WCfg} (hr : c.right = true) : ∀ o ∈ c.objs, o.kind = 4 → o.maps.length ≤ 16 := fun o ho hk => by
  unfold WCfg.right at hr
  simp only [Bool.and_eq_true, decide_eq_true_eq] at hr
  obtain ⟨j, hj⟩ := objsR_at hr.2.2.2 o ho
  exact objsR_maps hj hk
theorem right_lens {c : WCfg} (hr : c.right = true) : c.slots.length ≤ 8 ∧ c.objs.length ≤ 64 := by
  unfold WCfg.right slotsRight at hr
  simp only [Bool.and_eq_true, decide_eq_true_eq] at hr
  exact ⟨hr.2.1.2.2, hr.1.2.2.2.2.2.2⟩
theorem data_le {l : List WObj} : ∀ {o : WObj}, o ∈ l → o.data.length ≤ (l.map fun o => o.data.length).sum := by
  induction l with
  | nil => intro o h; cases h
  | cons x l ih =>
    intro o h
    rw [List.map_cons, List.sum_cons]
    rcases List.mem_cons.1 h with rfl | h
    · omega
    · have := ih h; omega
theorem enc_ok {c : WCfg} (h : c.ok) (hr : c.right = true) (hd : (c.objs.map fun o => o.data.length).sum ≤ 70000) : c.en := by
  obtain ⟨h1, h2⟩ := right_lens hr
  refine ⟨h, fun o ho => ⟨by have := data_le ho; omega, right_maps hr o ho⟩, ⟨by omega, by omega⟩, ?_⟩
  have h3 := objsP_len c.objs fun o ho => ⟨h.ob o ho, right_maps hr o ho⟩
  have h4 : (c.slots.flatMap fun s => putL 1 s.1 ++ putL 1 s.2).length = c.slots.length * 2 := by
    have : ∀ l : List (Int × Int), (l.flatMap fun s => putL 1 s.1 ++ putL 1 s.2).length = l.length * 2 := fun l => by
      induction l with
      | nil => rfl
      | cons s r ih => rw [List.flatMap_cons, List.length_append, ih, List.length_cons, List.length_append, putL_len, putL_len]; omega
    exact this _
  unfold encT
  simp only [List.length_append, putL_len, h4]
  omega
theorem prn_ok {c : WCfg} (h : c.ok) (hr : c.right = true) (hs : (printT c).length ≤ 100000) : c.prn :=
  ⟨cfg_bd h hs, h, fun _ ho => ok_pr h hs hr ho, by omega⟩
/-! ### What a plan makes is of 64 bits -/
theorem seedPs_bd (d : Int) : ∀ (i : Nat) (l : List Int), (seedPs d i l).length ≤ 12 - i ∧ ∀ q ∈ seedPs d i l, q.1 ≤ 100 ∧ q.2 ≤ 4
  | i, [] => ⟨Nat.zero_le _, fun q hq => by cases hq⟩
  | i, n :: r => by
    obtain ⟨h1, h2⟩ := seedPs_bd d (i + 1) r
    unfold seedPs
    split
    · rename_i hc
      refine ⟨by rw [List.length_append, List.length_singleton]; omega, fun q hq => ?_⟩
      rcases List.mem_append.1 hq with hq | hq
      · rw [List.mem_singleton] at hq
        subst hq
        exact ⟨by simp only; omega, by simp only; omega⟩
      · exact h2 q hq
    · refine ⟨by rw [List.nil_append]; omega, fun q hq => h2 q (by simpa using hq)⟩
theorem seed_lab_bd (s : LSeed) : s.lab.d ≤ 1000 ∧ s.lab.ps.length ≤ 1000 ∧ ∀ q ∈ s.lab.ps, q.1 < 4294967296 ∧ q.2 ≤ 1000 := by
  obtain ⟨h1, h2⟩ := seedPs_bd (s.d % 4 + 1) 0 s.ls
  refine ⟨by unfold LSeed.lab; simp only; omega, by unfold LSeed.lab; simp only; omega, fun q hq => ?_⟩
  have := h2 q hq
  omega
theorem obj_bd {s : OSeed} (h : s.bd) (hd : s.data.length ≤ 100000) (hm : s.maps.length ≤ 100000) : s.obj.bd := by
  have hl := seed_lab_bd s.lab
  have hc := seed_lab_bd s.clr
  unfold OSeed.obj
  simp only
  split
  · exact ⟨h.k, h.p, h.pg, h.nm, i0, i0, fun m hm => (by cases hm), hl, lab0_bd, by simp [obj0]⟩
  · split
    · exact ⟨h.k, h.p, h.pg, i0, i0, i0, fun m hm => (by cases hm), hl, lab0_bd, ⟨hd, by simp [obj0]⟩⟩
    · split
      · exact ⟨h.k, h.p, i0, i0, i0, i0, h.ms, hl, lab0_bd, ⟨by simp [obj0], hm⟩⟩
      · split
        · exact ⟨h.k, h.p, i0, i0, h.sp, h.pc, fun m hm => (by cases hm), hl, hc, by simp [obj0]⟩
        · exact ⟨h.k, h.p, i0, i0, i0, i0, fun m hm => (by cases hm), hl, lab0_bd, by simp [obj0]⟩
theorem plan_bd {p : WPlan} (h : p.bd) (hw : p.weight ≤ 3000) : p.cfg.bd := by
  have hwq := weight_eq p
  refine ⟨h.n, h.sl, fun o ho => ?_, ⟨by show p.slots.length ≤ _; omega, by show (p.l.map OSeed.obj).length ≤ _; rw [List.length_map]; omega⟩⟩
  obtain ⟨s, hs, rfl⟩ := List.mem_map.1 ho
  have h1 := mem_sum_le hs
  have h2 : seedW s = s.data.length + s.maps.length := rfl
  exact obj_bd (h.l s hs) (by omega) (by omega)
theorem plan_wf {p : WPlan} (h : p.bd) : p.wf := ⟨fun s hs => (h.sl s hs).1.1, fun s hs m hm => ((h.l s hs).ms m hm).s.1⟩
/-! ### The example -/
def fitT : List UInt8 := [109, 97, 99, 104, 105, 110, 101, 32, 49, 32, 57, 32, 48, 10, 35, 32, 110, 111, 110, 101, 10, 115, 108, 111, 116, 32, 48, 32, 49, 10]
def fitC : WCfg := ⟨1, 9, 0, [(0, 1)], []⟩
theorem fit_parse : parseC fitT = some fitC := by kernel_rfl
theorem fit_print : printT fitC = [109, 97, 99, 104, 105, 110, 101, 32, 49, 32, 57, 32, 48, 10, 115, 108, 111, 116, 32, 48, 32, 49, 10] := by kernel_rfl
theorem fit_right : fitC.right = true := by kernel_rfl
theorem fit_ok : fitC.ok := (any_all (t := fitT) (by decide) fit_parse).2.1
set_option maxRecDepth 100000 in
set_option maxHeartbeats 4000000 in
theorem fit25_any (w : World) (h : HasWo w) : Calls Tryz.prog 21 #[] w fun e w' => e = .returned (.bool true) ∧ Below w.heap.size w w' := by
  have Hps := Lib.hid (parse_any fitT (by decide) w h)
  have H := Lib.hid h
  clear h
  go_enter Tryz.func21, Tryz.ntmps21
  go_wp2_with fail
  refine Hps.out.mono ?_
  rintro e w1 ⟨hb1, hcase⟩
  rcases hcase with ⟨hn, -⟩ | ⟨c, x, y, z, sa, sl, sc, oa, ol, oc, hc, rfl, hv⟩
  · rw [fit_parse] at hn; cases hn
  rw [fit_parse] at hc
  cases hc
  have Hpr := Lib.hid (fun w' (k : Below w1.heap.size w1 w') => print_any fitC _ w' (hv.below k (Nat.le_refl _)) (prn_ok fit_ok fit_right (by rw [fit_print]; decide)) (H.out.base.pow.below (bel_from hb1 k)) (H.out.base.sp.below (bel_from hb1 k)))
  rw [fit_print] at Hpr
  obtain ⟨sv, ov, e, hs, -⟩ := hv
  cases e
  obtain ⟨a, c2, e2, -, -⟩ := RowAt.form hs
  cases e2
  have HB1 := Lib.hid hb1
  have HBn : Hid (Below w1.heap.size w1 (w1.alloc (.cells #[.int .i64 1, .int .i64 9, .int .i64 0, .slice sa 1 sc, .slice oa ol oc] 57))) := (Below.refl _ w1).alloc (Nat.le_refl _) _
  have hcc := (Blk.new w1 #[.int .i64 1, .int .i64 9, .int .i64 0, .slice sa 1 sc, .slice oa ol oc] 57).cell
  clear hb1 hs Hps
  go_wp2_with fail
  refine (Hpr.out _ HBn.out).mono ?_
  rintro e w2 ⟨rfl, hb2⟩
  go_wp2_with fail
  go_ret
  exact ⟨rfl, bel_from HB1.out (bel_from HBn.out hb2)⟩
end Go.Proofs.YtjjnidbggoaonaaGreatDoor
