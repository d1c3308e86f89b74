/- A configuration that may be. -/
import Derived.Test.YtjjnidbggoaonaaGreatDoorWoRt
namespace Go.Proofs.YtjjnidbggoaonaaGreatDoor
open Go.RowKit
attribute [local irreducible] World.setCell World.alloc World.drew World.setRow Calls Code.wp
attribute [local go_sem] Oper.semAt_some

/-- Numbers of a configuration are of 64 bits. -/
structure WCfg.bd (c : WCfg) : Prop where
  n : I64 c.cores ∧ I64 c.frames ∧ I64 c.names
  sl : ∀ s ∈ c.slots, (0 ≤ s.1 ∧ s.1 ≤ 18446744073709551615) ∧ I64 s.2
  ob : ∀ o ∈ c.objs, o.bd
  ln : c.slots.length ≤ 100000 ∧ c.objs.length ≤ 100000
theorem objsR_drop {os : List WObj} {k : Nat} {o : WObj} (h : os[k]? = some o) : objsR os k (os.drop k) = (objR os k o && objsR os (k + 1) (os.drop (k + 1))) := by
  rw [drop_at h]; rfl
set_option maxRecDepth 100000 in
set_option maxHeartbeats 4000000 in
theorem cfg_right_any (cf : WCfg) (v : Value) (w : World) (h : CfgIn w v cf) (hbd : cf.bd) :
    Calls Tryz.prog 24 #[v] w fun e w' => e = .returned (.bool cf.right) ∧ Below w.heap.size w w' := by
  obtain ⟨sv, ov, rfl, hS, hO⟩ := h
  obtain ⟨sa, sc, rfl, hs1, hs2⟩ := RowAt.form hS
  obtain ⟨oa, oc, rfl, ho1, ho2⟩ := hO.form
  obtain ⟨hl1, hl2⟩ := hbd.ln
  have HR : Hid (cf.right = (decide (1 ≤ cf.cores ∧ cf.cores ≤ 4 ∧ 1 ≤ cf.frames ∧ cf.frames ≤ 4096 ∧ 0 ≤ cf.names ∧ cf.names ≤ 4194302 ∧ cf.objs.length ≤ 64) && (slotsRight cf.slots &&
    ((cf.slots.all fun s => decide (s.1 ≤ (cf.objs.length : Int))) && objsR cf.objs 0 cf.objs)))) := rfl
  obtain ⟨w1, hw1⟩ : ∃ w1 : World, w1 = w.alloc (.cells #[.int .i64 cf.cores, .int .i64 cf.frames, .int .i64 cf.names, .slice sa cf.slots.length sc, .slice oa cf.objs.length oc] 57) := ⟨_, rfl⟩
  obtain ⟨xb, hxb⟩ : ∃ xb, xb = w.heap.size := ⟨_, rfl⟩
  have HX : Hid (Blk w1 xb #[.int .i64 cf.cores, .int .i64 cf.frames, .int .i64 cf.names, .slice sa cf.slots.length sc, .slice oa cf.objs.length oc] 57) := by rw [hw1, hxb]; exact Blk.new _ _ _
  have HB1 : Hid (Below w.heap.size w w1) := by rw [hw1]; exact (Below.refl _ w).alloc (Nat.le_refl _) _
  have HS := Lib.hid (fun w' (k : Below w.heap.size w w') => (RowAt.below hS k (Nat.le_refl _) : SlotsIn w' _ cf.slots))
  have HO := Lib.hid (fun w' (k : Below w.heap.size w w') => hO.below k (Nat.le_refl _))
  have Hsr := Lib.hid (slotsR_any cf.slots _ w1 (HS.out _ HB1.out) (fun s hs => (hbd.sl s hs).2) hl1)
  have Hbd := Lib.hid hbd
  have HRt := Lib.hid (fun k o (hk : cf.objs[k]? = some o) w' (b : Below w.heap.size w w') => right_any cf.cores cf.frames cf.names (.slice sa cf.slots.length sc) (.slice oa cf.objs.length oc) cf.objs k o w' (HO.out _ b) hk (hbd.ob o (List.mem_of_getElem? hk)) (fun p hp => (hbd.ob p hp).lab.2.1) hl2)
  have hcx := HX.out.cell
  clear hS hO hbd
  go_enter Tryz.func24, Tryz.ntmps24
  go_upto_region 1 with fail
  rw [← hw1, ← hxb]
  have Hxb := Lib.hid hxb
  clear hw1 hxb
  have hcs : (¬ cf.cores < 1 ∧ ¬ 4 < cf.cores ∧ ¬ cf.frames < 1 ∧ ¬ 4096 < cf.frames ∧ ¬ cf.names < 0 ∧ ¬ 4194302 < cf.names ∧ ¬ (64 : Int) < cf.objs.length) ∨ cf.cores < 1 ∨ (¬ cf.cores < 1 ∧ 4 < cf.cores) ∨ (¬ cf.cores < 1 ∧ ¬ 4 < cf.cores ∧ cf.frames < 1) ∨ (¬ cf.cores < 1 ∧ ¬ 4 < cf.cores ∧ ¬ cf.frames < 1 ∧ 4096 < cf.frames) ∨ (¬ cf.cores < 1 ∧ ¬ 4 < cf.cores ∧ ¬ cf.frames < 1 ∧ ¬ 4096 < cf.frames ∧ cf.names < 0) ∨ (¬ cf.cores < 1 ∧ ¬ 4 < cf.cores ∧ ¬ cf.frames < 1 ∧ ¬ 4096 < cf.frames ∧ ¬ cf.names < 0 ∧ 4194302 < cf.names) ∨ (¬ cf.cores < 1 ∧ ¬ 4 < cf.cores ∧ ¬ cf.frames < 1 ∧ ¬ 4096 < cf.frames ∧ ¬ cf.names < 0 ∧ ¬ 4194302 < cf.names ∧ (64 : Int) < cf.objs.length) := by omega
  rcases hcs with ⟨c1, c2, c3, c4, c5, c6, c7⟩ | c1 | ⟨c1, c2⟩ | ⟨c1, c2, c3⟩ | ⟨c1, c2, c3, c4⟩ | ⟨c1, c2, c3, c4, c5⟩ | ⟨c1, c2, c3, c4, c5, c6⟩ | ⟨c1, c2, c3, c4, c5, c6, c7⟩
  rotate_left
  all_goals try
    (go_wp2_with fail
     go_ret
     exact ⟨by rw [HR.out, decide_eq_false (by omega)]; rfl, HB1.out⟩)
  rw [decide_eq_true (by omega), Bool.true_and] at HR
  go_wp2_with fail
  refine Hsr.out.mono ?_
  rintro e w2 ⟨rfl, hb2⟩
  have HB2 := Lib.hid (bel_from HB1.out hb2)
  have HX2 := Lib.hid (Blk.below HX.out hb2 HX.out.lt)
  have hcx2 := HX2.out.cell
  clear hb2 hcx HX HB1 Hsr
  cases hQ : slotsRight cf.slots
  · have Hd : Hid (cf.right = false) := by show _ = _; rw [HR.out, hQ]; rfl
    go_wp2_with fail
    go_ret
    exact ⟨by rw [Hd.out]; rfl, HB2.out⟩
  rw [hQ, Bool.true_and] at HR
  clear hQ
  have hwn : IntKind.u64.wrap (cf.objs.length : Int) = cf.objs.length := IntWalk.u64_in _ (by omega)
  go_wp2_with fail
  go_loopg [4, 49] cf.slots.length (fun g _ vi wx => ∃ k : Nat, k + g = cf.slots.length ∧ vi = .int .i64 k ∧ Hid (Below w.heap.size w wx) ∧ Hid (Blk wx xb #[.int .i64 cf.cores, .int .i64 cf.frames, .int .i64 cf.names, .slice sa cf.slots.length sc, .slice oa cf.objs.length oc] 57) ∧ Hid ((cf.slots.take k).all (fun s => decide (s.1 ≤ (cf.objs.length : Int))) = true))
  case atStart => exact ⟨0, by omega, rfl, HB2, HX2, Lib.hid rfl⟩
  case round =>
    obtain ⟨k, hk, rfl, HB, HX, HA⟩ := hrel
    by_cases hlt : k < cf.slots.length
    · have hlt' : (k : Int) < cf.slots.length := by omega
      obtain ⟨s, hs⟩ : ∃ s, cf.slots[k]? = some s := ⟨_, List.getElem?_eq_getElem hlt⟩
      obtain ⟨b, rfl, -, s0, s1⟩ := SlotsIn.at (HS.out _ HB.out) hs
      obtain ⟨⟨g0, g1⟩, g2⟩ := Hbd.out.sl s (List.mem_of_getElem? hs)
      have HBn : Hid (Below w.heap.size w (wr.alloc (.cells #[.int .u64 s.1, .int .i64 s.2] 110))) := HB.out.alloc HB.out.size _
      have HXn : Hid (Blk (wr.alloc (.cells #[.int .u64 s.1, .int .i64 s.2] 110)) xb #[.int .i64 cf.cores, .int .i64 cf.frames, .int .i64 cf.names, .slice (some ⟨b, 0, none⟩) cf.slots.length sc, .slice oa cf.objs.length oc] 57) := HX.out.alloc _
      have hcx := HXn.out.cell
      have hcz := (Blk.new wr #[.int .u64 s.1, .int .i64 s.2] 110).cell
      have Hn := Lib.hid (fun h2 => all_not (fun s : Int × Int => decide (s.1 ≤ (cf.objs.length : Int))) hs h2)
      have Hy := Lib.hid (fun h2 => take_all (fun s : Int × Int => decide (s.1 ≤ (cf.objs.length : Int))) hs HA.out h2)
      clear hs hcx2
      by_cases c8 : (cf.objs.length : Int) < s.1
      · have Hd : Hid (cf.right = false) := by show _ = _; rw [HR.out, Hn.out (decide_eq_false (by omega)), Bool.false_and]
        go_wp2_with fail
        go_ret
        exact ⟨by rw [Hd.out]; rfl, HBn.out⟩
      · have HA2 := Lib.hid (Hy.out (decide_eq_true (by omega)))
        go_wp2_with fail
        go_roundg (cf.slots.length - (k + 1))
        case measure => omega
        case rel => exact ⟨k + 1, by omega, by go_num, HBn, HXn, HA2⟩
    · obtain rfl : k = cf.slots.length := by omega
      rw [List.take_length] at HA
      rw [HA.out, Bool.true_and] at HR
      have hcx := HX.out.cell
      clear hcx2 HA
      go_wp2_with fail
      go_loopg [5, 64] cf.objs.length (fun g _ vi wx => ∃ k : Nat, k + g = cf.objs.length ∧ vi = .int .i64 k ∧ Hid (Below w.heap.size w wx) ∧ Hid (Blk wx xb #[.int .i64 cf.cores, .int .i64 cf.frames, .int .i64 cf.names, .slice sa cf.slots.length sc, .slice oa cf.objs.length oc] 57) ∧ Hid (objsR cf.objs 0 cf.objs = objsR cf.objs k (cf.objs.drop k)))
      case atStart => exact ⟨0, by omega, rfl, HB, HX, Lib.hid rfl⟩
      case round =>
        obtain ⟨k, hk, rfl, HB, HX, HA⟩ := hrel
        by_cases hlt : k < cf.objs.length
        · have hlt' : (k : Int) < cf.objs.length := by omega
          obtain ⟨o, ho⟩ : ∃ o, cf.objs[k]? = some o := ⟨_, List.getElem?_eq_getElem hlt⟩
          have Ho := Lib.hid (HRt.out k o ho _ HB.out)
          have Hdr := Lib.hid (objsR_drop ho)
          have hcx := HX.out.cell
          clear ho
          go_wp2_with fail
          refine Ho.out.mono ?_
          rintro e w3 ⟨rfl, hb3⟩
          have HB3 := Lib.hid (bel_from HB.out hb3)
          have HX3 := Lib.hid (Blk.below HX.out hb3 HX.out.lt)
          clear hb3
          cases hQ : objR cf.objs k o
          · have Hd : Hid (cf.right = false) := by show _ = _; rw [HR.out, HA.out, Hdr.out, hQ]; rfl
            go_wp2_with fail
            go_ret
            exact ⟨by rw [Hd.out]; rfl, HB3.out⟩
          · have HA2 : Hid (objsR cf.objs 0 cf.objs = objsR cf.objs (k + 1) (cf.objs.drop (k + 1))) := by show _ = _; rw [HA.out, Hdr.out, hQ, Bool.true_and]
            clear hQ
            go_wp2_with fail
            go_roundg (cf.objs.length - (k + 1))
            case measure => omega
            case rel => exact ⟨k + 1, by omega, by go_num, HB3, HX3, HA2⟩
        · obtain rfl : k = cf.objs.length := by omega
          have Hd : Hid (cf.right = true) := by show _ = _; rw [HR.out, HA.out, List.drop_length]; rfl
          go_wp2_with fail
          go_ret
          exact ⟨by rw [Hd.out]; rfl, HB.out⟩
end Go.Proofs.YtjjnidbggoaonaaGreatDoor
