/- A configuration's bytes; whether two are alike. -/
import Derived.Test.YtjjnidbggoaonaaGreatDoorWoEn
import Derived.Test.YtjjnidbggoaonaaGreatDoorWoHo
namespace Go.Proofs.YtjjnidbggoaonaaGreatDoor
open Go.RowKit
attribute [local irreducible] World.setCell World.alloc World.drew World.setRow Calls Code.wp
attribute [local go_sem] Oper.semAt_some

def slotP (s : Int × Int) : List UInt8 := putL 1 s.1 ++ putL 1 s.2
theorem take_flat_le {α : Type} (f : α → List UInt8) (l : List α) (k : Nat) : ((l.take k).flatMap f).length ≤ (l.flatMap f).length := by
  conv => rhs; rw [← List.take_append_drop k l, List.flatMap_append, List.length_append]
  omega
theorem take_flat_next {α : Type} (f : α → List UInt8) {l : List α} {k : Nat} {x : α} (h : l[k]? = some x) : (l.take (k + 1)).flatMap f = (l.take k).flatMap f ++ f x := by
  rw [List.take_add_one, h]; simp
/-- What a configuration must be for its bytes. -/
structure WCfg.en (c : WCfg) : Prop where
  ok : c.ok
  ln : ∀ o ∈ c.objs, o.data.length ≤ 100000 ∧ (o.kind = 4 → o.maps.length ≤ 16)
  ns : c.slots.length ≤ 100000 ∧ c.objs.length ≤ 100000
  sz : (encT c).length ≤ 400000
set_option maxRecDepth 100000 in
set_option maxHeartbeats 8000000 in
theorem encode_any (cf : WCfg) (v : Value) (w : World) (h : CfgIn w v cf) (hen : cf.en) :
    Calls Tryz.prog 57 #[v] w fun e w' => ∃ v', e = .returned v' ∧ w'.ownsRow w.heap.size 5 1 v' (encT cf).length ((encT cf).map byteV) ∧ Below w.heap.size w w' := by
  obtain ⟨sv, ov, rfl, hS, hO⟩ := h
  obtain ⟨sa, sc, rfl, hs1, hs2⟩ := RowAt.form hS
  obtain ⟨oa, oc, rfl, ho1, ho2⟩ := hO.form
  obtain ⟨hn1, hn2⟩ := hen.ns
  obtain ⟨c1, c2⟩ := hen.ok.co
  obtain ⟨c3, c4⟩ := hen.ok.fr
  obtain ⟨c5, c6⟩ := hen.ok.nm
  obtain ⟨w1, hw1⟩ : ∃ w1 : World, w1 = w.alloc (.cells #[.int .i64 cf.cores, .int .i64 cf.frames, .int .i64 cf.names, .slice sa cf.slots.length sc, .slice oa cf.objs.length oc] 57) := ⟨_, rfl⟩
  obtain ⟨xb, hxb⟩ : ∃ xb, xb = w.heap.size := ⟨_, rfl⟩
  have HX : Hid (Blk w1 xb #[.int .i64 cf.cores, .int .i64 cf.frames, .int .i64 cf.names, .slice sa cf.slots.length sc, .slice oa cf.objs.length oc] 57) := by rw [hw1, hxb]; exact Blk.new _ _ _
  have HB1 : Hid (Below w.heap.size w w1) := by rw [hw1]; exact (Below.refl _ w).alloc (Nat.le_refl _) _
  have HSz := HB1.out.size
  have HS := Lib.hid (fun w' (k : Below w1.heap.size w1 w') => (RowAt.below hS (bel_from HB1.out k) (Nat.le_refl _) : SlotsIn w' _ cf.slots))
  have HO := Lib.hid (fun w' (k : Below w1.heap.size w1 w') => hO.below (bel_from HB1.out k) (Nat.le_refl _))
  have Hen := Lib.hid hen
  have HG : Hid (∀ (T : List UInt8) (V : Value) (w' : World) (n : Nat) (x : Int), Below w1.heap.size w1 w' → w'.ownsRow w1.heap.size 5 1 V T.length (T.map byteV) → T.length ≤ 1000000 → n ≤ 8 → 0 ≤ x → x ≤ 18446744073709551615 → Calls Tryz.prog 66 #[V, .int .i64 n, .int .u64 x] w' fun e w'' => ∃ v', e = .returned v' ∧ w''.ownsRow w1.heap.size 5 1 v' (T ++ putL n x).length ((T ++ putL n x).map byteV) ∧ Below w1.heap.size w1 w'') := fun T V w' n x kb ho ht hn h0 h1 => by
    refine (put2_any w1.heap.size T V n x w' ho ht hn h0 h1).mono ?_
    rintro e w'' ⟨v', rfl, ho', hb'⟩
    exact ⟨v', rfl, row_base ho' kb.size, bel_from kb hb'⟩
  have HXx : Hid (∀ w', Below w1.heap.size w1 w' → Blk w' xb #[.int .i64 cf.cores, .int .i64 cf.frames, .int .i64 cf.names, .slice sa cf.slots.length sc, .slice oa cf.objs.length oc] 57) := fun w' k => Blk.below HX.out k HX.out.lt
  have hsz := hen.sz
  obtain ⟨H5, hH5⟩ : ∃ H5, putL 1 cf.cores ++ putL 2 cf.frames ++ putL 4 cf.names ++ putL 1 (cf.slots.length : Nat) = H5 := ⟨_, rfl⟩
  have hE : encT cf = H5 ++ cf.slots.flatMap slotP ++ putL 1 (cf.objs.length : Nat) ++ cf.objs.flatMap objP := by
    rw [← hH5]; unfold encT
    simp only [List.append_assoc]; rfl
  have hl5 : H5.length = 8 := by rw [← hH5]; simp only [List.length_append, putL_len]
  have hls : ∀ k, (H5 ++ (cf.slots.take k).flatMap slotP).length ≤ 400000 := fun k => by
    have := take_flat_le slotP cf.slots k
    rw [hE] at hsz
    simp only [List.length_append] at hsz ⊢
    omega
  have hlo : ∀ k, (H5 ++ cf.slots.flatMap slotP ++ putL 1 (cf.objs.length : Nat) ++ (cf.objs.take k).flatMap objP).length ≤ 400000 := fun k => by
    have := take_flat_le objP cf.objs k
    rw [hE] at hsz
    simp only [List.length_append] at hsz ⊢
    omega
  have HE := Lib.hid hE; have Hls := Lib.hid hls; have Hlo := Lib.hid hlo; have HH5 := Lib.hid hH5
  have w1c : IntKind.u64.wrap cf.cores = cf.cores := IntWalk.u64_in _ (by omega)
  have w2c : IntKind.u64.wrap cf.frames = cf.frames := IntWalk.u64_in _ (by omega)
  have w3c : IntKind.u64.wrap cf.names = cf.names := IntWalk.u64_in _ (by omega)
  have w4c : IntKind.u64.wrap (cf.slots.length : Int) = cf.slots.length := IntWalk.u64_in _ (by omega)
  have w5c : IntKind.u64.wrap (cf.objs.length : Int) = cf.objs.length := IntWalk.u64_in _ (by omega)
  have hcx := HX.out.cell
  clear hS hO hen hsz hE hls hlo hH5
  go_enter Tryz.func57, Tryz.ntmps57
  go_upto_region 1 with fail
  rw [← hw1, ← hxb]
  have Hxb := Lib.hid hxb
  clear hw1 hxb
  have Hp1 := Lib.hid (HG.out [] (.slice none 0 0) w1 1 cf.cores (Below.refl _ _) (World.ownsRow_nil _ _ _ _) (by simp) (by omega) (by omega) (by omega))
  rw [List.nil_append] at Hp1
  go_wp2_with fail
  refine Hp1.out.mono ?_
  rintro e w2 ⟨v2, rfl, ho2, hb2⟩
  have Hp2 := Lib.hid (HG.out _ v2 w2 2 cf.frames hb2 ho2 (by rw [putL_len]; omega) (by omega) (by omega) (by omega))
  have hX2 := (HXx.out _ hb2).cell
  clear ho2 hb2 Hp1 hcx
  go_wp2_with fail
  refine Hp2.out.mono ?_
  rintro e w3 ⟨v3, rfl, ho3, hb3⟩
  have Hp3 := Lib.hid (HG.out _ v3 w3 4 cf.names hb3 ho3 (by simp only [List.length_append, putL_len]; omega) (by omega) (by omega) (by omega))
  have hX3 := (HXx.out _ hb3).cell
  clear ho3 hb3 Hp2 hX2
  go_wp2_with fail
  refine Hp3.out.mono ?_
  rintro e w4 ⟨v4, rfl, ho4, hb4⟩
  have Hp4 := Lib.hid (HG.out _ v4 w4 1 (cf.slots.length : Nat) hb4 ho4 (by simp only [List.length_append, putL_len]; omega) (by omega) (by omega) (by omega))
  have hX4 := (HXx.out _ hb4).cell
  clear ho4 hb4 Hp3 hX3
  go_wp2_with fail
  refine Hp4.out.mono ?_
  rintro e w5 ⟨v5, rfl, ho5, hb5⟩
  rw [HH5.out] at ho5
  have Ho5 := Lib.hid ho5; have Hb5 := Lib.hid hb5
  have hX5 := (HXx.out _ hb5).cell
  clear ho5 hb5 Hp4 hX4
  go_wp2_with fail
  go_loopg [3, 5, 31] cf.slots.length (fun g u _ vi wx => ∃ (k : Nat) (V : Value), k + g = cf.slots.length ∧ vi = .int .i64 k ∧ V = u ∧ Hid (wx.ownsRow w1.heap.size 5 1 V (H5 ++ (cf.slots.take k).flatMap slotP).length ((H5 ++ (cf.slots.take k).flatMap slotP).map byteV)) ∧ Hid (Below w1.heap.size w1 wx))
  case atStart => exact ⟨0, _, by omega, rfl, rfl, by rw [List.take_zero, List.flatMap_nil, List.append_nil]; exact Ho5, Hb5⟩
  case round =>
    obtain ⟨k, V, hk, rfl, rfl, HR, HB⟩ := hrel
    clear hX5
    by_cases hlt : k < cf.slots.length
    · have hlt' : (k : Int) < cf.slots.length := by omega
      obtain ⟨s, hs⟩ : ∃ s, cf.slots[k]? = some s := ⟨_, List.getElem?_eq_getElem hlt⟩
      obtain ⟨b, rfl, -, s0, s1⟩ := SlotsIn.at (HS.out _ HB.out) hs
      obtain ⟨⟨g0, g1⟩, ⟨g2, g3⟩⟩ := Hen.out.ok.sl s (List.mem_of_getElem? hs)
      have Hnx : Hid (H5 ++ (cf.slots.take (k + 1)).flatMap slotP = H5 ++ (cf.slots.take k).flatMap slotP ++ putL 1 s.1 ++ putL 1 s.2) := by
        show _ = _
        rw [take_flat_next slotP hs]; simp only [slotP, List.append_assoc]
      have hTl := Hls.out k
      obtain ⟨T, hT⟩ : ∃ T, H5 ++ (cf.slots.take k).flatMap slotP = T := ⟨_, rfl⟩
      rw [hT] at HR hTl Hnx
      obtain ⟨zb, hzb⟩ : ∃ zb, zb = wr.heap.size := ⟨_, rfl⟩
      obtain ⟨wz, hwz⟩ : ∃ wz : World, wz = wr.alloc (.cells #[.int .u64 s.1, .int .i64 s.2] 110) := ⟨_, rfl⟩
      have HZ : Hid (Blk wz zb #[.int .u64 s.1, .int .i64 s.2] 110) := by rw [hwz, hzb]; exact Blk.new _ _ _
      have HBz : Hid (Below w1.heap.size w1 wz.drew) := by rw [hwz]; exact (HB.out.alloc HB.out.size _).drew
      have HRz : Hid (wz.drew.ownsRow w1.heap.size 5 1 V T.length (T.map byteV)) := by rw [hwz]; exact row_drew (HR.out.alloc _)
      have hw2 : IntKind.u64.wrap s.2 = s.2 := IntWalk.u64_in _ (by omega)
      have hl2 : (T ++ putL 1 s.1).length ≤ 400001 := by rw [List.length_append, putL_len]; omega
      have HSz1 : Hid (∀ w', Below wz.drew.heap.size wz.drew w' → w'.cell? ⟨zb, 0, none⟩ = some (.int .u64 s.1) ∧ w'.cell? ⟨zb, 1, none⟩ = some (.int .i64 s.2)) := fun w' kb => by
        have h1 := Blk.below HZ.out.drew kb HZ.out.drew.lt
        exact ⟨h1.cell 0, h1.cell 1⟩
      have hz0 := HSz1.out _ (Below.refl _ _)
      obtain ⟨hz0a, hz0b⟩ := hz0
      have HP : Hid (∀ (T' : List UInt8) (V' : Value) (w' : World) (x : Int), Below wz.drew.heap.size wz.drew w' → w'.ownsRow w1.heap.size 5 1 V' T'.length (T'.map byteV) → T'.length ≤ 1000000 → 0 ≤ x → x ≤ 18446744073709551615 → Calls Tryz.prog 66 #[V', .int .i64 1, .int .u64 x] w' fun e w'' => ∃ v', e = .returned v' ∧ w''.ownsRow w1.heap.size 5 1 v' (T' ++ putL 1 x).length ((T' ++ putL 1 x).map byteV) ∧ Below wz.drew.heap.size wz.drew w'') := fun T' V' w' x kb ho ht h0 h1 => by
        refine (put2_any w1.heap.size T' V' 1 x w' ho ht (by omega) h0 h1).mono ?_
        rintro e w'' ⟨v', rfl, ho', hb'⟩
        exact ⟨v', rfl, row_base ho' (Nat.le_trans HBz.out.size kb.size), bel_from kb hb'⟩
      clear hs hT
      go_upto_region 8 with fail
      rw [← hwz, ← hzb]
      clear hwz hzb
      first
      | go_region_held3 (fun w' => w'.cell? ⟨zb, 0, none⟩ = some (.int .u64 s.1) ∧ w'.cell? ⟨zb, 1, none⟩ = some (.int .i64 s.2))
          (first | exact HSz1.out _ (Below.refl _ _) | exact HSz1.out _ hb6 | exact HSz1.out _ hb7)
          ((first
            | (refine (HP.out T V _ s.1 (Below.refl _ _) HRz.out (by omega) (by omega) (by omega)).mono ?_; rintro e w6 ⟨v6, rfl, ho6, hb6⟩)
            | (refine (HP.out _ v6 _ s.2 hb6 ho6 (by omega) (by omega) (by omega)).mono ?_; rintro e w7 ⟨v7, rfl, ho7, hb7⟩)
            | fail))
      | fail
      all_goals
        have HRn := Lib.hid ho7
        have HBn := Lib.hid (bel_from HBz.out hb7)
        go_wp2_with fail
        go_roundg (cf.slots.length - (k + 1))
        case measure => omega
        case rel => exact ⟨k + 1, _, by omega, by go_num, rfl, by rw [Hnx.out]; exact HRn, HBn⟩
    · obtain rfl : k = cf.slots.length := by omega
      have hTl := Hls.out cf.slots.length
      rw [List.take_length] at HR hTl
      have Hp6 := Lib.hid (HG.out _ V wr 1 (cf.objs.length : Nat) HB.out HR.out (by omega) (by omega) (by omega) (by omega))
      have hX6 := (HXx.out _ HB.out).cell
      go_wp2_with fail
      refine Hp6.out.mono ?_
      rintro e w6 ⟨v6, rfl, ho6, hb6⟩
      obtain ⟨T6, hT6⟩ : ∃ T, H5 ++ cf.slots.flatMap slotP ++ putL 1 (cf.objs.length : Nat) = T := ⟨_, rfl⟩
      rw [hT6] at ho6 HE Hlo
      have Ho6 := Lib.hid ho6; have Hb6 := Lib.hid hb6
      have hX7 := (HXx.out _ hb6).cell
      clear ho6 hb6 Hp6 hX6 hT6
      go_wp2_with fail
      go_loopg [3, 7, 53] cf.objs.length (fun g u _ vi wx => ∃ (k : Nat) (V : Value), k + g = cf.objs.length ∧ vi = .int .i64 k ∧ V = u ∧ Hid (wx.ownsRow w1.heap.size 5 1 V (T6 ++ (cf.objs.take k).flatMap objP).length ((T6 ++ (cf.objs.take k).flatMap objP).map byteV)) ∧ Hid (Below w1.heap.size w1 wx))
      case atStart => exact ⟨0, _, by omega, rfl, rfl, by rw [List.take_zero, List.flatMap_nil, List.append_nil]; exact Ho6, Hb6⟩
      case round =>
        obtain ⟨k, V, hk, rfl, rfl, HR, HB⟩ := hrel
        clear hX7
        by_cases hlt : k < cf.objs.length
        · have hlt' : (k : Int) < cf.objs.length := by omega
          obtain ⟨o, ho⟩ : ∃ o, cf.objs[k]? = some o := ⟨_, List.getElem?_eq_getElem hlt⟩
          obtain ⟨b, s, rfl, hb, hV, hcell⟩ := (HO.out _ HB.out).at ho
          have Hnx : Hid (T6 ++ (cf.objs.take (k + 1)).flatMap objP = T6 ++ (cf.objs.take k).flatMap objP ++ objP o) := by
            show _ = _
            rw [take_flat_next objP ho, List.append_assoc]
          have hTl := Hlo.out k
          obtain ⟨T, hT⟩ : ∃ T, T6 ++ (cf.objs.take k).flatMap objP = T := ⟨_, rfl⟩
          rw [hT] at HR hTl Hnx
          have hom := List.mem_of_getElem? ho
          have hook := Hen.out.ok.ob o hom
          have hln := Hen.out.ln o hom
          obtain ⟨la, lc, hls, -, -⟩ := RowAt.form hV.lab
          obtain ⟨ca, cc, hlc, -, -⟩ := RowAt.form hV.clr
          obtain ⟨da, dc, hvd, -, -⟩ := RowAt.form hV.data
          obtain ⟨ma, mc, hvm, -, -⟩ := RowAt.form hV.maps
          have q0 : wr.cell? ⟨b, k * 12, none⟩ = some (.int .i64 o.kind) := by have := hcell 0 (by omega); rw [Nat.add_zero] at this; rw [this]; rfl
          have q1 : wr.cell? ⟨b, k * 12 + 1, none⟩ = some (.int .i64 o.parent) := by rw [hcell 1 (by omega)]; rfl
          have q2 : wr.cell? ⟨b, k * 12 + 2, none⟩ = some (.int .i64 (o.lab.d : Nat)) := by rw [hcell 2 (by omega)]; rfl
          have q3 : wr.cell? ⟨b, k * 12 + 3, none⟩ = some (.slice la o.lab.ps.length lc) := by rw [hcell 3 (by omega), ← hls]; rfl
          have q4 : wr.cell? ⟨b, k * 12 + 4, none⟩ = some (.int .i64 (o.clr.d : Nat)) := by rw [hcell 4 (by omega)]; rfl
          have q5 : wr.cell? ⟨b, k * 12 + 5, none⟩ = some (.slice ca o.clr.ps.length cc) := by rw [hcell 5 (by omega), ← hlc]; rfl
          have q6 : wr.cell? ⟨b, k * 12 + 6, none⟩ = some (.int .i64 o.pages) := by rw [hcell 6 (by omega)]; rfl
          have q7 : wr.cell? ⟨b, k * 12 + 7, none⟩ = some (.int .i64 o.names) := by rw [hcell 7 (by omega)]; rfl
          have q8 : wr.cell? ⟨b, k * 12 + 8, none⟩ = some (.slice da o.data.length dc) := by rw [hcell 8 (by omega), ← hvd]; rfl
          have q9 : wr.cell? ⟨b, k * 12 + 9, none⟩ = some (.slice ma o.maps.length mc) := by rw [hcell 9 (by omega), ← hvm]; rfl
          have q10 : wr.cell? ⟨b, k * 12 + 10, none⟩ = some (.int .i64 o.space) := by rw [hcell 10 (by omega)]; rfl
          have q11 : wr.cell? ⟨b, k * 12 + 11, none⟩ = some (.int .i64 o.pc) := by rw [hcell 11 (by omega)]; rfl
          obtain ⟨zb, hzb⟩ : ∃ zb, zb = wr.heap.size := ⟨_, rfl⟩
          obtain ⟨wz, hwz⟩ : ∃ wz : World, wz = wr.alloc (.cells #[.int .i64 o.kind, .int .i64 o.parent, .int .i64 (o.lab.d : Nat), .slice la o.lab.ps.length lc, .int .i64 (o.clr.d : Nat), .slice ca o.clr.ps.length cc, .int .i64 o.pages, .int .i64 o.names, .slice da o.data.length dc, .slice ma o.maps.length mc, .int .i64 o.space, .int .i64 o.pc] 107) := ⟨_, rfl⟩
          have HZ : Hid (Blk wz zb #[.int .i64 o.kind, .int .i64 o.parent, .int .i64 (o.lab.d : Nat), .slice la o.lab.ps.length lc, .int .i64 (o.clr.d : Nat), .slice ca o.clr.ps.length cc, .int .i64 o.pages, .int .i64 o.names, .slice da o.data.length dc, .slice ma o.maps.length mc, .int .i64 o.space, .int .i64 o.pc] 107) := by rw [hwz, hzb]; exact Blk.new _ _ _
          have HBz : Hid (Below w1.heap.size w1 wz) := by rw [hwz]; exact HB.out.alloc HB.out.size _
          have HRz : Hid (wz.ownsRow w1.heap.size 5 1 V T.length (T.map byteV)) := by rw [hwz]; exact HR.out.alloc _
          have HVz : Hid (ObjV wz o (.slice la o.lab.ps.length lc) (.slice ca o.clr.ps.length cc) (.slice da o.data.length dc) (.slice ma o.maps.length mc)) := by
            rw [hwz, ← hls, ← hlc, ← hvd, ← hvm]
            exact hV.below ((Below.refl _ wr).alloc (Nat.le_refl _) _) (Nat.le_refl _)
          have Hob := Lib.hid (eobj_any w1.heap.size T V o _ _ _ _ wz HRz.out (by omega) HVz.out hook hln)
          have hcz := HZ.out.cell
          clear hcell hV ho hT hls hlc hvd hvm
          go_upto_region 14 with fail
          rw [← hwz, ← hzb]
          clear hwz hzb
          go_wp2_with fail
          refine Hob.out.mono ?_
          rintro e w8 ⟨v8, rfl, ho8, hb8⟩
          have HRn := Lib.hid (row_base ho8 HBz.out.size)
          have HBn := Lib.hid (bel_from HBz.out hb8)
          clear ho8 hb8
          go_wp2_with fail
          go_roundg (cf.objs.length - (k + 1))
          case measure => omega
          case rel => exact ⟨k + 1, _, by omega, by go_num, rfl, by rw [Hnx.out]; exact HRn, HBn⟩
        · obtain rfl : k = cf.objs.length := by omega
          rw [List.take_length, ← HE.out] at HR
          go_wp2_with fail
          go_ret
          exact ⟨_, rfl, row_base HR.out HSz, bel_from HB1.out HB.out⟩
end Go.Proofs.YtjjnidbggoaonaaGreatDoor
