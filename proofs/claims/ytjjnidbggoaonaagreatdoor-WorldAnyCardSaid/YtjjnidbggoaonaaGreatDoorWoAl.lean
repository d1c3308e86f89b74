/- Whether two configurations are alike. -/
import Derived.Test.YtjjnidbggoaonaaGreatDoorWoEc
import Derived.Test.YtjjnidbggoaonaaGreatDoorZaB
namespace Go.Proofs.YtjjnidbggoaonaaGreatDoor
open Go.RowKit
attribute [local irreducible] World.setCell World.alloc World.drew World.setRow Calls Code.wp
attribute [local go_sem] Oper.semAt_some

theorem bs_push : ∀ (l : List UInt8) (acc : ByteArray), (l.map fun c => (c.toNat : Int)).foldl (fun r n => r.push (UInt8.ofNat n.toNat)) acc = ⟨acc.data ++ l.toArray⟩
  | [], acc => by simp
  | c :: l, acc => by
    rw [List.map_cons, List.foldl_cons, bs_push l]
    simp [ByteArray.push]
theorem own_S {w : World} {base : Nat} {v : Value} {l : List UInt8} (h : w.ownsRow base 5 1 v l.length (l.map byteV)) : (convert 27 9 v).run Tryz.prog w = .ok (S l) w := by
  have e1 : l.map byteV = bytesV (l.map fun c => (c.toNat : Int)) := by
    unfold bytesV byteV; rw [List.map_map]; rfl
  have e2 : l.length = (l.map fun c => (c.toNat : Int)).length := by simp
  rw [e1, e2] at h
  have h2 := (own_str h).str
  have e3 : bs (l.map fun c => (c.toNat : Int)) = ⟨l.toArray⟩ := by
    have := bs_push l ByteArray.empty
    unfold bs
    rw [this]
    simp [ByteArray.empty, ByteArray.emptyWithCapacity]; rfl
  rw [e3] at h2
  exact h2
set_option maxRecDepth 100000 in
set_option maxHeartbeats 4000000 in
theorem alike_any (ca cb : WCfg) (va vb : Value) (w : World) (hA : CfgIn w va ca) (hB : CfgIn w vb cb) (ea : ca.en) (eb : cb.en) :
    Calls Tryz.prog 27 #[va, vb] w fun e w' => e = .returned (.bool (encT ca == encT cb)) ∧ Below w.heap.size w w' := by
  obtain ⟨sv, ov, rfl, hS, hO⟩ := hA
  obtain ⟨sa, sc, rfl, -, -⟩ := RowAt.form hS
  obtain ⟨oa, oc, rfl, -, -⟩ := hO.form
  obtain ⟨sv', ov', rfl, hS', hO'⟩ := hB
  obtain ⟨sa', sc', rfl, -, -⟩ := RowAt.form hS'
  obtain ⟨oa', oc', rfl, -, -⟩ := hO'.form
  obtain ⟨xb, hxb⟩ : ∃ xb, xb = w.heap.size := ⟨_, rfl⟩
  obtain ⟨w1, hw1⟩ : ∃ w1 : World, w1 = (w.alloc (.cells #[.int .i64 ca.cores, .int .i64 ca.frames, .int .i64 ca.names, .slice sa ca.slots.length sc, .slice oa ca.objs.length oc] 57)).alloc (.cells #[.int .i64 cb.cores, .int .i64 cb.frames, .int .i64 cb.names, .slice sa' cb.slots.length sc', .slice oa' cb.objs.length oc'] 57) := ⟨_, rfl⟩
  have HX : Hid (Blk w1 xb #[.int .i64 ca.cores, .int .i64 ca.frames, .int .i64 ca.names, .slice sa ca.slots.length sc, .slice oa ca.objs.length oc] 57) := by rw [hw1, hxb]; exact (Blk.new _ _ _).alloc _
  have HY : Hid (Blk w1 (xb + 1) #[.int .i64 cb.cores, .int .i64 cb.frames, .int .i64 cb.names, .slice sa' cb.slots.length sc', .slice oa' cb.objs.length oc'] 57) := by
    rw [hw1, hxb]
    have := Blk.new (w.alloc (.cells #[.int .i64 ca.cores, .int .i64 ca.frames, .int .i64 ca.names, .slice sa ca.slots.length sc, .slice oa ca.objs.length oc] 57)) #[.int .i64 cb.cores, .int .i64 cb.frames, .int .i64 cb.names, .slice sa' cb.slots.length sc', .slice oa' cb.objs.length oc'] 57
    rw [World.size_alloc] at this
    exact this
  have HB1 : Hid (Below w.heap.size w w1) := by rw [hw1]; exact ((Below.refl _ w).alloc (Nat.le_refl _) _).alloc (by rw [World.size_alloc]; omega) _
  have HA1 : Hid (∀ w', Below w1.heap.size w1 w' → CfgIn w' (.agg #[.int .i64 ca.cores, .int .i64 ca.frames, .int .i64 ca.names, .slice sa ca.slots.length sc, .slice oa ca.objs.length oc]) ca) := fun w' k => ⟨_, _, rfl, RowAt.below hS (bel_from HB1.out k) (Nat.le_refl _), hO.below (bel_from HB1.out k) (Nat.le_refl _)⟩
  have HC1 : Hid (∀ w', Below w1.heap.size w1 w' → CfgIn w' (.agg #[.int .i64 cb.cores, .int .i64 cb.frames, .int .i64 cb.names, .slice sa' cb.slots.length sc', .slice oa' cb.objs.length oc']) cb) := fun w' k => ⟨_, _, rfl, RowAt.below hS' (bel_from HB1.out k) (Nat.le_refl _), hO'.below (bel_from HB1.out k) (Nat.le_refl _)⟩
  have HE1 := Lib.hid (fun w' k => encode_any ca _ w' (HA1.out w' k) ea)
  have HE2 := Lib.hid (fun w' k => encode_any cb _ w' (HC1.out w' k) eb)
  obtain ⟨EA, hEA⟩ : ∃ E, encT ca = E := ⟨_, rfl⟩
  obtain ⟨EB, hEB⟩ : ∃ E, encT cb = E := ⟨_, rfl⟩
  rw [hEA] at HE1
  rw [hEB] at HE2
  rw [hEA, hEB]
  have HSS : Hid (∀ w', Below w1.heap.size w1 w' → (w'.cell? ⟨xb, 0, none⟩ = some (.int .i64 ca.cores) ∧ w'.cell? ⟨xb, 1, none⟩ = some (.int .i64 ca.frames) ∧ w'.cell? ⟨xb, 2, none⟩ = some (.int .i64 ca.names) ∧ w'.cell? ⟨xb, 3, none⟩ = some (.slice sa ca.slots.length sc) ∧ w'.cell? ⟨xb, 4, none⟩ = some (.slice oa ca.objs.length oc)) ∧
      (w'.cell? ⟨xb + 1, 0, none⟩ = some (.int .i64 cb.cores) ∧ w'.cell? ⟨xb + 1, 1, none⟩ = some (.int .i64 cb.frames) ∧ w'.cell? ⟨xb + 1, 2, none⟩ = some (.int .i64 cb.names) ∧ w'.cell? ⟨xb + 1, 3, none⟩ = some (.slice sa' cb.slots.length sc') ∧ w'.cell? ⟨xb + 1, 4, none⟩ = some (.slice oa' cb.objs.length oc'))) := fun w' k => by
    have h1 := Blk.below HX.out k HX.out.lt
    have h2 := Blk.below HY.out k HY.out.lt
    exact ⟨⟨h1.cell 0, h1.cell 1, h1.cell 2, h1.cell 3, h1.cell 4⟩, ⟨h2.cell 0, h2.cell 1, h2.cell 2, h2.cell 3, h2.cell 4⟩⟩
  have HBd : Hid (Below w1.heap.size w1 w1.drew) := (Below.refl _ w1).drew
  clear hS hO hS' hO' hEA hEB
  go_enter Tryz.func27, Tryz.ntmps27
  go_upto_region 1 with fail
  rw [← hw1, ← hxb]
  clear hw1 hxb
  have hz0 := HSS.out _ HBd.out
  obtain ⟨⟨a0, a1, a2, a3, a4⟩, ⟨b0, b1, b2, b3, b4⟩⟩ := hz0
  first
  | go_region_with ((first
      | (refine (HE1.out _ HBd.out).mono ?_; rintro e w2 ⟨v2, rfl, ho2, hb2⟩; have hcv2 := own_S ho2; have hbx := bel_from HBd.out hb2; obtain ⟨⟨d0, d1, d2, d3, d4⟩, ⟨e0, e1, e2, e3, e4⟩⟩ := HSS.out _ hbx)
      | (refine (HE2.out _ hbx).mono ?_; rintro e w3 ⟨v3, rfl, ho3, hb3⟩; have hcv3 := own_S ho3; have hcv2' := own_S (row_bel ho2 hb3))))
  | fail
  all_goals
    go_wp2_with fail
    go_ret
    exact ⟨rfl, bel_from HB1.out (bel_from hbx hb3)⟩
end Go.Proofs.YtjjnidbggoaonaaGreatDoor
