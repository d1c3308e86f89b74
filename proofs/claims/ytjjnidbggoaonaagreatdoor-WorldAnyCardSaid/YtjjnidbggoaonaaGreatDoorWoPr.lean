/- The text of a configuration. -/
import Derived.Test.YtjjnidbggoaonaaGreatDoorWoPo
import Derived.Test.YtjjnidbggoaonaaGreatDoorZaD
import Derived.Test.YtjjnidbggoaonaaGreatDoorWoRr
namespace Go.Proofs.YtjjnidbggoaonaaGreatDoor
open Go.RowKit
attribute [local irreducible] World.setCell World.alloc World.drew World.setRow Calls Code.wp
attribute [local go_sem] Oper.semAt_some

theorem flat_le {α : Type} (f : α → List UInt8) (l : List α) (k : Nat) : ((l.take k).flatMap f).length ≤ (l.flatMap f).length := by
  conv => rhs; rw [← List.take_append_drop k l, List.flatMap_append, List.length_append]
  omega
theorem flat_next {α : Type} (f : α → List UInt8) {l : List α} {k : Nat} {x : α} (h : l[k]? = some x) : (l.take (k + 1)).flatMap f = (l.take k).flatMap f ++ f x := by
  rw [List.take_add_one, h]; simp
def nl (l : List UInt8) : List UInt8 := l ++ [10]
theorem printT_eq (c : WCfg) : printT c = nl (headT c) ++ c.slots.flatMap (fun s => nl (slotT s)) ++ c.objs.flatMap (fun o => nl (objT o)) := by
  unfold printT linesT
  rw [List.flatMap_cons, List.flatMap_append, List.flatMap_map, List.flatMap_map]
  simp only [nl, List.append_assoc]
/-- What a configuration must be to be printed. -/
structure WCfg.prn (c : WCfg) : Prop where
  bd : c.bd
  ok : c.ok
  pr : ∀ o ∈ c.objs, o.pr
  sz : (printT c).length ≤ 300000
set_option maxRecDepth 100000 in
set_option maxHeartbeats 8000000 in
theorem print_any (cf : WCfg) (v : Value) (w : World) (h : CfgIn w v cf) (hpn : cf.prn) (hpow : HasPow w) (hsp : HasSp w) :
    Calls Tryz.prog 25 #[v] w fun e w' => e = .returned (S (printT cf)) ∧ Below w.heap.size w w' := by
  obtain ⟨sv, ov, rfl, hS, hO⟩ := h
  obtain ⟨sa, sc, rfl, hs1, hs2⟩ := RowAt.form hS
  obtain ⟨oa, oc, rfl, ho1, ho2⟩ := hO.form
  obtain ⟨hn1, hn2⟩ := hpn.bd.ln
  obtain ⟨⟨c1, c2⟩, ⟨c3, c4⟩, ⟨c5, c6⟩⟩ := hpn.bd.n
  obtain ⟨w1, hw1⟩ : ∃ w1 : World, w1 = w.alloc (.cells #[.int .i64 cf.cores, .int .i64 cf.frames, .int .i64 cf.names, .slice sa cf.slots.length sc, .slice oa cf.objs.length oc] 57) := ⟨_, rfl⟩
  obtain ⟨xb, hxb⟩ : ∃ xb, xb = w.heap.size := ⟨_, rfl⟩
  obtain ⟨wa, hwa⟩ : ∃ wa : World, wa = w1.alloc (.cells #[.pointer none, .slice none 0 0] 113) := ⟨_, rfl⟩
  obtain ⟨p, hp⟩ : ∃ p, p = w1.heap.size := ⟨_, rfl⟩
  have HX1 : Hid (Blk w1 xb #[.int .i64 cf.cores, .int .i64 cf.frames, .int .i64 cf.names, .slice sa cf.slots.length sc, .slice oa cf.objs.length oc] 57) := by rw [hw1, hxb]; exact Blk.new _ _ _
  have HB1 : Hid (Below w.heap.size w w1) := by rw [hw1]; exact (Below.refl _ w).alloc (Nat.le_refl _) _
  have HBa : Hid (Below p w1 wa) := by rw [hwa, hp]; exact (Below.refl _ w1).alloc (Nat.le_refl _) _
  have HPa : Hid (PB p p [] wa) := by rw [hwa, hp]; exact pb_new (Blk.new _ _ _)
  have hw : w1.heap.size ≤ p := Nat.le_of_eq hp.symm
  have Hp : Hid (p = w1.heap.size) := hp
  have HBx : Hid (∀ w', PK p p wa w' → Below p w1 w') := fun w' q => HBa.out.trans q.bel
  have HBs : Hid (∀ w', PK p p wa w' → p ≤ w'.heap.size) := fun w' q => Nat.le_trans (by have := HPa.out.ge.2; omega) q.size
  have HXx : Hid (∀ w', PK p p wa w' → Blk w' xb #[.int .i64 cf.cores, .int .i64 cf.frames, .int .i64 cf.names, .slice sa cf.slots.length sc, .slice oa cf.objs.length oc] 57) := fun w' q => by
    have := HBx.out w' q
    rw [Hp.out] at this
    exact Blk.below HX1.out this HX1.out.lt
  have _HEnd : Hid (∀ w', PK p p wa w' → Below w.heap.size w w') := fun w' q => by
    have := HBx.out w' q
    rw [Hp.out] at this
    exact bel_from HB1.out this
  have HS := Lib.hid (fun w' (q : PK p p wa w') => (RowAt.below (RowAt.below hS HB1.out (Nat.le_refl _)) (HBx.out w' q) hw : SlotsIn w' _ cf.slots))
  have HO1 := Lib.hid (hO.below HB1.out (Nat.le_refl _))
  have HO := Lib.hid (fun w' (q : PK p p wa w') => HO1.out.below (HBx.out w' q) hw)
  have Hpow := Lib.hid (hpow.below HB1.out)
  have Hsp := Lib.hid (hsp.below HB1.out)
  have Hpn := Lib.hid hpn
  have HKa : Hid (PK p p wa wa) := PK.refl _ _ _
  have hsz := hpn.sz
  obtain ⟨H1, hH1⟩ : ∃ H, nl (headT cf) = H := ⟨_, rfl⟩
  have hE := printT_eq cf
  rw [hH1] at hE
  have hls : ∀ k, (H1 ++ (cf.slots.take k).flatMap (fun s => nl (slotT s))).length ≤ 300000 := fun k => by
    have := flat_le (fun s => nl (slotT s)) cf.slots k
    rw [hE] at hsz
    simp only [List.length_append] at hsz ⊢
    omega
  have hlo : ∀ k, (H1 ++ cf.slots.flatMap (fun s => nl (slotT s)) ++ (cf.objs.take k).flatMap (fun o => nl (objT o))).length ≤ 300000 := fun k => by
    have := flat_le (fun o => nl (objT o)) cf.objs k
    rw [hE] at hsz
    simp only [List.length_append] at hsz ⊢
    omega
  have HE := Lib.hid hE; have Hls := Lib.hid hls; have Hlo := Lib.hid hlo; have HH1 := Lib.hid hH1
  have hXa := (HXx.out _ HKa.out).cell
  obtain ⟨Ta, hTa⟩ : ∃ T : List UInt8, [] = T := ⟨_, rfl⟩
  have hla : Ta.length = 0 := by rw [← hTa]; rfl
  have HTa := Lib.hid hTa
  rw [hTa] at HPa
  clear hS hO hpn hsz hE hls hlo hH1 hTa hpow hsp
  go_enter Tryz.func25, Tryz.ntmps25
  go_upto_region 2 with fail
  have hp1 : xb + 1 = p := by rw [hp, hw1, hxb, World.size_alloc]
  rw [← hw1, ← hwa, ← hxb, hp1]
  clear hw1 hxb hwa hp hp1
  have Hn2 : Hid (Calls Tryz.prog 48 #[.pointer (some ⟨p, 0, none⟩), .slice (some ⟨wa.heap.size, 0, none⟩) 1 1] (wa.alloc (.cells #[S machW] 9)) fun e w' => e = .returned (.tuple #[]) ∧ PB p p (Ta ++ machW) w' ∧ PK p p wa w') := by
    have q3 : PK p p wa (wa.alloc (.cells #[S machW] 9)) := (PK.refl p p wa).alloc (HBs.out _ HKa.out) _
    refine (pwords_any p p _ 1 Ta machW _ (HPa.out.below ((Below.refl _ wa).alloc (Nat.le_refl _) _)) (by have : machW.length ≤ 7 := (by decide); omega) (Nat.le_trans (HBs.out _ HKa.out) q3.size) ((Blk.new wa #[S machW] 9).cell 0)).mono ?_
    rintro e w4 ⟨rfl, hp4, hk4⟩
    exact ⟨rfl, hp4, q3.trans hk4⟩
  go_wp2_with fail
  refine Hn2.out.mono ?_
  rintro e w2 ⟨rfl, hp2, hk2⟩
  obtain ⟨T2, hT2⟩ : ∃ T, Ta ++ machW = T := ⟨_, rfl⟩
  rw [hT2] at hp2
  have HP2 := Lib.hid hp2; have HK2 := Lib.hid (HKa.out.trans hk2); have HT2 := Lib.hid hT2
  have hX2 := (HXx.out _ HK2.out).cell
  have hl2 : T2.length ≤ Ta.length + 7 := by
    have : machW.length ≤ 7 := by decide
    rw [← hT2, List.length_append]; omega
  clear hp2 hk2 hT2 Hn2 hXa
  obtain ⟨L, hL⟩ : ∃ L, ([cf.cores, cf.frames, cf.names] : List Int) = L := ⟨_, rfl⟩
  have HLb : Hid (∀ x ∈ L, -9223372036854775808 ≤ x ∧ x ≤ 9223372036854775807) := fun x hx => by
    rw [← hL] at hx
    simp only [List.mem_cons, List.not_mem_nil, or_false] at hx
    rcases hx with rfl | rfl | rfl <;> omega
  have HLl : Hid (L.length = 3) := by rw [← hL]; exact Lib.hid rfl
  have Hix : Hid (∀ (i : Nat) (x : Int), L[i]? = some x → ∀ w, (Instr.index 115 (.agg #[.int .i64 cf.cores, .int .i64 cf.frames, .int .i64 cf.names]) (.int .i64 i)).run Tryz.prog w = .ok (.int .i64 x) w) := fun i x hx w => by
    have hi : i < 3 := by have := (List.getElem?_eq_some_iff.1 hx).1; rw [HLl.out] at this; exact this
    have := ix3 cf.cores cf.frames cf.names i hi w
    rw [hL, List.getD, hx] at this
    exact this
  have HHd : Hid (H1 = T2 ++ L.flatMap numT ++ [10]) := by
    show _ = _
    rw [← HH1.out, ← hL, ← HT2.out, ← HTa.out]
    unfold nl headT
    simp
  clear hL
  go_wp2_with fail
  go_loopg [5, 19] 3 (fun g _ vi wx => ∃ i : Nat, i + g = 3 ∧ vi = .int .i64 i ∧ Hid (PB p p (T2 ++ (L.take i).flatMap numT) wx) ∧ Hid (PK p p wa wx))
  case atStart => exact ⟨0, by omega, rfl, by rw [List.take_zero, List.flatMap_nil, List.append_nil]; exact HP2, HK2⟩
  case round =>
    obtain ⟨i, hi, rfl, HP3, HK3⟩ := hrel
    have hT3 : ∀ i, (T2 ++ (L.take i).flatMap numT).length ≤ 100 := fun i => by
      have h1 : ∀ l : List Int, (∀ x ∈ l, -9223372036854775808 ≤ x ∧ x ≤ 9223372036854775807) → (l.flatMap numT).length ≤ l.length * 30 := fun l => by
        induction l with
        | nil => intro _; exact Nat.zero_le _
        | cons p r ih =>
          intro h
          have h1 := ih fun x hx => h x (List.mem_cons_of_mem _ hx)
          have h2 := numT_len p (h p List.mem_cons_self).1 (h p List.mem_cons_self).2
          rw [List.flatMap_cons, List.length_append, List.length_cons]; omega
      have h2 := h1 (L.take i) fun x hx => HLb.out x (List.mem_of_mem_take hx)
      have h3 : (L.take i).length ≤ 3 := by rw [List.length_take, HLl.out]; omega
      rw [List.length_append]; omega
    clear hX2
    by_cases hi3 : i < 3
    · have hi3' : (i : Int) < 3 := by omega
      obtain ⟨x, hx⟩ : ∃ x, L[i]? = some x := ⟨_, List.getElem?_eq_getElem (by rw [HLl.out]; exact hi3)⟩
      obtain ⟨x0, x1⟩ := HLb.out x (List.mem_of_getElem? hx)
      have Hn7 : Hid (T2 ++ (L.take (i + 1)).flatMap numT = T2 ++ (L.take i).flatMap numT ++ numT x) := by
        show _ = _
        rw [List.take_add_one, hx]; simp
      have Hix2 := Lib.hid (Hix.out i x hx)
      have hl6 := hT3 i
      have Hn4 := Lib.hid (prnum_any w1 p p _ x wr HP3.out (by omega) x0 x1 Hpow.out hw (HBx.out _ HK3.out))
      clear hx
      go_wp2_with (refine wpList_ix rfl rfl (Hix2.out _) ?_)
      refine Hn4.out.mono ?_
      rintro e w4 ⟨rfl, hp4, hk4⟩
      have HP4 := Lib.hid hp4; have HK4 := Lib.hid (HK3.out.trans hk4)
      clear hp4 hk4
      go_wp2_with fail
      go_roundg (3 - (i + 1))
      case measure => omega
      case rel => exact ⟨i + 1, by omega, by go_num, by rw [Hn7.out]; exact HP4, HK4⟩
    · obtain rfl : i = 3 := by omega
      have hLt : L.take 3 = L := List.take_of_length_le (by rw [HLl.out]; exact Nat.le_refl _)
      have hl3 := hT3 3
      rw [hLt] at HP3 hl3
      rename World => w3
      obtain ⟨T3, hT3'⟩ : ∃ T, T2 ++ L.flatMap numT = T := ⟨_, rfl⟩
      rw [hT3'] at HP3 hl3 HHd
      have hX3 := (HXx.out _ HK3.out).cell
      clear hLt hT3' hT3
      have Hn4 := Lib.hid (pbyte_any p p T3 10 w3 HP3.out (by omega) (HBs.out _ HK3.out))
      go_wp2_with fail
      refine Hn4.out.mono ?_
      rintro e w4 ⟨rfl, hp4, hk4⟩
      obtain ⟨T4, hT4⟩ : ∃ T, T3 ++ [10] = T := ⟨_, rfl⟩
      rw [hT4] at hp4
      have HP4 := Lib.hid hp4; have HK4 := Lib.hid (HK3.out.trans hk4); have HT4 := Lib.hid hT4
      have hX4 := (HXx.out _ HK4.out).cell
      have hl4 : T4.length ≤ T3.length + 1 := by rw [← hT4, List.length_append]; exact Nat.le_refl _
      clear hp4 hk4 hT4 Hn4 hX3
      have HH4 : Hid (H1 = T4) := by show _ = _; rw [HHd.out, HT4.out]
      go_wp2_with fail
      go_loopg [7, 30] cf.slots.length (fun g _ vi wx => ∃ k : Nat, k + g = cf.slots.length ∧ vi = .int .i64 k ∧ Hid (PB p p (H1 ++ (cf.slots.take k).flatMap (fun s => nl (slotT s))) wx) ∧ Hid (PK p p wa wx))
      case atStart => exact ⟨0, by omega, rfl, by rw [List.take_zero, List.flatMap_nil, List.append_nil, HH4.out]; exact HP4, HK4⟩
      case round =>
        obtain ⟨k, hk, rfl, HP, HK⟩ := hrel
        clear hX4
        by_cases hlt : k < cf.slots.length
        · have hlt' : (k : Int) < cf.slots.length := by omega
          obtain ⟨s, hs⟩ : ∃ s, cf.slots[k]? = some s := ⟨_, List.getElem?_eq_getElem hlt⟩
          obtain ⟨b, rfl, -, s0, s1⟩ := SlotsIn.at (HS.out _ HK.out) hs
          obtain ⟨⟨g0, g1⟩, ⟨g2, g3⟩⟩ := Hpn.out.ok.sl s (List.mem_of_getElem? hs)
          have Hnx := Lib.hid (flat_next (fun s => nl (slotT s)) hs)
          have hl5 := Hls.out k
          obtain ⟨T5, hT5⟩ : ∃ T, H1 ++ (cf.slots.take k).flatMap (fun s => nl (slotT s)) = T := ⟨_, rfl⟩
          have HT5 := Lib.hid hT5
          rw [hT5] at HP hl5
          obtain ⟨zb, hzb⟩ : ∃ zb, zb = wr.heap.size := ⟨_, rfl⟩
          obtain ⟨w5, hw5⟩ : ∃ w5 : World, w5 = wr.alloc (.cells #[.int .u64 s.1, .int .i64 s.2] 110) := ⟨_, rfl⟩
          have HZ : Hid (Blk w5 zb #[.int .u64 s.1, .int .i64 s.2] 110) := by rw [hw5, hzb]; exact Blk.new _ _ _
          have HK5 : Hid (PK p p wa w5) := by rw [hw5]; exact HK.out.alloc (HBs.out _ (PK.refl p p wa)) _
          have HP5 : Hid (PB p p T5 w5) := by rw [hw5]; exact HP.out.below ((Below.refl _ wr).alloc (Nat.le_refl _) _)
          have Hzp : Hid (zb ≠ p) := by have := HP.out.ge; show zb ≠ p; omega
          have hws : IntKind.i64.wrap s.1 = s.1 := IntWalk.i64_in _ (by omega)
          have hX5 := HZ.out.cell
          clear hs hT5
          go_upto_region 12 with fail
          rw [← hw5, ← hzb]
          clear hw5 hzb
          have Hn6 : Hid (Calls Tryz.prog 48 #[.pointer (some ⟨p, 0, none⟩), .slice (some ⟨w5.heap.size, 0, none⟩) 1 1] (w5.alloc (.cells #[S slotW] 9)) fun e w' => e = .returned (.tuple #[]) ∧ PB p p (T5 ++ slotW) w' ∧ PK p p w5 w') := by
            have q3 : PK p p w5 (w5.alloc (.cells #[S slotW] 9)) := (PK.refl p p w5).alloc (HBs.out _ HK5.out) _
            refine (pwords_any p p _ 1 T5 slotW _ (HP5.out.below ((Below.refl _ w5).alloc (Nat.le_refl _) _)) (by have : slotW.length ≤ 7 := (by decide); omega) (Nat.le_trans (HBs.out _ HK5.out) q3.size) ((Blk.new w5 #[S slotW] 9).cell 0)).mono ?_
            rintro e w4 ⟨rfl, hp4, hk4⟩
            exact ⟨rfl, hp4, q3.trans hk4⟩
          go_wp2_with fail
          refine Hn6.out.mono ?_
          rintro e w6 ⟨rfl, hp6, hk6⟩
          obtain ⟨T6, hT6⟩ : ∃ T, T5 ++ slotW = T := ⟨_, rfl⟩
          rw [hT6] at hp6
          have HP6 := Lib.hid hp6; have HK6 := Lib.hid (HK5.out.trans hk6); have HT6 := Lib.hid hT6
          have HZ6 := Lib.hid (hk6.blk HZ.out Hzp.out (by decide))
          have hX6 := HZ6.out.cell
          have hl6 : T6.length ≤ T5.length + 7 := by
            have : slotW.length ≤ 7 := by decide
            rw [← hT6, List.length_append]; omega
          clear hp6 hk6 hT6 Hn6 hX5
          have Hn7 := Lib.hid (prnum_any w1 p p T6 (s.1) w6 HP6.out (by omega) (by omega) (by omega) Hpow.out hw (HBx.out _ HK6.out))
          go_wp2_with fail
          refine Hn7.out.mono ?_
          rintro e w7 ⟨rfl, hp7, hk7⟩
          obtain ⟨T7, hT7⟩ : ∃ T, T6 ++ numT (s.1) = T := ⟨_, rfl⟩
          rw [hT7] at hp7
          have HP7 := Lib.hid hp7; have HK7 := Lib.hid (HK6.out.trans hk7); have HT7 := Lib.hid hT7
          have HZ7 := Lib.hid (hk7.blk HZ6.out Hzp.out (by decide))
          have hX7 := HZ7.out.cell
          have hl7 : T7.length ≤ T6.length + 30 := by rw [← hT7, List.length_append]; have := numT_len (s.1) (by omega) (by omega); omega
          clear hp7 hk7 hT7 Hn7 hX6
          have Hn8 := Lib.hid (prnum_any w1 p p T7 (s.2) w7 HP7.out (by omega) (by omega) (by omega) Hpow.out hw (HBx.out _ HK7.out))
          go_wp2_with fail
          refine Hn8.out.mono ?_
          rintro e w8 ⟨rfl, hp8, hk8⟩
          obtain ⟨T8, hT8⟩ : ∃ T, T7 ++ numT (s.2) = T := ⟨_, rfl⟩
          rw [hT8] at hp8
          have HP8 := Lib.hid hp8; have HK8 := Lib.hid (HK7.out.trans hk8); have HT8 := Lib.hid hT8
          have HZ8 := Lib.hid (hk8.blk HZ7.out Hzp.out (by decide))
          have hX8 := HZ8.out.cell
          have hl8 : T8.length ≤ T7.length + 30 := by rw [← hT8, List.length_append]; have := numT_len (s.2) (by omega) (by omega); omega
          clear hp8 hk8 hT8 Hn8 hX7
          have Hn9 := Lib.hid (pbyte_any p p T8 10 w8 HP8.out (by omega) (HBs.out _ HK8.out))
          go_wp2_with fail
          refine Hn9.out.mono ?_
          rintro e w9 ⟨rfl, hp9, hk9⟩
          obtain ⟨T9, hT9⟩ : ∃ T, T8 ++ [10] = T := ⟨_, rfl⟩
          rw [hT9] at hp9
          have HP9 := Lib.hid hp9; have HK9 := Lib.hid (HK8.out.trans hk9); have HT9 := Lib.hid hT9
          have hX9 := (HXx.out _ HK9.out).cell
          have hl9 : T9.length ≤ T8.length + 1 := by rw [← hT9, List.length_append]; exact Nat.le_refl _
          clear hp9 hk9 hT9 Hn9 hX8
          have HnC : Hid (H1 ++ (cf.slots.take (k + 1)).flatMap (fun s => nl (slotT s)) = T9) := by
            show _ = _
            rw [Hnx.out, ← HT9.out, ← HT8.out, ← HT7.out, ← HT6.out, ← HT5.out]
            simp [nl, slotT]
          clear hX9
          go_wp2_with fail
          go_roundg (cf.slots.length - (k + 1))
          case measure => omega
          case rel => exact ⟨k + 1, by omega, by go_num, by rw [HnC.out]; exact HP9, HK9⟩
        · obtain rfl : k = cf.slots.length := by omega
          rw [List.take_length] at HP
          have hX5 := (HXx.out _ HK.out).cell
          go_wp2_with fail
          go_loopg [9, 49] cf.objs.length (fun g _ vi wx => ∃ k : Nat, k + g = cf.objs.length ∧ vi = .int .i64 k ∧ Hid (PB p p (H1 ++ cf.slots.flatMap (fun s => nl (slotT s)) ++ (cf.objs.take k).flatMap (fun o => nl (objT o))) wx) ∧ Hid (PK p p wa wx))
          case atStart => exact ⟨0, by omega, rfl, by rw [List.take_zero, List.flatMap_nil, List.append_nil]; exact HP, HK⟩
          case round =>
            obtain ⟨k, hk, rfl, HP, HK⟩ := hrel
            clear hX5
            by_cases hlt : k < cf.objs.length
            · have hlt' : (k : Int) < cf.objs.length := by omega
              obtain ⟨o, ho⟩ : ∃ o, cf.objs[k]? = some o := ⟨_, List.getElem?_eq_getElem hlt⟩
              obtain ⟨ss, hss, hVs, hRow⟩ := HO1.out
              obtain ⟨s, hs⟩ : ∃ s, ss[k]? = some s := ⟨_, List.getElem?_eq_getElem (by omega)⟩
              have hV := hVs k o s ho hs
              obtain ⟨b, rfl, hb, hc⟩ := RowAt.cells (RowAt.below hRow (HBx.out _ HK.out) hw) (by omega)
              have hcell : ∀ i, i < 12 → wr.cell? ⟨b, k * 12 + i, none⟩ = (objC o s.ls s.lc s.vd s.vm)[i]? := fun i hi => by
                have e := objsC_at cf.objs ss hss k o s ho hs i hi
                have hl : i < (objC o s.ls s.lc s.vd s.vm).length := hi
                rw [List.getElem?_eq_getElem hl] at e ⊢
                exact hc _ _ e
              have Hnx := Lib.hid (flat_next (fun o => nl (objT o)) ho)
              have hl5 := Hlo.out k
              obtain ⟨T5, hT5⟩ : ∃ T, H1 ++ cf.slots.flatMap (fun s => nl (slotT s)) ++ (cf.objs.take k).flatMap (fun o => nl (objT o)) = T := ⟨_, rfl⟩
              have HT5 := Lib.hid hT5
              rw [hT5] at HP hl5
              have hom := List.mem_of_getElem? ho
              have hook := Hpn.out.ok.ob o hom
              obtain ⟨kk, hkk⟩ : ∃ kk : Nat, o.kind = (kk : Nat) := ⟨o.kind.toNat, by have := hook.kind; omega⟩
              have hkk7 : kk < 7 := by have := hook.kind; omega
              obtain ⟨la, lc, hls', -, -⟩ := RowAt.form hV.lab
              obtain ⟨ca, cc, hlc, -, -⟩ := RowAt.form hV.clr
              obtain ⟨da, dc, hvd, -, -⟩ := RowAt.form hV.data
              obtain ⟨ma, mc, hvm, -, -⟩ := RowAt.form hV.maps
              have q0 : wr.cell? ⟨b, k * 12, none⟩ = some (.int .i64 (kk : Nat)) := by have := hcell 0 (by omega); rw [Nat.add_zero] at this; rw [this, ← hkk]; rfl
              have q1 : wr.cell? ⟨b, k * 12 + 1, none⟩ = some (.int .i64 o.parent) := by rw [hcell 1 (by omega)]; rfl
              have q2 : wr.cell? ⟨b, k * 12 + 2, none⟩ = some (.int .i64 (o.lab.d : Nat)) := by rw [hcell 2 (by omega)]; rfl
              have q3 : wr.cell? ⟨b, k * 12 + 3, none⟩ = some (.slice la o.lab.ps.length lc) := by rw [hcell 3 (by omega), ← hls']; rfl
              have q4 : wr.cell? ⟨b, k * 12 + 4, none⟩ = some (.int .i64 (o.clr.d : Nat)) := by rw [hcell 4 (by omega)]; rfl
              have q5 : wr.cell? ⟨b, k * 12 + 5, none⟩ = some (.slice ca o.clr.ps.length cc) := by rw [hcell 5 (by omega), ← hlc]; rfl
              have q6 : wr.cell? ⟨b, k * 12 + 6, none⟩ = some (.int .i64 o.pages) := by rw [hcell 6 (by omega)]; rfl
              have q7 : wr.cell? ⟨b, k * 12 + 7, none⟩ = some (.int .i64 o.names) := by rw [hcell 7 (by omega)]; rfl
              have q8 : wr.cell? ⟨b, k * 12 + 8, none⟩ = some (.slice da o.data.length dc) := by rw [hcell 8 (by omega), ← hvd]; rfl
              have q9 : wr.cell? ⟨b, k * 12 + 9, none⟩ = some (.slice ma o.maps.length mc) := by rw [hcell 9 (by omega), ← hvm]; rfl
              have q10 : wr.cell? ⟨b, k * 12 + 10, none⟩ = some (.int .i64 o.space) := by rw [hcell 10 (by omega)]; rfl
              have q11 : wr.cell? ⟨b, k * 12 + 11, none⟩ = some (.int .i64 o.pc) := by rw [hcell 11 (by omega)]; rfl
              obtain ⟨zb, hzb⟩ : ∃ zb, zb = wr.heap.size := ⟨_, rfl⟩
              obtain ⟨w5, hw5⟩ : ∃ w5 : World, w5 = wr.alloc (.cells #[.int .i64 (kk : Nat), .int .i64 o.parent, .int .i64 (o.lab.d : Nat), .slice la o.lab.ps.length lc, .int .i64 (o.clr.d : Nat), .slice ca o.clr.ps.length cc, .int .i64 o.pages, .int .i64 o.names, .slice da o.data.length dc, .slice ma o.maps.length mc, .int .i64 o.space, .int .i64 o.pc] 107) := ⟨_, rfl⟩
              have HZ : Hid (Blk w5 zb #[.int .i64 (kk : Nat), .int .i64 o.parent, .int .i64 (o.lab.d : Nat), .slice la o.lab.ps.length lc, .int .i64 (o.clr.d : Nat), .slice ca o.clr.ps.length cc, .int .i64 o.pages, .int .i64 o.names, .slice da o.data.length dc, .slice ma o.maps.length mc, .int .i64 o.space, .int .i64 o.pc] 107) := by rw [hw5, hzb]; exact Blk.new _ _ _
              have HK5 : Hid (PK p p wa w5) := by rw [hw5]; exact HK.out.alloc (HBs.out _ (PK.refl p p wa)) _
              have HP5 : Hid (PB p p T5 w5) := by rw [hw5]; exact HP.out.below ((Below.refl _ wr).alloc (Nat.le_refl _) _)
              rw [hls', hlc, hvd, hvm] at hV
              have Hob := Lib.hid (pobj_any w1 p p T5 o kk _ _ _ _ w5 HP5.out (by omega) hV (Hpn.out.bd.ob o hom) (Hpn.out.pr o hom) hkk hkk7 Hpow.out Hsp.out hw (HBx.out _ HK5.out))
              have hcz := HZ.out.cell
              clear hcell hV ho hs hT5 hls' hlc hvd hvm hc hss hVs hRow hook hkk
              go_upto_region 20 with fail
              rw [← hw5, ← hzb]
              clear hw5 hzb
              go_wp2_with fail
              refine Hob.out.mono ?_
              rintro e w6 ⟨rfl, hp6, hk6⟩
              have hl6 : (T5 ++ objT o).length ≤ 300000 := by
                have := Hlo.out (k + 1)
                rw [Hnx.out, ← List.append_assoc, HT5.out] at this
                simp only [nl, List.length_append] at this ⊢
                omega
              obtain ⟨T6, hT6⟩ : ∃ T, T5 ++ objT o = T := ⟨_, rfl⟩
              rw [hT6] at hp6 hl6
              have HP6 := Lib.hid hp6; have HK6 := Lib.hid (HK5.out.trans hk6); have HT6 := Lib.hid hT6
              have Hn7 := Lib.hid (pbyte_any p p T6 10 w6 HP6.out (by omega) (HBs.out _ HK6.out))
              clear hp6 hk6 hT6 hcz
              go_wp2_with fail
              refine Hn7.out.mono ?_
              rintro e w7 ⟨rfl, hp7, hk7⟩
              have HP7 := Lib.hid hp7; have HK7 := Lib.hid (HK6.out.trans hk7)
              have HnC : Hid (H1 ++ cf.slots.flatMap (fun s => nl (slotT s)) ++ (cf.objs.take (k + 1)).flatMap (fun o => nl (objT o)) = T6 ++ [10]) := by
                show _ = _
                rw [Hnx.out, ← HT6.out, ← HT5.out]
                simp [nl]
              clear hp7 hk7
              go_wp2_with fail
              go_roundg (cf.objs.length - (k + 1))
              case measure => omega
              case rel => exact ⟨k + 1, by omega, by go_num, by rw [HnC.out]; exact HP7, HK7⟩
            · obtain rfl : k = cf.objs.length := by omega
              rw [List.take_length, ← HE.out] at HP
              have Hst := Lib.hid (pstr_any p p (printT cf) wr HP.out (by rw [HE.out, ← HH1.out]; unfold nl; simp))
              go_wp2_with fail
              refine Hst.out.mono ?_
              rintro e w9 ⟨rfl, hb9⟩
              go_wp2_with fail
              go_ret
              exact ⟨rfl, by have := (HBx.out _ HK.out).trans hb9; rw [Hp.out] at this; exact bel_from HB1.out this⟩
end Go.Proofs.YtjjnidbggoaonaaGreatDoor
