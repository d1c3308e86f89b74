/- The reader's maps. -/
import Derived.Test.YtjjnidbggoaonaaGreatDoorWoJ
import Derived.Test.YtjjnidbggoaonaaGreatDoorZaD
namespace Go.Proofs.YtjjnidbggoaonaaGreatDoor
open Go.RowKit
attribute [local irreducible] World.setCell World.alloc World.drew Calls Code.wp
attribute [local go_sem] Oper.semAt_some

theorem one_eq (r : Rd) : r.one = (if (mapOf r.word.2).isSome = true then r.word.1 else r.word.1.fail, (mapOf r.word.2).getD map0) := by
  unfold Rd.one
  cases mapOf r.word.2 <;> rfl
theorem mapOf_no {W : List UInt8} (h : (partsAt 44 W).length ≠ 5) : mapOf W = none := by
  unfold mapOf
  split
  · rename_i e; rw [e] at h; exact absurd rfl h
  · rfl
theorem mapOf_how {W a b c d e : List UInt8} (h : partsAt 44 W = [a, b, c, d, e]) (hr : e ≠ [114]) (hw : e ≠ [119]) : mapOf W = none := by
  unfold mapOf
  rw [h]
  simp only
  split
  · rw [if_neg hr, if_neg hw]
  · rfl
theorem mapOf_num {W a b c d e : List UInt8} (h : partsAt 44 W = [a, b, c, d, e]) (hn : numW a = none ∨ numW b = none ∨ numW c = none ∨ numW d = none) : mapOf W = none := by
  unfold mapOf
  rw [h]
  simp only
  split
  · rename_i h1 h2 h3 h4
    rcases hn with hn | hn | hn | hn <;> simp_all
  · rfl
theorem mapOf_yes {W a b c d e : List UInt8} (h : partsAt 44 W = [a, b, c, d, e]) {x y z u : Nat} (ha : numW a = some x) (hb : numW b = some y) (hc : numW c = some z) (hd : numW d = some u) (he : e = [114] ∨ e = [119]) : mapOf W = some ⟨x, y, z, u, decide (e = [119])⟩ := by
  unfold mapOf
  rw [h]
  simp only [ha, hb, hc, hd]
  rcases he with rfl | rfl
  · rw [if_pos rfl]; rfl
  · rw [if_neg (by decide), if_pos rfl]; rfl
/-- The four numbers of a map, the first k of them read. -/
structure MapSt (W : List UInt8) (F : List (List UInt8)) (k : Nat) (v : Nat → Int) (fl : Bool) : Prop where
  good : fl = false → ∀ j s, j < k → F[j]? = some s → ∃ n, numW s = some n ∧ v j = (n : Int)
  bad : fl = true → mapOf W = none
def updF (v : Nat → Int) (k : Nat) (x : Int) (j : Nat) : Int := if j = k then x else v j
theorem four_set (v : Nat → Int) {k : Nat} (hk : k < 4) (x : Int) : (#[Value.int .i64 (v 0), .int .i64 (v 1), .int .i64 (v 2), .int .i64 (v 3)]).setIfInBounds k (.int .i64 x) = #[Value.int .i64 (updF v k x 0), .int .i64 (updF v k x 1), .int .i64 (updF v k x 2), .int .i64 (updF v k x 3)] := by
  obtain rfl | rfl | rfl | rfl : k = 0 ∨ k = 1 ∨ k = 2 ∨ k = 3 := by omega
  all_goals rfl
theorem four_get (v : Nat → Int) {k : Nat} (hk : k < 4) : (#[Value.int .i64 (v 0), .int .i64 (v 1), .int .i64 (v 2), .int .i64 (v 3)])[k]? = some (.int .i64 (v k)) := by
  obtain rfl | rfl | rfl | rfl : k = 0 ∨ k = 1 ∨ k = 2 ∨ k = 3 := by omega
  all_goals rfl
theorem numW_lt {s : List UInt8} {k : Nat} (h : numW s = some k) : k < 2147483648 := (numW_itoa' h).2
theorem MapSt.next {W a b c d e s : List UInt8} (h : partsAt 44 W = [a, b, c, d, e]) {k : Nat} {v : Nat → Int} {fl : Bool} (hs : MapSt W [a, b, c, d, e] k v fl) (hk : k < 4) (hF : ([a, b, c, d, e] : List (List UInt8))[k]? = some s) {n : Int} (hn : ∀ m, numW s = some m → n = (m : Int)) :
    MapSt W [a, b, c, d, e] (k + 1) (updF v k n) (fl || !(numW s).isSome) := by
  refine ⟨fun hf j s' hj hs' => ?_, fun hf => ?_⟩
  · rw [Bool.or_eq_false_iff] at hf
    unfold updF
    split
    · rename_i e; subst e
      rw [hF] at hs'
      cases hs'
      cases e : numW s with
      | none => rw [e] at hf; exact absurd hf.2 (by simp)
      | some m => exact ⟨m, rfl, hn m e⟩
    · exact hs.good hf.1 j s' (by omega) hs'
  · rw [Bool.or_eq_true] at hf
    rcases hf with hf | hf
    · exact hs.bad hf
    · have hnone : numW s = none := by
        cases e : numW s with
        | none => rfl
        | some m => rw [e] at hf; exact absurd hf (by simp)
      refine mapOf_num h ?_
      obtain rfl | rfl | rfl | rfl : k = 0 ∨ k = 1 ∨ k = 2 ∨ k = 3 := by omega
      · cases hF; exact .inl hnone
      · cases hF; exact .inr (.inl hnone)
      · cases hF; exact .inr (.inr (.inl hnone))
      · cases hF; exact .inr (.inr (.inr hnone))
theorem MapSt.fin {W a b c d e : List UInt8} (h : partsAt 44 W = [a, b, c, d, e]) {v : Nat → Int} {fl : Bool} (hs : MapSt W [a, b, c, d, e] 4 v fl) (he : e = [114] ∨ e = [119]) :
    (mapOf W).isSome = !fl ∧ (fl = false → mapOf W = some ⟨v 0, v 1, v 2, v 3, decide (e = [119])⟩) := by
  cases hf : fl with
  | true => rw [hs.bad hf]; exact ⟨rfl, fun h => by cases h⟩
  | false =>
    obtain ⟨x, hx, ex⟩ := hs.good hf 0 a (by omega) rfl
    obtain ⟨y, hy, ey⟩ := hs.good hf 1 b (by omega) rfl
    obtain ⟨z, hz, ez⟩ := hs.good hf 2 c (by omega) rfl
    obtain ⟨u, hu, eu⟩ := hs.good hf 3 d (by omega) rfl
    have := mapOf_yes h hx hy hz hu he
    rw [ex, ey, ez, eu]
    exact ⟨by rw [this]; rfl, fun _ => this⟩
set_option maxRecDepth 100000 in
set_option maxHeartbeats 8000000 in
theorem rone_any (g0 rb : Nat) (r : Rd) (hl : r.s.length ≤ 100000) (hg : g0 ≤ rb) (w : World) (h : WoIn g0 w) (hR : RdW w rb r) :
    Calls Tryz.prog 90 #[.pointer (some ⟨rb, 0, none⟩)] w fun e w' => ∃ m : WMap, e = .returned (.agg #[.int .i64 m.at_, .int .u64 m.seg, .int .i64 m.from_, .int .i64 m.n, .bool m.wr]) ∧ (r.one.1.bad = false → m = r.one.2) ∧ RdW w' rb r.one.1 ∧ Kept (· = rb) w w' := by
  have H := Lib.hid h
  have HR := Lib.hid hR
  have hwl := (word_len r).1
  have HE := Lib.hid (one_eq r)
  have hrb : rb < w.heap.size := Blk.lt hR
  obtain ⟨wa, hwa⟩ : ∃ wa : World, wa = w.alloc (.cells #[.int .i64 0, .int .u64 0, .int .i64 0, .int .i64 0, .bool false] 157) := ⟨_, rfl⟩
  obtain ⟨xb, hxb⟩ : ∃ xb, xb = w.heap.size := ⟨_, rfl⟩
  have HX : Hid (Blk wa xb #[.int .i64 0, .int .u64 0, .int .i64 0, .int .i64 0, .bool false] 157) := by rw [hwa, hxb]; exact Blk.new _ _ _
  have HRa : Hid (RdW wa rb r) := by rw [hwa]; exact Blk.alloc hR _
  have HKa : Hid (Kept (· = rb) w wa) := by rw [hwa]; exact (Kept.refl _ w).alloc _
  have Hxb := Lib.hid hxb
  have Hrx : Hid (rb < xb) := by rw [hxb]; exact hrb
  have Hw := Lib.hid (word_any g0 rb r hl hg wa (h.kept HKa.out (fun b e => by rw [e]; exact hg)) HRa.out)
  obtain ⟨⟨r1, W⟩, hrw⟩ : ∃ p, r.word = p := ⟨_, rfl⟩
  rw [hrw] at Hw HE hwl
  simp only at Hw HE hwl
  have Hsp := Lib.hid (fun w h => split_any 44 W (by omega) w h)
  have Hno := Lib.hid (fun h => mapOf_no (W := W) h)
  have hpe := partsAt_each 44 W
  have hF5 : ∀ f, partsAt 44 W = f → f.length = 5 → ∃ a b c d e, f = [a, b, c, d, e] := fun f _ h5 => by
    match f, h5 with
    | [a, b, c, d, e], _ => exact ⟨a, b, c, d, e, rfl⟩
  have hpl := partsAt_len 44 W
  obtain ⟨f, hf⟩ : ∃ f, partsAt 44 W = f := ⟨_, rfl⟩
  have HF5 := Lib.hid (hF5 f hf)
  rw [hf] at Hsp Hno hpe hpl
  have Hf := Lib.hid hf
  have Hpe := Lib.hid hpe
  have hfl : f.length ≤ 100001 := by omega
  clear hrw hf hF5 hpe hpl h hR hrb
  go_enter Tryz.func90, Tryz.ntmps90
  go_upto_region 1 with fail
  rw [← hwa, ← hxb]
  clear hwa hxb
  go_wp2_with fail
  refine Hw.out.mono ?_
  rintro e w1 ⟨rfl, hR1, hk1⟩
  have HR1 := Lib.hid hR1
  have HK1 : Hid (Kept (· = rb) w w1) := HKa.out.trans hk1
  have HX1 := Lib.hid (HX.out.below' hk1 (by have := Hrx.out; omega))
  have H1 := Lib.hid (H.out.kept HK1.out (fun b e => by rw [e]; exact hg))
  obtain ⟨qb, hqb⟩ : ∃ qb, qb = w1.heap.size := ⟨_, rfl⟩
  obtain ⟨w2, hw2⟩ : ∃ w2 : World, w2 = w1.alloc (.cells (f.map S).toArray 9) := ⟨_, rfl⟩
  have HQ2 : Hid (Blk w2 qb (f.map S).toArray 9) := by rw [hw2, hqb]; exact Blk.new _ _ _
  have HR2 : Hid (RdW w2 rb r1) := by rw [hw2]; exact Blk.alloc HR1.out _
  have HX2 := Lib.hid (HX1.out.alloc (.cells (f.map S).toArray 9))
  have HK2 : Hid (Kept (· = rb) w w2) := by rw [hw2]; exact HK1.out.alloc _
  rw [← hw2] at HX2
  have Hqx : Hid (xb < qb) := by rw [hqb]; exact HX1.out.lt
  clear hR1 hk1 Hw HX HRa HKa
  go_wp2_with fail
  refine (Hsp.out _ H1.out.has.base.mx).mono ?_
  rintro e w2' ⟨rfl, rfl⟩
  rw [← hw2, ← hqb]
  clear hw2 hqb HR1 HX1 HK1 H1
  have hcq := HQ2.out.cell
  have hcr := Blk.cell HR2.out
  have hfr := Blk.free HR2.out
  have hcx := HX2.out.cell
  have hfx := HX2.out.free
  have hxr : xb ≠ rb := by have := Hrx.out; omega
  have hrx : rb ≠ xb := Ne.symm hxr
  -- the end, when it is none
  have hEnd : mapOf W = none → RdW ((((((w2.setCell ⟨rb, 1, none⟩ (.bool true)).setCell ⟨xb, 0, none⟩ (.int .i64 0)).setCell ⟨xb, 1, none⟩ (.int .u64 0)).setCell ⟨xb, 2, none⟩ (.int .i64 0)).setCell ⟨xb, 3, none⟩ (.int .i64 0)).setCell ⟨xb, 4, none⟩ (.bool false)) rb r.one.1 ∧ r.one.1.bad = true := fun e => by
    rw [HE.out, e]
    refine ⟨?_, rfl⟩
    have h1 : Blk (w2.setCell ⟨rb, 1, none⟩ (.bool true)) rb #[S r1.s, .bool true] 122 := (Blk.set HR2.out 1 (.bool true)).cells rfl
    exact ((((h1.set_other (a := ⟨xb, 0, none⟩) hxr _).set_other (a := ⟨xb, 1, none⟩) hxr _).set_other (a := ⟨xb, 2, none⟩) hxr _).set_other (a := ⟨xb, 3, none⟩) hxr _).set_other (a := ⟨xb, 4, none⟩) hxr _
  have HEnd := Lib.hid hEnd
  have HFin : Hid (Blk ((((((w2.setCell ⟨rb, 1, none⟩ (.bool true)).setCell ⟨xb, 0, none⟩ (.int .i64 0)).setCell ⟨xb, 1, none⟩ (.int .u64 0)).setCell ⟨xb, 2, none⟩ (.int .i64 0)).setCell ⟨xb, 3, none⟩ (.int .i64 0)).setCell ⟨xb, 4, none⟩ (.bool false)) xb #[.int .i64 0, .int .u64 0, .int .i64 0, .int .i64 0, .bool false] 157) := ((((((HX2.out.set_other (a := ⟨rb, 1, none⟩) hrx _).set 0 _).set 1 _).set 2 _).set 3 _).set 4 _).cells rfl
  have HKe : Hid (Kept (· = rb) w ((((((w2.setCell ⟨rb, 1, none⟩ (.bool true)).setCell ⟨xb, 0, none⟩ (.int .i64 0)).setCell ⟨xb, 1, none⟩ (.int .u64 0)).setCell ⟨xb, 2, none⟩ (.int .i64 0)).setCell ⟨xb, 3, none⟩ (.int .i64 0)).setCell ⟨xb, 4, none⟩ (.bool false))) := (((((HK2.out.setIn rb 1 _ rfl).setNew xb 0 _ (Nat.le_of_eq Hxb.out.symm)).setNew xb 1 _ (Nat.le_of_eq Hxb.out.symm)).setNew xb 2 _ (Nat.le_of_eq Hxb.out.symm)).setNew xb 3 _ (Nat.le_of_eq Hxb.out.symm)).setNew xb 4 _ (Nat.le_of_eq Hxb.out.symm)
  clear hEnd
  by_cases h5 : f.length = 5
  · obtain ⟨a, b, c, d, e, rfl⟩ := HF5.out h5
    by_cases he : e = [114] ∨ e = [119]
    · have c4 : w2.cell? ⟨qb, 4, none⟩ = some (S e) := by rw [hcq 4]; rfl
      obtain ⟨nb, hnb⟩ : ∃ nb, nb = w2.heap.size := ⟨_, rfl⟩
      obtain ⟨w3, hw3⟩ : ∃ w3 : World, w3 = w2.alloc (.cells #[.int .i64 0, .int .i64 0, .int .i64 0, .int .i64 0] 201) := ⟨_, rfl⟩
      have HN3 : Hid (Blk w3 nb #[.int .i64 0, .int .i64 0, .int .i64 0, .int .i64 0] 201) := by rw [hw3, hnb]; exact Blk.new _ _ _
      have HQ3 : Hid (Blk w3 qb (List.map S [a, b, c, d, e]).toArray 9) := by rw [hw3]; exact HQ2.out.alloc _
      have HR3 : Hid (RdW w3 rb r1) := by rw [hw3]; exact Blk.alloc HR2.out _
      have HX3 : Hid (Blk w3 xb #[.int .i64 0, .int .u64 0, .int .i64 0, .int .i64 0, .bool false] 157) := by rw [hw3]; exact HX2.out.alloc _
      have HK3 : Hid (Kept (· = rb) w w3) := by rw [hw3]; exact HK2.out.alloc _
      have Hqn : Hid (qb < nb) := by rw [hnb]; exact HQ2.out.lt
      clear hcr hfr hcx hfx
      have Hstart : Hid (∀ (K : Prop), (True → K) → K) := fun K h => h trivial
      go_upto_region 2 with fail
      go_cut [25] (fun v wx => v = .bool false ∧ w2 = wx)
      case first =>
        rcases he with rfl | rfl
        · go_wp2_with fail
          go_meet
          exact ⟨rfl, rfl⟩
        · go_wp2_with fail
          go_meet
          exact ⟨rfl, rfl⟩
      case rest =>
      obtain ⟨rfl, hwc⟩ := hcut
      obtain rfl : w2 = wc := hwc
      go_upto_region 6 with fail
      rw [← hw3, ← hnb]
      clear hw3 hnb
      have HB0 := Lib.hid (show MapSt W [a, b, c, d, e] 0 (fun _ => 0) false from ⟨fun _ j s hj => by omega, fun h => by cases h⟩)
      have HBl : Hid (∀ s ∈ [a, b, c, d, e], s.length ≤ 100000) := fun s hs => Nat.le_trans (Hpe.out s hs) (by omega)
      clear c4 Hno HEnd HFin HKe hcq hxr hrx
      go_wp2_with fail
      go_loopg [5, 6, 7, 30, 33] 4 (fun g _ _ _ vi _ wx => ∃ (k : Nat) (v : Nat → Int) (fl : Bool), k + g = 4 ∧ vi = .int .i64 k ∧ Hid (MapSt W [a, b, c, d, e] k v fl) ∧ Hid (Blk wx nb #[.int .i64 (v 0), .int .i64 (v 1), .int .i64 (v 2), .int .i64 (v 3)] 201) ∧ Hid (Blk wx qb (List.map S [a, b, c, d, e]).toArray 9) ∧ Hid (RdW wx rb ⟨r1.s, r1.bad || fl⟩) ∧ Hid (Blk wx xb #[.int .i64 0, .int .u64 0, .int .i64 0, .int .i64 0, .bool false] 157) ∧ Hid (Kept (· = rb) w wx))
      case atStart => exact ⟨0, fun _ => 0, false, rfl, rfl, HB0, HN3, HQ3, by rw [Bool.or_false]; exact HR3, HX3, HK3⟩
      case round =>
        obtain ⟨k, v, fl, hk, rfl, HM, HN, HQ, HRr, HXr, HK⟩ := hrel
        by_cases hlt : k < 4
        · have hlt' : (k : Int) < 4 := by omega
          obtain ⟨s, hs⟩ : ∃ s, ([a, b, c, d, e] : List (List UInt8))[k]? = some s := ⟨_, List.getElem?_eq_getElem (by simp; omega)⟩
          have hcs : wr.cell? ⟨qb, k, none⟩ = some (S s) := by
            rw [HQ.out.cell]
            simp only [List.getElem?_toArray, List.getElem?_map, hs]
            rfl
          have hsl := HBl.out s (List.mem_of_getElem? hs)
          have Hnum := Lib.hid (number_any s hsl wr (H.out.kept HK.out (fun b e => by rw [e]; exact hg)).has)
          have Hnx := Lib.hid (fun n hn => HM.out.next Hf.out hlt hs (n := n) hn)
          clear hs
          go_wp2_with fail
          refine Hnum.out.mono ?_
          rintro ez w4 ⟨n, rfl, hn, hb4⟩
          have HM4 := Lib.hid (Hnx.out n hn)
          have HN4 := Lib.hid (HN.out.below hb4 HN.out.lt)
          have HQ4 := Lib.hid (HQ.out.below hb4 HQ.out.lt)
          have HR4 := Lib.hid (Blk.below HRr.out hb4 (Blk.lt HRr.out))
          have HX4 := Lib.hid (HXr.out.below hb4 HXr.out.lt)
          have HK4 : Hid (Kept (· = rb) w w4) := HK.out.trans (Kept.of_below hb4)
          have hrn : rb ≠ nb := by have h1 := Hrx.out; have h2 := Hqx.out; have h3 := Hqn.out; omega
          have hxn : xb ≠ nb := by have h2 := Hqx.out; have h3 := Hqn.out; omega
          have hqn : qb ≠ nb := by have h3 := Hqn.out; omega
          have hsz : w.heap.size ≤ nb := by have h2 := Hqx.out; have h3 := Hqn.out; have h4 := Hxb.out; omega
          have hcr := Blk.cell HR4.out
          have hfr := Blk.free HR4.out
          have hcn : w4.cell? ⟨nb, k, none⟩ = some (.int .i64 (v k)) := by rw [HN4.out.cell]; exact four_get v hlt
          have hfn : w4.frozen? ⟨nb, k, none⟩ = false := HN4.out.free k
          have hst : ∀ wq, Blk wq nb #[.int .i64 (v 0), .int .i64 (v 1), .int .i64 (v 2), .int .i64 (v 3)] 201 → Blk (wq.setCell ⟨nb, k, none⟩ (.int .i64 n)) nb #[.int .i64 (updF v k n 0), .int .i64 (updF v k n 1), .int .i64 (updF v k n 2), .int .i64 (updF v k n 3)] 201 := fun wq h => (h.set k _).cells (four_set v hlt n)
          have Hst := Lib.hid hst
          clear hb4 hn Hnx Hnum hcs hst
          cases hns : (numW s).isSome with
          | true =>
            rw [hns] at HM4
            have HN5 := Lib.hid (Hst.out w4 HN4.out)
            have HQ5 : Hid (Blk (w4.setCell ⟨nb, k, none⟩ (.int .i64 n)) qb (List.map S [a, b, c, d, e]).toArray 9) := HQ4.out.set_other (a := ⟨nb, k, none⟩) (Ne.symm hqn) _
            have HR5 : Hid (RdW (w4.setCell ⟨nb, k, none⟩ (.int .i64 n)) rb ⟨r1.s, r1.bad || (fl || !true)⟩) := by
              have := Blk.set_other (a := ⟨nb, k, none⟩) HR4.out (Ne.symm hrn) (.int .i64 n)
              rw [Bool.not_true, Bool.or_false]
              exact this
            have HX5 : Hid (Blk (w4.setCell ⟨nb, k, none⟩ (.int .i64 n)) xb #[.int .i64 0, .int .u64 0, .int .i64 0, .int .i64 0, .bool false] 157) := HX4.out.set_other (a := ⟨nb, k, none⟩) (Ne.symm hxn) _
            have HK5 : Hid (Kept (· = rb) w (w4.setCell ⟨nb, k, none⟩ (.int .i64 n))) := HK4.out.setNew nb k _ hsz
            clear hns
            go_wp2_with fail
            go_roundg (4 - (k + 1))
            case measure => omega
            case rel => exact ⟨k + 1, updF v k n, fl || !true, by omega, by go_num, HM4, HN5, HQ5, HR5, HX5, HK5⟩
          | false =>
            rw [hns] at HM4
            have HN5 : Hid (Blk ((w4.setCell ⟨rb, 1, none⟩ (.bool true)).setCell ⟨nb, k, none⟩ (.int .i64 n)) nb #[.int .i64 (updF v k n 0), .int .i64 (updF v k n 1), .int .i64 (updF v k n 2), .int .i64 (updF v k n 3)] 201) := Hst.out _ (HN4.out.set_other (a := ⟨rb, 1, none⟩) hrn _)
            have HQ5 : Hid (Blk ((w4.setCell ⟨rb, 1, none⟩ (.bool true)).setCell ⟨nb, k, none⟩ (.int .i64 n)) qb (List.map S [a, b, c, d, e]).toArray 9) := (HQ4.out.set_other (a := ⟨rb, 1, none⟩) (by have h1 := Hrx.out; have h2 := Hqx.out; show rb ≠ qb; omega) _).set_other (a := ⟨nb, k, none⟩) (Ne.symm hqn) _
            have HR5 : Hid (RdW ((w4.setCell ⟨rb, 1, none⟩ (.bool true)).setCell ⟨nb, k, none⟩ (.int .i64 n)) rb ⟨r1.s, r1.bad || (fl || !false)⟩) := by
              have h1 : Blk (w4.setCell ⟨rb, 1, none⟩ (.bool true)) rb #[S r1.s, .bool true] 122 := (Blk.set HR4.out 1 (.bool true)).cells rfl
              have := Blk.set_other (a := ⟨nb, k, none⟩) h1 (Ne.symm hrn) (.int .i64 n)
              rw [Bool.not_false, Bool.or_true, Bool.or_true]
              exact this
            have HX5 : Hid (Blk ((w4.setCell ⟨rb, 1, none⟩ (.bool true)).setCell ⟨nb, k, none⟩ (.int .i64 n)) xb #[.int .i64 0, .int .u64 0, .int .i64 0, .int .i64 0, .bool false] 157) := (HX4.out.set_other (a := ⟨rb, 1, none⟩) (by have h1 := Hrx.out; show rb ≠ xb; omega) _).set_other (a := ⟨nb, k, none⟩) (Ne.symm hxn) _
            have HK5 : Hid (Kept (· = rb) w ((w4.setCell ⟨rb, 1, none⟩ (.bool true)).setCell ⟨nb, k, none⟩ (.int .i64 n))) := (HK4.out.setIn rb 1 _ rfl).setNew nb k _ hsz
            clear hns
            go_wp2_with fail
            go_roundg (4 - (k + 1))
            case measure => omega
            case rel => exact ⟨k + 1, updF v k n, fl || !false, by omega, by go_num, HM4, HN5, HQ5, HR5, HX5, HK5⟩
        · obtain rfl : k = 4 := by omega
          obtain ⟨z1, z2⟩ := HM.out.fin Hf.out he
          have Z1 := Lib.hid z1; have Z2 := Lib.hid z2
          have hrx : xb ≠ rb := by have h1 := Hrx.out; omega
          have hnx : nb ≠ xb := by have h2 := Hqx.out; have h3 := Hqn.out; omega
          have hqx : qb ≠ xb := by have h2 := Hqx.out; omega
          have HSS : Hid (∀ w', Kept (· = xb) wr.drew w' → (w'.cell? ⟨nb, 0, none⟩ = some (.int .i64 (v 0)) ∧ w'.cell? ⟨nb, 1, none⟩ = some (.int .i64 (v 1)) ∧ w'.cell? ⟨nb, 2, none⟩ = some (.int .i64 (v 2)) ∧ w'.cell? ⟨nb, 3, none⟩ = some (.int .i64 (v 3)) ∧ w'.cell? ⟨qb, 4, none⟩ = some (S e))) := fun w' k => by
            have h1 := (Blk.drew HN.out).below' k hnx
            have h2 := (Blk.drew HQ.out).below' k hqx
            exact ⟨h1.cell 0, h1.cell 1, h1.cell 2, h1.cell 3, h2.cell 4⟩
          have cx0 := (Blk.drew HXr.out).cell 0
          have fx0 := (Blk.drew HXr.out).free 0
          have cx1 := (Blk.drew HXr.out).cell 1
          have fx1 := (Blk.drew HXr.out).free 1
          have cx2 := (Blk.drew HXr.out).cell 2
          have fx2 := (Blk.drew HXr.out).free 2
          have cx3 := (Blk.drew HXr.out).cell 3
          have fx3 := (Blk.drew HXr.out).free 3
          have cx4 := (Blk.drew HXr.out).cell 4
          have fx4 := (Blk.drew HXr.out).free 4
          have cy0 := HXr.out.cell 0
          have fy0 := HXr.out.free 0
          have cy1 := HXr.out.cell 1
          have fy1 := HXr.out.free 1
          have cy2 := HXr.out.cell 2
          have fy2 := HXr.out.free 2
          have cy3 := HXr.out.cell 3
          have fy3 := HXr.out.free 3
          have cy4 := HXr.out.cell 4
          have fy4 := HXr.out.free 4
          simp only [List.getElem?_toArray, List.getElem?_cons_zero, List.getElem?_cons_succ] at cx0 cx1 cx2 cx3 cx4 cy0 cy1 cy2 cy3 cy4
          have HRf : Hid (RdW (World.drew (((((wr.setCell ⟨xb, 0, none⟩ (.int .i64 (v 0))).setCell ⟨xb, 1, none⟩ (.int .u64 (IntKind.u64.wrap (v 1)))).setCell ⟨xb, 2, none⟩ (.int .i64 (v 2))).setCell ⟨xb, 3, none⟩ (.int .i64 (v 3))).setCell ⟨xb, 4, none⟩ (.bool (e == [119])))) rb r.one.1) := by
            rw [HE.out, Z1.out]
            have h1 := ((((Blk.set_other (a := ⟨xb, 0, none⟩) HRr.out hrx (.int .i64 (v 0))).set_other (a := ⟨xb, 1, none⟩) hrx (.int .u64 (IntKind.u64.wrap (v 1)))).set_other (a := ⟨xb, 2, none⟩) hrx (.int .i64 (v 2))).set_other (a := ⟨xb, 3, none⟩) hrx (.int .i64 (v 3))).set_other (a := ⟨xb, 4, none⟩) hrx (.bool (e == [119]))
            cases fl with
            | false => show RdW _ rb r1; exact Blk.drew (h1.cells (by simp))
            | true => show RdW _ rb r1.fail; exact Blk.drew (h1.cells (by simp [Rd.fail]))
          have HXf : Hid (Blk (World.drew (((((wr.setCell ⟨xb, 0, none⟩ (.int .i64 (v 0))).setCell ⟨xb, 1, none⟩ (.int .u64 (IntKind.u64.wrap (v 1)))).setCell ⟨xb, 2, none⟩ (.int .i64 (v 2))).setCell ⟨xb, 3, none⟩ (.int .i64 (v 3))).setCell ⟨xb, 4, none⟩ (.bool (e == [119])))) xb #[.int .i64 (v 0), .int .u64 (IntKind.u64.wrap (v 1)), .int .i64 (v 2), .int .i64 (v 3), .bool (e == [119])] 157) := Blk.drew ((((((HXr.out.set 0 _).set 1 _).set 2 _).set 3 _).set 4 _).cells rfl)
          have HKf : Hid (Kept (· = rb) w (World.drew (((((wr.setCell ⟨xb, 0, none⟩ (.int .i64 (v 0))).setCell ⟨xb, 1, none⟩ (.int .u64 (IntKind.u64.wrap (v 1)))).setCell ⟨xb, 2, none⟩ (.int .i64 (v 2))).setCell ⟨xb, 3, none⟩ (.int .i64 (v 3))).setCell ⟨xb, 4, none⟩ (.bool (e == [119]))))) := Kept.drew (((((HK.out.setNew xb 0 _ (Nat.le_of_eq Hxb.out.symm)).setNew xb 1 _ (Nat.le_of_eq Hxb.out.symm)).setNew xb 2 _ (Nat.le_of_eq Hxb.out.symm)).setNew xb 3 _ (Nat.le_of_eq Hxb.out.symm)).setNew xb 4 _ (Nat.le_of_eq Hxb.out.symm))
          have HMm : Hid (r.one.1.bad = false → (⟨v 0, IntKind.u64.wrap (v 1), v 2, v 3, e == [119]⟩ : WMap) = r.one.2) := fun hbad => by
            rw [HE.out, Z1.out] at hbad
            have hfl : fl = false := by
              cases fl with
              | false => rfl
              | true => simp [Rd.fail] at hbad
            have h2 := Z2.out hfl
            rw [HE.out, h2]
            obtain ⟨y, hy, ey⟩ := HM.out.good hfl 1 b (by omega) rfl
            have hy31 := numW_lt hy
            have hw : IntKind.u64.wrap (v 1) = v 1 := by rw [ey]; exact IntWalk.u64_in _ (by omega)
            rw [hw]
            show (⟨v 0, v 1, v 2, v 3, e == [119]⟩ : WMap) = ⟨v 0, v 1, v 2, v 3, decide (e = [119])⟩
            congr 1
            by_cases h : e = [119] <;> simp [h]
          obtain ⟨n0, n1, n2, n3, n4⟩ := HSS.out _ (Kept.refl _ _)
          clear z1 z2 HN HQ HRr HXr HK he
          go_wp2_with fail
          go_region
          (try simp only [Exit.then])
          go_wp2_with fail
          refine bodyPost_ret (results_cell_row rfl _ _ xb _ _ (0, 0) _ rfl HXf.out Tryz.underlying157 rfl (by kernel_rfl)) rfl ?_
          exact ⟨⟨v 0, IntKind.u64.wrap (v 1), v 2, v 3, e == [119]⟩, rfl, HMm.out, HRf.out, HKf.out⟩
    · have hbe : (e == [114]) = false ∧ (e == [119]) = false := ⟨by simp; exact fun h => he (.inl h), by simp; exact fun h => he (.inr h)⟩
      obtain ⟨he1, he2⟩ := hbe
      have Hm := Lib.hid (mapOf_how Hf.out (fun h => he (.inl h)) (fun h => he (.inr h)))
      have c4 : w2.cell? ⟨qb, 4, none⟩ = some (S e) := by rw [hcq 4]; rfl
      clear he
      go_wp2_with fail
      refine bodyPost_ret (results_cell_row rfl _ _ xb _ _ (0, 0) _ rfl HFin.out Tryz.underlying157 rfl (by kernel_rfl)) rfl ?_
      obtain ⟨z1, z2⟩ := HEnd.out Hm.out
      exact ⟨map0, rfl, (fun e => by rw [z2] at e; cases e), z1, HKe.out⟩
  · have h5b : ((f.length : Int) != 5) = true := by simp; omega
    have Hm := Lib.hid (Hno.out h5)
    clear h5
    go_wp2_with fail
    refine bodyPost_ret (results_cell_row rfl _ _ xb _ _ (0, 0) _ rfl HFin.out Tryz.underlying157 rfl (by kernel_rfl)) rfl ?_
    obtain ⟨z1, z2⟩ := HEnd.out Hm.out
    exact ⟨map0, rfl, (fun e => by rw [z2] at e; cases e), z1, HKe.out⟩
end Go.Proofs.YtjjnidbggoaonaaGreatDoor
