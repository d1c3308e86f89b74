/- The reader's bytes in base 16. -/
import Derived.Test.YtjjnidbggoaonaaGreatDoorWoH
import Derived.Test.YtjjnidbggoaonaaGreatDoorWoC
import Derived.Test.YtjjnidbggoaonaaGreatDoorZaB
import Derived.Test.YtjjnidbggoaonaaGreatDoorShelfC
import Derived.Shelf.Strings.OnBuilder
namespace Go.Proofs.YtjjnidbggoaonaaGreatDoor
open Go.RowKit
attribute [local irreducible] World.setCell World.alloc World.drew Calls Code.wp
attribute [local go_sem] Oper.semAt_some

theorem neq_err {w : World} (ty : TypeId) (p : Value) : (binOp .neq 92 (.iface ty p) .nilIface).run Tryz.prog w = .ok (.bool true) w := run_neq_held_nil _ _ _ _ (by kernel_rfl)
theorem neq_nil {w : World} : (binOp .neq 92 .nilIface .nilIface).run Tryz.prog w = .ok (.bool false) w := run_neq_nil_nil _ _ (by kernel_rfl)
/-- A number, or an error. -/
def Pu2E (o : Option Nat) (v : Value) : Prop := (∃ x, o = some x ∧ x < 256 ∧ v = .tuple #[.int .u64 (x : Nat), .nilIface]) ∨ (o = none ∧ ∃ y t b, v = .tuple #[.int .u64 y, .iface t (.pointer (some ⟨b, 0, none⟩))])
set_option maxRecDepth 100000 in
set_option maxHeartbeats 1000000 in
theorem pu2_any (a b : UInt8) (w : World) (h : HasWo w) :
    Calls Tryz.prog 103 #[S [a, b], .int .i64 16, .int .i64 8] w fun e w' => ∃ v, e = .returned v ∧ Pu2E (pu2 a b) v ∧ Below w.heap.size w w' := by
  have Hin := Lib.hid (pu2_in a b w)
  have H := Lib.hid h
  clear h
  go_enter Tryz.func103, Tryz.ntmps103
  go_wp2_with fail
  refine Hin.out.mono ?_
  rintro e w1 ⟨v, rfl, hv, hb1⟩
  have HB := Lib.hid hb1; clear hb1
  obtain ⟨ev', hv', he'⟩ := (H.out.es.below HB.out)
  have Hv' := Lib.hid hv'; have He' := Lib.hid he'
  clear hv' he'
  rcases hv with ⟨x, h1, h2, rfl⟩ | ⟨h1, rfl⟩
  · have H1 := Lib.hid h1; have H2 := Lib.hid h2
    clear h1 h2
    go_wp2_with fail
    go_ret2
    exact ⟨_, rfl, .inl ⟨x, H1.out, H2.out, rfl⟩, HB.out⟩
  · have H1 := Lib.hid h1
    clear h1
    go_wp2_with fail
    refine (Any.strconv_toError_syntax Tryz.laysC245 _ ⟨[a, b].toArray⟩ 16 8 ev' _ (by rw [sz]; show 2 ≤ _; decide) Hv'.out He'.out).mono ?_
    rintro _ w2 ⟨M, rfl, _, _, hb⟩
    have HB2 := Lib.hid (bel_from HB.out hb); clear hb
    go_wp2_with fail
    go_ret2
    exact ⟨_, rfl, .inr ⟨H1.out, _, _, _, rfl⟩, HB2.out⟩
theorem lower_any (l : List UInt8) (hl : l.length ≤ 100000) (ha : ∀ c ∈ l, c.toNat < 128) (w : World) :
    Calls Tryz.prog 131 #[S l] w fun e w' => e = .returned (S (Lib.toLowerA l)) ∧ Below w.heap.size w w' := by
  refine (Any.strings_ToLower_ascii Tryz.lays159 Tryz.Builder_Extra_159 ⟨l.toArray⟩ w (by rw [sz]; omega) (fun j b h => ha b (List.mem_of_getElem? (by simpa using h)))).mono ?_
  rintro e w' ⟨rfl, hb⟩
  rw [dl]
  exact ⟨rfl, hb⟩
theorem dgt_lower (c : UInt8) : (hexD1 c = dgt c ∧ Lib.lowerB c = c) ∨ (hexD1 c = none ∧ (dgt c = none ∨ Lib.lowerB c ≠ c)) := by
  have h : ∀ n, n < 256 → (fun c : UInt8 => (hexD1 c = dgt c ∧ Lib.lowerB c = c) ∨ (hexD1 c = none ∧ (dgt c = none ∨ Lib.lowerB c ≠ c))) (UInt8.ofNat n) := by decide +kernel
  have := h c.toNat c.toNat_lt
  rwa [UInt8.ofNat_toNat] at this
theorem dgt_ascii {c : UInt8} {x : Nat} (h : dgt c = some x) : c.toNat < 128 := by
  have hh : ∀ n, n < 256 → (fun c : UInt8 => (dgt c).isSome = true → c.toNat < 128) (UInt8.ofNat n) := by decide +kernel
  have := hh c.toNat c.toNat_lt
  rw [UInt8.ofNat_toNat] at this
  exact this (by rw [h]; rfl)
theorem pu2_ascii {a b : UInt8} {x : Nat} (h : pu2 a b = some x) : ∀ c ∈ [a, b], c.toNat < 128 := by
  unfold pu2 at h
  split at h
  · rename_i h1 h2
    intro c hc
    simp at hc
    rcases hc with rfl | rfl
    · exact dgt_ascii h1
    · exact dgt_ascii h2
  · cases h
theorem hexOf_two (a b : UInt8) (r : List UInt8) : hexOf (a :: b :: r) = match pu2 a b with
    | some x => if Lib.toLowerA [a, b] = [a, b] then (hexOf r).map (UInt8.ofNat x :: ·) else none
    | none => none := by
  have e : Lib.toLowerA [a, b] = [Lib.lowerB a, Lib.lowerB b] := rfl
  have e2 : hexOf (a :: b :: r) = match hexD1 a, hexD1 b, hexOf r with
    | some x, some y, some l => some (UInt8.ofNat (x * 16 + y) :: l)
    | _, _, _ => none := rfl
  rw [e, e2]
  generalize hexOf r = q
  unfold pu2
  rcases dgt_lower a with ⟨h1, h2⟩ | ⟨h1, h2⟩
  · rcases dgt_lower b with ⟨h3, h4⟩ | ⟨h3, h4⟩
    · rw [h1, h3, h2, h4]
      cases dgt a with
      | none => rfl
      | some x => cases dgt b with
        | none => rfl
        | some y => cases q <;> simp
    · rw [h1, h3]
      rcases h4 with h4 | h4
      · rw [h4]
        cases dgt a <;> rfl
      · have : ¬ [Lib.lowerB a, Lib.lowerB b] = [a, b] := fun e => h4 (by simpa using (List.cons.inj (List.cons.inj e).2).1)
        cases dgt a <;> cases dgt b <;> first | rfl | (simp only [if_neg this]; done) | (simp only [if_neg this]; rfl)
  · rw [h1]
    rcases h2 with h2 | h2
    · rw [h2]
    · have : ¬ [Lib.lowerB a, Lib.lowerB b] = [a, b] := fun e => h2 (List.cons.inj e).1
      cases dgt a <;> cases dgt b <;> first | rfl | (simp only [if_neg this]; done) | (simp only [if_neg this]; rfl)
theorem hex_eq (r : Rd) : r.hex = if r.word.2 = [45] then (r.word.1, []) else (if (hexOf r.word.2).isSome = true then r.word.1 else r.word.1.fail, (hexOf r.word.2).getD []) := by
  unfold Rd.hex
  split
  · rfl
  · cases hexOf r.word.2 <;> rfl
/-- As far as the bytes of a word are told: what is left tells the rest. -/
theorem hexOf_drop {w : List UInt8} {k : Nat} {a b : UInt8} (ha : w[k]? = some a) (hb : w[k + 1]? = some b) : w.drop k = a :: b :: w.drop (k + 2) := by
  obtain ⟨h1, h2⟩ := List.getElem?_eq_some_iff.1 ha
  obtain ⟨h3, h4⟩ := List.getElem?_eq_some_iff.1 hb
  rw [List.drop_eq_getElem_cons h1, List.drop_eq_getElem_cons h3, h2, h4]
theorem hex_go {w : List UInt8} {k : Nat} {a b : UInt8} {D : List UInt8} (ha : w[k]? = some a) (hb : w[k + 1]? = some b) (h : hexOf w = (hexOf (w.drop k)).map (D ++ ·)) :
    (pu2 a b = none → hexOf w = none) ∧ (∀ x, pu2 a b = some x → (Lib.toLowerA [a, b] ≠ [a, b] → hexOf w = none) ∧ (Lib.toLowerA [a, b] = [a, b] → hexOf w = (hexOf (w.drop (k + 2))).map (D ++ [UInt8.ofNat x] ++ ·))) := by
  rw [h, hexOf_drop ha hb, hexOf_two]
  refine ⟨fun e => by rw [e]; rfl, fun x e => ⟨fun n => by rw [e]; simp only [if_neg n]; rfl, fun n => ?_⟩⟩
  rw [e]
  simp only [if_pos n]
  cases hexOf (w.drop (k + 2)) <;> simp
set_option maxRecDepth 100000 in
set_option maxHeartbeats 4000000 in
theorem rhex_any (g0 rb : Nat) (r : Rd) (hl : r.s.length ≤ 100000) (hg : g0 ≤ rb) (w : World) (h : WoIn g0 w) (hR : RdW w rb r) :
    Calls Tryz.prog 89 #[.pointer (some ⟨rb, 0, none⟩)] w fun e w' => ∃ v, e = .returned v ∧ DataIn w' v r.hex.2 ∧ RdW w' rb r.hex.1 ∧ Kept (· = rb) w w' := by
  have H := Lib.hid h
  have Hw := Lib.hid (word_any g0 rb r hl hg w h hR)
  have hwl := (word_len r).1
  have HE := Lib.hid (hex_eq r)
  obtain ⟨⟨r1, W⟩, hrw⟩ : ∃ p, r.word = p := ⟨_, rfl⟩
  rw [hrw] at Hw HE hwl
  simp only at Hw HE hwl
  obtain ⟨i0, hi, hz0, hz1, hz2⟩ := info_parts info5
  have Hi := Lib.hid hi; have Hz0 := Lib.hid hz0; have Hz1 := Lib.hid hz1; have Hz2 := Lib.hid hz2
  clear h hR hrw hi hz0 hz1 hz2
  go_enter Tryz.func89, Tryz.ntmps89
  go_wp2_with fail
  refine Hw.out.mono ?_
  rintro e w1 ⟨rfl, hR1, hk1⟩
  have HR1 := Lib.hid hR1
  have HK1 := Lib.hid hk1
  have H1 := Lib.hid (H.out.kept hk1 (fun b e => by rw [e]; exact hg))
  clear hR1 hk1
  by_cases hm : W = [45]
  · have HF : Hid (r.hex = (r1, [])) := by show _ = _; rw [HE.out, if_pos hm]
    subst hm
    go_wp2_with fail
    go_ret
    exact ⟨_, rfl, by rw [HF.out]; exact RowAt.nil _ _, by rw [HF.out]; exact HR1.out, HK1.out⟩
  have hmb : (W == [45]) = false := by simpa using hm
  have HE2 : Hid (r.hex = (if (hexOf W).isSome = true then r1 else r1.fail, (hexOf W).getD [])) := by show _ = _; rw [HE.out, if_neg hm]
  clear hm HE
  have Hlen : Hid (W.length ≤ 100000) := Nat.le_trans hwl hl
  go_wp2_with fail
  go_loopg [4, 5, 6, 7] W.length (fun g vb vi _ _ wx => ∃ (k : Nat) (D : List UInt8), k + g = W.length ∧ vi = .int .i64 k ∧ Hid (D.length ≤ k ∧ hexOf W = (hexOf (W.drop k)).map (D ++ ·)) ∧ Hid (wx.ownsRow w1.heap.size 5 1 vb D.length (D.map byteV)) ∧ Hid (Below w1.heap.size w1 wx))
  case atStart => exact ⟨0, [], by omega, rfl, Lib.hid ⟨by simp, by simp⟩, Lib.hid (World.ownsRow_nil _ _ _ _), Lib.hid (Below.refl _ _)⟩
  case round =>
    obtain ⟨k, D, hk, rfl, HD, HO, HB⟩ := hrel
    have hkl : k ≤ W.length := by omega
    have hW1 := Hlen.out
    have HRr : Hid (RdW wr rb r1) := Blk.below HR1.out HB.out (Blk.lt HR1.out)
    have HKr : Hid (Kept (· = rb) w wr) := HK1.out.trans (Kept.of_below HB.out)
    have hcr := Blk.cell HRr.out
    have hfr := Blk.free HRr.out
    by_cases hkn : k < W.length
    · have hkn' : (k : Int) < W.length := by omega
      obtain ⟨a, ha⟩ : ∃ a, W[k]? = some a := ⟨_, List.getElem?_eq_getElem hkn⟩
      by_cases hk2 : k + 2 ≤ W.length
      · obtain ⟨b, hb⟩ : ∃ b, W[k + 1]? = some b := ⟨_, List.getElem?_eq_getElem (by omega)⟩
        have hk2' : (k : Int) + 2 ≤ W.length := by omega
        obtain ⟨hn1, hn2⟩ := hex_go ha hb HD.out.2
        have hex1 : (⟨W.toArray⟩ : ByteArray).extract k (k + 2) = ⟨[a, b].toArray⟩ := by
          apply ByteArray.ext
          simp only [ByteArray.data_extract]
          apply Array.ext'
          simp only [Array.toList_extract, List.extract_eq_take_drop]
          rw [hexOf_drop ha hb]
          simp
        have Hpu := Lib.hid (fun w h => pu2_any a b w h)
        have Hlo := Lib.hid (fun ha w => lower_any [a, b] (by simp) ha w)
        have Has : Hid (∀ x, pu2 a b = some x → ∀ c ∈ [a, b], c.toNat < 128) := fun x h => pu2_ascii h
        have Hn1 := Lib.hid hn1; have Hn2 := Lib.hid hn2
        clear hn1 hn2 ha hb
        go_wp2_with fail
        refine (Hpu.out _ (H1.out.kept (Kept.of_below HB.out) (S := fun _ => False) (fun b e => e.elim)).has).mono ?_
        rintro e w2 ⟨v, rfl, hv, hb2⟩
        have HB2 := Lib.hid (bel_from HB.out hb2)
        have HR2 : Hid (RdW w2 rb r1) := Blk.below HR1.out HB2.out (Blk.lt HR1.out)
        have HK2 : Hid (Kept (· = rb) w w2) := HK1.out.trans (Kept.of_below HB2.out)
        have HO2 := Lib.hid (row_kept HO.out (T := fun _ => False) (Kept.of_below hb2) (fun _ _ h => h))
        have hcr2 := Blk.cell HR2.out
        have hfr2 := Blk.free HR2.out
        clear hb2 hcr hfr HRr HKr
        rcases hv with ⟨x, h1, h2, rfl⟩ | ⟨h1, y, t, pb, rfl⟩
        · have hx : UInt8.ofNat x = UInt8.ofNat x := rfl
          have Hx2 : Hid ((UInt8.ofNat x).toNat = x) := by show _ = _; simp; omega
          obtain ⟨hlow, hlow2⟩ := Hn2.out x h1
          have Hlo2 := Lib.hid (Hlo.out (Has.out x h1))
          have hnn := fun w => neq_nil (w := w)
          obtain ⟨L, hL⟩ : ∃ L, Lib.toLowerA [a, b] = L := ⟨_, rfl⟩
          rw [hL] at Hlo2 hlow hlow2
          clear h1 hx hL Hn1 Hn2 Hlo Has Hpu
          by_cases hLe : L = [a, b]
          · have HNx := Lib.hid (hlow2 hLe)
            have Hlo3 : Hid (∀ w, Calls Tryz.prog 131 #[.string ((⟨W.toArray⟩ : ByteArray).extract k (k + 2))] w fun e w' => ∃ v, e = .returned v ∧ (v = S L ∧ Below w.heap.size w w')) := by
              intro w
              rw [hex1]
              exact (Hlo2.out w).mono fun e w' h => ⟨_, h.1, rfl, h.2⟩
            have Hsz := Lib.hid HB2.out.size
            clear hlow hlow2
            subst hLe
            have hw2 : IntKind.i64.wrap ((k : Int) + 2) = (k : Int) + 2 := IntWalk.i64_in _ (by omega)
            have htn : ((k : Int) + 2).toNat = k + 2 := by omega
            have hp0 : (0 : Int) ≤ (k : Int) := by omega
            have hp2 : (0 : Int) ≤ (k : Int) + 2 := by omega
            have hpk : (k : Int) ≤ (k : Int) + 2 := by omega
            go_wp2_with fail
            go_region_held3 (fun _ => True) (first | trivial | exact trivial) (first
              | (refine (Hlo2.out _).mono ?_; rintro e w3 ⟨rfl, hb3⟩))
            have HB3 := Lib.hid (bel_from HB2.out.drew hb3)
            have HO3 := Lib.hid (row_kept HO2.out (T := fun _ => False) ((Kept.refl _ w2).drew.trans (Kept.of_below hb3)) (fun _ _ h => h))
            clear hb3
            have hsz3 := HB3.out.size
            have hwx : IntKind.u8.wrap (x : Int) = (x : Int) := by rw [IntKind.wrap_u8]; omega
            have hxm : (x : Int) % 256 = (x : Int) := by omega
            have hDk := HD.out.1
            go_wp2_with (at_builtin; refine wpList_append_own _ rfl _ _ 27 rfl w1.heap.size 5 i0 (.int .u8 0) 1 1 Tryz.underlying27 Hi.out Hz0.out Hz1.out Hz2.out rfl (by decide) _ _ _ rfl (HO3.out.alloc _) ⟨w3.heap.size, 0, none⟩ 1 1 [.int .u8 (x : Int)] rfl rfl (cell_one_new' _ _ _) (fun u hu => by simp at hu; subst hu; rfl) (by unfold maxLen; omega) (by omega) (by simp; omega) ?_; intro v' w6 hown6 hgrow6 _)
            have HB6 : Hid (Below w1.heap.size w1 w6) := (HB3.out.alloc HB3.out.size _).grown hgrow6 (by simp; omega) (fun k hk => (HO3.out.lt k hk).1)
            have HO6 : Hid (w6.ownsRow w1.heap.size 5 1 v' (D ++ [UInt8.ofNat x]).length ((D ++ [UInt8.ofNat x]).map byteV)) := by
              show World.ownsRow _ _ _ _ _ _ _
              rw [List.length_append, List.map_append]
              have : [UInt8.ofNat x].map byteV = [.int .u8 (x : Int)] := by show [byteV _] = _; unfold byteV; rw [Hx2.out]
              rw [this]
              exact hown6
            clear hown6 hgrow6
            go_wp2_with fail
            go_roundg (W.length - (k + 2))
            case measure => omega
            case rel => exact ⟨k + 2, D ++ [UInt8.ofNat x], by omega, by go_num, Lib.hid ⟨by simp; omega, HNx.out⟩, HO6, HB6⟩
          · have HNx := Lib.hid (hlow hLe)
            clear hlow hlow2
            have hw2 : IntKind.i64.wrap ((k : Int) + 2) = (k : Int) + 2 := IntWalk.i64_in _ (by omega)
            have htn : ((k : Int) + 2).toNat = k + 2 := by omega
            have hp0 : (0 : Int) ≤ (k : Int) := by omega
            have hp2 : (0 : Int) ≤ (k : Int) + 2 := by omega
            have hpk : (k : Int) ≤ (k : Int) + 2 := by omega
            have HF : Hid (r.hex = (r1.fail, [])) := by show _ = _; rw [HE2.out, HNx.out]; rfl
            have hLb : (L == [a, b]) = false := by simpa using hLe
            clear hLe
            go_wp2_with fail
            go_region_held3 (fun _ => True) (first | trivial | exact trivial) (first
              | (refine (Hlo2.out _).mono ?_; rintro e w3 ⟨rfl, hb3⟩))
            have HB3 := Lib.hid (bel_from HB2.out.drew hb3)
            have HR3 : Hid (RdW w3 rb r1) := Blk.below HR1.out HB3.out (Blk.lt HR1.out)
            have HK3 : Hid (Kept (· = rb) w w3) := HK1.out.trans (Kept.of_below HB3.out)
            have hcr3 := Blk.cell HR3.out
            have hfr3 := Blk.free HR3.out
            clear hb3 hcr2 hfr2
            go_wp2_with fail
            go_ret
            exact ⟨_, rfl, by rw [HF.out]; exact RowAt.nil _ _, by rw [HF.out]; exact (Blk.set HR3.out 1 (.bool true)).cells rfl, HK3.out.setIn rb 1 _ rfl⟩
        · have HN := Lib.hid (Hn1.out h1)
          have hnn := fun w => neq_err (w := w) t (.pointer (some ⟨pb, 0, none⟩))
          have HF : Hid (r.hex = (r1.fail, [])) := by show _ = _; rw [HE2.out, HN.out]; rfl
          clear h1 Hn1 Hn2 Hlo Has Hpu
          go_wp2_with fail
          go_region
          go_wp2_with fail
          go_ret
          exact ⟨_, rfl, by rw [HF.out]; exact RowAt.nil _ _, by rw [HF.out]; exact ((Blk.set HR2.out 1 (.bool true)).cells rfl : Blk _ _ _ _).drew, (HK2.out.setIn rb 1 _ rfl).drew⟩
      · have hk1 : W.length < (k : Int) + 2 := by omega
        have HN : Hid (hexOf W = none) := by
          show _ = _
          rw [HD.out.2, show W.drop k = [a] from ?_]
          · rfl
          · obtain ⟨h1, h2⟩ := List.getElem?_eq_some_iff.1 ha
            rw [List.drop_eq_getElem_cons h1, h2, List.drop_eq_nil_of_le (by omega)]
        have HF : Hid (r.hex = (r1.fail, [])) := by show _ = _; rw [HE2.out, HN.out]; rfl
        clear ha
        go_wp2_with fail
        go_ret
        exact ⟨_, rfl, by rw [HF.out]; exact RowAt.nil _ _, by rw [HF.out]; exact (Blk.set HRr.out 1 (.bool true)).cells rfl, HKr.out.setIn rb 1 _ rfl⟩
    · obtain rfl : k = W.length := by omega
      have HF : Hid (r.hex = (r1, D)) := by show _ = _; rw [HE2.out, HD.out.2, List.drop_length]; simp [hexOf]
      clear hk
      go_wp2_with fail
      go_ret
      exact ⟨_, rfl, by rw [HF.out]; have := RowAt.own HO.out; unfold DataIn; exact this, by rw [HF.out]; exact HRr.out, HKr.out⟩
end Go.Proofs.YtjjnidbggoaonaaGreatDoor
