/- glacislaw25.WorldBlanks: the walk. -/
import Derived.Test.YtjjnidbggoaonaaGreatDoorWoBk
import Derived.Test.YtjjnidbggoaonaaGreatDoorZaB
namespace Go.Proofs.YtjjnidbggoaonaaGreatDoor
open Go.RowKit
theorem idx_SP (l : List UInt8) (i : Nat) (c : UInt8) (h : l[i]? = some c) (w : World) : (Instr.index 9 (S l) (.int .i64 (i : Int))).run Tryz.prog w = .ok (.int .u8 (c.toNat : Int)) w := by
  obtain ⟨hi, hc⟩ := List.getElem?_eq_some_iff.1 h
  rw [run_index_string _ _ _ _ _ Tryz.underlying9, dif_pos ⟨by omega, by rw [sz]; omega⟩]
  have : (⟨l.toArray⟩ : ByteArray)[((i : Nat) : Int).toNat]'(by rw [sz]; omega) = c := by
    show l.toArray[((i : Nat) : Int).toNat]'_ = c
    simp [hc]
  rw [this]
theorem sl_SP (l : List UInt8) (i : Nat) (c : UInt8) (h : l[i]? = some c) (w : World) : (Instr.slice 9 (S l) (some (.int .i64 (i : Int))) (some (.int .i64 ((i : Int) + 1))) none).run Tryz.prog w = .ok (S [c]) w := by
  obtain ⟨hi, hc⟩ := List.getElem?_eq_some_iff.1 h
  rw [run_slice_string w 9 ⟨l.toArray⟩ .i64 .i64 _ _ Tryz.underlying9 (by omega) (by omega) (by rw [sz]; omega)]
  have : (⟨l.toArray⟩ : ByteArray).extract ((i : Nat) : Int).toNat (((i : Nat) : Int) + 1).toNat = ⟨[c].toArray⟩ := by
    apply ByteArray.ext
    rw [ByteArray.data_extract]
    apply Array.ext
    · simp; omega
    · intro k h1 h2
      simp at h2
      subst h2
      simp [hc]
  rw [this]
theorem sumP {P : Program} (l m : List UInt8) (h : l.length + m.length ≤ 9223372036854775807) : ∃ q, Hid (q = l ++ m) ∧ q.length = l.length + m.length ∧ ∀ w, (Op.stringOp .add ⟨l.toArray⟩ ⟨m.toArray⟩).run P w = .ok (S q) w :=
  ⟨_, rfl, by simp, run_saddP l m h⟩
theorem gap_len (q : Nat) (h : q < 4) : (gapL q).length ≤ 7 := by
  obtain rfl | rfl | rfl | rfl : q = 0 ∨ q = 1 ∨ q = 2 ∨ q = 3 := by omega
  all_goals decide
/-- How wide the k-th gap is made. -/
def howL (n : Nat) (xs : Nat → Int) : List Nat := (List.range n).map fun j => (xs j % 4).toNat
theorem how_drop {n m : Nat} {xs : Nat → Int} (h : m < n) : (howL n xs).drop m = (xs m % 4).toNat :: (howL n xs).drop (m + 1) := by
  have hl : m < (howL n xs).length := by simp [howL, h]
  rw [List.drop_eq_getElem_cons hl]
  simp [howL]
theorem how_end {n m : Nat} {xs : Nat → Int} (h : n ≤ m) : (howL n xs).drop m = [] := List.drop_eq_nil_of_le (by simp [howL, h])
theorem spread_same {hs : List Nat} {b : Bool} {c : UInt8} {r D : List UInt8} (h : hs = [] ∨ inB b c = true ∨ (c ≠ 32 ∧ c ≠ 10)) : D ++ spread hs b (c :: r) = (D ++ [c]) ++ spread hs (inB b c) r := by
  rw [spread, if_pos h, List.append_assoc]; rfl
theorem spread_gap {k : Nat} {hs : List Nat} {b : Bool} {c : UInt8} {r D : List UInt8} (h1 : inB b c = false) (h2 : c = 32 ∨ c = 10) : D ++ spread (k :: hs) b (c :: r) = ((D ++ [c]) ++ (if c = 32 then List.replicate k 32 else gapL k)) ++ spread hs (inB b c) r := by
  rw [spread, if_neg (by rw [h1]; rcases h2 with h | h <;> simp [h]), List.append_assoc, List.append_assoc]; rfl
attribute [local irreducible] World.setCell World.alloc World.drew World.setRow Calls Code.wp
attribute [local go_sem] Oper.semAt_some
set_option maxRecDepth 100000 in
set_option maxHeartbeats 8000000 in
theorem blanks25_walk (p : WPlan) (v : Value) (a1 : Option Addr) (len1 cap1 : Nat) (z : List Int) (w : World) (h : PlanIn w v p) (hbd : p.bd) (hz : IsRow .i64 w a1 len1 cap1 z) (hwo : HasWo w) :
    Calls Tryz.prog 11 #[v, .slice a1 len1 cap1] w fun e w' => e = .returned (.bool true) ∧ Below w.heap.size w w' := by
  obtain ⟨b2, off2, xs, hix2, hcell2, hblt2, hmax2, -⟩ := row_open (P := Tryz.prog) (T := 40) Tryz.underlying40 (fun w => by kernel_rfl) hz
  clear hz
  have HC2 := Lib.hid (fun (w' : World) (hb : Below w.heap.size w w') (j : Nat) (hj : j < len1) => (show w'.cell? ⟨b2, off2 + j, none⟩ = some (.int .i64 (xs j)) by
    rw [hb.cell (p := ⟨b2, off2 + j, none⟩) (hblt2 (by omega))]; exact hcell2 j hj))
  have HIX2 := Lib.hid hix2
  clear hcell2 hblt2 hix2
  unfold maxLen at hmax2
  obtain ⟨sv, lv, Q, rfl, hS, hL0⟩ := h
  obtain ⟨sa, sc, rfl, -, -⟩ := hS.form
  obtain ⟨h1, la, lc, rfl, hc1, hc2, h4⟩ := hL0
  have hP : PlanIn w (.agg #[.int .i64 p.cores, .int .i64 p.frames, .int .i64 p.names, .slice sa p.slots.length sc, .slice la p.l.length lc]) p := ⟨_, _, Q, rfl, hS, h1, la, lc, rfl, hc1, hc2, h4⟩
  clear h1 h4 hS
  obtain ⟨w1, hw1⟩ : ∃ w1 : World, w1 = w.alloc (.cells #[.int .i64 p.cores, .int .i64 p.frames, .int .i64 p.names, .slice sa p.slots.length sc, .slice la p.l.length lc] 54) := ⟨_, rfl⟩
  obtain ⟨xb, hxb⟩ : ∃ xb, xb = w.heap.size := ⟨_, rfl⟩
  have HX : Hid (Blk w1 xb #[.int .i64 p.cores, .int .i64 p.frames, .int .i64 p.names, .slice sa p.slots.length sc, .slice la p.l.length lc] 54) := by rw [hw1, hxb]; exact Blk.new _ _ _
  have HB1 : Hid (Below w.heap.size w w1) := by rw [hw1]; exact (Below.refl _ w).alloc (Nat.le_refl _) _
  have HP := Lib.hid (fun w' (k : Below w.heap.size w w') => hP.below k (Nat.le_refl _))
  have HW := Lib.hid (fun w' (k : Below w.heap.size w w') => hwo.below k)
  have Hlt : Hid (xb < w1.heap.size) := HX.out.lt
  have HF := Lib.hid (fit25_any w1 (HW.out w1 HB1.out))
  clear hP hwo
  go_enter Tryz.func11, Tryz.ntmps11
  go_upto_region 1 with fail
  rw [← hw1, ← hxb]
  clear hw1 hxb
  go_wp2_with fail
  refine HF.out.mono ?_
  rintro e w2 ⟨rfl, hb2⟩
  have HB2 := Lib.hid (bel_from HB1.out hb2)
  have HX2 := Lib.hid (HX.out.below hb2 Hlt.out)
  have hc2' := HX2.out.cell
  have HL := Lib.hid (light_any p _ w2 (HP.out w2 HB2.out) hbd)
  have Hlt2 : Hid (xb < w2.heap.size) := HX2.out.lt
  clear HB1 HX HF Hlt hb2
  go_wp2_with fail
  refine HL.out.mono ?_
  rintro e w3 ⟨rfl, hb3⟩
  have HB3 := Lib.hid (bel_from HB2.out hb3)
  have HX3 := Lib.hid (HX2.out.below hb3 Hlt2.out)
  have hc3' := HX3.out.cell
  clear HX2 HB2 HL Hlt2 hb3 hc2'
  by_cases hw8 : p.weight ≤ 3000
  case neg =>
    rw [decide_eq_false hw8]
    go_wp2_with fail
    go_ret
    exact ⟨rfl, HB3.out⟩
  have HW8 := Lib.hid hw8
  rw [decide_eq_true hw8]
  clear hw8
  have HCf := Lib.hid (config_any p _ w3 (HP.out w3 HB3.out) hbd HW8.out)
  have Hlt3 : Hid (xb < w3.heap.size) := HX3.out.lt
  go_wp2_with fail
  refine HCf.out.mono ?_
  rintro e w4 ⟨ca, cl, cc, oa, ol, oc, rfl, hcf, hb4⟩
  have HB4 := Lib.hid (bel_from HB3.out hb4)
  have HX4 := Lib.hid (HX3.out.below hb4 Hlt3.out)
  have HRt := Lib.hid (cfg_right_any _ _ w4 hcf (plan_bd hbd HW8.out))
  have hc4' := HX4.out.cell
  have Hlt4 : Hid (xb < w4.heap.size) := HX4.out.lt
  clear hcf hb4 HB3 HX3 HCf Hlt3 hc3'
  go_wp2_with fail
  refine HRt.out.mono ?_
  rintro e w5 ⟨rfl, hb5⟩
  have HB5 := Lib.hid (bel_from HB4.out hb5)
  have HX5 := Lib.hid (HX4.out.below hb5 Hlt4.out)
  have hc5' := HX5.out.cell
  have Hlt5 : Hid (xb < w5.heap.size) := HX5.out.lt
  clear HRt hb5 HB4 HX4 Hlt4 hc4'
  by_cases hr : p.cfg.right = true
  case neg =>
    rw [Bool.not_eq_true] at hr
    rw [hr]
    go_wp2_with fail
    go_ret
    exact ⟨rfl, HB5.out⟩
  rw [hr]
  have hwf := plan_wf hbd
  have Hok : Hid p.cfg.ok := cfg_ok hwf hr
  have Hr : Hid (p.cfg.right = true) := hr
  have hdat := plan_data p HW8.out
  have htx := plan_text hwf HW8.out hr
  have Hprn : Hid p.cfg.prn := prn_ok Hok.out hr (by omega)
  have Hen : Hid p.cfg.en := enc_ok Hok.out hr (by omega)
  have Htl : Hid ((printT p.cfg).length ≤ 65009) := htx
  have HCf := Lib.hid (config_any p _ w5 (HP.out w5 HB5.out) hbd HW8.out)
  clear hr htx hdat hwf
  go_wp2_with fail
  refine HCf.out.mono ?_
  rintro e w6 ⟨ca2, cl2, cc2, oa2, ol2, oc2, rfl, hcf, hb6⟩
  have HB6 := Lib.hid (bel_from HB5.out hb6)
  have HX6 := Lib.hid (HX5.out.below hb6 Hlt5.out)
  have Hpr := Lib.hid (print_any p.cfg _ w6 hcf Hprn.out (HW.out w6 HB6.out).base.pow (HW.out w6 HB6.out).base.sp)
  have Hlt6 : Hid (xb < w6.heap.size) := HX6.out.lt
  clear HCf hb6 hcf HB5 HX5 Hlt5 hc5'
  go_wp2_with fail
  refine Hpr.out.mono ?_
  rintro e w7 ⟨rfl, hb7⟩
  have HB7 := Lib.hid (bel_from HB6.out hb7)
  have HX7 := Lib.hid (HX6.out.below hb7 Hlt6.out)
  have Hlt7 : Hid (xb < w7.heap.size) := HX7.out.lt
  clear Hpr HB6 HX6 Hlt6 hb7
  obtain ⟨T, hT⟩ : ∃ T, T = printT p.cfg := ⟨_, rfl⟩
  obtain ⟨n, hn⟩ : ∃ n, n = T.length := ⟨_, rfl⟩
  have htl := Htl.out
  rw [← hT] at htl
  rw [← hn] at htl
  rw [← hT]
  have HT := Lib.hid hT
  have Hnl := Lib.hid hn
  have hln : T.length = n := hn.symm
  clear hT hn
  go_wp2_with fail
  go_loopg [6, 7, 8, 9, 28] n (fun g vt vin vk _ vi wx => ∃ (i m : Nat) (D : List UInt8) (b : Bool), i + g = n ∧ vt = S D ∧ vin = .bool b ∧ vk = .int .i64 m ∧ vi = .int .i64 i ∧ m ≤ i ∧ D.length ≤ 8 * i ∧ Hid (D ++ spread ((howL len1 xs).drop m) b (T.drop i) = spread (howL len1 xs) false T) ∧ Hid (Below w7.heap.size w7 wx))
  case atStart => exact ⟨0, 0, [], false, by omega, rfl, rfl, rfl, rfl, Nat.le_refl _, Nat.zero_le _, Lib.hid rfl, Lib.hid (Below.refl _ w7)⟩
  case round =>
    obtain ⟨i, m, D, b, hi, rfl, rfl, rfl, rfl, hmi, hDl, HD, HBr⟩ := hrel
    by_cases hin : i < n
    · have hin' : (i : Int) < n := by omega
      obtain ⟨c, hc⟩ : ∃ c, T[i]? = some c := ⟨_, List.getElem?_eq_getElem (by omega)⟩
      have hix := idx_SP T i c hc
      have hsl := sl_SP T i c hc
      have hdr : Hid (T.drop i = c :: T.drop (i + 1)) := by show _ = _; exact drop_at hc
      obtain ⟨B1, hB1⟩ : ∃ B1, inB b c = B1 := ⟨_, rfl⟩
      have HB1 := Lib.hid hB1
      obtain ⟨q, hq⟩ : ∃ q : Int, q = (c.toNat : Int) := ⟨_, rfl⟩
      have HQ : Hid (∀ k : UInt8, c = k ↔ q = (k.toNat : Int)) := fun k => by
        rw [hq]
        exact ⟨fun e => by rw [e], fun e => UInt8.toNat_inj.1 (by omega)⟩
      rw [← hq] at hix
      obtain ⟨D1, HD1, hl1, hs1⟩ := sumP (P := Tryz.prog) D [c] (by simp only [List.length_singleton]; omega)
      rw [List.length_singleton] at hl1
      have wi : IntKind.i64.wrap ((i : Int) + 1) = (i : Int) + 1 := IntWalk.i64_in _ (by omega)
      have wm : IntKind.i64.wrap ((m : Int) + 1) = (m : Int) + 1 := IntWalk.i64_in _ (by omega)
      clear hB1 hc hq
      go_upto_region 10 with fail
      go_cut [7] (fun v7 wx => v7 = .bool B1 ∧ wr = wx)
      case first =>
        cases b with
        | true =>
          by_cases h125 : q = 125
          · have Hd : Hid (B1 = false) := by show _ = _; rw [← HB1.out, (HQ.out 125).2 h125]; rfl
            go_wp2_with fail
            go_meet
            exact ⟨by rw [Hd.out], rfl⟩
          · have Hd : Hid (B1 = true) := by
              show _ = _
              have : c ≠ 125 := fun e => h125 ((HQ.out 125).1 e)
              rw [← HB1.out]; simp [inB, this]
            go_wp2_with fail
            go_meet
            exact ⟨by rw [Hd.out]; exact congrArg Value.bool (by simp [h125]), rfl⟩
        | false =>
          by_cases h123 : q = 123
          · have Hd : Hid (B1 = true) := by show _ = _; rw [← HB1.out, (HQ.out 123).2 h123]; rfl
            have h125 : ¬ q = 125 := by omega
            go_wp2_with fail
            go_meet
            exact ⟨by rw [Hd.out], rfl⟩
          · have Hd : Hid (B1 = false) := by
              show _ = _
              have : c ≠ 123 := fun e => h123 ((HQ.out 123).1 e)
              rw [← HB1.out]; simp [inB, this]
            go_wp2_with fail
            go_meet
            exact ⟨by rw [Hd.out], rfl⟩
      case rest =>
      obtain ⟨rfl, rfl⟩ := hcut
      by_cases hml : len1 ≤ m
      · have hml' : (len1 : Int) ≤ m := by omega
        have HDn : Hid (D1 ++ spread ((howL len1 xs).drop m) B1 (T.drop (i + 1)) = spread (howL len1 xs) false T) := by
          show _ = _
          rw [← HD.out, hdr.out, ← HB1.out, HD1.out, spread_same (.inl (how_end hml))]
        go_wp2_with fail
        go_roundg (n - (i + 1))
        case measure => omega
        case rel => exact ⟨i + 1, m, D1, B1, by omega, rfl, rfl, rfl, by go_num, by omega, by omega, HDn, HBr⟩
      have hml' : ¬ (len1 : Int) ≤ m := by omega
      cases hB1 : B1 with
      | true =>
        have HDn : Hid (D1 ++ spread ((howL len1 xs).drop m) true (T.drop (i + 1)) = spread (howL len1 xs) false T) := by
          show _ = _
          rw [← HD.out, hdr.out, HD1.out, spread_same (.inr (.inl (HB1.out.trans hB1))), HB1.out, hB1]
        go_wp2_with fail
        go_roundg (n - (i + 1))
        case measure => omega
        case rel => exact ⟨i + 1, m, D1, true, by omega, rfl, rfl, rfl, by go_num, by omega, by omega, HDn, HBr⟩
      | false =>
        have HBf : Hid (inB b c = false) := by show _ = _; rw [HB1.out, hB1]
        by_cases h32 : q = 32
        · obtain ⟨e0, e1⟩ : c = 32 ∧ m < len1 := ⟨(HQ.out 32).2 h32, by omega⟩
          have q5 := HC2.out _ (bel_from HB7.out HBr.out) m e1
          have hix2i := fun w => HIX2.out m e1 w
          simp only [Nat.mul_one] at hix2i
          have ha := and3 (xs m)
          obtain ⟨k, hk⟩ : ∃ k : Nat, xs m % 4 = (k : Int) := ⟨(xs m % 4).toNat, by omega⟩
          rw [hk] at ha
          have HDg : Hid ((D1 ++ (List.replicate k (32 : UInt8))) ++ spread ((howL len1 xs).drop (m + 1)) false (T.drop (i + 1)) = spread (howL len1 xs) false T) := by
            show _ = _
            rw [← HD.out, hdr.out, HD1.out, how_drop e1, hk, Int.toNat_natCast, spread_gap HBf.out (.inl e0), HBf.out, if_pos e0]
          have hk4 : k < 4 := by omega
          have hml2 : (m : Int) < len1 := by omega
          clear hk e0
          obtain rfl | rfl | rfl | rfl : k = 0 ∨ k = 1 ∨ k = 2 ∨ k = 3 := by omega
          · have HDn : Hid ((D1 ++ []) ++ spread ((howL len1 xs).drop (m + 1)) false (T.drop (i + 1)) = spread (howL len1 xs) false T) := HDg.out
            have hl2 : (D1 ++ ([] : List UInt8)).length ≤ 8 * (i + 1) := by simp only [List.length_append, List.length_nil]; omega
            go_wp2_with fail
            go_roundg (n - (i + 1))
            case measure => omega
            case rel => exact ⟨i + 1, m + 1, D1 ++ [], false, by omega, by first | rfl | (rw [List.append_nil]; done) | (exact congrArg Value.string (by apply ByteArray.ext; simp [ByteArray.data_extract])), rfl, by go_num, by go_num, by omega, hl2, HDn, HBr⟩
          · have HDn : Hid ((D1 ++ [32]) ++ spread ((howL len1 xs).drop (m + 1)) false (T.drop (i + 1)) = spread (howL len1 xs) false T) := HDg.out
            have hl2 : (D1 ++ ([32] : List UInt8)).length ≤ 8 * (i + 1) := by simp only [List.length_append, List.length_cons, List.length_nil]; omega
            go_wp2_with fail
            go_roundg (n - (i + 1))
            case measure => omega
            case rel => exact ⟨i + 1, m + 1, D1 ++ [32], false, by omega, by first | rfl | (rw [List.append_nil]; done) | (exact congrArg Value.string (by apply ByteArray.ext; simp [ByteArray.data_extract])), rfl, by go_num, by go_num, by omega, hl2, HDn, HBr⟩
          · have HDn : Hid ((D1 ++ [32, 32]) ++ spread ((howL len1 xs).drop (m + 1)) false (T.drop (i + 1)) = spread (howL len1 xs) false T) := HDg.out
            have hl2 : (D1 ++ ([32, 32] : List UInt8)).length ≤ 8 * (i + 1) := by simp only [List.length_append, List.length_cons, List.length_nil]; omega
            go_wp2_with fail
            go_roundg (n - (i + 1))
            case measure => omega
            case rel => exact ⟨i + 1, m + 1, D1 ++ [32, 32], false, by omega, by first | rfl | (rw [List.append_nil]; done) | (exact congrArg Value.string (by apply ByteArray.ext; simp [ByteArray.data_extract])), rfl, by go_num, by go_num, by omega, hl2, HDn, HBr⟩
          · have HDn : Hid ((D1 ++ [32, 32, 32]) ++ spread ((howL len1 xs).drop (m + 1)) false (T.drop (i + 1)) = spread (howL len1 xs) false T) := HDg.out
            have hl2 : (D1 ++ ([32, 32, 32] : List UInt8)).length ≤ 8 * (i + 1) := by simp only [List.length_append, List.length_cons, List.length_nil]; omega
            go_wp2_with fail
            go_roundg (n - (i + 1))
            case measure => omega
            case rel => exact ⟨i + 1, m + 1, D1 ++ [32, 32, 32], false, by omega, by first | rfl | (rw [List.append_nil]; done) | (exact congrArg Value.string (by apply ByteArray.ext; simp [ByteArray.data_extract])), rfl, by go_num, by go_num, by omega, hl2, HDn, HBr⟩
        · by_cases h10 : q = 10
          · obtain ⟨e0, e1⟩ : c = 10 ∧ m < len1 := ⟨(HQ.out 10).2 h10, by omega⟩
            have q5 := fun o => HC2.out _ ((bel_from HB7.out HBr.out).alloc (Nat.le_trans HB7.out.size HBr.out.size) o) m e1
            have hix2i := fun w => HIX2.out m e1 w
            simp only [Nat.mul_one] at hix2i
            have ha := and3 (xs m)
            obtain ⟨k, hk⟩ : ∃ k : Nat, xs m % 4 = (k : Int) := ⟨(xs m % 4).toNat, by omega⟩
            rw [hk] at ha
            have HDg : Hid ((D1 ++ (gapL k)) ++ spread ((howL len1 xs).drop (m + 1)) false (T.drop (i + 1)) = spread (howL len1 xs) false T) := by
              show _ = _
              rw [← HD.out, hdr.out, HD1.out, how_drop e1, hk, Int.toNat_natCast, spread_gap HBf.out (.inr e0), HBf.out, if_neg (by rw [e0]; decide)]
            have hk4 : k < 4 := by omega
            have hml2 : (m : Int) < len1 := by omega
            clear hk e0
            obtain rfl | rfl | rfl | rfl : k = 0 ∨ k = 1 ∨ k = 2 ∨ k = 3 := by omega
            · have HDn : Hid ((D1 ++ []) ++ spread ((howL len1 xs).drop (m + 1)) false (T.drop (i + 1)) = spread (howL len1 xs) false T) := HDg.out
              have hl2 : (D1 ++ ([] : List UInt8)).length ≤ 8 * (i + 1) := by simp only [List.length_append, List.length_nil]; omega
              go_wp2_with fail
              go_roundg (n - (i + 1))
              case measure => omega
              case rel => exact ⟨i + 1, m + 1, D1 ++ [], false, by omega, by first | rfl | (rw [List.append_nil]; done) | (exact congrArg Value.string (by apply ByteArray.ext; simp)), rfl, by go_num, by go_num, by omega, hl2, HDn, (HBr.out.alloc HBr.out.size _)⟩
            · have HDn : Hid ((D1 ++ [10]) ++ spread ((howL len1 xs).drop (m + 1)) false (T.drop (i + 1)) = spread (howL len1 xs) false T) := HDg.out
              have hl2 : (D1 ++ ([10] : List UInt8)).length ≤ 8 * (i + 1) := by simp only [List.length_append, List.length_cons, List.length_nil]; omega
              go_wp2_with fail
              go_roundg (n - (i + 1))
              case measure => omega
              case rel => exact ⟨i + 1, m + 1, D1 ++ [10], false, by omega, by first | rfl | (rw [List.append_nil]; done) | (exact congrArg Value.string (by apply ByteArray.ext; simp)), rfl, by go_num, by go_num, by omega, hl2, HDn, (HBr.out.alloc HBr.out.size _)⟩
            · have HDn : Hid ((D1 ++ [35, 32, 115, 108, 111, 116, 10]) ++ spread ((howL len1 xs).drop (m + 1)) false (T.drop (i + 1)) = spread (howL len1 xs) false T) := HDg.out
              have hl2 : (D1 ++ ([35, 32, 115, 108, 111, 116, 10] : List UInt8)).length ≤ 8 * (i + 1) := by simp only [List.length_append, List.length_cons, List.length_nil]; omega
              go_wp2_with fail
              go_roundg (n - (i + 1))
              case measure => omega
              case rel => exact ⟨i + 1, m + 1, D1 ++ [35, 32, 115, 108, 111, 116, 10], false, by omega, by first | rfl | (rw [List.append_nil]; done) | (exact congrArg Value.string (by apply ByteArray.ext; simp)), rfl, by go_num, by go_num, by omega, hl2, HDn, (HBr.out.alloc HBr.out.size _)⟩
            · have HDn : Hid ((D1 ++ [32, 32]) ++ spread ((howL len1 xs).drop (m + 1)) false (T.drop (i + 1)) = spread (howL len1 xs) false T) := HDg.out
              have hl2 : (D1 ++ ([32, 32] : List UInt8)).length ≤ 8 * (i + 1) := by simp only [List.length_append, List.length_cons, List.length_nil]; omega
              go_wp2_with fail
              go_roundg (n - (i + 1))
              case measure => omega
              case rel => exact ⟨i + 1, m + 1, D1 ++ [32, 32], false, by omega, by first | rfl | (rw [List.append_nil]; done) | (exact congrArg Value.string (by apply ByteArray.ext; simp)), rfl, by go_num, by go_num, by omega, hl2, HDn, (HBr.out.alloc HBr.out.size _)⟩
          · have HDn : Hid (D1 ++ spread ((howL len1 xs).drop m) false (T.drop (i + 1)) = spread (howL len1 xs) false T) := by
              show _ = _
              rw [← HD.out, hdr.out, HD1.out, spread_same (.inr (.inr ⟨fun e => h32 ((HQ.out 32).1 e), fun e => h10 ((HQ.out 10).1 e)⟩)), HBf.out]
            go_wp2_with fail
            go_roundg (n - (i + 1))
            case measure => omega
            case rel => exact ⟨i + 1, m, D1, false, by omega, rfl, rfl, rfl, by go_num, by omega, by omega, HDn, HBr⟩
            exfalso
            rcases ‹(q != 32) = false ∨ (q != 10) = false› with h | h
            · exact h32 (by simpa using h)
            · exact h10 (by simpa using h)
    · obtain rfl : i = n := by omega
      have HDE : Hid (D = spread (howL len1 xs) false T) := by
        have h1 := HD.out
        have h2 : T.drop i = [] := List.drop_eq_nil_of_le (by omega)
        have h3 : ∀ hs b, spread hs b [] = [] := fun hs b => by unfold spread; rfl
        rw [h2, h3, List.append_nil] at h1
        exact h1
      have HBw := Lib.hid (bel_from HB7.out HBr.out)
      have HXr := Lib.hid (HX7.out.below HBr.out Hlt7.out)
      have Hltr : Hid (xb < wr.heap.size) := HXr.out.lt
      have Hpa := Lib.hid (parse_any D (by omega) wr (HW.out wr HBw.out))
      obtain ⟨N, hN⟩ : ∃ N, D.length = N := ⟨_, rfl⟩
      have hNl : N ≤ 8 * 65009 := by omega
      have Hbk : Hid (N ≤ 65536 → parseC D = some p.cfg) := fun hle => by
        rw [HDE.out, HT.out]
        exact blanks_all (plan_wf hbd) Hr.out _ (by rw [← HT.out, ← HDE.out, hN]; exact hle)
      clear HD hDl
      go_wp2_with fail
      refine Hpa.out.mono ?_
      rintro e w8 ⟨hb8, hcase⟩
      have HB8 := Lib.hid (bel_from HBw.out hb8)
      have HX8 := Lib.hid (HXr.out.below hb8 Hltr.out)
      have Hlt8 : Hid (xb < w8.heap.size) := HX8.out.lt
      clear Hpa HXr Hltr HBw
      by_cases hlong : 65536 < N
      · have hlong' : (65536 : Int) < N := by omega
        rcases hcase with ⟨-, rfl⟩ | ⟨c, x1, y1, z1, sa2, sl2, sc2, oa3, ol3, oc3, -, rfl, -⟩
        · have HBa : Hid (Below w.heap.size w (w8.alloc (.cells #[.int .i64 0, .int .i64 0, .int .i64 0, .slice none 0 0, .slice none 0 0] 57))) := HB8.out.alloc HB8.out.size _
          obtain ⟨wd, hwd⟩ : ∃ wd : World, wd = w8.alloc (.cells #[.int .i64 0, .int .i64 0, .int .i64 0, .slice none 0 0, .slice none 0 0] 57) := ⟨_, rfl⟩
          rw [← hwd] at HBa
          go_upto_region 19 with fail
          rw [← hwd]
          clear hwd
          go_region
          all_goals
            go_wp2_with fail
            go_ret
            exact ⟨rfl, HBa.out.drew⟩
        · have HBa : Hid (Below w.heap.size w (w8.alloc (.cells #[.int .i64 x1, .int .i64 y1, .int .i64 z1, .slice sa2 sl2 sc2, .slice oa3 ol3 oc3] 57))) := HB8.out.alloc HB8.out.size _
          obtain ⟨wd, hwd⟩ : ∃ wd : World, wd = w8.alloc (.cells #[.int .i64 x1, .int .i64 y1, .int .i64 z1, .slice sa2 sl2 sc2, .slice oa3 ol3 oc3] 57) := ⟨_, rfl⟩
          rw [← hwd] at HBa
          go_upto_region 19 with fail
          rw [← hwd]
          clear hwd
          go_region
          all_goals
            go_wp2_with fail
            go_ret
            exact ⟨rfl, HBa.out.drew⟩
      have hlong' : ¬ (65536 : Int) < N := by omega
      have hpc := Hbk.out (by omega)
      rcases hcase with ⟨hn, -⟩ | ⟨c, x1, y1, z1, sa2, sl2, sc2, oa3, ol3, oc3, hc, rfl, hv⟩
      · exact absurd (hn.symm.trans hpc) (by simp)
      obtain rfl : c = p.cfg := Option.some.inj (hc.symm.trans hpc)
      clear hc hpc Hbk
      obtain ⟨wd, hwd⟩ : ∃ wd : World, wd = w8.alloc (.cells #[.int .i64 x1, .int .i64 y1, .int .i64 z1, .slice sa2 sl2 sc2, .slice oa3 ol3 oc3] 57) := ⟨_, rfl⟩
      obtain ⟨yd, hyd⟩ : ∃ yd, yd = w8.heap.size := ⟨_, rfl⟩
      have HD : Hid (Blk wd yd #[.int .i64 x1, .int .i64 y1, .int .i64 z1, .slice sa2 sl2 sc2, .slice oa3 ol3 oc3] 57) := by rw [hwd, hyd]; exact Blk.new _ _ _
      have HBd8 : Hid (Below w8.heap.size w8 wd) := by rw [hwd]; exact (Below.refl _ w8).alloc (Nat.le_refl _) _
      have HBd := Lib.hid (bel_from HB8.out HBd8.out).drew
      have HXd := Lib.hid (Blk.drew (HX8.out.below HBd8.out Hlt8.out))
      have HDd := Lib.hid (Blk.drew HD.out)
      have HDI := Lib.hid ((hv.below HBd8.out (Nat.le_refl _)).below ((Below.refl wd.heap.size wd).drew) (Nat.le_refl _))
      have hcx := HXd.out.cell
      have hcd := HDd.out.cell
      have HCf : Hid (Calls Tryz.prog 23 #[.agg #[.int .i64 p.cores, .int .i64 p.frames, .int .i64 p.names, .slice sa p.slots.length sc, .slice la p.l.length lc]] wd.drew fun e w' => ∃ u, e = .returned u ∧ (CfgIn w' u p.cfg ∧ ∃ ca cl cc oa ol oc, u = .agg #[.int .i64 p.cores, .int .i64 p.frames, .int .i64 p.names, .slice ca cl cc, .slice oa ol oc]) ∧ Below wd.drew.heap.size wd.drew w') :=
        (config_any p _ wd.drew (HP.out _ HBd.out) hbd HW8.out).mono fun e w' ⟨a, b, c, d, e', f, h1, h2, h3⟩ => ⟨_, h1, ⟨h2, a, b, c, d, e', f, rfl⟩, h3⟩
      have Hltx : Hid (xb < wd.drew.heap.size) := HXd.out.lt
      have Hltd : Hid (yd < wd.drew.heap.size) := HDd.out.lt
      clear HB8 HX8 Hlt8 hb8 hv HD HBd8 hlong
      go_upto_region 19 with fail
      rw [← hwd, ← hyd]
      clear hwd hyd
      first
      | go_region_law (first
        | (refine step_callG (by rfl) (ex_call (vs := #[.agg #[.int .i64 p.cores, .int .i64 p.frames, .int .i64 p.names, .slice sa p.slots.length sc, .slice la p.l.length lc]]) (by simp [Act.eval]) (enters_fn Tryz.func23 (by kernel_rfl) rfl)) (HCf.out) ?_; rintro v w9 ⟨⟨hci, ca, cl, cc, oa, ol, oc, rfl⟩, hb9⟩; have hcd9 := (HDd.out.below hb9 Hltd.out).cell; have hcx9 := (HXd.out.below hb9 Hltx.out).cell)
        | (refine step_callG (by rfl) (ex_call (vs := #[.agg #[.int .i64 x1, .int .i64 y1, .int .i64 z1, .slice sa2 sl2 sc2, .slice oa3 ol3 oc3], .agg #[.int .i64 p.cores, .int .i64 p.frames, .int .i64 p.names, .slice ca cl cc, .slice oa ol oc]]) (by simp [Act.eval]) (enters_fn Tryz.func27 (by kernel_rfl) rfl)) (R := fun v w' => v = .bool true ∧ Below w9.heap.size w9 w') ((alike_any _ _ _ _ w9 (HDI.out.below hb9 (Nat.le_refl _)) hci Hen.out Hen.out).mono (fun e w' h => ⟨_, h.1, by rw [beq_self_eq_true], h.2⟩)) ?_; rintro v wf ⟨rfl, hbf⟩))
      | fail
      all_goals
        go_wp2_with fail
        go_ret
        exact ⟨rfl, bel_from HBd.out (bel_from hb9 hbf)⟩
theorem blanks_law (v : Value) (a : Option Addr) (len cap : Nat) (z : List Int) (W : World) (hv : ∃ q : WPlan, PlanIn W v q ∧ q.bd) (hz : IsRow .i64 W a len cap z) (h : HasWo W) :
    Calls Tryz.prog 11 #[v, .slice a len cap] W fun e W' => e = .returned (.bool true) ∧ Below W.heap.size W W' := by
  obtain ⟨q, h1, h2⟩ := hv
  exact blanks25_walk q v a len cap z W h1 h2 hz h
end Go.Proofs.YtjjnidbggoaonaaGreatDoor
