/- A line of a text is read: read. -/
import Derived.Test.YtjjnidbggoaonaaGreatDoorAsFa
namespace Go.Proofs.YtjjnidbggoaonaaGreatDoor
open Go.RowKit
attribute [local irreducible] World.setCell World.alloc World.drew Calls Code.wp
attribute [local go_sem] Oper.semAt_some

/-- What read leaves. -/
def ReadPost (w : World) (g0 sb mb : Nat) (s' : ASrc) (Lv : Value) (N : Nat) (w' : World) : Prop :=
  ∃ Lv' ps', SrcAt w' g0 sb mb s' Lv' ps' ∧ ps'.length ≤ N + 1 ∧ Kept (fun b => b = sb ∨ b = mb ∨ Lv.ownBlock = some b) w w'
set_option maxRecDepth 100000 in
set_option maxHeartbeats 8000000 in
theorem read_any (sb mb : Nat) (s : ASrc) (Lv : Value) (ps : List (ALine × Value)) (text : List UInt8) (n at_ : Nat) (hl : text.length ≤ 16384) (hn : ps.length ≤ 20000) (hat : at_ ≤ 1048576) (w : World) (g0 : Nat) (h : SrcAt w g0 sb mb s Lv ps) (hsm : sb ≠ mb) (hgs : g0 ≤ sb) (hgm : g0 ≤ mb) (hia : ∀ t : List UInt8, (∀ c ∈ t, c ∈ text) → t.length ≤ 16384 → IaT t) :
    Calls Tryz.prog 31 #[.pointer (some ⟨sb, 0, none⟩), S text, .int .i64 n, .int .i64 at_] w fun e w' => e = .returned (.int .i64 ((readA s text n at_).2 : Nat)) ∧ ReadPost w g0 sb mb (readA s text n at_).1 Lv ps.length w' := by
  have H := Lib.hid h; have Hia := Lib.hid hia
  have hbl := trimB_len (match cutAt 35 text with | none => text | some (a, _) => a)
  obtain ⟨x0, hx0, hc0⟩ := ix_cases 35 text
  have Hx0 := Lib.hid hx0; have Hc0 := Lib.hid hc0
  have HT : Hid (∃ t0, t0.length ≤ text.length ∧ trimB t0 = bare text ∧ ((cutAt 35 text = none ∧ t0 = text) ∨ ∃ i, cutAt 35 text = some (text.take i, text.drop (i + 1)) ∧ t0 = text.take i)) := by
    rcases hc0 with ⟨_, h2⟩ | ⟨i, _, h2, h3⟩
    · have h2 : cutAt 35 text = none := h2
      exact ⟨text, Nat.le_refl _, by unfold bare; rw [h2], .inl ⟨h2, rfl⟩⟩
    · have h3 : cutAt 35 text = some (text.take i, text.drop (i + 1)) := h3
      exact ⟨text.take i, by simp; omega, by unfold bare; rw [h3], .inr ⟨i, h3, rfl⟩⟩
  obtain ⟨t0, ht0l, ht0, ht0c⟩ := HT.out
  have Ht0 := Lib.hid ht0; have Ht0c := Lib.hid ht0c
  clear h hia hx0 hc0 HT ht0 ht0c hbl
  go_enter Tryz.func31, Tryz.ntmps31
  go_upto_if 23 with (refine (Hx0.out _).mono ?_; rintro e w' ⟨rfl, rfl⟩)
  go_cut [1] (fun s1 wx => s1 = S t0 ∧ wx = w)
  case first =>
    rcases Hc0.out with ⟨h1, h2⟩ | ⟨i, h1, h2, h3⟩
    · have e0 : t0 = text := by
        rcases Ht0c.out with ⟨_, e⟩ | ⟨i, e, _⟩
        · exact e
        · have h2 : cutAt 35 text = none := h2
          rw [h2] at e; cases e
      have hx : ¬ (0 ≤ x0) := by omega
      have E0 := Lib.hid e0
      clear h1 h2 e0
      go_wp2_with fail
      go_meet
      exact ⟨by rw [E0.out], rfl⟩
    · have e0 : t0 = text.take i := by
        have h3 : cutAt 35 text = some (text.take i, text.drop (i + 1)) := h3
        rcases Ht0c.out with ⟨e, _⟩ | ⟨j, e, e2⟩
        · rw [h3] at e; cases e
        · rw [h3] at e
          simp only [Option.some.injEq, Prod.mk.injEq] at e
          rw [e2, ← e.1]
      have E0 := Lib.hid e0
      have hex : (⟨text.toArray⟩ : ByteArray).extract 0 x0.toNat = ⟨(text.take i).toArray⟩ := by rw [show x0.toNat = i by omega]; exact ext_take text i
      have hx : 0 ≤ x0 := by omega
      have hi : x0 ≤ text.length := by omega
      clear h1 h2 h3 e0
      go_wp2_with fail
      go_meet
      exact ⟨by rw [E0.out], rfl⟩
  case rest =>
  obtain ⟨rfl, hwc⟩ := hcut
  obtain rfl : w = wc := hwc.symm
  clear Hx0 Hc0 Ht0c
  obtain ⟨t1, ht1⟩ : ∃ t1, trimB t0 = t1 := ⟨_, rfl⟩
  have Hbk := Lib.hid (fun w => blank_any t0 (by omega) w)
  have ht1l : t1.length ≤ 16384 := by have := trimB_len t0; rw [ht1] at this; omega
  rw [ht1] at Hbk Ht0
  clear ht1 ht0l
  obtain ⟨x1, hx1, hc1⟩ := ix_cases 58 t1
  have Hx1 := Lib.hid hx1; have Hc1 := Lib.hid hc1
  clear hx1 hc1
  go_upto_if 32 with (first | (refine (Hbk.out _).mono ?_; rintro e wb ⟨rfl, hbb⟩) | (refine (Hx1.out _).mono ?_; rintro e w' ⟨rfl, rfl⟩))
  have HSb := Lib.hid (H.out.free (Kept.of_below hbb))
  have HKb : Hid (Kept (fun b => b = sb ∨ b = mb ∨ Lv.ownBlock = some b) w wb) := Kept.of_below hbb
  clear hbb
  obtain ⟨r, hr⟩ : ∃ r, readLabel s t1 n at_ = r := ⟨_, rfl⟩
  have Hr := Lib.hid hr
  clear hr
  go_cut [1, 11, 12, 13] (fun s1 _ _ _ wx => s1 = S r.2 ∧ r.2.length ≤ 16384 ∧ Hid (SrcAt wx g0 sb mb r.1 Lv ps) ∧ Hid (Kept (fun b => b = sb ∨ b = mb ∨ Lv.ownBlock = some b) w wx))
  case first =>
    rcases Hc1.out with ⟨h1, h2⟩ | ⟨i, h1, h2, h3⟩
    · have Er : Hid (r = (s, t1)) := by
        have h2 : cutAt 58 t1 = none := h2
        show _ = _; rw [← Hr.out]; unfold readLabel; rw [h2]
      have hx : ¬ (0 ≤ x1) := by omega
      clear h1 h2
      go_wp2_with fail
      go_meet
      exact ⟨by rw [Er.out], by rw [Er.out]; exact ht1l, by rw [Er.out]; exact HSb, HKb⟩
    · have h3 : cutAt 58 t1 = some (t1.take i, t1.drop (i + 1)) := h3
      obtain ⟨lab, hlab⟩ : ∃ lab, trimB (t1.take i) = lab := ⟨_, rfl⟩
      obtain ⟨t2, ht2⟩ : ∃ t2, trimB (t1.drop (i + 1)) = t2 := ⟨_, rfl⟩
      have hlabl : lab.length ≤ 16384 := by have := trimB_len (t1.take i); rw [hlab] at this; simp at this; omega
      have ht2l : t2.length ≤ 16384 := by have := trimB_len (t1.drop (i + 1)); rw [ht2] at this; simp at this; omega
      obtain ⟨s1, hs1⟩ : ∃ s1, (if (lookL s.labels lab).isSome then s.fail 3 n else if nameB lab then s else s.fail 10 n) = s1 := ⟨_, rfl⟩
      have Er : Hid (r = ({ s1 with labels := putL s1.labels lab at_ }, t2)) := by
        show _ = _; rw [← Hr.out]; unfold readLabel; rw [h3]; simp only [hlab, ht2, hs1]
      have Hs1 := Lib.hid hs1
      have hex1 : (⟨t1.toArray⟩ : ByteArray).extract 0 x1.toNat = ⟨(t1.take i).toArray⟩ := by rw [show x1.toNat = i by omega]; exact ext_take t1 i
      have hex2 : (⟨t1.toArray⟩ : ByteArray).extract (x1 + 1).toNat t1.length = ⟨(t1.drop (i + 1)).toArray⟩ := by rw [show (x1 + 1).toNat = i + 1 by omega]; exact ext_drop t1 (i + 1)
      have hw1 : IntKind.i64.wrap (x1 + 1) = x1 + 1 := IntWalk.i64_in _ (by omega)
      have hx : 0 ≤ x1 := by omega
      have hx' : 0 ≤ x1 + 1 := by omega
      have hi : x1 ≤ t1.length := by omega
      have hi' : x1 + 1 ≤ t1.length := by omega
      have Hbk1 := Lib.hid (fun w => blank_any (t1.take i) (by simp; omega) w)
      have Hbk2 := Lib.hid (fun w => blank_any (t1.drop (i + 1)) (by simp; omega) w)
      rw [hlab] at Hbk1
      rw [ht2] at Hbk2
      clear h1 h2 h3 hs1 hlab ht2
      go_wp2_with fail
      refine (Hbk1.out _).mono ?_
      rintro e w3 ⟨rfl, hb3⟩
      have HS3 := Lib.hid (HSb.out.free (Kept.of_below hb3))
      have HK3 := Lib.hid (HKb.out.trans (Kept.of_below hb3))
      have hs1c : w3.cell? ⟨sb, 1, none⟩ = some (.map (some mb)) := (HS3.out.src.cell 1).trans rfl
      have hlk := HS3.out.mp.run_lookup_ok (P := Tryz.prog) (T := 70) (K := 9) (E := 3) Tryz.underlying70 Tryz.underlying9 zero_int lab
      rw [look_labV] at hlk
      clear hb3
      go_upto_if 46 with fail
      go_cut [11, 12, 13] (fun s11 _ _ wx => s11 = S lab ∧ Hid (SrcAt wx g0 sb mb s1 Lv ps) ∧ Hid (Kept (fun b => b = sb ∨ b = mb ∨ Lv.ownBlock = some b) w wx))
      case first =>
        cases hlo : lookL s.labels lab with
        | some t =>
          have Es : Hid (s1 = s.fail 3 n) := by show _ = _; rw [← Hs1.out, hlo]; rfl
          clear hlk hlo
          go_wp2_with fail
          refine (fail_any sb Lv (.map (some mb)) (s.fk, s.fl) 3 n _ HS3.out.src).mono ?_
          rintro e w4 ⟨rfl, hS4, hK4⟩
          have HS4 := Lib.hid (HS3.out.fault hsm hgs hS4 hK4)
          have HK4 := Lib.hid (HK3.out.trans (hK4.mono (fun _ _ e => .inl e)))
          clear hS4 hK4
          go_wp2_with fail
          go_meet
          exact ⟨rfl, by rw [Es.out]; exact HS4, HK4⟩
        | none =>
          have Hnm := Lib.hid (fun w => name_any lab (by omega) w)
          cases hnb : nameB lab
          · have Es : Hid (s1 = s.fail 10 n) := by show _ = _; rw [← Hs1.out, hlo, hnb]; rfl
            rw [hnb] at Hnm
            clear hlk hlo hnb
            go_wp2_with fail
            refine (Hnm.out _).mono ?_
            rintro e w4 ⟨rfl, hb4⟩
            have HS4 := Lib.hid (HS3.out.free (Kept.of_below hb4))
            have HK4 := Lib.hid (HK3.out.trans (Kept.of_below hb4))
            clear hb4 hs1c
            go_wp2_with fail
            refine (fail_any sb Lv (.map (some mb)) (s.fk, s.fl) 10 n _ HS4.out.src).mono ?_
            rintro e w5 ⟨rfl, hS5, hK5⟩
            have HS5 := Lib.hid (HS4.out.fault hsm hgs hS5 hK5)
            have HK5 := Lib.hid (HK4.out.trans (hK5.mono (fun _ _ e => .inl e)))
            clear hS5 hK5
            go_wp2_with fail
            go_meet
            exact ⟨rfl, by rw [Es.out]; exact HS5, HK5⟩
          · have Es : Hid (s1 = s) := by show _ = _; rw [← Hs1.out, hlo, hnb]; rfl
            rw [hnb] at Hnm
            clear hlk hlo hnb
            go_wp2_with fail
            refine (Hnm.out _).mono ?_
            rintro e w4 ⟨rfl, hb4⟩
            have HS4 := Lib.hid (HS3.out.free (Kept.of_below hb4))
            have HK4 := Lib.hid (HK3.out.trans (Kept.of_below hb4))
            clear hb4 hs1c
            go_wp2_with fail
            go_meet
            exact ⟨rfl, by rw [Es.out]; exact HS4, HK4⟩
      case rest =>
        obtain ⟨rfl, HS5, HK5⟩ := hcut
        clear HS3 HK3 hs1c hlk
        have hs1c : wc.cell? ⟨sb, 1, none⟩ = some (.map (some mb)) := (HS5.out.src.cell 1).trans rfl
        obtain ⟨w6, hup, hM6, hK6⟩ := HS5.out.mp.run_update (P := Tryz.prog) (T := 70) (K := 9) (E := 3) Tryz.underlying70 Tryz.underlying9 lab (.int .i64 (at_ : Nat))
        have HS6 := Lib.hid (HS5.out.label hsm hgm lab at_ hat hM6 hK6)
        have HK6 := Lib.hid (HK5.out.trans (hK6.mono (fun _ _ e => .inr (.inl e))))
        clear hM6 hK6
        go_wp2_with fail
        refine (Hbk2.out _).mono ?_
        rintro e w7 ⟨rfl, hb7⟩
        have HS7 := Lib.hid (HS6.out.free (Kept.of_below hb7))
        have HK7 := Lib.hid (HK6.out.trans (Kept.of_below hb7))
        clear hb7 hup hs1c
        go_wp2_with fail
        go_meet
        exact ⟨by rw [Er.out], by rw [Er.out]; exact ht2l, by rw [Er.out]; exact HS7, HK7⟩
  case rest =>
  obtain ⟨rfl, hr2, HS8, HK8⟩ := hcut
  rename World => w0
  have Hsub : Hid (∀ c ∈ r.2, c ∈ text) := fun c hc => by
    rw [← Hr.out] at hc
    have := label_sub c hc
    rw [Ht0.out] at this
    exact bare_sub c this
  have Hrd : Hid (readA s text n at_ = if r.2 = [] then (r.1, at_) else ({ (lenOf r.1 (wordOf r.2) (argsOf r.2) n).1 with lines := (lenOf r.1 (wordOf r.2) (argsOf r.2) n).1.lines ++ [⟨n, wordOf r.2, argsOf r.2, at_, (lenOf r.1 (wordOf r.2) (argsOf r.2) n).2⟩] }, min (at_ + (lenOf r.1 (wordOf r.2) (argsOf r.2) n).2) 1048576)) := by
    show _ = _
    unfold readA
    rw [← Ht0.out, Hr.out]
  clear Hr Ht0 Hc1 Hx1 HSb HKb
  obtain ⟨s2, t2⟩ := r
  simp only at hr2 HS8 Hsub Hrd ⊢
  by_cases ht : t2 = []
  · have Hf : Hid (readA s text n at_ = (s2, at_)) := by show _ = _; rw [Hrd.out, if_pos ht]
    subst ht
    go_wp2_with fail
    go_ret
    exact ⟨by rw [Hf.out]; rfl, by rw [Hf.out]; exact ⟨Lv, ps, HS8.out, by omega, HK8.out⟩⟩
  have htb : (t2 == []) = false := by simpa using ht
  obtain ⟨q, hq⟩ : ∃ q, lenOf s2 (wordOf t2) (argsOf t2) n = q := ⟨_, rfl⟩
  have Hf : Hid (readA s text n at_ = ({ q.1 with lines := q.1.lines ++ [⟨n, wordOf t2, argsOf t2, at_, q.2⟩] }, min (at_ + q.2) 1048576)) := by show _ = _; rw [Hrd.out, if_neg ht, hq]
  have Hq := Lib.hid hq
  have Hi2 := Lib.hid (Hia.out t2 Hsub.out hr2)
  clear ht hq Hrd Hsub Hia
  obtain ⟨x2, hx2⟩ : ∃ x2, Lib.indexAny t2 [32, 9] = x2 := ⟨_, rfl⟩
  have hic := ia_cases t2
  rw [hx2] at hic
  have Hic := Lib.hid hic
  have Hi3 : Hid (∀ w, Calls Tryz.prog 64 #[S t2, S [32, 9]] w fun e w' => e = .returned (.int .i64 x2) ∧ Below w.heap.size w w') := fun w => by rw [← hx2]; exact Hi2.out w
  clear hx2 hic Hi2
  obtain ⟨lb, hlb⟩ : ∃ lb, lb = w0.heap.size := ⟨_, rfl⟩
  have HNa : Hid (Blk (w0.alloc (.cells #[.int .i64 n, S t2, .slice none 0 0, .int .i64 at_, .int .i64 1] 77)) lb #[.int .i64 n, S t2, .slice none 0 0, .int .i64 at_, .int .i64 1] 77) := by rw [hlb]; exact Blk.new _ _ _
  have HBa : Hid (Below w0.heap.size w0 (w0.alloc (.cells #[.int .i64 n, S t2, .slice none 0 0, .int .i64 at_, .int .i64 1] 77))) := (Below.refl _ _).alloc (Nat.le_refl _) _
  go_upto_if 77 with (refine (Hi3.out _).mono ?_; rintro e w10 ⟨rfl, hb10⟩)
  have HN10 := Lib.hid (HNa.out.below hb10 HNa.out.lt)
  have HB10 := Lib.hid (bel_from HBa.out hb10)
  rw [← hlb]
  have Hlb := Lib.hid hlb
  clear hb10 hlb HNa HBa Hi3
  go_cut [15, 16, 17] (fun _ _ _ wx => ∃ A, Hid (Blk wx lb #[.int .i64 n, S (wordOf t2), A, .int .i64 at_, .int .i64 1] 77) ∧ Hid (wx.ownsRow (lb + 1) 9 1 A (argsOf t2).length ((argsOf t2).map S)) ∧ Hid (Below w0.heap.size w0 wx))
  case first =>
    rcases Hic.out with ⟨h1, h2, h3⟩ | ⟨i, h1, h2, h3, h4⟩
    · have hx : ¬ (0 ≤ x2) := by omega
      have H2 := Lib.hid h2; have H3 := Lib.hid h3
      clear h1 h2 h3
      go_wp2_with fail
      go_meet
      exact ⟨.slice none 0 0, by rw [H2.out]; exact HN10, by rw [H3.out]; exact World.ownsRow_nil _ _ _ _, HB10⟩
    · have hex1 : (⟨t2.toArray⟩ : ByteArray).extract 0 x2.toNat = ⟨(t2.take i).toArray⟩ := by rw [show x2.toNat = i by omega]; exact ext_take t2 i
      have hex2 : (⟨t2.toArray⟩ : ByteArray).extract x2.toNat t2.length = ⟨(t2.drop i).toArray⟩ := by rw [show x2.toNat = i by omega]; exact ext_drop t2 i
      have hx : 0 ≤ x2 := by omega
      have hi : x2 ≤ t2.length := by omega
      have hdl : (t2.drop i).length ≤ 16384 := by simp; omega
      obtain ⟨D, hD⟩ : ∃ D, t2.drop i = D := ⟨_, rfl⟩
      rw [hD] at hex2 h4 hdl
      have H3 := Lib.hid h3; have H4 := Lib.hid h4
      have hPl := partsAt_len 44 D
      have hPe := partsAt_each 44 D
      have HSp := Lib.hid (fun w hm => split_any 44 D (by omega) w hm)
      obtain ⟨P, hP⟩ : ∃ P, partsAt 44 D = P := ⟨_, rfl⟩
      rw [hP] at HSp H4 hPl hPe
      have hPb : P.length ≤ 20000 := by omega
      have HPe : Hid (∀ p ∈ P, p.length ≤ 16384) := fun p hp => Nat.le_trans (hPe p hp) hdl
      have hc1 : w10.cell? ⟨lb, 1, none⟩ = some (S t2) := (HN10.out.cell 1).trans rfl
      have hf1 : w10.frozen? ⟨lb, 1, none⟩ = false := HN10.out.free 1
      have HN11 : Hid (Blk (w10.setCell ⟨lb, 1, none⟩ (S (t2.take i))) lb #[.int .i64 n, S (t2.take i), .slice none 0 0, .int .i64 at_, .int .i64 1] 77) := (HN10.out.set 1 _).cells (by rfl)
      have HB11 : Hid (Below w0.heap.size w0 (w10.setCell ⟨lb, 1, none⟩ (S (t2.take i)))) := HB10.out.setCell (p := ⟨lb, 1, none⟩) (Nat.le_of_eq Hlb.out.symm) _
      have Hmx : Hid (HasMax (w10.setCell ⟨lb, 1, none⟩ (S (t2.take i)))) := HS8.out.has.has.mx.below HB11.out
      clear h1 h2 h3 h4 hD hP hPe
      go_wp2_with fail
      refine (HSp.out _ Hmx.out).mono ?_
      rintro e w12 ⟨rfl, hw12⟩
      obtain ⟨qb, hqb⟩ : ∃ qb, qb = (w10.setCell ⟨lb, 1, none⟩ (S (t2.take i))).heap.size := ⟨_, rfl⟩
      have HQ12 : Hid (Blk w12 qb (P.map S).toArray 9) := by rw [hw12, hqb]; exact Blk.new _ _ _
      have HN12 : Hid (Blk w12 lb #[.int .i64 n, S (t2.take i), .slice none 0 0, .int .i64 at_, .int .i64 1] 77) := by rw [hw12]; exact HN11.out.alloc _
      have HB12 : Hid (Below w0.heap.size w0 w12) := by rw [hw12]; exact HB11.out.alloc HB11.out.size _
      have Hqb : Hid (lb < qb) := by rw [hqb]; exact HN11.out.lt
      rw [← hqb]
      clear hw12 hqb hc1 hf1 HN11 HB11 Hmx HN10 HB10 HSp hex1 hex2 hx hi hdl
      obtain ⟨i0, hi0, hz0, hz1, hz2⟩ := info_parts info_str
      have Hi0 := Lib.hid hi0; have Hz0 := Lib.hid hz0; have Hz1 := Lib.hid hz1; have Hz2 := Lib.hid hz2
      clear hi0 hz0 hz1 hz2
      go_wp2_with fail
      go_loopg [17, 87] P.length (fun g _ vi wx => ∃ (j : Nat) (A : Value), j + g = P.length ∧ vi = .int .i64 j ∧ Hid (Blk wx lb #[.int .i64 n, S (t2.take i), A, .int .i64 at_, .int .i64 1] 77) ∧ Hid (wx.ownsRow (qb + 1) 9 1 A j ((P.take j).map fun p => S (trimB p))) ∧ Hid (Blk wx qb (P.map S).toArray 9) ∧ Hid (Below w0.heap.size w0 wx))
      case atStart => exact ⟨0, .slice none 0 0, by omega, rfl, HN12, Lib.hid (World.ownsRow_nil _ _ _ _), HQ12, HB12⟩
      case round =>
        obtain ⟨j, A, hj, rfl, HN, HA, HQ, HB⟩ := hrel
        by_cases hlt : j < P.length
        · have hlt' : (j : Int) < P.length := by omega
          obtain ⟨p, hp⟩ : ∃ p, P[j]? = some p := ⟨_, List.getElem?_eq_getElem hlt⟩
          have hcp : wr.cell? ⟨qb, j, none⟩ = some (S p) := by rw [HQ.out.cell]; simp [hp]
          have hpl := HPe.out p (List.mem_of_getElem? hp)
          have Htk : Hid ((P.take (j + 1)).map (fun p => S (trimB p)) = (P.take j).map (fun p => S (trimB p)) ++ [S (trimB p)]) := by
            show _ = _
            obtain ⟨h1, h2⟩ := List.getElem?_eq_some_iff.1 hp
            rw [List.take_succ_eq_append_getElem h1, h2, List.map_append]; rfl
          have Hbk1 := Lib.hid (fun w => blank_any p (by omega) w)
          obtain ⟨t, ht⟩ : ∃ t, trimB p = t := ⟨_, rfl⟩
          rw [ht] at Htk Hbk1
          clear hp hpl ht
          have HG : Hid (∀ w3 w5, Below wr.drew.heap.size wr.drew w3 → (w3.alloc (.cells #[S t] 9)).grownBy w5 A.ownBlock → Blk w5 lb #[.int .i64 n, S (t2.take i), A, .int .i64 at_, .int .i64 1] 77 ∧ Blk w5 qb (P.map S).toArray 9 ∧ Below w0.heap.size w0 w5) := fun w3 w5 h3 h5 => by
            have hk := kept_grown h5
            have hb3' : Below w0.heap.size w0 (w3.alloc (.cells #[S t] 9)) := (bel_from HB.out.drew h3).alloc (bel_from HB.out.drew h3).size _
            refine ⟨((HN.out.drew.below h3 HN.out.drew.lt).alloc _).below' hk (fun e => ?_), ((HQ.out.drew.below h3 HQ.out.drew.lt).alloc _).below' hk (fun e => ?_), hb3'.grown h5 hb3'.size (fun b hb => ?_)⟩
            · obtain ⟨cur, hh, _⟩ := row_type HA.out e
              have := HN.out
              unfold Blk at this
              rw [this] at hh
              simp at hh
            · obtain ⟨cur, hh, h9⟩ := row_type HA.out e
              omega
            · obtain ⟨cur, hh, h9⟩ := row_type HA.out hb
              have h6 := Hqb.out; have h7 := Hlb.out
              omega
          have hA2 : wr.drew.cell? ⟨lb, 2, none⟩ = some A := (HN.out.drew.cell 2).trans rfl
          go_upto_region 24 with fail
          have Hbk2 : Hid (∀ w, Calls Tryz.prog 61 #[S p] w fun e w' => ∃ v, e = .returned v ∧ (v = S t ∧ Below w.heap.size w w')) := fun w => (Hbk1.out w).mono fun e w' ⟨h1, h2⟩ => ⟨_, h1, rfl, h2⟩
          go_region_law (first
            | (refine step_call (by rfl) (ex_call (vs := #[S p]) (by simp [Act.eval, Act.put]) (enters_fn Tryz.func61 (by kernel_rfl) rfl)) (Hbk2.out _) ?_; rintro v w3 ⟨rfl, hb3⟩; (try rw [drew_eq wr] at hb3); have hA3 : w3.cell? ⟨lb, 2, none⟩ = some A := ((HN.out.drew.below hb3 HN.out.drew.lt).cell 2).trans rfl; have hA4 : (w3.alloc (.cells #[S t] 9)).cell? ⟨lb, 2, none⟩ = some A := (((HN.out.drew.below hb3 HN.out.drew.lt).alloc _).cell 2).trans rfl)
            | (refine step_append_lies _ (by rfl) (.tmp 92) (.tmp 95) 41 (by rfl) (qb + 1) 9 i0 (.string ByteArray.empty) 1 16 Tryz.underlying41 Hi0.out Hz0.out Hz1.out Hz2.out rfl (by decide) A j ((P.take j).map fun p => S (trimB p)) (by simp [Act.eval]) (row_kept HA.out ((((Kept.refl (fun _ => False) wr).drew).trans (Kept.of_below hb3)).alloc _) (fun _ _ h => h)) ⟨w3.heap.size, 0, none⟩ 1 1 [S t] (by simp [Act.eval]) rfl (cell_one_new' w3 (S t) _) (by simp [Value.oneCell']) (by omega) (by unfold maxLen; omega) (by omega) (by have h1 := hb3.size; have h2 := HQ.out.lt; rw [drew_size] at h1; rw [World.size_alloc]; omega) _ rfl ?_; intro g cap w5 hown5 hgrow5 _ _; have hA5 : w5.cell? ⟨lb, 2, none⟩ = some A := ((HG.out w3 w5 hb3 hgrow5).1.cell 2).trans rfl; have hf5 : w5.frozen? ⟨lb, 2, none⟩ = false := (HG.out w3 w5 hb3 hgrow5).1.free 2))
          all_goals
            obtain ⟨hN5, hQ5, hB5⟩ := HG.out w3 w5 hb3 hgrow5
            have HF : Hid (Below w0.heap.size w0 (w5.setCell ⟨lb, 2, none⟩ (.slice (some ⟨g, 0, none⟩) ((j + 1 : Nat) : Nat) cap))) := hB5.setCell (p := ⟨lb, 2, none⟩) (Nat.le_of_eq Hlb.out.symm) _
            have HNf : Hid (Blk (w5.setCell ⟨lb, 2, none⟩ (.slice (some ⟨g, 0, none⟩) (j + 1) cap)) lb #[.int .i64 n, S (t2.take i), .slice (some ⟨g, 0, none⟩) (j + 1) cap, .int .i64 at_, .int .i64 1] 77) := (hN5.set 2 _).cells (by rfl)
            have HQf : Hid (Blk (w5.setCell ⟨lb, 2, none⟩ (.slice (some ⟨g, 0, none⟩) (j + 1) cap)) qb (P.map S).toArray 9) := hQ5.set_other (a := ⟨lb, 2, none⟩) (by have := Hqb.out; show lb ≠ qb; omega) _
            have HAf : Hid ((w5.setCell ⟨lb, 2, none⟩ (.slice (some ⟨g, 0, none⟩) (j + 1) cap)).ownsRow (qb + 1) 9 1 (.slice (some ⟨g, 0, none⟩) (j + 1) cap) (j + 1) ((P.take (j + 1)).map fun p => S (trimB p))) := by
              rw [Htk.out]
              refine row_kept hown5 (T := (· = lb)) ((Kept.refl (· = lb) w5).setIn lb 2 _ rfl) (fun b hb e => ?_)
              obtain ⟨cur, hh, h9⟩ := row_type hown5 hb
              have h6 := Hqb.out
              omega
            clear hN5 hQ5 hB5 hown5 hgrow5 hA5 hf5 hA3 hA4 hb3 hA2 hcp
            go_wp2_with fail
            go_roundg (P.length - (j + 1))
            case measure => omega
            case rel => exact ⟨j + 1, .slice (some ⟨g, 0, none⟩) (j + 1) cap, by omega, by go_num, HNf, HAf, HQf, HF⟩
        · obtain rfl : j = P.length := by omega
          go_wp2_with fail
          go_meet
          exact ⟨A, by rw [H3.out]; exact HN, by rw [H4.out, List.length_map, List.map_map]; have := HA.out; rw [List.take_length] at this; exact row_base this (by have := Hqb.out; omega), HB⟩
  case rest =>
  obtain ⟨A, HN, HA, HB⟩ := hcut
  rename World => w1
  have HSa := Lib.hid (HS8.out.free (Kept.of_below HB.out))
  have HKa : Hid (Kept (fun b => b = sb ∨ b = mb ∨ Lv.ownBlock = some b) w w1) := HK8.out.trans (Kept.of_below HB.out)
  have hle : (argsOf t2).length ≤ 20000 := by
    rcases Hic.out with ⟨_, _, h⟩ | ⟨i, _, _, _, h⟩
    · rw [h]; exact Nat.zero_le _
    · have := partsAt_len 44 (t2.drop i)
      rw [h, List.length_map]
      simp at this
      omega
  have HAe : Hid (∀ a ∈ argsOf t2, a.length ≤ 16384) := fun a ha => by
    rcases Hic.out with ⟨_, _, h⟩ | ⟨i, _, _, _, h⟩
    · rw [h] at ha; cases ha
    · rw [h] at ha
      obtain ⟨p, hp, rfl⟩ := List.mem_map.1 ha
      have h1 := partsAt_each 44 (t2.drop i) p hp
      have h2 := trimB_len p
      simp at h1
      omega
  have HWl : Hid ((wordOf t2).length ≤ 16384) := by
    show _ ≤ _
    rcases Hic.out with ⟨_, h, _⟩ | ⟨i, _, _, h, _⟩
    · rw [h]; exact hr2
    · rw [h]; simp; omega
  clear Hic HN10 HB10
  have Hlsb : Hid (lb ≠ sb) := by have h1 := HS8.out.src.lt; have h2 := Hlb.out; show _ ≠ _; omega
  have Hlmb : Hid (lb ≠ mb) := by have h1 := HS8.out.mp.lt; have h2 := Hlb.out; show _ ≠ _; omega
  have HT0 : Hid (StrsT w1 (fun b => b = sb ∨ b = mb) A (argsOf t2)) := own_strs HA.out (fun b hb e => by
    have h1 := HS8.out.src.lt; have h2 := Hlb.out; have h3 := HS8.out.mp.lt
    rcases e with e | e <;> omega)
  obtain ⟨W, hW⟩ : ∃ W, wordOf t2 = W := ⟨_, rfl⟩
  obtain ⟨G, hG⟩ : ∃ G, argsOf t2 = G := ⟨_, rfl⟩
  rw [hW] at Hf Hq HN HWl
  rw [hG] at Hf Hq HA hle HAe HT0
  clear hW hG
  have hc1 : w1.cell? ⟨lb, 1, none⟩ = some (S W) := (HN.out.cell 1).trans rfl
  have hc2 : w1.cell? ⟨lb, 2, none⟩ = some A := (HN.out.cell 2).trans rfl
  go_upto_region 26 with fail
  go_cut [107] (fun v wx => ∃ cb : Bool, v = .bool cb ∧ Hid (cb = decide (W = zeroW ∧ G.length = 1)) ∧ w1 = wx)
  case first =>
    obtain ⟨⟨x, c, rfl, hx⟩, _⟩ := HT0.out
    clear hx
    by_cases hz : W = zeroW
    · have hzb : (W == [46, 122, 101, 114, 111]) = true := by rw [hz]; rfl
      by_cases h1 : G.length = 1
      · have h1' : (G.length : Int) = 1 := by omega
        have h1b : ((G.length : Int) == 1) = true := by rw [h1']; rfl
        have Hd : Hid (decide (W = zeroW ∧ G.length = 1) = true) := by show _ = _; rw [hz, h1]; rfl
        clear hz h1
        go_wp2_with fail
        go_meet
        exact ⟨true, by first | rfl | rw [h1b], Hd.out.symm, rfl⟩
      · have h1' : ¬ ((G.length : Int) = 1) := by omega
        have h1b : ((G.length : Int) == 1) = false := by simpa using h1'
        have Hd : Hid (decide (W = zeroW ∧ G.length = 1) = false) := by show _ = _; exact decide_eq_false (fun h => h1 h.2)
        clear hz h1
        go_wp2_with fail
        go_meet
        exact ⟨false, by first | rfl | rw [h1b], Hd.out.symm, rfl⟩
    · have hzb : (W == [46, 122, 101, 114, 111]) = false := by simpa [zeroW] using hz
      have Hd : Hid (decide (W = zeroW ∧ G.length = 1) = false) := by show _ = _; exact decide_eq_false (fun h => hz h.1)
      clear hz
      go_wp2_with fail
      go_meet
      exact ⟨false, rfl, Hd.out.symm, rfl⟩
  case rest =>
  obtain ⟨cb, rfl, Hcb, hwc⟩ := hcut
  obtain rfl : w1 = wc := hwc
  go_upto_if 107 with fail
  go_cut [18, 19] (fun _ _ wx => Hid (Blk wx lb #[.int .i64 n, S W, A, .int .i64 at_, .int .i64 q.2] 77) ∧ q.2 ≤ 128 ∧ Hid (SrcAt wx g0 sb mb q.1 Lv ps) ∧ Hid (Kept (fun b => b = sb) w0 wx) ∧ Hid (Kept (fun b => b = sb ∨ b = lb) w1 wx))
  case first =>
    by_cases hz : W = zeroW
    · by_cases h1 : G.length = 1
      · obtain rfl : cb = true := Hcb.out.trans (decide_eq_true ⟨hz, h1⟩)
        clear Hcb
        obtain ⟨⟨x, c, rfl, hx⟩, _⟩ := HT0.out
        obtain ⟨a, rfl⟩ : ∃ a, G = [a] := by
          match G, h1 with
          | [a], _ => exact ⟨a, rfl⟩
        obtain ⟨b, rfl, hcell⟩ : ∃ b, x = some ⟨b, 0, none⟩ ∧ w1.cell? ⟨b, 0, none⟩ = some (S a) := by
          rcases hx with h | ⟨b, h, _, _, h4⟩
          · cases h
          · exact ⟨b, h, h4 0 (by simp)⟩
        have Hnum := Lib.hid (num_any a (Nat.le_trans (HAe.out a (by simp)) (by omega)) w1 HSa.out.has.has)
        obtain ⟨⟨p1, p2⟩, hp⟩ : ∃ p, numA a = p := ⟨_, rfl⟩
        have Hqq : Hid (q = if p2 ≠ 0 then (s2.fail p2 n, 1) else if p1 < 0 ∨ 128 < p1 then (s2.fail 11 n, 1) else (s2, p1.toNat)) := by
          show _ = _
          rw [← Hq.out]
          unfold lenOf
          simp only [if_pos hz, hp]
        rw [hp] at Hnum
        clear hx hz hp h1
        obtain ⟨gl, hgl⟩ : ∃ gl, gl = [a].length := ⟨_, rfl⟩
        rw [← hgl] at HN hc2
        have hg1 : (gl : Int) = 1 := by rw [hgl]; rfl
        have hg2 : 0 < gl := by rw [hgl]; exact Nat.zero_lt_one
        have Hgl := Lib.hid hgl
        clear hgl HA HT0
        go_wp2_with fail
        refine (Hnum.out).mono ?_
        rintro e w2 ⟨rfl, hb2⟩
        have HN2 := Lib.hid (HN.out.below hb2 HN.out.lt)
        have HS2 := Lib.hid (HSa.out.free (Kept.of_below hb2))
        have HB2 := Lib.hid (bel_from HB.out hb2)
        have HK2 : Hid (Kept (fun b => b = sb) w0 w2) := Kept.of_below HB2.out
        have HM2 : Hid (Kept (fun b => b = sb ∨ b = lb) w1 w2) := Kept.of_below hb2
        clear hc1 hc2 hcell hb2
        by_cases h2 : p2 = 0
        · subst h2
          by_cases h3 : p1 < 0
          · have Hq3 : Hid (q = (s2.fail 11 n, 1)) := by show _ = _; rw [Hqq.out, if_neg (by simp), if_pos (.inl h3)]
            clear Hqq
            go_wp2_with fail
            refine (fail_any sb Lv (.map (some mb)) (s2.fk, s2.fl) 11 n _ HS2.out.src).mono ?_
            rintro e w3 ⟨rfl, hS3, hK3⟩
            have HS3 := Lib.hid (HS2.out.fault hsm hgs hS3 hK3)
            have HN3 : Hid (Blk w3 lb #[.int .i64 n, S W, .slice (some ⟨b, 0, none⟩) gl c, .int .i64 at_, .int .i64 1] 77) := HN2.out.below' hK3 Hlsb.out
            have HM3 := Lib.hid (HM2.out.trans (hK3.mono (fun _ _ e => .inl e)))
            have HK3 := Lib.hid (HK2.out.trans hK3)
            clear hS3 hK3
            go_wp2_with fail
            go_meet
            exact ⟨by rw [Hq3.out, ← Hgl.out]; exact HN3, by rw [Hq3.out]; omega, by rw [Hq3.out]; exact HS3, HK3, HM3⟩
          · by_cases h4 : 128 < p1
            · have Hq3 : Hid (q = (s2.fail 11 n, 1)) := by show _ = _; rw [Hqq.out, if_neg (by simp), if_pos (.inr h4)]
              clear Hqq
              go_wp2_with fail
              refine (fail_any sb Lv (.map (some mb)) (s2.fk, s2.fl) 11 n _ HS2.out.src).mono ?_
              rintro e w3 ⟨rfl, hS3, hK3⟩
              have HS3 := Lib.hid (HS2.out.fault hsm hgs hS3 hK3)
              have HN3 : Hid (Blk w3 lb #[.int .i64 n, S W, .slice (some ⟨b, 0, none⟩) gl c, .int .i64 at_, .int .i64 1] 77) := HN2.out.below' hK3 Hlsb.out
              have HM3 := Lib.hid (HM2.out.trans (hK3.mono (fun _ _ e => .inl e)))
              have HK3 := Lib.hid (HK2.out.trans hK3)
              clear hS3 hK3
              go_wp2_with fail
              go_meet
              exact ⟨by rw [Hq3.out, ← Hgl.out]; exact HN3, by rw [Hq3.out]; omega, by rw [Hq3.out]; exact HS3, HK3, HM3⟩
            · have Hq3 : Hid (q = (s2, p1.toNat)) := by show _ = _; rw [Hqq.out, if_neg (by simp), if_neg (by omega)]
              clear Hqq
              have hf4 : w2.frozen? ⟨lb, 4, none⟩ = false := HN2.out.free 4
              have hc4 : w2.cell? ⟨lb, 4, none⟩ = some (.int .i64 1) := (HN2.out.cell 4).trans rfl
              have HNf : Hid (Blk (w2.setCell ⟨lb, 4, none⟩ (.int .i64 p1)) lb #[.int .i64 n, S W, .slice (some ⟨b, 0, none⟩) gl c, .int .i64 at_, .int .i64 p1] 77) := (HN2.out.set 4 _).cells (by rfl)
              have HSf : Hid (SrcAt (w2.setCell ⟨lb, 4, none⟩ (.int .i64 p1)) g0 sb mb s2 Lv ps) := HS8.out.free (Kept.of_below (HB2.out.setCell (p := ⟨lb, 4, none⟩) (Nat.le_of_eq Hlb.out.symm) _))
              have HKf : Hid (Kept (fun b => b = sb) w0 (w2.setCell ⟨lb, 4, none⟩ (.int .i64 p1))) := Kept.of_below (HB2.out.setCell (p := ⟨lb, 4, none⟩) (Nat.le_of_eq Hlb.out.symm) _)
              have HMf : Hid (Kept (fun b => b = sb ∨ b = lb) w1 (w2.setCell ⟨lb, 4, none⟩ (.int .i64 p1))) := HM2.out.setIn lb 4 _ (.inr rfl)
              go_wp2_with fail
              go_meet
              exact ⟨by rw [Hq3.out, ← Hgl.out]; show Blk _ _ #[_, _, _, _, .int .i64 ((p1.toNat : Nat) : Int)] _; rw [Int.toNat_of_nonneg (by omega)]; exact HNf.out, by rw [Hq3.out]; show p1.toNat ≤ 128; omega, by rw [Hq3.out]; exact HSf, HKf, HMf⟩
        · have Hq3 : Hid (q = (s2.fail p2 n, 1)) := by show _ = _; rw [Hqq.out, if_pos h2]
          have h2' : ¬ ((p2 : Int) = 0) := by omega
          clear Hqq
          go_wp2_with fail
          refine (fail_any sb Lv (.map (some mb)) (s2.fk, s2.fl) p2 n _ HS2.out.src).mono ?_
          rintro e w3 ⟨rfl, hS3, hK3⟩
          have HS3 := Lib.hid (HS2.out.fault hsm hgs hS3 hK3)
          have HN3 : Hid (Blk w3 lb #[.int .i64 n, S W, .slice (some ⟨b, 0, none⟩) gl c, .int .i64 at_, .int .i64 1] 77) := HN2.out.below' hK3 Hlsb.out
          have HM3 := Lib.hid (HM2.out.trans (hK3.mono (fun _ _ e => .inl e)))
          have HK3 := Lib.hid (HK2.out.trans hK3)
          clear hS3 hK3
          go_wp2_with fail
          go_meet
          exact ⟨by rw [Hq3.out, ← Hgl.out]; exact HN3, by rw [Hq3.out]; omega, by rw [Hq3.out]; exact HS3, HK3, HM3⟩
      · have Hqq : Hid (q = (s2, 1)) := by
          show _ = _
          rw [← Hq.out]
          unfold lenOf
          split
          · exact absurd rfl h1
          · rfl
        obtain rfl : cb = false := Hcb.out.trans (decide_eq_false (fun h => h1 h.2))
        clear hz h1 Hcb
        go_wp2_with fail
        go_meet
        exact ⟨by rw [Hqq.out]; exact HN, by rw [Hqq.out]; omega, by rw [Hqq.out]; exact HSa, Kept.of_below HB.out, Lib.hid (Kept.refl _ _)⟩
    · obtain rfl : cb = false := Hcb.out.trans (decide_eq_false (fun h => hz h.1))
      clear Hcb
      have Hqq : Hid (q = (s2, 1)) := by
        show _ = _
        rw [← Hq.out]
        unfold lenOf
        split
        · rw [if_neg hz]
        · rfl
      clear hz
      go_wp2_with fail
      go_meet
      exact ⟨by rw [Hqq.out]; exact HN, by rw [Hqq.out]; omega, by rw [Hqq.out]; exact HSa, Kept.of_below HB.out, Lib.hid (Kept.refl _ _)⟩
  case rest =>
  obtain ⟨HN6, hq2, HS6, HK6, HM6⟩ := hcut
  rename World => w6
  obtain ⟨q1, q2⟩ := q
  simp only at Hf Hq HN6 hq2 HS6 HK6 HM6
  have Hok : Hid (LineOk ⟨n, W, G, at_, q2⟩) := ⟨hat, hq2, Nat.le_trans HWl.out (by omega), fun a ha => Nat.le_trans (HAe.out a ha) (by omega)⟩
  have Hty : Hid (∀ (b : Nat) cs fz, w1.heap[b]? = some (.cells cs 9 fz) → b ≠ lb) := fun b cs fz hh e => by
    have h1 := HN.out
    unfold Blk at h1
    rw [e, h1] at hh
    simp at hh
  have HT6 : Hid (StrsT w6 (fun b => b = sb ∨ b = mb) A G) := HT0.out.kept HM6.out (fun b ⟨cs, fz, hh⟩ hn e => by
    rcases e with e | e
    · exact hn (.inl e)
    · exact Hty.out b cs fz hh e)
  have Hown : Hid (∀ b, Lv.ownBlock = some b → b < lb ∧ g0 ≤ b) := fun b hb => by
    obtain ⟨cur, hh, h9⟩ := row_type HS8.out.row hb
    exact ⟨by rw [Hlb.out]; exact (Array.getElem?_eq_some_iff.1 hh).1, h9⟩
  have HKt : Hid (Kept (fun b => b = sb ∨ b = mb ∨ Lv.ownBlock = some b) w w6) := HK8.out.trans (HK6.out.mono (fun _ _ e => .inl e))
  clear HN HA HB HSa HT0 HK8 Hty HS8 HKa HK6 HM6
  obtain ⟨i0, hi0, hz0, hz1, hz2⟩ := info_parts info_line
  have Hi0 := Lib.hid hi0; have Hz0 := Lib.hid hz0; have Hz1 := Lib.hid hz1; have Hz2 := Lib.hid hz2
  clear hi0 hz0 hz1 hz2
  have hone : ∀ u ∈ (lineC ⟨n, W, G, at_, q2⟩ A).toList, u.oneCell' = true := by
    intro u hu
    simp only [lineC, List.mem_cons, List.not_mem_nil, or_false] at hu
    have hA1 : A.oneCell' = true := by obtain ⟨⟨x, c, rfl, _⟩, _⟩ := HT6.out; rfl
    rcases hu with rfl | rfl | rfl | rfl | rfl
    · rfl
    · rfl
    · exact hA1
    · rfl
    · rfl
  have Hone := Lib.hid hone
  clear hone
  have hd0 : w6.cell? ⟨lb, 0, none⟩ = some (.int .i64 n) := (HN6.out.cell 0).trans rfl
  have hd1 : w6.cell? ⟨lb, 1, none⟩ = some (S W) := (HN6.out.cell 1).trans rfl
  have hd2 : w6.cell? ⟨lb, 2, none⟩ = some A := (HN6.out.cell 2).trans rfl
  have hd3 : w6.cell? ⟨lb, 3, none⟩ = some (.int .i64 at_) := (HN6.out.cell 3).trans rfl
  have hd4 : w6.cell? ⟨lb, 4, none⟩ = some (.int .i64 q2) := (HN6.out.cell 4).trans rfl
  have hsb1 : w6.drew.cell? ⟨sb, 0, none⟩ = some Lv := (HS6.out.src.drew.cell 0).trans rfl
  have hsb2 : (w6.alloc (.cells #[.int .i64 n, S W, A, .int .i64 at_, .int .i64 q2] 77)).cell? ⟨sb, 0, none⟩ = some Lv := ((HS6.out.src.alloc _).cell 0).trans rfl
  go_upto_region 33 with fail
  go_region_law (first
    | (refine step_append_lies _ (by rfl) (.tmp 139) (.tmp 141) 71 (by rfl) g0 77 i0 _ 5 64 Tryz.underlying71 Hi0.out Hz0.out Hz1.out Hz2.out rfl (by decide) Lv ps.length (rowC ps) (by simp [Act.eval]) (row_kept HS6.out.row (((Kept.refl (fun _ => False) w6).alloc _).drew) (fun _ _ h => h)) ⟨w6.heap.size, 0, none⟩ 1 1 (lineC ⟨n, W, G, at_, q2⟩ A).toList (by simp [Act.eval]) rfl (World.news_of_block (Blk.new w6 (lineC ⟨n, W, G, at_, q2⟩ A) 77).drew) Hone.out (by omega) (by unfold maxLen; omega) (by omega) (by have h1 := HS6.out.src.lt; rw [drew_size, World.size_alloc]; omega) _ rfl ?_; intro g cap w7 hown7 hgrow7 _ _; obtain ⟨hb7, hS7, hK7⟩ := HS6.out.add hsm hgs HT6.out Hok.out (((Kept.refl (fun _ => False) w6).alloc _).drew) hown7 hgrow7; have hc7 : w7.cell? ⟨sb, 0, none⟩ = some Lv := (hb7.cell 0).trans rfl; have hf7 : w7.frozen? ⟨sb, 0, none⟩ = false := hb7.free 0))
  all_goals
    have HS7 := Lib.hid hS7; have HK7 := Lib.hid hK7
    have hN7 := HN6.out.below' hK7 (fun e => by
      rcases e with e | e
      · exact Hlsb.out e
      · have := (Hown.out lb e).1; omega)
    have hd7 : (w7.setCell ⟨sb, 0, none⟩ (.slice (some ⟨g, 0, none⟩) (ps.length + 1) cap)).cell? ⟨lb, 4, none⟩ = some (.int .i64 q2) := (hN7.cell 4).trans rfl
    clear hS7 hK7 hN7 hb7 hc7 hf7 hsb1 hsb2 hd0 hd1 hd2 hd3 hd4 hown7 hgrow7
    have hsum : IntKind.i64.wrap ((at_ : Int) + q2) = (at_ : Int) + q2 := IntWalk.i64_in _ (by omega)
    go_wp2_with fail
    go_ret
    exact ⟨by rw [Hf.out]; first | rfl | (congr 2; omega) | (simp; omega) | (simp; done), by rw [Hf.out]; exact ⟨_, _, HS7.out, by simp, HKt.out.trans (HK7.out.mono (fun _ _ e => by rcases e with e | e; exact .inl e; exact .inr (.inr e)))⟩⟩
end Go.Proofs.YtjjnidbggoaonaaGreatDoor
