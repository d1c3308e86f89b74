/- The walk of TraceEvents. -/
import Derived.Test.YtjjnidbggoaonaaDoorTrF
import Derived.Deep.RegionHeld3
namespace Go.Proofs.YtjjnidbggoaonaaDoor
open Go.RowKit
attribute [local irreducible] World.setCell World.alloc World.drew Calls Code.wp
attribute [local go_sem] Oper.semAt_some

set_option maxRecDepth 100000 in
set_option maxHeartbeats 4000000 in
theorem events_walk (core : Int) (th : Nat) (what : Int) (hc0 : -9223372036854775808 ≤ core) (hc1 : core ≤ 9223372036854775807) (hth : th < 18446744073709551616) (ls : List UInt8) (w : World) (h : HasTr w) :
    Calls Tryd.prog 3 #[.agg #[.int .i64 core, .int .u64 th, .int .i64 what], S ls] w fun e w' => e = .returned (.bool true) ∧ Below w.heap.size w w' := by
  have H := Lib.hid h; clear h
  have hsz : (⟨ls.toArray⟩ : ByteArray).size = ls.length := by show ls.toArray.size = _; simp
  go_enter Tryd.func3, Tryd.ntmps3
  go_wp2_with fail
  refine (fit26_any _ (H.out.below ((Below.refl _ _).alloc (Nat.le_refl _) _))).mono ?_
  rintro e w1 ⟨rfl, hb1⟩
  obtain ⟨cb, hcb⟩ : ∃ cb, cb = w.heap.size := ⟨_, rfl⟩
  have HE1 : Hid (Blk w1 cb #[.int .i64 core, .int .u64 th, .int .i64 what] 24) := by rw [hcb]; exact (Blk.new w _ _).below hb1 (by simp)
  have HB1 := Lib.hid (((Below.refl _ w).alloc (Nat.le_refl _) (.cells #[.int .i64 core, .int .u64 th, .int .i64 what] 24)).trans (hb1.mono (by simp)))
  have Hcb : Hid (cb = w.heap.size) := hcb
  rw [← hcb]
  clear hb1 hcb
  by_cases hlen : 300 < ls.length
  · have hlen' : (300 : Int) < ls.length := by omega
    go_wp2_with fail
    go_ret
    exact ⟨rfl, HB1.out⟩
  have hlen' : ¬ (300 : Int) < ls.length := by omega
  have hwv : (#[.string ⟨#[105, 100, 108, 101]⟩, .string ⟨#[117, 115, 101, 114]⟩, .string ⟨#[109, 105, 99, 114, 111]⟩, .string ⟨#[99, 111, 109, 109, 105, 116]⟩, .string ⟨#[119, 111, 107, 101, 110]⟩, .string ⟨#[102, 97, 105, 108, 101, 100]⟩, .string ⟨#[97, 103, 97, 105, 110]⟩] : Array Value) = wordsV := by kernel_rfl
  have Hwv := Lib.hid hwv; clear hwv
  have he1 := (HE1.out.alloc (.cells #[.string ⟨#[105, 100, 108, 101]⟩, .string ⟨#[117, 115, 101, 114]⟩, .string ⟨#[109, 105, 99, 114, 111]⟩, .string ⟨#[99, 111, 109, 109, 105, 116]⟩, .string ⟨#[119, 111, 107, 101, 110]⟩, .string ⟨#[102, 97, 105, 108, 101, 100]⟩, .string ⟨#[97, 103, 97, 105, 110]⟩] 9)).cell
  have hz1 := HE1.out.lt
  go_wp2_with fail
  obtain ⟨wb, hwb⟩ : ∃ wb, wb = w1.heap.size := ⟨_, rfl⟩
  obtain ⟨w2, hw2⟩ : ∃ w2 : World, w2 = w1.alloc (.cells #[.string ⟨#[105, 100, 108, 101]⟩, .string ⟨#[117, 115, 101, 114]⟩, .string ⟨#[109, 105, 99, 114, 111]⟩, .string ⟨#[99, 111, 109, 109, 105, 116]⟩, .string ⟨#[119, 111, 107, 101, 110]⟩, .string ⟨#[102, 97, 105, 108, 101, 100]⟩, .string ⟨#[97, 103, 97, 105, 110]⟩] 9) := ⟨_, rfl⟩
  rw [← hw2, ← hwb]
  have HE2 : Hid (Blk w2 cb #[.int .i64 core, .int .u64 th, .int .i64 what] 24) := by rw [hw2]; exact HE1.out.alloc _
  have HW2 : Hid (Blk w2 wb wordsV 9) := by rw [hw2, hwb, Hwv.out]; exact Blk.new _ _ _
  have HB2 : Hid (Below w.heap.size w w2) := by rw [hw2]; exact HB1.out.alloc HB1.out.size _
  clear hw2 hwb he1 hz1
  refine (event_any core th what _ (H.out.below HB2.out).pow (H.out.below HB2.out).sp hc1 hth).mono ?_
  rintro e w3 ⟨rfl, hb3⟩
  have HE3 := Lib.hid (HE2.out.below hb3 HE2.out.lt)
  have HW3 := Lib.hid (HW2.out.below hb3 HW2.out.lt)
  have HB3 := Lib.hid (bel_from HB2.out hb3)
  clear hb3
  have he3 := HE3.out.cell
  have Htx : Hid ((core < 0 ∨ what < 0 ∨ 7 ≤ what) → evText core th what = [63]) := fun g => by
    unfold evText; rw [if_pos (by omega)]
  obtain ⟨tx, htx⟩ : ∃ tx, evText core th what = tx := ⟨_, rfl⟩
  rw [htx]
  have Hte := Lib.hid htx
  clear htx
  have hcase : core < 0 ∨ (¬ core < 0 ∧ what < 0) ∨ (¬ core < 0 ∧ ¬ what < 0 ∧ (6 : Int) < what) ∨ (0 ≤ core ∧ ∃ k : Nat, what = (k : Int) ∧ k < 7) := by
    by_cases g1 : core < 0
    · exact .inl g1
    · by_cases g2 : what < 0
      · exact .inr (.inl ⟨g1, g2⟩)
      · by_cases g3 : (6 : Int) < what
        · exact .inr (.inr (.inl ⟨g1, g2, g3⟩))
        · exact .inr (.inr (.inr ⟨by omega, what.toNat, by omega, by omega⟩))
  rcases hcase with g1 | ⟨g1, g2⟩ | ⟨g1, g2, g3⟩ | ⟨g1, k, rfl, hk⟩
  case' inl =>
    have hq := Htx.out (.inl g1)
    rw [Hte.out] at hq
    subst hq
    go_wp2_with fail
    have HBc := Lib.hid HB3.out
  case' inr.inl =>
    have hq := Htx.out (.inr (.inl g2))
    rw [Hte.out] at hq
    subst hq
    go_wp2_with fail
    have HBc := Lib.hid HB3.out
  case' inr.inr.inl =>
    have hq := Htx.out (.inr (.inr (by omega)))
    rw [Hte.out] at hq
    subst hq
    go_wp2_with fail
    have HBc := Lib.hid HB3.out
  case' inr.inr.inr =>
    have g2 : ¬ (k : Int) < 0 := by omega
    have g3 : ¬ (6 : Int) < k := by omega
    go_wp2_with fail
    rw [← Hte.out]
    refine (parse_back core th k g1 hc1 hth hk _ (H.out.below HB3.out)).mono ?_
    rintro e w4 ⟨rfl, hb4⟩
    have HE4 := Lib.hid (HE3.out.below hb4 HE3.out.lt)
    have HW4 := Lib.hid (HW3.out.below hb4 HW3.out.lt)
    have HB4 := Lib.hid (bel_from HB3.out hb4)
    have hz4 := HE4.out.lt
    obtain ⟨c, rfl⟩ : ∃ c : Nat, core = (c : Int) := ⟨core.toNat, by omega⟩
    have hT : evText c th k = Lib.decDigits c ++ 32 :: (Lib.decDigits th ++ 32 :: wd k) := by
      rw [evText_ok th g1 hk]
      congr 1
    rw [hT]
    have l1 := dec_len20 c (by omega)
    have l2 := dec_len20 th hth
    have l3 := wd_len k
    have a1 := run_sadd (P := Tryd.prog) (Lib.decDigits c) [32] (by simp; omega)
    have a2 := run_sadd (P := Tryd.prog) (Lib.decDigits c ++ [32]) (Lib.decDigits th) (by simp; omega)
    have a3 := run_sadd (P := Tryd.prog) (Lib.decDigits c ++ 32 :: Lib.decDigits th) [32] (by simp; omega)
    have a4 := run_sadd (P := Tryd.prog) (Lib.decDigits c ++ 32 :: (Lib.decDigits th ++ [32])) (wd k) (by simp; omega)
    have Hd1 := Lib.hid (fun w => ldig_u c (by omega) w)
    have Hd2 := Lib.hid (fun w => ldig_u th hth w)
    have hki : (k : Int) < 7 := by omega
    have hwc : IntKind.u64.wrap (c : Int) = c := by
      simp [IntKind.wrap, IntKind.bits, IntKind.signed]; omega
    obtain ⟨xb, hxb⟩ : ∃ xb, xb = w4.heap.size := ⟨_, rfl⟩
    have hz4x : cb < xb := by omega
    clear hb4 he3 hT
    go_wp2_with fail
    rw [← hxb]
    obtain ⟨w5, hw5⟩ : ∃ w5 : World, w5 = w4.alloc (.cells #[.int .i64 c, .int .u64 th, .int .i64 k] 24) := ⟨_, rfl⟩
    rw [← hw5]
    have HE5 : Hid (Blk w5 cb #[.int .i64 c, .int .u64 th, .int .i64 k] 24) := by rw [hw5]; exact HE4.out.alloc _
    have HX5 : Hid (Blk w5 xb #[.int .i64 c, .int .u64 th, .int .i64 k] 24) := by rw [hw5, hxb]; exact Blk.new _ _ _
    have HW5 : Hid (Blk w5 wb wordsV 9) := by rw [hw5]; exact HW4.out.alloc _
    have HB5' : Hid (Below w.heap.size w w5) := by rw [hw5]; exact HB4.out.alloc HB4.out.size _
    clear hw5 hxb
    have HSS : Hid (∀ w', Below w5.heap.size w5 w' → (w'.cell? ⟨cb, 0, none⟩ = some (.int .i64 c) ∧ w'.cell? ⟨cb, 1, none⟩ = some (.int .u64 th) ∧ w'.cell? ⟨cb, 2, none⟩ = some (.int .i64 k)) ∧ (w'.cell? ⟨xb, 0, none⟩ = some (.int .i64 c) ∧ w'.cell? ⟨xb, 1, none⟩ = some (.int .u64 th) ∧ w'.cell? ⟨xb, 2, none⟩ = some (.int .i64 k)) ∧ w'.cell? ⟨wb, k, none⟩ = some (S (wd k))) := fun w' hb => by
      have h1 := HE5.out.below hb HE5.out.lt
      have h2 := HX5.out.below hb HX5.out.lt
      refine ⟨⟨h1.cell 0, h1.cell 1, h1.cell 2⟩, ⟨h2.cell 0, h2.cell 1, h2.cell 2⟩, ?_⟩
      rw [(HW5.out.below hb HW5.out.lt).cell]; exact wordsV_at k hk
    have Hdr : Hid (Below w5.heap.size w5 w5.drew) := (Below.refl _ _).drew
    go_wp2_with fail
    go_region_held3 (fun w' => (w'.cell? ⟨cb, 0, none⟩ = some (.int .i64 c) ∧ w'.cell? ⟨cb, 1, none⟩ = some (.int .u64 th) ∧ w'.cell? ⟨cb, 2, none⟩ = some (.int .i64 k)) ∧ (w'.cell? ⟨xb, 0, none⟩ = some (.int .i64 c) ∧ w'.cell? ⟨xb, 1, none⟩ = some (.int .u64 th) ∧ w'.cell? ⟨xb, 2, none⟩ = some (.int .i64 k)) ∧ w'.cell? ⟨wb, k, none⟩ = some (S (wd k)))
      (first
        | exact HSS.out _ Hdr.out
        | exact HSS.out _ (bel_from Hdr.out hb6)
        | exact HSS.out _ (bel_from (bel_from Hdr.out hb6) hb7))
      (first
        | (refine (Hd1.out _).mono ?_; rintro e w6 ⟨rfl, hb6⟩)
        | (refine (Hd2.out _).mono ?_; rintro e w7 ⟨rfl, hb7⟩))
    go_wp2_with fail
    have HBc : Hid (Below w.heap.size w w7) := bel_from (bel_from (bel_from HB5'.out Hdr.out) hb6) hb7
  all_goals
    refine (parse_any ls (by omega) _ (H.out.below HBc.out)).mono ?_
    rintro e w5 ⟨hb5, h5⟩
    have HB5 := Lib.hid (bel_from HBc.out hb5)
    clear hb5
    rcases h5 with ⟨l0, l1, l2, c, t, i, -, hi, ha, hu, -, hev, rfl⟩ | ⟨rfl, -⟩
    · obtain ⟨t', ht', ht⟩ := uintO_nat hu
      have htt : t < 18446744073709551616 := by omega
      have hbd := atoiO_bd ha
      have HB6 : Hid (Below w.heap.size w (w5.alloc (.cells #[.int .i64 c, .int .u64 t, .int .i64 i] 24))) := HB5.out.alloc HB5.out.size _
      have Hx := Lib.hid (event_any c t i _ (H.out.below HB6.out).pow (H.out.below HB6.out).sp hbd.2 htt)
      rw [hev] at Hx
      clear ha hu hev ht'
      go_wp2_with fail
      refine Hx.out.mono ?_
      rintro e w7 ⟨rfl, hb7⟩
      have HB7 := Lib.hid (bel_from HB6.out hb7)
      clear hb7
      go_wp2_with fail
      go_ret
      exact ⟨rfl, HB7.out⟩
    · go_wp2_with fail
      go_ret
      exact ⟨rfl, HB5.out.alloc HB5.out.size _⟩
end Go.Proofs.YtjjnidbggoaonaaDoor
