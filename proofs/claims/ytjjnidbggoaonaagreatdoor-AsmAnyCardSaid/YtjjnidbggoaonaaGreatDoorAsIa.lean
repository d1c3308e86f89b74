/- strings.IndexAny of a short text of any bytes. -/
import Derived.Test.YtjjnidbggoaonaaGreatDoorAsL
import Derived.Laws.RangeAny
import Derived.Lib.OthersKept
import Derived.Deep.LoopGhost
import Derived.Deep.RegionLaw
import Derived.Test.YtjjnidbggoaonaaGreatDoorReg
import Derived.WalkMore
namespace Go.Proofs.YtjjnidbggoaonaaGreatDoor
open Go.RowKit
theorem below_draw2 (w : World) : Below w.heap.size w { heap := w.drew.heap, tape := w.tape, drawn := w.drawn + 1 + 1, os := w.drew.os, output := w.drew.output } := ⟨rfl, rfl, rfl, Nat.le_refl _, fun _ _ => rfl⟩
theorem below_iter {B k : Nat} {w w' : World} (h : Below B w w') (hk : B ≤ k) (s : ByteArray) (pos : Nat) : Below B w (w'.iterAt k s pos) :=
  ⟨h.os, h.tape, h.output, by show _ ≤ (w'.heap.setIfInBounds k _).size; simpa using h.size, fun i hi => by
    show (w'.heap.setIfInBounds k _)[i]? = _
    rw [Array.getElem?_setIfInBounds_ne (by omega)]
    exact h.block i hi⟩
attribute [local irreducible] World.setCell World.alloc World.drew Calls Code.wp
attribute [local go_sem] Oper.semAt_some

/-- What a byte of 128 or more begins: a rune that is no blank, of bytes that are none. -/
theorem dec_facts (s : ByteArray) (pos : Nat) (h : pos < s.size) (ha : 128 ≤ (s[pos]'h).toNat) :
    ((Utf8.decode s pos).1 = 65533 ∨ (128 ≤ (Utf8.decode s pos).1 ∧ Utf8.valid ((Utf8.decode s pos).1 : Int) = true)) ∧ 1 ≤ (Utf8.decode s pos).2 ∧ pos + (Utf8.decode s pos).2 ≤ s.size ∧ ∀ j, pos ≤ j → j < pos + (Utf8.decode s pos).2 → 128 ≤ (s.get! j).toNat := by
  have hn : ¬ (s[pos]'h).toNat < 128 := by omega
  have h0 : 128 ≤ (s.get! pos).toNat := by have := get_at s pos h; rw [Nat.add_zero] at this; rw [this]; exact ha
  have hlt : (s[pos]'h).toNat < 256 := (s[pos]'h).toNat_lt
  have key : ∀ d : Nat × Nat, (d.1 = 65533 ∨ (128 ≤ d.1 ∧ Utf8.valid (d.1 : Int) = true)) → (d.2 = 1 ∨ (d.2 = 2 ∧ pos + 1 < s.size ∧ (s.get! (pos + 1)).toNat / 64 = 2) ∨ (d.2 = 3 ∧ (pos + 1 < s.size ∧ (s.get! (pos + 1)).toNat / 64 = 2) ∧ pos + 2 < s.size ∧ (s.get! (pos + 2)).toNat / 64 = 2) ∨ (d.2 = 4 ∧ (pos + 1 < s.size ∧ (s.get! (pos + 1)).toNat / 64 = 2) ∧ (pos + 2 < s.size ∧ (s.get! (pos + 2)).toNat / 64 = 2) ∧ pos + 3 < s.size ∧ (s.get! (pos + 3)).toNat / 64 = 2)) →
      (d.1 = 65533 ∨ (128 ≤ d.1 ∧ Utf8.valid (d.1 : Int) = true)) ∧ 1 ≤ d.2 ∧ pos + d.2 ≤ s.size ∧ ∀ j, pos ≤ j → j < pos + d.2 → 128 ≤ (s.get! j).toNat := by
    rintro ⟨c, k⟩ h1 h2
    refine ⟨h1, ?_⟩
    simp only at h2 ⊢
    rcases h2 with rfl | ⟨rfl, a1, a2⟩ | ⟨rfl, ⟨a1, a2⟩, b1, b2⟩ | ⟨rfl, ⟨a1, a2⟩, ⟨b1, b2⟩, c1, c2⟩
    · refine ⟨by omega, by omega, fun j hj hj2 => ?_⟩
      have e : j = pos := by omega
      rw [e]; exact h0
    · refine ⟨by omega, by omega, fun j hj hj2 => ?_⟩
      obtain rfl | rfl : j = pos ∨ j = pos + 1 := by omega
      · exact h0
      · omega
    · refine ⟨by omega, by omega, fun j hj hj2 => ?_⟩
      obtain rfl | rfl | rfl : j = pos ∨ j = pos + 1 ∨ j = pos + 2 := by omega
      · exact h0
      · omega
      · omega
    · refine ⟨by omega, by omega, fun j hj hj2 => ?_⟩
      obtain rfl | rfl | rfl | rfl : j = pos ∨ j = pos + 1 ∨ j = pos + 2 ∨ j = pos + 3 := by omega
      · exact h0
      · omega
      · omega
      · omega
  refine key _ ?_ ?_
  · simp only [Utf8.decode, get_at s pos h, hn, if_false]
    repeat' split
    all_goals simp_all [Utf8.runeError, Utf8.valid]
    all_goals omega
  · simp only [Utf8.decode, get_at s pos h, hn, if_false]
    repeat' split
    all_goals simp_all

set_option maxHeartbeats 1000000 in
theorem valid_any (r : Nat) (hv : Utf8.valid (r : Int) = true) (w : World) : Calls Tryz.prog 138 #[.int .i32 r] w fun e w' => e = .returned (.bool true) ∧ w = w' := by
  have hc : (r : Int) < 55296 ∨ (57344 ≤ (r : Int) ∧ (r : Int) ≤ 1114111) := by
    unfold Utf8.valid at hv
    simp only [Bool.or_eq_true, Bool.and_eq_true, decide_eq_true_eq] at hv
    omega
  rcases hc with h | ⟨h1, h2⟩
  · have h0 : (0 : Int) ≤ r := by omega
    go_enter Tryz.func138, Tryz.ntmps138
    go_wp2_with fail
    go_ret
    exact ⟨rfl, rfl⟩
  · have h0 : (0 : Int) ≤ r := by omega
    have h3 : ¬ (r : Int) < 55296 := by omega
    have h4 : (57343 : Int) < r := by omega
    go_enter Tryz.func138, Tryz.ntmps138
    go_wp2_with fail
    go_ret
    exact ⟨rfl, rfl⟩
/-- A rune of more bytes than one: how many, and its last one. -/
theorem enc_facts (r : Nat) (h1 : 128 ≤ r) (hv : Utf8.valid (r : Int) = true) : ∃ rs : ByteArray, Utf8.encode (r : Int) = rs ∧ ((rs.size = 2 ∧ ∃ c : UInt8, 128 ≤ c.toNat ∧ rs = ⟨#[rs.get! 0, c]⟩) ∨ rs.size = 3 ∨ rs.size = 4) := by
  refine ⟨_, rfl, ?_⟩
  unfold Utf8.encode
  rw [if_pos hv, Int.toNat_natCast]
  simp only
  rw [if_neg (by omega)]
  split
  · refine .inl ⟨rfl, UInt8.ofNat (128 + r % 64), ?_, rfl⟩
    rw [UInt8.toNat_ofNat']; omega
  · split
    · exact .inr (.inl rfl)
    · exact .inr (.inr rfl)

set_option maxRecDepth 100000 in
set_option maxHeartbeats 4000000 in
theorem rune_no (r : Nat) (h : r = 65533 ∨ (128 ≤ r ∧ Utf8.valid (r : Int) = true)) (w : World) :
    Calls Tryz.prog 98 #[S [32, 9], .int .i32 r] w fun e w' => e = .returned (.int .i64 (-1)) ∧ Below w.heap.size w w' := by
  by_cases he : r = 65533
  · subst he
    go_enter Tryz.func98, Tryz.ntmps98
    go_wp2_with fail
    go_loopg [5, 6] 2 (fun g _ _ wx => ∃ i : Nat, i + g = 2 ∧ wx = w.iter ⟨#[32, 9]⟩ i)
    case atStart => exact ⟨0, by omega, rfl⟩
    case round =>
      obtain ⟨i, hi, rfl⟩ := hrel
      obtain rfl | rfl | rfl : i = 0 ∨ i = 1 ∨ i = 2 := by omega
      · have hnx := fun ty => run_next_ascii (P := Tryz.prog) w ⟨#[32, 9]⟩ 0 ty (by decide) (by decide)
        go_wp2_with fail
        go_roundg 1
        case measure => omega
        case rel => exact ⟨1, rfl, rfl⟩
      · have hnx := fun ty => run_next_ascii (P := Tryz.prog) w ⟨#[32, 9]⟩ 1 ty (by decide) (by decide)
        go_wp2_with fail
        go_roundg 0
        case measure => omega
        case rel => exact ⟨2, rfl, rfl⟩
      · have hnx := fun ty => run_next_end (P := Tryz.prog) w ⟨#[32, 9]⟩ 2 ty (by decide)
        go_wp2_with fail
        go_ret
        exact ⟨rfl, (Below.refl _ w).alloc (Nat.le_refl _) _⟩
  · obtain ⟨h1, hv⟩ : 128 ≤ r ∧ Utf8.valid (r : Int) = true := h.resolve_left he
    obtain ⟨rs, hrs, hcs⟩ := enc_facts r h1 hv
    have Hv := Lib.hid (fun w => valid_any r hv w)
    have hcv : ∀ w, (convert 21 9 (.int .i32 (r : Int))).run Tryz.prog w = .ok (.string rs) w := fun w => by rw [← hrs]; exact run_convert_int_string w _ _ _ _ (by kernel_rfl) Tryz.underlying9
    have n1 : (0 : Int) ≤ r := by omega
    have n2 : ¬ (r : Int) < 128 := by omega
    have n3 : ((r : Int) == 65533) = false := by simp; omega
    clear h hrs hv
    rcases hcs with ⟨hsz, c, hc, hr2⟩ | hsz | hsz
    · have hix : ∀ w, (Instr.index 9 (.string rs) (.int .i64 1)).run Tryz.prog w = .ok (.int .u8 (c.toNat : Int)) w := fun w => by
        rw [hr2, run_index_string _ _ _ _ _ Tryz.underlying9, dif_pos ⟨by omega, by show (1 : Int) < ((2 : Nat) : Int); omega⟩]
        rfl
      have hne : ((9 : Int) != (c.toNat : Int)) = true := by simp; omega
      have Hib := Lib.hid (fun w => ix_any [] c.toNat w)
      rw [show Lib.indexByte [] (UInt8.ofNat c.toNat) = -1 from rfl] at Hib
      have hi9 : ∀ w, (Instr.index 9 (S [32, 9]) (.int .i64 1)).run Tryz.prog w = .ok (.int .u8 9) w := fun w => by
        rw [run_index_string _ _ _ _ _ Tryz.underlying9, dif_pos ⟨by omega, by show (1 : Int) < ((2 : Nat) : Int); omega⟩]
        rfl
      have hw2 : IntKind.i64.wrap 2 = 2 := IntWalk.i64_in _ (by omega)
      have hsl : ∀ w, (Instr.slice 9 (S [32, 9]) (some (.int .i64 2)) none none).run Tryz.prog w = .ok (.string ByteArray.empty) w := fun w => by
        rw [run_slice_string_l w 9 ⟨#[32, 9]⟩ Tryz.underlying9 .i64 2 (by omega) (by show (2 : Int) ≤ ((2 : Nat) : Int); omega)]
        rfl
      clear hr2
      go_enter Tryz.func98, Tryz.ntmps98
      go_wp2_with fail
      refine (Hv.out _).mono ?_
      rintro e w' ⟨rfl, rfl⟩
      go_wp2_with fail
      go_step3
      go_wp2_with fail
      go_loopg [9, 10, 11, 12] 0 (fun _ vi _ _ _ wx => vi = .int .i64 1 ∧ wx = w)
      case atStart => exact ⟨rfl, rfl⟩
      case round =>
        obtain ⟨rfl, rfl⟩ := hrel
        go_wp2_with fail
        go_step3
        go_wp2_with fail
        go_region
        go_wp2_with fail
        have Hib2 : Hid (∀ w, Calls Tryz.prog 60 #[.string ByteArray.empty, .int .u8 (c.toNat : Int)] w fun e w' => ∃ v, e = .returned v ∧ (v = .int .i64 (-1) ∧ w = w')) := fun w => (Hib.out w).mono fun e w' ⟨h1, h2⟩ => ⟨_, h1, rfl, h2⟩
        go_region_law (first
          | (refine step_call (by rfl) (ex_call (vs := #[.string ByteArray.empty, .int .u8 (c.toNat : Int)]) (by simp [Act.eval]) (enters_fn Tryz.func60 (by kernel_rfl) rfl)) (Hib2.out _) ?_; rintro v w2 ⟨rfl, rfl⟩))
        all_goals
          go_wp2_with fail
          rw [Exit.noGoto_ret]
          go_wp2_with fail
          rw [Exit.noGoto_ret]
          go_wp2_with fail
          go_ret
          exact ⟨rfl, below_draw2 _⟩
    · have hsz' : (rs.size : Int) = 3 := by omega
      go_enter Tryz.func98, Tryz.ntmps98
      go_wp2_with fail
      refine (Hv.out _).mono ?_
      rintro e w' ⟨rfl, rfl⟩
      go_wp2_with fail
      go_step3
      go_wp2_with fail
      go_loopg [9, 10, 11, 12] 0 (fun _ vi _ _ _ wx => vi = .int .i64 2 ∧ wx = w)
      case atStart => exact ⟨rfl, rfl⟩
      case round =>
        obtain ⟨rfl, rfl⟩ := hrel
        go_wp2_with fail
        rw [Exit.noGoto_ret]
        go_wp2_with fail
        go_ret
        exact ⟨rfl, Below.refl _ _⟩
    · have hsz' : (rs.size : Int) = 4 := by omega
      go_enter Tryz.func98, Tryz.ntmps98
      go_wp2_with fail
      refine (Hv.out _).mono ?_
      rintro e w' ⟨rfl, rfl⟩
      go_wp2_with fail
      go_step3
      go_wp2_with fail
      go_loopg [9, 10, 11, 12] 0 (fun _ vi _ _ _ wx => vi = .int .i64 3 ∧ wx = w)
      case atStart => exact ⟨rfl, rfl⟩
      case round =>
        obtain ⟨rfl, rfl⟩ := hrel
        go_wp2_with fail
        rw [Exit.noGoto_ret]
        go_wp2_with fail
        go_ret
        exact ⟨rfl, Below.refl _ _⟩

theorem noAny_jump {l : List UInt8} {i n : Nat} (h : Lib.NoAny l [32, 9] i) (hb : ∀ j c, i ≤ j → j < i + n → l[j]? = some c → 128 ≤ c.toNat) : Lib.NoAny l [32, 9] (i + n) := fun j c hj hc => by
  by_cases e : j < i
  · exact h j c e hc
  · have h1 := hb j c (by omega) hj hc
    simp only [List.contains_cons, List.contains_nil, Bool.or_false, Bool.or_eq_false_iff, beq_eq_false_iff_ne]
    exact ⟨fun e => by rw [e] at h1; simp at h1, fun e => by rw [e] at h1; simp at h1⟩
set_option maxRecDepth 100000 in
set_option maxHeartbeats 4000000 in
/-- Any text of at most eight bytes. -/
theorem iaT_short_any (l : List UInt8) (h : l.length ≤ 8) : IaT l := fun w => by
  have h8 : ¬ (8 : Int) < l.length := by omega
  have hss : ∀ w, Calls Tryz.prog 99 #[.int .i64 (l.length : Int)] w fun e w' => e = .returned (.bool false) ∧ w = w' := fun w => by
    go_enter Tryz.func99, Tryz.ntmps99
    go_wp2_with fail
    go_ret
    exact ⟨by simp, rfl⟩
  have Hss := Lib.hid hss
  clear hss
  go_enter Tryz.func64, Tryz.ntmps64
  go_wp2_with fail
  refine (Hss.out _).mono ?_
  rintro e w' ⟨rfl, rfl⟩
  go_wp2_with fail
  obtain ⟨kb, hkb⟩ : ∃ kb, kb = w.heap.size := ⟨_, rfl⟩
  have Hkb : Hid (kb = w.heap.size) := hkb
  rw [← hkb]
  have HI0 : Hid ((w.iter ⟨l.toArray⟩ 0).heap[kb]? = some (.stringIter ⟨l.toArray⟩ 0)) := by rw [hkb]; exact World.iter_heap w _ 0
  have HB0 : Hid (Below w.heap.size w (w.iter ⟨l.toArray⟩ 0)) := (Below.refl _ w).alloc (Nat.le_refl _) _
  clear hkb
  generalize w.iter ⟨l.toArray⟩ 0 = w0 at *
  go_loopg [9, 10] l.length (fun g _ _ wx => ∃ i : Nat, i ≤ l.length ∧ g = l.length - i ∧ Hid (wx.heap[kb]? = some (.stringIter ⟨l.toArray⟩ i) ∧ Below w.heap.size w wx ∧ Lib.NoAny l [32, 9] i))
  case atStart => exact ⟨0, by omega, rfl, Lib.hid ⟨HI0.out, HB0.out, Lib.NoAny.zero _ _⟩⟩
  case round =>
    obtain ⟨i, hil0, hig, HI⟩ := hrel
    have HN : Hid (Lib.NoAny l [32, 9] i) := HI.out.2.2
    by_cases hil : i < l.length
    · have hsz : i < (⟨l.toArray⟩ : ByteArray).size := by rw [sz]; exact hil
      obtain ⟨x, hx⟩ : ∃ x, l[i]? = some x := ⟨_, List.getElem?_eq_getElem hil⟩
      have hxs : (⟨l.toArray⟩ : ByteArray)[i]'hsz = x := by
        have h2 := (List.getElem?_eq_some_iff.1 hx).2
        show l.toArray[i]'_ = x
        simp [h2]
      have HJ : Hid (∀ n, (wr.iterAt kb ⟨l.toArray⟩ n).heap[kb]? = some (.stringIter ⟨l.toArray⟩ n) ∧ Below w.heap.size w (wr.iterAt kb ⟨l.toArray⟩ n) ∧ kb < (wr.iterAt kb ⟨l.toArray⟩ n).heap.size) := fun n => by
        have hlt : kb < wr.heap.size := (Array.getElem?_eq_some_iff.1 HI.out.1).1
        refine ⟨Lib.iterAt_heap wr kb _ _ n HI.out.1, below_iter HI.out.2.1 (by rw [← Hkb.out]; exact Nat.le_refl _) _ _, ?_⟩
        show kb < (wr.heap.setIfInBounds kb _).size
        simpa using hlt
      by_cases h128 : x.toNat < 128
      · have hnx := fun ty => Lib.run_next_ascii_at (P := Tryz.prog) wr kb ⟨l.toArray⟩ i ty HI.out.1 hsz (by rw [hxs]; exact h128)
        rw [hxs] at hnx
        have Hr := Lib.hid (fun w => Any.strings_IndexRune_ascii (P := Tryz.prog) { Tryz.lays153 with } ⟨#[32, 9]⟩ (x.toNat : Int) w (by omega) (by omega))
        have hcon := Lib.contains_iff_indexByte [32, 9] x
        have hback : ((x.toNat : Int)).toNat.toUInt8 = x := by simp
        rw [hback] at Hr
        have Hx := Lib.hid hx
        have HJ1 := Lib.hid (HJ.out (i + 1))
        clear hx hxs hsz hback HJ
        generalize wr.iterAt kb ⟨l.toArray⟩ (i + 1) = w1 at *
        cases hin : ([32, 9] : List UInt8).contains x
        · rw [hin] at hcon
          have hlt : ¬ ((0 : Int) ≤ Lib.indexByte [32, 9] x) := of_decide_eq_false hcon.symm
          clear hcon
          go_wp2_with fail
          refine (Hr.out _).mono ?_
          rintro e w' ⟨rfl, hw⟩
          rw [hw]
          clear hw
          go_wp2_with fail
          go_roundg (l.length - (i + 1))
          case measure => omega
          case rel => exact ⟨i + 1, by omega, rfl, Lib.hid ⟨HJ1.out.1, HJ1.out.2.1, HN.out.succ Hx.out hin⟩⟩
        · rw [hin] at hcon
          have hge : (0 : Int) ≤ Lib.indexByte [32, 9] x := of_decide_eq_true hcon.symm
          clear hcon
          go_wp2_with fail
          refine (Hr.out _).mono ?_
          rintro e w' ⟨rfl, hw⟩
          rw [hw]
          clear hw
          go_wp2_with fail
          go_ret
          exact ⟨by rw [Lib.indexAny_hit HN.out Hx.out hin]; rfl, HJ1.out.2.1⟩
      · have hnx := fun ty => Lib.run_next_any_at (P := Tryz.prog) wr kb ⟨l.toArray⟩ i ty HI.out.1 hsz
        obtain ⟨d1, d2, d3, d4⟩ := dec_facts ⟨l.toArray⟩ i hsz (by rw [hxs]; omega)
        obtain ⟨⟨r, k⟩, hd⟩ : ∃ d, Utf8.decode ⟨l.toArray⟩ i = d := ⟨_, rfl⟩
        rw [hd] at hnx d1 d2 d3 d4
        simp only at hnx d1 d2 d3 d4
        rw [sz] at d3
        have Hr := Lib.hid (fun w => rune_no r d1 w)
        have HN2 : Hid (Lib.NoAny l [32, 9] (i + k)) := noAny_jump HN.out (fun j c h1 h2 h3 => by
          have h4 := d4 j h1 h2
          have hj := (List.getElem?_eq_some_iff.1 h3)
          have e : (⟨l.toArray⟩ : ByteArray).get! j = c := by
            show l.toArray[j]! = c
            rw [getElem!_pos l.toArray j (by simpa using hj.1)]
            simp [hj.2]
          rw [e] at h4; exact h4)
        have HJ1 := Lib.hid (HJ.out (i + k))
        clear hx hxs hsz hd d1 d4 HJ
        generalize wr.iterAt kb ⟨l.toArray⟩ (i + k) = w1 at *
        go_wp2_with fail
        refine (Hr.out _).mono ?_
        rintro e w' ⟨rfl, hb⟩
        have HF : Hid (w'.heap[kb]? = some (.stringIter ⟨l.toArray⟩ (i + k)) ∧ Below w.heap.size w w') := ⟨by rw [hb.block kb HJ1.out.2.2]; exact HJ1.out.1, bel_from HJ1.out.2.1 hb⟩
        clear hb
        go_wp2_with fail
        go_roundg (l.length - (i + k))
        case measure => omega
        case rel => exact ⟨i + k, by omega, rfl, Lib.hid ⟨HF.out.1, HF.out.2, HN2.out⟩⟩
    · obtain rfl : i = l.length := by omega
      have hnx := fun ty => Lib.run_next_end_at (P := Tryz.prog) wr kb ⟨l.toArray⟩ l.length ty HI.out.1 (by rw [sz]; omega)
      go_wp2_with fail
      go_ret
      exact ⟨by rw [Lib.indexAny_none HN.out]; rfl, HI.out.2.1⟩
/-- Any text at all. -/
theorem iaT_all (l : List UInt8) (hl : l.length ≤ 1000000) : IaT l := by
  by_cases h : 8 < l.length
  · exact iaT_long l h hl
  · exact iaT_short_any l (by omega)
end Go.Proofs.YtjjnidbggoaonaaGreatDoor
